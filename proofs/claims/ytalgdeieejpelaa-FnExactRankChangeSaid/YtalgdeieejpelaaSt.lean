/- Plain memory: slices of structs (s cells an element): no Go function in sight. -/
import Derived.Test.YtalgdeieejpelaaLib
namespace Go.Proofs.Ytalgdeieejpelaa
open Go.RowKit
set_option linter.unusedVariables false

section
variable {α : Type} {f : α → List Value} {s : Nat} (hf : ∀ x, (f x).length = s)
include hf
theorem flat_len (xs : List α) : (xs.flatMap f).length = xs.length * s := by
  induction xs with
  | nil => simp
  | cons x r ih => rw [List.flatMap_cons, List.length_append, ih, hf, List.length_cons, Nat.add_mul]; omega
theorem flat_get {xs : List α} {k : Nat} {x : α} (h : xs[k]? = some x) {j : Nat} (hj : j < s) : (xs.flatMap f)[k * s + j]? = (f x)[j]? := by
  induction xs generalizing k with
  | nil => simp at h
  | cons y r ih =>
    rw [List.flatMap_cons]
    cases k with
    | zero =>
      simp only [List.getElem?_cons_zero, Option.some.injEq] at h
      subst h
      rw [List.getElem?_append_left (by rw [hf]; omega), Nat.zero_mul, Nat.zero_add]
    | succ k =>
      simp only [List.getElem?_cons_succ] at h
      rw [List.getElem?_append_right (by rw [hf, Nat.add_mul]; omega), hf, ← ih h]
      congr 1
      rw [Nat.add_mul]; omega
theorem flat_take (xs : List α) (k : Nat) : (xs.flatMap f).take (k * s) = (xs.take k).flatMap f := by
  induction xs generalizing k with
  | nil => simp
  | cons y r ih =>
    cases k with
    | zero => simp
    | succ k =>
      rw [List.flatMap_cons, List.take_append, hf, List.take_of_length_le (by rw [hf, Nat.add_mul]; omega), List.take_succ_cons, List.flatMap_cons, ← ih k]
      congr 2
      rw [Nat.add_mul]; omega
theorem flat_drop (xs : List α) (k : Nat) : (xs.flatMap f).drop (k * s) = (xs.drop k).flatMap f := by
  induction xs generalizing k with
  | nil => simp
  | cons y r ih =>
    cases k with
    | zero => simp
    | succ k =>
      rw [List.flatMap_cons, List.drop_append, hf, List.drop_of_length_le (by rw [hf, Nat.add_mul]; omega), List.drop_succ_cons, ← ih k, List.nil_append]
      congr 1
      rw [Nat.add_mul]; omega
/-- Cells are stored from a place on. -/
def putL (cs : List Value) (i : Nat) : List Value → List Value
  | [] => cs
  | v :: r => putL (cs.set i v) (i + 1) r
omit hf in
theorem putL_eq (vs : List Value) : ∀ (cs : List Value) (i : Nat), i + vs.length ≤ cs.length → putL cs i vs = cs.take i ++ vs ++ cs.drop (i + vs.length) := by
  induction vs with
  | nil => intro cs i h; simp [putL]
  | cons v r ih =>
    intro cs i h
    rw [List.length_cons] at h
    rw [putL, ih _ _ (by rw [List.length_set]; omega), List.length_cons]
    have h1 : (cs.set i v).take (i + 1) = cs.take i ++ [v] := by
      rw [List.take_succ_eq_append_getElem (by rw [List.length_set]; omega), List.getElem_set_self]
      congr 1
      rw [List.take_set, List.set_eq_of_length_le (by rw [List.length_take]; omega)]
    have h2 : (cs.set i v).drop (i + 1 + r.length) = cs.drop (i + (r.length + 1)) := by
      rw [List.drop_set, if_pos (by omega), show i + 1 + r.length = i + (r.length + 1) from by omega]
    rw [h1, h2]
    simp
theorem flat_put (xs : List α) (k : Nat) (x : α) (hk : k < xs.length) : putL (xs.flatMap f) (k * s) (f x) = (xs.set k x).flatMap f := by
  have hle : k * s + s ≤ xs.length * s := by
    have := Nat.mul_le_mul_right s (show k + 1 ≤ xs.length by omega)
    rw [Nat.add_mul] at this; omega
  rw [putL_eq _ _ _ (by rw [hf, flat_len hf]; exact hle), hf, flat_take hf, show k * s + s = (k + 1) * s from by rw [Nat.add_mul]; omega, flat_drop hf, List.set_eq_take_append_cons_drop, if_pos hk]
  simp
omit hf in
theorem flat_replicate (n : Nat) (x : α) (v : Value) (h : f x = List.replicate s v) : (List.replicate n x).flatMap f = List.replicate (n * s) v := by
  induction n with
  | zero => simp
  | succ n ih => rw [List.replicate_succ, List.flatMap_cons, ih, h, List.replicate_append_replicate]; congr 1; rw [Nat.add_mul]; omega
end
/-- The world behind such a store. -/
def putW (w : World) (g i : Nat) : List Value → World
  | [] => w
  | v :: r => putW (w.setCell ⟨g, i, none⟩ v) g (i + 1) r
theorem own_put {base e s g n c : Nat} (vs : List Value) : ∀ {w : World} {xs : List Value} (i : Nat), w.ownsRow base e s (.slice (some ⟨g, 0, none⟩) n c) n xs → (putW w g i vs).ownsRow base e s (.slice (some ⟨g, 0, none⟩) n c) n (putL xs i vs) := by
  induction vs with
  | nil => intro w xs i h; exact h
  | cons v r ih => intro w xs i h; exact ih (i + 1) (h.stored i v).1
theorem put_grown {g : Nat} (vs : List Value) : ∀ {a w : World} (i : Nat), a.grownBy w (some g) → a.grownBy (putW w g i vs) (some g) := by
  induction vs with
  | nil => intro a w i h; exact h
  | cons v r ih => intro a w i h; exact ih (i + 1) (grown_set h i v)
theorem put_below {B g : Nat} (vs : List Value) : ∀ {a w : World} (i : Nat), Below B a w → B ≤ g → Below B a (putW w g i vs) := by
  induction vs with
  | nil => intro a w i h _; exact h
  | cons v r ih => intro a w i h hg; exact ih (i + 1) (h.setCell hg v) hg
theorem put_size {g : Nat} (vs : List Value) : ∀ {w : World} (i : Nat), (putW w g i vs).heap.size = w.heap.size := by
  induction vs with
  | nil => intro w i; rfl
  | cons v r ih => intro w i; exact (ih (i + 1)).trans (size_set _ _ _)
theorem put_chg {lo hi g : Nat} (vs : List Value) : ∀ {a w : World} (i : Nat), Chg lo hi a w → lo ≤ g → g < hi → Chg lo hi a (putW w g i vs) := by
  induction vs with
  | nil => intro a w i h _ _; exact h
  | cons v r ih =>
    intro a w i h h1 h2
    refine ih (i + 1) ?_ h1 h2
    exact h.trans (Chg.of_grown (grown_set (World.grownBy.refl w (some g)) i v) (fun k e => by injection e with e; omega))

/-- What is read of an element. -/
theorem Rd.flat {α : Type} {f : α → List Value} {s : Nat} (hf : ∀ x, (f x).length = s) (hs : 0 < s) {w : World} {A : Option Addr} {n k : Nat} {xs : List α} (h : Rd w s A n (xs.flatMap f)) (hk : k < n) :
    ∃ b o x, A = some ⟨b, o, none⟩ ∧ xs[k]? = some x ∧ xs.drop k = x :: xs.drop (k + 1) ∧ ∀ j u, (f x)[j]? = some u → w.cell? ⟨b, o + (k * s + j), none⟩ = some u := by
  obtain ⟨b, o, e, hc⟩ := h.pos (by omega)
  have hl := h.len
  rw [flat_len hf] at hl
  have hl := Nat.eq_of_mul_eq_mul_right hs hl
  obtain ⟨x, h1, h2⟩ := drop_cons (xs := xs) (k := k) (by omega)
  refine ⟨b, o, x, e, h1, h2, fun j u hu => hc _ _ ?_⟩
  rw [flat_get hf h1 (by have := (List.getElem?_eq_some_iff.1 hu).1; rw [hf] at this; exact this)]
  exact hu
theorem Rd.len_flat {α : Type} {f : α → List Value} {s : Nat} (hf : ∀ x, (f x).length = s) (hs : 0 < s) {w : World} {A : Option Addr} {n : Nat} {xs : List α} (h : Rd w s A n (xs.flatMap f)) : xs.length = n := by
  have hl := h.len
  rw [flat_len hf] at hl
  exact Nat.eq_of_mul_eq_mul_right hs hl
theorem own_len_flat {α : Type} {f : α → List Value} {s : Nat} (hf : ∀ x, (f x).length = s) (hs : 0 < s) {w : World} {base e n : Nat} {v : Value} {xs : List α} (h : w.ownsRow base e s v n (xs.flatMap f)) : xs.length = n := by
  have hl := h.1
  rw [flat_len hf] at hl
  exact Nat.eq_of_mul_eq_mul_right hs hl
/-- What an own row of structs gives at an index. -/
theorem own_flat {α : Type} {f : α → List Value} {s : Nat} (hf : ∀ x, (f x).length = s) (hs : 0 < s) {w : World} {base e n c k : Nat} {A : Option Addr} {xs : List α} (h : w.ownsRow base e s (.slice A n c) n (xs.flatMap f)) (hk : k < n) :
    ∃ g x, A = some ⟨g, 0, none⟩ ∧ base ≤ g ∧ g < w.heap.size ∧ xs[k]? = some x ∧ xs.drop k = x :: xs.drop (k + 1) ∧ (∀ j u, (f x)[j]? = some u → w.cell? ⟨g, k * s + j, none⟩ = some u) ∧ (∀ j, w.frozen? ⟨g, j, none⟩ = false) := by
  have hl := own_len_flat hf hs h
  rcases h.2 with ⟨hv, hn⟩ | ⟨g, cap, cur, hv, hb, hg, hnc, hcm, hcs, htake⟩
  · omega
  · injection hv with hA _ hc
    subst hA hc
    obtain ⟨x, h1, h2⟩ := drop_cons (xs := xs) (k := k) (by omega)
    refine ⟨g, x, rfl, hb, (Array.getElem?_eq_some_iff.1 hg).1, h1, h2, fun j u hu => ?_, fun j => h.frozenAt j⟩
    have hj : j < s := by have := (List.getElem?_eq_some_iff.1 hu).1; rw [hf] at this; exact this
    have hlt : k * s + j < n * s := by
      have := Nat.mul_le_mul_right s (show k + 1 ≤ n by omega)
      rw [Nat.add_mul] at this; omega
    rw [h.cellAt _ hlt, flat_get hf h1 hj, hu]
/-- A new row of zeros. -/
theorem made_zero (z : Array Value) (v : Value) (m : Nat) (hz : 0 < z.size) (h : ∀ i, i < z.size → z[i]! = v) : (madeCells z m).toList = List.replicate m v := by
  unfold madeCells
  refine List.ext_getElem? (fun i => ?_)
  by_cases hi : i < m
  · simp [hi, h _ (Nat.mod_lt i hz)]
  · simp [hi]
theorem own_madeS (w : World) (base e n s : Nat) (z : Array Value) (v : Value) (hz : 0 < z.size) (h : ∀ i, i < z.size → z[i]! = v) (hb : base ≤ w.heap.size) (hm : n ≤ 9223372036854775807) :
    (w.alloc (.cells (madeCells z (n * s)) e)).ownsRow base e s (.slice (some ⟨w.heap.size, 0, none⟩) n n) n (List.replicate (n * s) v) := by
  have := World.ownsRow_lit (base := base) (e := e) (size := s) w (madeCells z (n * s)) n hb (by unfold maxLen; omega) (by simp [size_madeCells])
  rwa [made_zero z v (n * s) hz h] at this

theorem cell_top (w : World) (cs : Array Value) (t : TypeId) {b j : Nat} {v : Value} (hb : b = w.heap.size) (hv : cs[j]? = some v) : (w.alloc (.cells cs t)).cell? ⟨b, j, none⟩ = some v := by
  subst hb
  have h : (w.alloc (.cells cs t)).heap[w.heap.size]? = some (.cells cs t) := by show (w.heap.push _)[w.heap.size]? = _; simp
  simp only [World.cell?, h]
  simpa using hv
theorem cell_under (w : World) (o : Obj) {b j : Nat} {v : Value} (hb : b < w.heap.size) (h : w.cell? ⟨b, j, none⟩ = some v) : (w.alloc o).cell? ⟨b, j, none⟩ = some v :=
  (((Below.refl _ w).alloc (Nat.le_refl _) o).cell (p := ⟨b, j, none⟩) hb).trans h
theorem fz_top (w : World) (cs : Array Value) (t : TypeId) {b j : Nat} (hb : b = w.heap.size) : (w.alloc (.cells cs t)).frozen? ⟨b, j, none⟩ = false := by
  subst hb
  have h : (w.alloc (.cells cs t)).heap[w.heap.size]? = some (.cells cs t) := by show (w.heap.push _)[w.heap.size]? = _; simp
  unfold World.frozen?
  simp only [h]
  simp
theorem fz_under (w : World) (o : Obj) {b j : Nat} (hb : b < w.heap.size) (h : w.frozen? ⟨b, j, none⟩ = false) : (w.alloc o).frozen? ⟨b, j, none⟩ = false :=
  (((Below.refl _ w).alloc (Nat.le_refl _) o).frozen (p := ⟨b, j, none⟩) hb).trans h
theorem chg_cell {lo hi : Nat} {W W' : World} (h : Chg lo hi W W') {b i : Nat} {v : Value} (hb : b < lo ∨ hi ≤ b) (hc : W.cell? ⟨b, i, none⟩ = some v) : W'.cell? ⟨b, i, none⟩ = some v := by
  have hlt : b < W.heap.size := by
    rcases Nat.lt_or_ge b W.heap.size with h | h
    · exact h
    · exfalso
      unfold World.cell? at hc
      rw [Array.getElem?_eq_none h] at hc
      cases hc
  rw [← hc]
  exact World.cell?_of_block (h.block b hlt (by omega))
theorem zero2 (v : Value) (i : Nat) (h : i < (#[v, v] : Array Value).size) : (#[v, v] : Array Value)[i]! = v := by
  have : i = 0 ∨ i = 1 := by simp at h; omega
  rcases this with rfl | rfl <;> rfl
/-! ### Winds -/
def windC (p : Int × Int) : List Value := [.int .i64 p.1, .int .i64 p.2]
theorem windC_len (p : Int × Int) : (windC p).length = 2 := rfl
def winds (xs : List (Int × Int)) : List Value := xs.flatMap windC
theorem Rd.wind {w : World} {A : Option Addr} {n k : Nat} {xs : List (Int × Int)} (h : Rd w 2 A n (winds xs)) (hk : k < n) :
    ∃ b o x y, A = some ⟨b, o, none⟩ ∧ xs[k]? = some (x, y) ∧ xs.drop k = (x, y) :: xs.drop (k + 1) ∧ w.cell? ⟨b, o + k * 2, none⟩ = some (.int .i64 x) ∧ w.cell? ⟨b, o + k * 2 + 1, none⟩ = some (.int .i64 y) := by
  obtain ⟨b, o, ⟨x, y⟩, e, h1, h2, h3⟩ := Rd.flat windC_len (by decide) h hk
  exact ⟨b, o, x, y, e, h1, h2, h3 0 _ rfl, h3 1 _ rfl⟩
theorem Rd.len_wind {w : World} {A : Option Addr} {n : Nat} {xs : List (Int × Int)} (h : Rd w 2 A n (winds xs)) : xs.length = n := Rd.len_flat windC_len (by decide) h
theorem own_wind_at {w : World} {base e n c k : Nat} {A : Option Addr} {xs : List (Int × Int)} (h : w.ownsRow base e 2 (.slice A n c) n (winds xs)) (hk : k < n) :
    ∃ g x y, A = some ⟨g, 0, none⟩ ∧ base ≤ g ∧ g < w.heap.size ∧ xs[k]? = some (x, y) ∧ xs.drop k = (x, y) :: xs.drop (k + 1) ∧ w.cell? ⟨g, k * 2, none⟩ = some (.int .i64 x) ∧ w.cell? ⟨g, k * 2 + 1, none⟩ = some (.int .i64 y) ∧
      w.frozen? ⟨g, k * 2, none⟩ = false ∧ w.frozen? ⟨g, k * 2 + 1, none⟩ = false := by
  obtain ⟨g, ⟨x, y⟩, e, h1, h2, h3, h4, h5, h6⟩ := own_flat windC_len (by decide) h hk
  exact ⟨g, x, y, e, h1, h2, h3, h4, h5 0 _ rfl, h5 1 _ rfl, h6 _, h6 _⟩
theorem own_wind_set {w : World} {base e g n c k : Nat} {xs : List (Int × Int)} (h : w.ownsRow base e 2 (.slice (some ⟨g, 0, none⟩) n c) n (winds xs)) (hk : k < n) (x y : Int) :
    ((w.setCell ⟨g, k * 2, none⟩ (.int .i64 x)).setCell ⟨g, k * 2 + 1, none⟩ (.int .i64 y)).ownsRow base e 2 (.slice (some ⟨g, 0, none⟩) n c) n (winds (xs.set k (x, y))) := by
  have h1 := own_put (windC (x, y)) (k * 2) h
  unfold winds at h1
  rw [flat_put windC_len xs k (x, y) (by rw [own_len_flat windC_len (by decide) h]; exact hk)] at h1
  exact h1
end Go.Proofs.Ytalgdeieejpelaa

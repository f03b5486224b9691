/- Walks: the laws' helpers on slices of Redress. -/
import Derived.Test.YtalgdeieejpelaaGreatZma
import Derived.StillTailTactics
import Derived.Deep.RegionHeld3
namespace Go.Proofs.YtalgdeieejpelaaGreat
open Go.RowKit
set_option linter.unusedVariables false
set_option maxRecDepth 100000

abbrev RedressT := Int × Int × Int × Int
def redC (p : RedressT) : List Value := [.int .i64 p.1, .int .i64 p.2.1, .int .i64 p.2.2.1, .int .i64 p.2.2.2]
theorem redC_len (p : RedressT) : (redC p).length = 4 := rfl
def reds (xs : List RedressT) : List Value := xs.flatMap redC
theorem zeroS4 (v : Value) (i : Nat) (h : i < (#[v, v, v, v] : Array Value).size) : (#[v, v, v, v] : Array Value)[i]! = v := by
  have : i = 0 ∨ i = 1 ∨ i = 2 ∨ i = 3 := by simp at h; omega
  rcases this with rfl | rfl | rfl | rfl <;> rfl
theorem Rd.red {w : World} {A : Option Addr} {n k : Nat} {xs : List RedressT} (h : Rd w 4 A n (reds xs)) (hk : k < n) :
    ∃ b o x0 x1 x2 x3, A = some ⟨b, o, none⟩ ∧ xs[k]? = some (x0, x1, x2, x3) ∧ xs.drop k = (x0, x1, x2, x3) :: xs.drop (k + 1) ∧ w.cell? ⟨b, o + k * 4, none⟩ = some (.int .i64 x0) ∧ w.cell? ⟨b, o + k * 4 + 1, none⟩ = some (.int .i64 x1) ∧ w.cell? ⟨b, o + k * 4 + 2, none⟩ = some (.int .i64 x2) ∧ w.cell? ⟨b, o + k * 4 + 3, none⟩ = some (.int .i64 x3) := by
  obtain ⟨b, o, ⟨x0, x1, x2, x3⟩, e, h1, h2, h3⟩ := Rd.flat redC_len (by decide) h hk
  exact ⟨b, o, x0, x1, x2, x3, e, h1, h2, h3 0 _ rfl, h3 1 _ rfl, h3 2 _ rfl, h3 3 _ rfl⟩
theorem Rd.len_red {w : World} {A : Option Addr} {n : Nat} {xs : List RedressT} (h : Rd w 4 A n (reds xs)) : xs.length = n := Rd.len_flat redC_len (by decide) h
theorem own_red_at {w : World} {base e n c k : Nat} {A : Option Addr} {xs : List RedressT} (h : w.ownsRow base e 4 (.slice A n c) n (reds xs)) (hk : k < n) :
    ∃ g x0 x1 x2 x3, A = some ⟨g, 0, none⟩ ∧ base ≤ g ∧ g < w.heap.size ∧ xs[k]? = some (x0, x1, x2, x3) ∧ xs.drop k = (x0, x1, x2, x3) :: xs.drop (k + 1) ∧ w.cell? ⟨g, k * 4, none⟩ = some (.int .i64 x0) ∧ w.cell? ⟨g, k * 4 + 1, none⟩ = some (.int .i64 x1) ∧ w.cell? ⟨g, k * 4 + 2, none⟩ = some (.int .i64 x2) ∧ w.cell? ⟨g, k * 4 + 3, none⟩ = some (.int .i64 x3) ∧ w.frozen? ⟨g, k * 4, none⟩ = false ∧ w.frozen? ⟨g, k * 4 + 1, none⟩ = false ∧ w.frozen? ⟨g, k * 4 + 2, none⟩ = false ∧ w.frozen? ⟨g, k * 4 + 3, none⟩ = false := by
  obtain ⟨g, ⟨x0, x1, x2, x3⟩, e, h1, h2, h3, h4, h5, h6⟩ := own_flat redC_len (by decide) h hk
  exact ⟨g, x0, x1, x2, x3, e, h1, h2, h3, h4, h5 0 _ rfl, h5 1 _ rfl, h5 2 _ rfl, h5 3 _ rfl, h6 _, h6 _, h6 _, h6 _⟩
theorem own_red_set {w : World} {base e g n c k : Nat} {xs : List RedressT} (h : w.ownsRow base e 4 (.slice (some ⟨g, 0, none⟩) n c) n (reds xs)) (hk : k < n) (x0 x1 x2 x3 : Int) :
    ((((w.setCell ⟨g, k * 4, none⟩ (.int .i64 x0)).setCell ⟨g, k * 4 + 1, none⟩ (.int .i64 x1)).setCell ⟨g, k * 4 + 2, none⟩ (.int .i64 x2)).setCell ⟨g, k * 4 + 3, none⟩ (.int .i64 x3)).ownsRow base e 4 (.slice (some ⟨g, 0, none⟩) n c) n (reds (xs.set k (x0, x1, x2, x3))) := by
  have h1 := own_put (redC (x0, x1, x2, x3)) (k * 4) h
  unfold reds at h1
  rw [flat_put redC_len xs k (x0, x1, x2, x3) (by rw [own_len_flat redC_len (by decide) h]; exact hk)] at h1
  exact h1
theorem Tryz.info_red : (Tryz.prog.info? 109).map (fun i => (i.zero, i.size, i.bytes)) = some (some (.agg #[.int .i64 0, .int .i64 0, .int .i64 0, .int .i64 0]), 4, 32) := by kernel_rfl
theorem run_make_red (n : Nat) (h : n ≤ 1048576) (w : World) :
    (Instr.makeSlice 105 (.int .i64 (n : Int)) (.int .i64 (n : Int))).run Tryz.prog w = .ok (.slice (some ⟨w.heap.size, 0, none⟩) n n) (w.alloc (.cells (madeCells #[.int .i64 0, .int .i64 0, .int .i64 0, .int .i64 0] (n * 4)) 109)) := by
  obtain ⟨i, hi, hz, hs, hb⟩ := info_parts Tryz.info_red
  have hr := run_make (P := Tryz.prog) w 105 109 i (.agg #[.int .i64 0, .int .i64 0, .int .i64 0, .int .i64 0]) Tryz.underlying105 hi hz .i64 .i64 n n (by omega) (by omega) (by rw [hb]; omega) (by omega)
  rw [hs, Int.toNat_natCast] at hr
  exact hr
/-- The copy of such a slice. -/
def RetRedressS (w : World) (xs : List RedressT) (e : Ending) (w' : World) : Prop :=
  ∃ A n c, e = .returned (.slice A n c) ∧ w'.ownsRow w.heap.size 109 4 (.slice A n c) n (reds xs) ∧ n ≤ 1048576 ∧ Below w.heap.size w w'
end Go.Proofs.YtalgdeieejpelaaGreat

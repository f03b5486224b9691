/- Walks: the laws' helpers on slices of Entry. -/
import Derived.Test.YtalgdeieejpelaaGreatDoorZmb
import Derived.Test.YtalgdeieejpelaaGreatDoorZma
import Derived.StillTailTactics
import Derived.Deep.RegionHeld3
import Derived.Deep.AppendLies
namespace Go.Proofs.YtalgdeieejpelaaGreatDoor
open Go.RowKit
set_option linter.unusedVariables false
set_option maxRecDepth 100000

abbrev EntryT := Int × Int × Int × Int × Int × Int × Int
set_option synthInstance.maxSize 2000 in
set_option synthInstance.maxHeartbeats 400000 in
instance : DecidableEq EntryT := inferInstanceAs (DecidableEq (Int × Int × Int × Int × Int × Int × Int))
def entC (p : EntryT) : List Value := [.int .i64 p.1, .int .i64 p.2.1, .int .i64 p.2.2.1, .int .i64 p.2.2.2.1, .int .i64 p.2.2.2.2.1, .int .i64 p.2.2.2.2.2.1, .int .i64 p.2.2.2.2.2.2]
theorem entC_len (p : EntryT) : (entC p).length = 7 := rfl
def ents (xs : List EntryT) : List Value := xs.flatMap entC
theorem zeroS7 (v : Value) (i : Nat) (h : i < (#[v, v, v, v, v, v, v] : Array Value).size) : (#[v, v, v, v, v, v, v] : Array Value)[i]! = v := by
  have : i = 0 ∨ i = 1 ∨ i = 2 ∨ i = 3 ∨ i = 4 ∨ i = 5 ∨ i = 6 := by simp at h; omega
  rcases this with rfl | rfl | rfl | rfl | rfl | rfl | rfl <;> rfl
theorem Rd.ent {w : World} {A : Option Addr} {n k : Nat} {xs : List EntryT} (h : Rd w 7 A n (ents xs)) (hk : k < n) :
    ∃ b o x0 x1 x2 x3 x4 x5 x6, A = some ⟨b, o, none⟩ ∧ xs[k]? = some (x0, x1, x2, x3, x4, x5, x6) ∧ xs.drop k = (x0, x1, x2, x3, x4, x5, x6) :: xs.drop (k + 1) ∧ w.cell? ⟨b, o + k * 7, none⟩ = some (.int .i64 x0) ∧ w.cell? ⟨b, o + k * 7 + 1, none⟩ = some (.int .i64 x1) ∧ w.cell? ⟨b, o + k * 7 + 2, none⟩ = some (.int .i64 x2) ∧ w.cell? ⟨b, o + k * 7 + 3, none⟩ = some (.int .i64 x3) ∧ w.cell? ⟨b, o + k * 7 + 4, none⟩ = some (.int .i64 x4) ∧ w.cell? ⟨b, o + k * 7 + 5, none⟩ = some (.int .i64 x5) ∧ w.cell? ⟨b, o + k * 7 + 6, none⟩ = some (.int .i64 x6) := by
  obtain ⟨b, o, ⟨x0, x1, x2, x3, x4, x5, x6⟩, e, h1, h2, h3⟩ := Rd.flat entC_len (by decide) h hk
  exact ⟨b, o, x0, x1, x2, x3, x4, x5, x6, e, h1, h2, h3 0 _ rfl, h3 1 _ rfl, h3 2 _ rfl, h3 3 _ rfl, h3 4 _ rfl, h3 5 _ rfl, h3 6 _ rfl⟩
theorem Rd.len_ent {w : World} {A : Option Addr} {n : Nat} {xs : List EntryT} (h : Rd w 7 A n (ents xs)) : xs.length = n := Rd.len_flat entC_len (by decide) h
theorem own_ent_at {w : World} {base e n c k : Nat} {A : Option Addr} {xs : List EntryT} (h : w.ownsRow base e 7 (.slice A n c) n (ents xs)) (hk : k < n) :
    ∃ g x0 x1 x2 x3 x4 x5 x6, A = some ⟨g, 0, none⟩ ∧ base ≤ g ∧ g < w.heap.size ∧ xs[k]? = some (x0, x1, x2, x3, x4, x5, x6) ∧ xs.drop k = (x0, x1, x2, x3, x4, x5, x6) :: xs.drop (k + 1) ∧ w.cell? ⟨g, k * 7, none⟩ = some (.int .i64 x0) ∧ w.cell? ⟨g, k * 7 + 1, none⟩ = some (.int .i64 x1) ∧ w.cell? ⟨g, k * 7 + 2, none⟩ = some (.int .i64 x2) ∧ w.cell? ⟨g, k * 7 + 3, none⟩ = some (.int .i64 x3) ∧ w.cell? ⟨g, k * 7 + 4, none⟩ = some (.int .i64 x4) ∧ w.cell? ⟨g, k * 7 + 5, none⟩ = some (.int .i64 x5) ∧ w.cell? ⟨g, k * 7 + 6, none⟩ = some (.int .i64 x6) ∧ w.frozen? ⟨g, k * 7, none⟩ = false ∧ w.frozen? ⟨g, k * 7 + 1, none⟩ = false ∧ w.frozen? ⟨g, k * 7 + 2, none⟩ = false ∧ w.frozen? ⟨g, k * 7 + 3, none⟩ = false ∧ w.frozen? ⟨g, k * 7 + 4, none⟩ = false ∧ w.frozen? ⟨g, k * 7 + 5, none⟩ = false ∧ w.frozen? ⟨g, k * 7 + 6, none⟩ = false := by
  obtain ⟨g, ⟨x0, x1, x2, x3, x4, x5, x6⟩, e, h1, h2, h3, h4, h5, h6⟩ := own_flat entC_len (by decide) h hk
  exact ⟨g, x0, x1, x2, x3, x4, x5, x6, e, h1, h2, h3, h4, h5 0 _ rfl, h5 1 _ rfl, h5 2 _ rfl, h5 3 _ rfl, h5 4 _ rfl, h5 5 _ rfl, h5 6 _ rfl, h6 _, h6 _, h6 _, h6 _, h6 _, h6 _, h6 _⟩
theorem own_ent_set {w : World} {base e g n c k : Nat} {xs : List EntryT} (h : w.ownsRow base e 7 (.slice (some ⟨g, 0, none⟩) n c) n (ents xs)) (hk : k < n) (x0 x1 x2 x3 x4 x5 x6 : Int) :
    (((((((w.setCell ⟨g, k * 7, none⟩ (.int .i64 x0)).setCell ⟨g, k * 7 + 1, none⟩ (.int .i64 x1)).setCell ⟨g, k * 7 + 2, none⟩ (.int .i64 x2)).setCell ⟨g, k * 7 + 3, none⟩ (.int .i64 x3)).setCell ⟨g, k * 7 + 4, none⟩ (.int .i64 x4)).setCell ⟨g, k * 7 + 5, none⟩ (.int .i64 x5)).setCell ⟨g, k * 7 + 6, none⟩ (.int .i64 x6)).ownsRow base e 7 (.slice (some ⟨g, 0, none⟩) n c) n (ents (xs.set k (x0, x1, x2, x3, x4, x5, x6))) := by
  have h1 := own_put (entC (x0, x1, x2, x3, x4, x5, x6)) (k * 7) h
  unfold ents at h1
  rw [flat_put entC_len xs k (x0, x1, x2, x3, x4, x5, x6) (by rw [own_len_flat entC_len (by decide) h]; exact hk)] at h1
  exact h1
section
variable {ops : Array Oper} {rest : List Oper} {o : Oper} {a : Act} {K : Act → World → Prop} {Q : Exit → Act → World → Prop} {E : Prop}
end
/-- Numbers in a row, 7 an element. -/
def seqent (k : Int) : Nat → List EntryT
  | 0 => []
  | n + 1 => (k, k + 1, k + 2, k + 3, k + 4, k + 5, k + 6) :: seqent (k + 7) n
theorem seqent_len (k : Int) (n : Nat) : (seqent k n).length = n := by
  induction n generalizing k with
  | zero => rfl
  | succ n ih => simp [seqent, ih]
theorem seqent_snoc (k : Int) (n : Nat) : seqent k (n + 1) = seqent k n ++ [(k + 7 * n, k + 7 * n + 1, k + 7 * n + 2, k + 7 * n + 3, k + 7 * n + 4, k + 7 * n + 5, k + 7 * n + 6)] := by
  induction n generalizing k with
  | zero => simp [seqent]
  | succ n ih =>
    rw [seqent, ih, seqent, List.cons_append]
    congr 3
    simp only [Prod.mk.injEq]
    omega
theorem seqent_get (k : Int) (n j : Nat) (h : j < n) : (seqent k n)[j]? = some (k + 7 * (j : Int), k + 7 * (j : Int) + 1, k + 7 * (j : Int) + 2, k + 7 * (j : Int) + 3, k + 7 * (j : Int) + 4, k + 7 * (j : Int) + 5, k + 7 * (j : Int) + 6) := by
  induction n generalizing k j with
  | zero => omega
  | succ n ih =>
    cases j with
    | zero => simp [seqent]
    | succ j =>
      rw [seqent, List.getElem?_cons_succ, ih _ _ (by omega)]
      simp only [Option.some.injEq, Prod.mk.injEq]
      omega
theorem seqent_step (k : Int) (j : Nat) (xs : List EntryT) (h : j < xs.length) : (seqent k j ++ xs.drop j).set j (k + 7 * (j : Int), k + 7 * (j : Int) + 1, k + 7 * (j : Int) + 2, k + 7 * (j : Int) + 3, k + 7 * (j : Int) + 4, k + 7 * (j : Int) + 5, k + 7 * (j : Int) + 6) = seqent k (j + 1) ++ xs.drop (j + 1) := by
  rw [List.set_append, if_neg (by simp [seqent_len]), seqent_snoc, List.drop_eq_getElem_cons h, seqent_len, Nat.sub_self, List.set_cons_zero, List.append_assoc]
  rfl
end Go.Proofs.YtalgdeieejpelaaGreatDoor

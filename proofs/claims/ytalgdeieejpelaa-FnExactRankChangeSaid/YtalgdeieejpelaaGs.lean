/- What a law is told of a slice of structs of integers that came in. No Go function in sight. -/
import Derived.Test.YtalgdeieejpelaaSt
import Derived.Deep.Slices
import Derived.Deep.Fields
import Derived.Lib.SmallJoins
namespace Go.Proofs.Ytalgdeieejpelaa
open Go.RowKit Go.ChangeShapes Go.WideShapes Go.Deep Go.Joins
set_option linter.unusedVariables false
set_option maxRecDepth 100000

theorem list_of {P : Nat → Int → Prop} (m : Nat) (h : ∀ q, q < m → ∃ z, P q z) : ∃ zs : List Int, zs.length = m ∧ ∀ q z, zs[q]? = some z → P q z := by
  induction m with
  | zero => exact ⟨[], rfl, fun q z hq => by simp at hq⟩
  | succ m ih =>
    obtain ⟨zs, h1, h2⟩ := ih fun q hq => h q (by omega)
    obtain ⟨z, hz⟩ := h m (by omega)
    refine ⟨zs ++ [z], by simp [h1], fun q y hq => ?_⟩
    by_cases hlt : q < m
    · rw [List.getElem?_append_left (by omega)] at hq
      exact h2 q y hq
    · rw [List.getElem?_append_right (by omega)] at hq
      have hq0 : q - zs.length = 0 := by
        rcases Nat.eq_zero_or_pos (q - zs.length) with h | h
        · exact h
        · rw [List.getElem?_eq_none (by simp; omega)] at hq; cases hq
      rw [hq0] at hq
      simp at hq
      obtain rfl : q = m := by omega
      rw [← hq]; exact hz
section
variable {H : Type} {enc : TypeId × Value → H} {P : Program} {w : World} {base : Nat} {spare : Nat → Bool} {held : Bool}
theorem rd_structs {t e : TypeId} {fs : Array Field} {fuel s : Nat} {A : Option Addr} {len cap : Nat} {x : DataW H × List MemPlace} (ht : P.underlying t = some (.slice e)) (he : P.underlying e = some (.struct fs)) (hone : oneCellFields P fs = true)
    (hC : P.cellsOf e = s) (hfs : fs.size = s) (hpos : 0 < s) (hint : ∀ (j : Nat) (f : Field), fs[j]? = some f → P.underlying f.type = some (.int .i64)) (h : DataW.trod enc P w base spare held fuel t [.slice A len cap] = some x) :
    ∃ zs, Rd w s A len (ints zs) := by
  rcases open_slice ht h with ⟨hcs, _⟩ | ⟨a, l, c, m, n, D, Pl, hcs, hb, hl, hm, hmm, hx, hi⟩
  · simp at hcs
    obtain ⟨rfl, rfl, rfl⟩ := hcs
    exact ⟨[], by simp [ints], by omega, fun h => by omega⟩
  · simp at hcs
    obtain ⟨rfl, rfl, rfl⟩ := hcs
    have hlm : len ≤ m := by rw [hmm]; split <;> omega
    have key : ∀ q, q < len * s → ∃ z, w.cell? ((a.add (q / s * s)).add (q % s)) = some (.int .i64 z) := by
      intro q hq
      have hqs : q / s < len := Nat.div_lt_of_lt_mul (by rw [Nat.mul_comm]; exact hq)
      have hj : q % s < s := Nat.mod_lt q hpos
      obtain ⟨cs', hc, ht'⟩ := hi (q / s) (by omega)
      rw [hC] at hc
      obtain ⟨ys, n', _, _, hlen, hyl, hf⟩ := DataW.trod_struct he ht'
      obtain ⟨_, hcl, hat⟩ := World.cells?_some hc
      generalize q % s = j at *
      have hfj : fs[j]? = some (fs[j]'(by omega)) := Array.getElem?_eq_getElem (by omega)
      obtain ⟨ho, hk⟩ := hone_of hone j _ hfj
      have h1 := hf j _ hfj
      have hcj : cs'[j]? = some (cs'[j]'(by omega)) := List.getElem?_eq_getElem (by omega)
      have hyj : ys[j]? = some (ys[j]'(by omega)) := List.getElem?_eq_getElem (by omega)
      rw [ho, hk, List.drop_eq_getElem_cons (by omega), hyj] at h1
      obtain ⟨z, hz, _⟩ := DataW.trod_int (hint j _ hfj) h1
      simp only [List.take_succ_cons, List.take_zero, List.cons.injEq, and_true] at hz
      exact ⟨z, by rw [hat j hj, hcj, hz]⟩
    obtain ⟨zs, hz1, hz2⟩ := list_of (len * s) key
    unfold maxLen at hm
    refine ⟨zs, by rw [ints_length, hz1], by omega, fun h0 => ?_⟩
    have h00 : 0 < len * s := Nat.mul_pos h0 hpos
    obtain ⟨z0, hz0⟩ := key 0 h00
    have e0 : (a.add (0 / s * s)).add (0 % s) = a := by simp [Addr.add]
    rw [e0] at hz0
    obtain ⟨b, o, sp⟩ := a
    obtain rfl : sp = none := spot_none hz0
    refine ⟨b, o, rfl, fun i u hu => ?_⟩
    have hil : i < zs.length := by have := (List.getElem?_eq_some_iff.1 hu).1; rwa [ints_length] at this
    have hzi : zs[i]? = some zs[i] := List.getElem?_eq_getElem hil
    rw [ints_get hzi] at hu
    injection hu with hu
    subst hu
    have hc := hz2 i _ hzi
    have hadd : ∀ o k : Nat, (⟨b, o, none⟩ : Addr).add k = ⟨b, o + k, none⟩ := by intro o k; unfold Addr.add; split <;> simp_all
    rw [hadd, hadd] at hc
    rw [← hc]
    congr 2
    have := Nat.div_add_mod i s
    rw [Nat.mul_comm] at this
    omega
end
/-- Integers in groups of s. -/
def groupsOf {α : Type} (f : List Int → α) (s : Nat) : Nat → List Int → List α
  | 0, _ => []
  | n + 1, zs => f (zs.take s) :: groupsOf f s n (zs.drop s)
theorem groupsOf_flat {α : Type} {f : List Int → α} {g : α → List Value} {s : Nat} (hf : ∀ zs : List Int, zs.length = s → g (f zs) = ints zs) : ∀ (n : Nat) (zs : List Int), zs.length = n * s → (groupsOf f s n zs).flatMap g = ints zs := by
  intro n
  induction n with
  | zero =>
    intro zs h
    obtain rfl : zs = [] := List.eq_nil_of_length_eq_zero (by omega)
    rfl
  | succ n ih =>
    intro zs h
    have h' : zs.length = n * s + s := by rw [h, Nat.add_mul, Nat.one_mul]
    rw [groupsOf, List.flatMap_cons, ih _ (by rw [List.length_drop, h']; omega), hf _ (by rw [List.length_take, h']; omega), ← ints_append, List.take_append_drop]
end Go.Proofs.Ytalgdeieejpelaa

/- What a law is told of a slice of structs of integers, and of a grid, that came in. -/
import Derived.Test.YtpaamhkgokkgpaaSt
import Derived.Deep.Slices
import Derived.Deep.Fields
import Derived.Lib.SmallJoins
namespace Go.Proofs.Ytpaamhkgokkgpaa
open Go.RowKit Go.ChangeShapes Go.WideShapes Go.Deep Go.Joins
set_option linter.unusedVariables false
set_option maxRecDepth 100000

theorem list_of {P : Nat → Int → Prop} (m : Nat) (h : ∀ q, q < m → ∃ z, P q z) : ∃ zs : List Int, zs.length = m ∧ ∀ q z, zs[q]? = some z → P q z := by
  induction m with
  | zero => exact ⟨[], rfl, fun q z hq => by simp at hq⟩
  | succ m ih =>
    obtain ⟨zs, h1, h2⟩ := ih fun q hq => h q (by omega)
    obtain ⟨z, hz⟩ := h m (by omega)
    refine ⟨zs ++ [z], by simp [h1], fun q y hq => ?_⟩
    by_cases hlt : q < m
    · rw [List.getElem?_append_left (by omega)] at hq
      exact h2 q y hq
    · rw [List.getElem?_append_right (by omega)] at hq
      have hq0 : q - zs.length = 0 := by
        rcases Nat.eq_zero_or_pos (q - zs.length) with h | h
        · exact h
        · rw [List.getElem?_eq_none (by simp; omega)] at hq; cases hq
      rw [hq0] at hq
      simp at hq
      obtain rfl : q = m := by omega
      rw [← hq]; exact hz
section
variable {H : Type} {enc : TypeId × Value → H} {P : Program} {w : World} {base : Nat} {spare : Nat → Bool} {held : Bool}
theorem rd_structs {t e : TypeId} {fs : Array Field} {fuel s : Nat} {A : Option Addr} {len cap : Nat} {x : DataW H × List MemPlace} (ht : P.underlying t = some (.slice e)) (he : P.underlying e = some (.struct fs)) (hone : oneCellFields P fs = true)
    (hC : P.cellsOf e = s) (hfs : fs.size = s) (hpos : 0 < s) (hint : ∀ (j : Nat) (f : Field), fs[j]? = some f → P.underlying f.type = some (.int .i64)) (h : DataW.trod enc P w base spare held fuel t [.slice A len cap] = some x) :
    ∃ zs, Rd w s A len (ints zs) := by
  rcases open_slice ht h with ⟨hcs, _⟩ | ⟨a, l, c, m, n, D, Pl, hcs, hb, hl, hm, hmm, hx, hi⟩
  · simp at hcs
    obtain ⟨rfl, rfl, rfl⟩ := hcs
    exact ⟨[], by simp [ints], by omega, fun h => by omega⟩
  · simp at hcs
    obtain ⟨rfl, rfl, rfl⟩ := hcs
    have hlm : len ≤ m := by rw [hmm]; split <;> omega
    have key : ∀ q, q < len * s → ∃ z, w.cell? ((a.add (q / s * s)).add (q % s)) = some (.int .i64 z) := by
      intro q hq
      have hqs : q / s < len := Nat.div_lt_of_lt_mul (by rw [Nat.mul_comm]; exact hq)
      have hj : q % s < s := Nat.mod_lt q hpos
      obtain ⟨cs', hc, ht'⟩ := hi (q / s) (by omega)
      rw [hC] at hc
      obtain ⟨ys, n', _, _, hlen, hyl, hf⟩ := DataW.trod_struct he ht'
      obtain ⟨_, hcl, hat⟩ := World.cells?_some hc
      generalize q % s = j at *
      have hfj : fs[j]? = some (fs[j]'(by omega)) := Array.getElem?_eq_getElem (by omega)
      obtain ⟨ho, hk⟩ := hone_of hone j _ hfj
      have h1 := hf j _ hfj
      have hcj : cs'[j]? = some (cs'[j]'(by omega)) := List.getElem?_eq_getElem (by omega)
      have hyj : ys[j]? = some (ys[j]'(by omega)) := List.getElem?_eq_getElem (by omega)
      rw [ho, hk, List.drop_eq_getElem_cons (by omega), hyj] at h1
      obtain ⟨z, hz, _⟩ := DataW.trod_int (hint j _ hfj) h1
      simp only [List.take_succ_cons, List.take_zero, List.cons.injEq, and_true] at hz
      exact ⟨z, by rw [hat j hj, hcj, hz]⟩
    obtain ⟨zs, hz1, hz2⟩ := list_of (len * s) key
    unfold maxLen at hm
    refine ⟨zs, by rw [ints_length, hz1], by omega, fun h0 => ?_⟩
    have h00 : 0 < len * s := Nat.mul_pos h0 hpos
    obtain ⟨z0, hz0⟩ := key 0 h00
    have e0 : (a.add (0 / s * s)).add (0 % s) = a := by simp [Addr.add]
    rw [e0] at hz0
    obtain ⟨b, o, sp⟩ := a
    obtain rfl : sp = none := spot_none hz0
    refine ⟨b, o, rfl, fun i u hu => ?_⟩
    have hil : i < zs.length := by have := (List.getElem?_eq_some_iff.1 hu).1; rwa [ints_length] at this
    have hzi : zs[i]? = some zs[i] := List.getElem?_eq_getElem hil
    rw [ints_get hzi] at hu
    injection hu with hu
    subst hu
    have hc := hz2 i _ hzi
    have hadd : ∀ o k : Nat, (⟨b, o, none⟩ : Addr).add k = ⟨b, o + k, none⟩ := by intro o k; unfold Addr.add; split <;> simp_all
    rw [hadd, hadd] at hc
    rw [← hc]
    congr 2
    have := Nat.div_add_mod i s
    rw [Nat.mul_comm] at this
    omega
end
def pairs : List Int → List (Int × Int)
  | x :: y :: r => (x, y) :: pairs r
  | _ => []
theorem winds_pairs : ∀ (n : Nat) (zs : List Int), zs.length = n * 2 → winds (pairs zs) = ints zs := by
  intro n
  induction n with
  | zero =>
    intro zs h
    obtain rfl : zs = [] := List.eq_nil_of_length_eq_zero (by omega)
    rfl
  | succ n ih =>
    intro zs h
    match zs, h with
    | x :: y :: r, h =>
      have h' : r.length = n * 2 := by simp at h; omega
      have := ih r h'
      unfold pairs
      rw [show winds ((x, y) :: pairs r) = windC (x, y) ++ winds (pairs r) from rfl, this]
      rfl
    | [x], h => simp at h; omega
    | [], h => simp at h
theorem grid_of {H : Type} {enc : TypeId × Value → H} {w : World} {base : Nat} {spare : Nat → Bool} {held : Bool} {r : Reach} {b0 : Nat} {v : Value} {d : DataW H} {p : List MemPlace}
    (hv : Value.okWide Try.prog w r b0 24 v) (h : DataW.Trod enc Try.prog w base spare held 24 v d p) :
    ∃ (W K : Int) (A : Option Addr) (n c : Nat) (xs : List (Int × Int)), v = .agg #[.int .i64 W, .int .i64 K, .slice A n c] ∧ (Lit.int .i64 W).wf = true ∧ (Lit.int .i64 K).wf = true ∧ Rd w 2 A n (winds xs) := by
  obtain ⟨v0, v1, v2, y0, y1, y2, m, rfl, _, _, h0, h1, h2⟩ := open_agg3 Try.underlying24 (by kernel_rfl) (by kernel_rfl) hv h
  obtain ⟨W, e0, _, w0⟩ := DataW.trod_int Try.underlying2 h0
  obtain ⟨K, e1, _, w1⟩ := DataW.trod_int Try.underlying2 h1
  injection e0 with e0
  injection e1 with e1
  subst e0 e1
  have h2' := h2
  rcases DataW.trod_slice Try.underlying22 h2 with h3 | h3
  · obtain ⟨e2, _⟩ := h3
    injection e2 with e2
    subst e2
    exact ⟨W, K, none, 0, 0, [], rfl, w0, w1, by simp [winds], by omega, fun h => by omega⟩
  · obtain ⟨a, len, cap, _, _, _, _, e2, _⟩ := h3
    injection e2 with e2
    subst e2
    obtain ⟨zs, hz⟩ := rd_structs (s := 2) Try.underlying22 Try.underlying88 (by kernel_rfl) (by kernel_rfl) rfl (by decide) (fun j f hj => by
      match j, hj with
      | 0, hj => simp at hj; subst hj; exact Try.underlying2
      | 1, hj => simp at hj; subst hj; exact Try.underlying2
      | j + 2, hj => simp at hj) h2'
    have hl : zs.length = len * 2 := by have := hz.len; rwa [ints_length] at this
    exact ⟨W, K, some a, len, cap, pairs zs, rfl, w0, w1, by rw [winds_pairs len zs hl]; exact hz⟩
end Go.Proofs.Ytpaamhkgokkgpaa

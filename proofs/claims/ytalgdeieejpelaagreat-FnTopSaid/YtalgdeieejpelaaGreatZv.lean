/- What the law of a register's standing in any order wants. -/
import Derived.Test.YtalgdeieejpelaaGreatZu
import Derived.Test.YtalgdeieejpelaaGreatZmg
import Derived.Test.YtalgdeieejpelaaGreatZml
namespace Go.Proofs.YtalgdeieejpelaaGreat
open Go.RowKit Go.Sort
set_option linter.unusedVariables false
set_option maxRecDepth 100000

theorem specRegTab_good {b s : Int} {xs : List EntryT} (h : RegOk b s xs) {t : Tb} (ht : tabR b s xs = t) (A : Option Addr) (n c : Nat) (w : World) (hr : RegRd w A n c xs) :
    Calls Tryz.prog 30 #[.agg #[.int .i64 b, .int .i64 s, .slice A n c]] w (RetTC w (t, 0)) := by
  have := specRegisterTable_any b s A n c xs w hr
  unfold regTabC at this
  rw [if_pos h.regB, ht] at this
  exact this
theorem likeRows_same (A A' : Option Addr) (n c n' c' : Nat) (xs : List (List Int)) (w : World) (h : RdRows w A n xs) (h' : RdRows w A' n' xs) :
    Calls Tryz.prog 31 #[.slice A n c, .slice A' n' c'] w fun e w' => e = .returned (.bool true) ∧ Below w.heap.size w w' := by
  have := likeRows2_any A A' n c n' c' xs xs w h h'
  rw [decide_eq_true rfl] at this
  exact this.mono fun _ _ ⟨h1, h2⟩ => ⟨h1, h2.below⟩
theorem own_apart {w w' : World} {base e s n : Nat} {v : Value} {xs : List Value} (h : w.ownsRow base e s v n xs) {row : Option Nat} (hg : w.grownBy w' row) (hne : ∀ b, row = some b → v.ownBlock ≠ some b) : w'.ownsRow base e s v n xs :=
  h.kept hg (by
    cases row with
    | none => cases v.ownBlock <;> simp
    | some b => exact .inr (hne b rfl))
theorem pickE_get {xs : List EntryT} {p : List Int} {k j : Nat} {x : EntryT} (hp : p[k]? = some (j : Int)) (hx : xs[j]? = some x) : (pickE xs p)[k]? = some x := by
  unfold pickE
  rw [List.getElem?_map, hp, Option.map_some, Int.toNat_natCast, List.getD_eq_getElem?_getD, hx]
  rfl
theorem add_grow {b s : Int} {xs : List EntryT} (h : RegOk b s xs) {k : Nat} {x0 x1 x2 x3 x4 x5 x6 : Int} (hx : xs[k]? = some (x0, x1, x2, x3, x4, x5, x6)) (A : Option Addr) (n c : Nat) (w : World) (hr : RegRd w A n c (xs.take k)) :
    Calls Tryz.prog 29 #[.agg #[.int .i64 b, .int .i64 s, .slice A n c], .agg #[.int .i64 x0, .int .i64 x1, .int .i64 x2, .int .i64 x3, .int .i64 x4, .int .i64 x5, .int .i64 x6]] w fun e w' => ∃ A' c', e = .returned (.tuple #[.agg #[.int .i64 b, .int .i64 s, .slice A' (k + 1) c'], .int .i64 0]) ∧ w'.ownsRow w.heap.size 50 7 (.slice A' (k + 1) c') (k + 1) (ents (xs.take (k + 1))) ∧ Below w.heap.size w w' := by
  have hc := grow_code h hx
  obtain ⟨h1, h2, h3⟩ := add_vals hc
  have := implAddEntry_any b s A n c (xs.take k) x0 x1 x2 x3 x4 x5 x6 w hr
  rw [hc, h1, h2, h3, ← take_snoc_get hx] at this
  refine this.mono ?_
  rintro e w' ⟨A', n', c', rfl, ho, -, hb⟩
  have hl := own_len_flat entC_len (by decide) ho
  have hk := (List.getElem?_eq_some_iff.1 hx).1
  rw [List.length_take, Nat.min_eq_left (by omega)] at hl
  subst hl
  exact ⟨A', c', rfl, ho, hb⟩
theorem top_cell {b s : Int} {xs : List EntryT} (h : RegOk b s xs) {i k : Nat} {p0 pw qw : List Int} {x0 x y : Int} (h1 : (tab0 b s xs).pts[i]? = some p0) (h2 : (tabR b s xs).pts[i]? = some pw) (h3 : (tabR b s xs).cds[i]? = some qw) (h4 : p0[k]? = some x0) (h5 : pw[k]? = some x) (h6 : qw[k]? = some y) (hy : y ≠ 9) : x0 = x := by
  have := top_at h (i := i) (k := k) (by
    rw [List.getD_eq_getElem?_getD, List.getD_eq_getElem?_getD, h3]
    show (qw[k]?).getD 0 ≠ 9
    rw [h6]
    exact hy)
  rw [List.getD_eq_getElem?_getD, List.getD_eq_getElem?_getD, List.getD_eq_getElem?_getD, List.getD_eq_getElem?_getD, h1, h2] at this
  have e : (p0[k]?).getD 0 = (pw[k]?).getD 0 := this
  rw [h4, h5] at e
  exact e
theorem code_stand {t : Tb} {rule : List Int} (ok : TabOk t) (hr : ruleB rule = true) {a : Int} (h0 : 0 ≤ a) (h1 : a < t.boats) : codeT t rule a = 0 := by
  unfold codeT
  rw [if_pos ok.tableB, if_pos ⟨hr, withinB_iff.2 ⟨h0, by omega⟩⟩]
end Go.Proofs.YtalgdeieejpelaaGreat

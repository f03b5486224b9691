/- Appends: rows to rows, numbers to numbers, at a step of a drawn region and in a plain one; slices.Clone. -/
import Derived.Test.YtalgdeieejpelaaWy
import Derived.Test.YtalgdeieejpelaaBx
import Derived.Deep.AppendLies
import Derived.Lib.BufferMore
namespace Go.Proofs.Ytalgdeieejpelaa
open Go.RowKit
set_option linter.unusedVariables false
set_option maxRecDepth 100000

theorem one_news {w : World} {ad : Addr} {v : Value} (hc : w.cell? ad = some v) : ∀ (j : Nat) (u : Value), [v][j]? = some u → w.cell? (ad.add j) = some u := by
  intro j u hu
  have hj : j = 0 := by
    rcases j with _ | j
    · rfl
    · simp at hu
  subst hj
  have hadd : ad.add 0 = ad := by simp [Addr.add]
  rw [hadd, hc]
  simpa using hu
theorem ints_one (k : IntKind) (ys : List Int) : ∀ u ∈ ints ys, u.oneCell' = true := by
  intro u hu
  unfold ints at hu
  obtain ⟨y, _, rfl⟩ := List.mem_map.1 hu
  rfl
theorem ints_news {w : World} {b o m : Nat} {ys : List Int} (h : Rd w 1 (some ⟨b, o, none⟩) m (ints ys)) : ∀ (j : Nat) (u : Value), (ints ys)[j]? = some u → w.cell? ((⟨b, o, none⟩ : Addr).add j) = some u := by
  intro j u hu
  have hl := h.len
  have hj := (List.getElem?_eq_some_iff.1 hu).1
  obtain ⟨b', o', e, hc⟩ := h.pos (by omega)
  injection e with e
  injection e with e1 e2
  subst e1 e2
  have hadd : (⟨b, o, none⟩ : Addr).add j = ⟨b, o + j, none⟩ := by unfold Addr.add; split <;> simp_all
  rw [hadd]
  exact hc j u hu
/-- Numbers are appended to a slice without room: the result lies in a new block, nothing else changes. -/
theorem run_fresh (w : World) (ty : TypeId) (e0 : Addr) {b f m d : Nat} {ys : List Int} (hr : Rd w 1 (some ⟨b, f, none⟩) m (ints ys)) (hm : 0 < m) (hn : m ≤ 1099511627776) :
    ∃ cap w', (Builtin.append_ #[26, 26] ty #[.slice (some e0) 0 0, .slice (some ⟨b, f, none⟩) m d]).run Try.prog w = .ok (.slice (some ⟨w.heap.size, 0, none⟩) m cap) w' ∧
      w'.ownsRow w.heap.size 2 1 (.slice (some ⟨w.heap.size, 0, none⟩) m cap) m (ints ys) ∧ Below w.heap.size w w' ∧ w.heap.size < w'.heap.size := by
  obtain ⟨i, hi, hz, hs1, hb1⟩ := info_parts Try.info_i64
  have hl := hr.len
  have hl1 : (ints ys).length = m * i.size := by rw [hs1, hl]
  have hx := run_append_grow (P := Try.prog) w 26 ty 2 i (.int .i64 0) Try.underlying26 hi hz e0 0 0 [] (by simp) (fun j v h => by simp at h) ⟨b, f, none⟩ m d (ints ys) hl1 (ints_news hr) (by omega) (by omega) (growslice_fits (by omega) (by rw [hb1]; omega))
  rw [Nat.zero_add] at hx
  refine ⟨_, _, hx, ⟨hl, .inr ⟨w.heap.size, _, _, rfl, Nat.le_refl _, heap_alloc_new _ _, grownCap_ge _ _ _ _, grownCap_le_maxLen _ _ _ _ (by unfold maxLen; omega), ?_, ?_⟩⟩, (below_drewN' _ w 1).alloc (Nat.le_refl _) _, by simp⟩
  · have hg := grownCap_ge w m 0 2
    simp [Builtin.zeroCells, Value.cells, hl]
    omega
  · have hl' : (ints ys).length = m := by rw [hl, Nat.mul_one]
    rw [Nat.mul_one, Array.toList_append, Array.toList_append, List.append_assoc]
    have e : ([] : List Value).toArray.toList = [] := rfl
    rw [e, List.nil_append, List.take_append_of_le_length (by rw [List.toList_toArray, hl']; exact Nat.le_refl _), List.toList_toArray, List.take_of_length_le (by rw [hl']; exact Nat.le_refl _)]
section
variable {ops : Array Oper} {rest : List Oper} {o : Oper} {a : Act} {K : Act → World → Prop} {Q : Exit → Act → World → Prop} {E : Prop}
/-- One row is appended, at a step of a drawn region. -/
theorem step_row (w : World) (hgd : o.guard = none) (s x : Operand)
    (ho : o.op = .call { callee := .builtin .append, args := #[s, x], argTypes := #[22, 22] }) {base n c : Nat} {A : Option Addr} {vs : List Value}
    (hs : a.eval s = .slice A n c) (hown : w.ownsRow base 26 1 (.slice A n c) n vs) {ad : Addr} {B : Option Addr} {m d : Nat} (hx : a.eval x = .slice (some ad) 1 1)
    (hc : w.cell? ad = some (.slice B m d)) (hn : n ≤ 1099511627776) (hbase : base ≤ w.heap.size)
    (h : ∀ g c' w', w'.ownsRow base 26 1 (.slice (some ⟨g, 0, none⟩) (n + 1) c') (n + 1) (vs ++ [.slice B m d]) → w.grownBy w' (Value.slice A n c).ownBlock → ((Value.slice A n c).ownBlock = some g ∨ g = w.heap.size) → g < w'.heap.size → K (a.put o.dst (.slice (some ⟨g, 0, none⟩) (n + 1) c')) w') :
    if Region.wanted o (yielded ops a.tmps) = true then Oper.wp Try.prog o a w K Q else E := by
  obtain ⟨i, hi, hz, hs1, hb1⟩ := info_parts Try.info_ints
  exact step_append_lies w hgd s x 22 ho base 26 i (.slice none 0 0) 1 24 Try.underlying22 hi hz hs1 hb1 rfl (by decide) (.slice A n c) n vs hs hown ad 1 1 [.slice B m d] hx rfl (one_news hc)
    (by intro u hu; simp at hu; subst hu; rfl) (by decide) (by unfold maxLen; omega) (by omega) hbase _ rfl h
/-- Numbers are appended, at a step of a drawn region; the source is not empty. -/
theorem step_ints (w : World) (hgd : o.guard = none) (s x : Operand)
    (ho : o.op = .call { callee := .builtin .append, args := #[s, x], argTypes := #[26, 26] }) {base n c : Nat} {A : Option Addr} {xs : List Int}
    (hs : a.eval s = .slice A n c) (hown : w.ownsRow base 2 1 (.slice A n c) n (ints xs)) {b f m d : Nat} {ys : List Int} (hx : a.eval x = .slice (some ⟨b, f, none⟩) m d)
    (hr : Rd w 1 (some ⟨b, f, none⟩) m (ints ys)) (hm : 0 < m) (hn : n + m ≤ 1099511627776) (hbase : base ≤ w.heap.size) (N' : Nat) (hN' : n + m = N')
    (h : ∀ g c' w', w'.ownsRow base 2 1 (.slice (some ⟨g, 0, none⟩) N' c') N' (ints (xs ++ ys)) → w.grownBy w' (Value.slice A n c).ownBlock → ((Value.slice A n c).ownBlock = some g ∨ g = w.heap.size) → g < w'.heap.size → K (a.put o.dst (.slice (some ⟨g, 0, none⟩) N' c')) w') :
    if Region.wanted o (yielded ops a.tmps) = true then Oper.wp Try.prog o a w K Q else E := by
  subst hN'
  obtain ⟨i, hi, hz, hs1, hb1⟩ := info_parts Try.info_i64
  exact step_append_lies w hgd s x 26 ho base 2 i (.int .i64 0) 1 8 Try.underlying26 hi hz hs1 hb1 rfl (by decide) (.slice A n c) n (ints xs) hs hown ⟨b, f, none⟩ m d (ints ys) hx (by have := hr.len; omega) (ints_news hr)
    (ints_one .i64 ys) hm (by unfold maxLen; omega) (by omega) hbase _ rfl (by rw [← ints_append]; exact h)
/-- Numbers are appended, in a plain region. -/
theorem app_ints (w : World) (hgd : o.guard = none) (s x : Operand)
    (ho : o.op = .call { callee := .builtin .append, args := #[s, x], argTypes := #[26, 26] }) {base n c : Nat} {A : Option Addr} {xs : List Int}
    (hs : a.eval s = .slice A n c) (hown : w.ownsRow base 2 1 (.slice A n c) n (ints xs)) {b f m d : Nat} {ys : List Int} (hx : a.eval x = .slice (some ⟨b, f, none⟩) m d)
    (hr : Rd w 1 (some ⟨b, f, none⟩) m (ints ys)) (hm : 0 < m) (hn : n + m ≤ 1099511627776) (hbase : base ≤ w.heap.size) (N' : Nat) (hN' : n + m = N')
    (h : ∀ g c' w', w'.ownsRow base 2 1 (.slice (some ⟨g, 0, none⟩) N' c') N' (ints (xs ++ ys)) → w.grownBy w' (Value.slice A n c).ownBlock → ((Value.slice A n c).ownBlock = some g ∨ g = w.heap.size) → g < w'.heap.size → wpList Try.prog ops Q rest (a.put o.dst (.slice (some ⟨g, 0, none⟩) N' c')) w') :
    wpList Try.prog ops Q (o :: rest) a w := by
  subst hN'
  obtain ⟨i, hi, hz, hs1, hb1⟩ := info_parts Try.info_i64
  exact wpList_append_lies w hgd s x 26 ho base 2 i (.int .i64 0) 1 8 Try.underlying26 hi hz hs1 hb1 rfl (by decide) (.slice A n c) n (ints xs) hs hown ⟨b, f, none⟩ m d (ints ys) hx (by have := hr.len; omega) (ints_news hr)
    (ints_one .i64 ys) hm (by unfold maxLen; omega) (by omega) hbase _ rfl (by rw [← ints_append]; exact h)
/-- Numbers are appended to a slice without room, at a step of a drawn region. -/
theorem step_fresh (w : World) (hgd : o.guard = none) (s x : Operand)
    (ho : o.op = .call { callee := .builtin .append, args := #[s, x], argTypes := #[26, 26] }) {e0 : Addr}
    (hs : a.eval s = .slice (some e0) 0 0) {b f m d : Nat} {ys : List Int} (hx : a.eval x = .slice (some ⟨b, f, none⟩) m d)
    (hr : Rd w 1 (some ⟨b, f, none⟩) m (ints ys)) (hm : 0 < m) (hn : m ≤ 1099511627776)
    (h : ∀ c' w', w'.ownsRow w.heap.size 2 1 (.slice (some ⟨w.heap.size, 0, none⟩) m c') m (ints ys) → Below w.heap.size w w' → w.heap.size < w'.heap.size → K (a.put o.dst (.slice (some ⟨w.heap.size, 0, none⟩) m c')) w') :
    if Region.wanted o (yielded ops a.tmps) = true then Oper.wp Try.prog o a w K Q else E := by
  have hw : Region.wanted o (yielded ops a.tmps) = true := by simp [Region.wanted, hgd]
  rw [if_pos hw]
  obtain ⟨cap, w', hrun, h1, h2, h3⟩ := run_fresh w o.type e0 (d := d) hr hm hn
  unfold Oper.wp execOp
  simp only [ho, resolve, invoke, builtin, Sem.run_bind, Sem.run_pure, Result.andThen_ok, List.map_toArray, List.map_cons, List.map_nil, hs, hx, hrun]
  exact h cap w' h1 h2 h3
/-- One row is appended, in a plain region. -/
theorem app_rows (w : World) (hgd : o.guard = none) (s x : Operand)
    (ho : o.op = .call { callee := .builtin .append, args := #[s, x], argTypes := #[22, 22] }) {base n c : Nat} {A : Option Addr} {vs : List Value}
    (hs : a.eval s = .slice A n c) (hown : w.ownsRow base 26 1 (.slice A n c) n vs) {ad : Addr} {B : Option Addr} {m d : Nat} (hx : a.eval x = .slice (some ad) 1 1)
    (hc : w.cell? ad = some (.slice B m d)) (hn : n ≤ 1099511627776) (hbase : base ≤ w.heap.size)
    (h : ∀ g c' w', w'.ownsRow base 26 1 (.slice (some ⟨g, 0, none⟩) (n + 1) c') (n + 1) (vs ++ [.slice B m d]) → w.grownBy w' (Value.slice A n c).ownBlock → ((Value.slice A n c).ownBlock = some g ∨ g = w.heap.size) → g < w'.heap.size → wpList Try.prog ops Q rest (a.put o.dst (.slice (some ⟨g, 0, none⟩) (n + 1) c')) w') :
    wpList Try.prog ops Q (o :: rest) a w := by
  obtain ⟨i, hi, hz, hs1, hb1⟩ := info_parts Try.info_ints
  exact wpList_append_lies w hgd s x 22 ho base 26 i (.slice none 0 0) 1 24 Try.underlying22 hi hz hs1 hb1 rfl (by decide) (.slice A n c) n vs hs hown ad 1 1 [.slice B m d] hx rfl (one_news hc)
    (by intro u hu; simp at hu; subst hu; rfl) (by decide) (by unfold maxLen; omega) (by omega) hbase _ rfl h
end
/-- A new copy of numbers that are not none. -/
def RetNew (w : World) (xs : List Int) (e : Ending) (w' : World) : Prop :=
  ∃ g c, e = .returned (.slice (some ⟨g, 0, none⟩) xs.length c) ∧ w'.ownsRow w.heap.size 2 1 (.slice (some ⟨g, 0, none⟩) xs.length c) xs.length (ints xs) ∧ w.heap.size ≤ g ∧ Below w.heap.size w w'
theorem clone_any (b f c : Nat) (xs : List Int) (w : World) (h : Rd w 1 (some ⟨b, f, none⟩) xs.length (ints xs)) (h0 : 0 < xs.length) (h1 : xs.length ≤ 1048576) :
    Calls Try.prog 52 #[.slice (some ⟨b, f, none⟩) xs.length c] w (RetNew w xs) := by
  have HO := Lib.hid (own_empty w w.heap.size 2 (Nat.le_refl _))
  have HR := Lib.hid (h.below ((Below.refl _ _).alloc (Nat.le_refl _) (.cells #[] 2)))
  have hnil : ∀ W, (binOp .eql 26 (.slice (some ⟨b, f, none⟩) xs.length c) (.slice none 0 0)).run Try.prog W = .ok (.bool false) W := fun W => Lib.run_eql_slice_some_nil W _ _ _ Try.underlying26
  clear h
  go_enter Try.func52, Try.ntmps52
  go_wp2_with (at_builtin; refine app_ints _ rfl _ _ rfl (xs := []) rfl HO.out rfl HR.out h0 (by omega) (by simp) xs.length (by omega) ?_; intro g1 c1 w1 ho1 hg1 hw1 hl1)
  have HO1 := Lib.hid ho1; have HG1 := Lib.hid hg1; have HW1 := Lib.hid hw1
  clear ho1 hg1 hw1
  go_wp2_with fail
  go_ret
  refine ⟨g1, c1, rfl, by simpa using HO1.out, (HO1.out.lt g1 rfl).1, ?_⟩
  exact ((Below.refl _ _).alloc (Nat.le_refl _) _).grown HG1.out (by simp) (fun k hk => by simp [Value.ownBlock] at hk; omega)
end Go.Proofs.Ytalgdeieejpelaa

/- Walks: drawn orders. -/
import Derived.Test.YtfkllgnenbbccaaMeo
import Derived.Test.YtfkllgnenbbccaaWd
namespace Go.Proofs.Ytfkllgnenbbccaa
open Go.RowKit
set_option linter.unusedVariables false
set_option maxRecDepth 100000

theorem chg_grown {lo hi : Nat} {a w w' : World} {row : Option Nat} (h : Chg lo hi a w) (hg : w.grownBy w' row) (hr : ∀ k, row = some k → a.heap.size ≤ k) : Chg lo hi a w' :=
  ⟨hg.os.trans h.os, hg.tape.trans h.tape, hg.output.trans h.output, Nat.le_trans h.size hg.size, fun k hk hn => (hg.block k (Nat.lt_of_lt_of_le hk h.size) (fun e => by have := hr k e.symm; omega)).trans (h.block k hk hn)⟩
theorem chg_alloc {lo hi : Nat} {a w : World} (h : Chg lo hi a w) (o : Obj) : Chg lo hi a (w.alloc o) := chg_grown h (World.grownBy_alloc w o none) (fun k e => by cases e)
theorem chg_below {lo hi : Nat} {a w w' : World} (h : Chg lo hi a w) (k : Below w.heap.size w w') : Chg lo hi a w' := h.trans (Chg.of_below k)
theorem Src.grown {w0 w w' : World} {A : Option Addr} {n cap : Nat} {code : List Int} {g : Nat} {s : St} {row : Option Nat} (h : Src w0 w A n cap code g s) (hg : w.grownBy w' row) (hr : ∀ k, row = some k → g < k) : Src w0 w' A n cap code g s :=
  ⟨(hg.block g h.lt (fun e => by have := hr g e.symm; omega)).trans h.blk, h.old, h.bel.grown hg h.bel.size (fun k e => by have := hr k e; have := h.old; omega), h.ok⟩
theorem Src.alloc {w0 w : World} {A : Option Addr} {n cap : Nat} {code : List Int} {g : Nat} {s : St} (h : Src w0 w A n cap code g s) (o : Obj) : Src w0 (w.alloc o) A n cap code g s := h.grown (World.grownBy_alloc w o none) (fun k e => by cases e)
theorem own_ne_chg {g : Nat} {w w' : World} {base e s n : Nat} {v : Value} {xs : List Value} (h : w.ownsRow base e s v n xs) (k : Chg g (g + 1) w w') (hb : g < base) : w'.ownsRow base e s v n xs :=
  own_chg h k (fun b hv => by have := (h.lt b hv).1; omega)

/-- Numbers are appended to an own row; the source is not nil. -/
theorem app_src {ops : Array Oper} {rest : List Oper} {o : Oper} {a : Act} {Q : Exit → Act → World → Prop} (w : World) (hgd : o.guard = none) (s x : Operand)
    (ho : o.op = .call { callee := .builtin .append, args := #[s, x], argTypes := #[22, 22] }) {base n c : Nat} {g0 : Addr} {xs : List Int}
    (hs : a.eval s = .slice (some g0) n c) (hown : w.ownsRow base 2 1 (.slice (some g0) n c) n (ints xs)) {ad : Addr} {m d : Nat} {ys : List Int} (hx : a.eval x = .slice (some ad) m d) (N' : Nat) (hN' : n + m = N') (zs : List Int) (hzs : xs ++ ys = zs) (hy : ys.length = m)
    (hc : ∀ (j : Nat) (y : Int), ys[j]? = some y → w.cell? (ad.add j) = some (.int .i64 y)) (hn : n + m ≤ 1099511627776) (hbase : base ≤ w.heap.size)
    (h : ∀ g1 c' w', w'.ownsRow base 2 1 (.slice (some ⟨g1, 0, none⟩) N' c') N' (ints zs) → w.grownBy w' (some g0.block) → wpList Try.prog ops Q rest (a.put o.dst (.slice (some ⟨g1, 0, none⟩) N' c')) w') :
    wpList Try.prog ops Q (o :: rest) a w := by
  subst hN' hzs
  obtain ⟨i, hi, hz, hs1, hb1⟩ := info_parts Try.info_i64
  refine wpList_append_own w hgd s x 22 ho base 2 i (.int .i64 0) 1 8 Try.underlying22 hi hz hs1 hb1 rfl (by decide) (.slice (some g0) n c) n (ints xs) hs hown ad m d (ints ys) hx (by rw [ints_length, hy, Nat.mul_one]) ?_ (ints_oneCell _ _) (by unfold maxLen; omega) (by omega) hbase ?_
  · intro j u hu
    unfold ints at hu
    rw [List.getElem?_map] at hu
    cases hj : ys[j]? with
    | none => rw [hj] at hu; cases hu
    | some y => rw [hj] at hu; injection hu with hu; subst hu; exact hc j y hj
  · intro v' w' h1 h2 h3
    rw [← ints_append] at h1
    rcases h1.2 with ⟨rfl, h0⟩ | ⟨g, cap, cur, rfl, _⟩
    · have := h3.1 rfl
      cases this.1
    · exact h _ _ w' h1 h2

/-- New integers are drawn. -/
def RetD (w0 w : World) (A : Option Addr) (n cap : Nat) (code : List Int) (g : Nat) (r : List Int × St) (e : Ending) (w' : World) : Prop :=
  ∃ g1 m c, e = .returned (.slice (some ⟨g1, 0, none⟩) m c) ∧ w'.ownsRow w.heap.size 2 1 (.slice (some ⟨g1, 0, none⟩) m c) m (ints r.1) ∧ Src w0 w' A n cap code g r.2 ∧ Chg g (g + 1) w w'

theorem own_some {w : World} {base e n c : Nat} {a : Addr} {xs : List Value} (h : w.ownsRow base e 1 (.slice (some a) n c) n xs) : ∃ g, a = ⟨g, 0, none⟩ ∧ n ≤ c ∧ base ≤ g ∧ g < w.heap.size := by
  rcases h.2 with ⟨hv, _⟩ | ⟨g, cap, cur, hv, hb, hg, hnc, _⟩
  · cases hv
  · injection hv with h1 _ h2
    injection h1 with h1
    subst h1 h2
    exact ⟨g, rfl, hnc, hb, (Array.getElem?_eq_some_iff.1 hg).1⟩

theorem own_cells {w : World} {base e n c g : Nat} {xs : List Int} (h : w.ownsRow base e 1 (.slice (some ⟨g, 0, none⟩) n c) n (ints xs)) (v : Nat) :
    (∀ (j : Nat) (y : Int), (xs.take v)[j]? = some y → w.cell? ((⟨g, 0, none⟩ : Addr).add j) = some (.int .i64 y)) ∧ (∀ (j : Nat) (y : Int), (xs.drop v)[j]? = some y → w.cell? ((⟨g, v, none⟩ : Addr).add j) = some (.int .i64 y)) := by
  have hc := h.cells (g := g) rfl
  refine ⟨fun j y hy => ?_, fun j y hy => ?_⟩
  · rw [List.getElem?_take] at hy
    split at hy
    · exact hc j _ (ints_get hy)
    · cases hy
  · rw [List.getElem?_drop] at hy
    have := hc (v + j) _ (ints_get hy)
    have e1 : (⟨g, 0, none⟩ : Addr).add (v + j) = ⟨g, v + j, none⟩ := by unfold Addr.add; split <;> simp_all
    have e2 : (⟨g, v, none⟩ : Addr).add j = ⟨g, v + j, none⟩ := by unfold Addr.add; split <;> simp_all
    rw [e2, ← e1]; exact this
theorem own_keep1 {w w' : World} {base e s n gb : Nat} {v : Value} {xs : List Value} (h : w.ownsRow base e s v n xs) (hg : w.grownBy w' (some gb)) (hv : ∀ b, v.ownBlock = some b → b < gb) : w'.ownsRow base e s v n xs :=
  h.kept hg (by
    rcases hb : v.ownBlock with _ | b
    · exact .inl rfl
    · refine .inr (fun e => ?_)
      injection e with e
      have := hv b hb
      omega)

theorem orderD_any (w0 : World) (A : Option Addr) (n cap : Nat) (code : List Int) (hcode : Code0 w0 A n code) (g : Nat) (s : St) (N : Nat) (hN : N ≤ 1000) (w : World) (h : Src w0 w A n cap code g s) :
    Calls Try.prog 61 #[.pointer (some ⟨g, 0, none⟩), .int .i64 (N : Int)] w (RetD w0 w A n cap code g (orderD code N s)) := by
  have hgl := h.lt
  go_enter Try.func61, Try.ntmps61
  go_wp2_with fail
  go_loopw [5, 6] (fun v i wr => ∃ (k g1 c' : Nat) (out : List Int) (s' : St), k ≤ N ∧ i = .int .i64 k ∧ v = .slice (some ⟨g1, 0, none⟩) k c' ∧ wr.ownsRow w.heap.size 2 1 (.slice (some ⟨g1, 0, none⟩) k c') k (ints out) ∧ orderGo code (N - k) k out s' = orderD code N s ∧ Src w0 wr A n cap code g s' ∧ Chg g (g + 1) w wr) (fun _ i _ => N - (intOf i).toNat)
  case atStart => exact ⟨0, _, _, [], s, Nat.zero_le _, rfl, rfl, own_empty _ _ _ (Nat.le_refl _), rfl, h.alloc _, chg_alloc (Chg.refl _ _ _) _⟩
  case round =>
    obtain ⟨k, g1, c', out, s', hk, rfl, rfl, ho, hr, hs, hc⟩ := hrel
    have HR := Lib.hid hr; clear hr
    by_cases hlt : k < N
    · have hnx := next_any w0 A n cap code hcode g s' ((k : Int) + 1) (by omega) wr hs
      have hvb := nextF_bd code s' ((k : Int) + 1) (by omega)
      have hgo : orderGo code (N - k) k out s' = orderGo code (N - (k + 1)) (k + 1) (out.take (nextF code s' ((k : Int) + 1)).1.toNat ++ [(k : Int)] ++ out.drop (nextF code s' ((k : Int) + 1)).1.toNat) (nextF code s' ((k : Int) + 1)).2 := by
        have e : N - k = (N - (k + 1)) + 1 := by omega
        rw [e, orderGo]
      have HGO := Lib.hid hgo; clear hgo
      generalize nextF code s' ((k : Int) + 1) = r at *
      obtain ⟨v, s1⟩ := r
      simp only at hvb HGO
      obtain ⟨v, rfl⟩ := int_up v hvb.1
      have hvk : v ≤ k := by omega
      rw [Int.toNat_natCast] at HGO
      have HNX := Lib.hid hnx; clear hnx hvb
      go_wp2_with fail
      refine HNX.out.mono ?_
      rintro e w1 ⟨rfl, hs1, hc1⟩
      have ho1 := own_ne_chg ho hc1 hgl
      have hcc := hc.trans hc1
      have hl1 := own_len ho1
      obtain ⟨g1', hg1', hkc, hb1, hb2⟩ := own_some ho1
      obtain rfl : g1 = g1' := by injection hg1'
      have hsz := hcc.size
      have HC := Lib.hid hcc; have HS1 := Lib.hid hs1; have HO := Lib.hid ho1; have HL := Lib.hid hl1
      clear ho hc hc1 hs hg1' hcc hs1 ho1 hl1
      have hlto := HO.out.lt
      obtain ⟨hct, _⟩ := own_cells HO.out v
      have HCT := Lib.hid hct; have HLTO := Lib.hid hlto
      clear hct hlto
      have tok1 : True := trivial
      have tok2 : True := trivial
      have tok3 : True := trivial
      by_cases hcap : c' = v
      · obtain rfl : k = v := by omega
        go_wp2_with (first | (at_builtin; have _t := tok1; refine app_src _ rfl _ _ rfl (xs := []) rfl (own_empty w1 w1.heap.size _ (Nat.le_refl _)) (ys := out.take k) rfl k (Nat.zero_add _) (out.take k) (List.nil_append _) (by rw [List.length_take, HL.out]; omega) (fun j y hy => Keeps.below ((Below.refl _ _).alloc (Nat.le_refl _) _) _ _ (HCT.out j y hy)) (by omega) (by simp) ?_; intro g2 c2 w2 ho2 hgr2; clear tok1; have hl2 := ho2.lt; have hO2 := own_keep1 (HO.out.alloc (.cells #[] 2)) hgr2 (fun b hb => (HLTO.out b hb).2); have hz2 : w1.heap.size < w2.heap.size := by have h0 := hgr2.size; simp at h0; omega) | (at_builtin; have _t := tok2; refine app_i64 _ rfl _ _ rfl rfl (ho2.alloc _) rfl (cell_new1 _ _ _) (by omega) (by simp; omega) ?_; intro A3 c3 w3 ho3 hgr3; clear tok2; obtain ⟨g3, _, rfl, _, hg3b, _⟩ := own_at ho3 (k := 0) (by omega); have hO3 := own_keep1 (hO2.alloc (.cells #[.int .i64 (k : Int)] 2)) hgr3 (fun b hb => by have h1 := (HLTO.out b hb).2; have h2 := (hl2 g2 rfl).1; show b < g2; omega); have hz3 : w2.heap.size < w3.heap.size := by have h0 := hgr3.size; simp at h0; omega) | (at_builtin; have _t := tok3; refine app_src _ rfl _ _ rfl rfl ho3 (ys := out.drop k) rfl (k + 1) (by omega) (out.take k ++ [(k : Int)] ++ out.drop k) rfl (by have h0 := HL.out; rw [List.length_drop]; omega) (fun j y hy => by rw [List.drop_eq_nil_of_le (by rw [HL.out]; omega)] at hy; simp at hy) (by omega) (by omega) ?_; intro g4 c4 w4 ho4 hgr4; clear tok3))
        have hl3 := ho3.lt
        have s2 : Src w0 w2 A n cap code g s1 := (HS1.out.alloc (.cells #[] 2)).grown hgr2 (fun q e => by injection e with e; subst e; show g < w1.heap.size; omega)
        have s3 : Src w0 w3 A n cap code g s1 := (s2.alloc (.cells #[.int .i64 (k : Int)] 2)).grown hgr3 (fun q e => by injection e with e; subst e; have h2 := (hl2 g2 rfl).1; show g < g2; omega)
        have s4 : Src w0 w4 A n cap code g s1 := s3.grown hgr4 (fun q e => by injection e with e; subst e; have h2 := (hl3 g3 rfl).1; show g < g3; omega)
        have t2 : Chg g (g + 1) w w2 := chg_grown (chg_alloc HC.out (.cells #[] 2)) hgr2 (fun q e => by injection e with e; subst e; exact hsz)
        have t3 : Chg g (g + 1) w w3 := chg_grown (chg_alloc t2 (.cells #[.int .i64 (k : Int)] 2)) hgr3 (fun q e => by injection e with e; subst e; have h2 := (hl2 g2 rfl).1; show w.heap.size ≤ g2; omega)
        have t4 : Chg g (g + 1) w w4 := chg_grown t3 hgr4 (fun q e => by injection e with e; subst e; have h2 := (hl3 g3 rfl).1; show w.heap.size ≤ g3; omega)
        have S4 := Lib.hid s4; have T4 := Lib.hid t4; have O4 := Lib.hid (own_base ho4 hsz)
        clear s2 s3 s4 t2 t3 t4 ho4 ho3 ho2 hgr2 hgr3 hgr4 hl2 hl3 hO2 hO3
        go_wp2_with fail
        go_roundw
        case rel => exact ⟨k + 1, g4, c4, _, _, by omega, by go_num, rfl, O4.out, by rw [← HR.out, HGO.out], S4.out, T4.out⟩
        case measure => simp [intOf]; omega
      · go_wp2_with (first | (at_builtin; have _t := tok1; refine app_src _ rfl _ _ rfl (xs := []) rfl (own_empty w1 w1.heap.size _ (Nat.le_refl _)) (ys := out.take v) rfl v (Nat.zero_add _) (out.take v) (List.nil_append _) (by rw [List.length_take, HL.out]; omega) (fun j y hy => Keeps.below ((Below.refl _ _).alloc (Nat.le_refl _) _) _ _ (HCT.out j y hy)) (by omega) (by simp) ?_; intro g2 c2 w2 ho2 hgr2; clear tok1; have hl2 := ho2.lt; have hO2 := own_keep1 (HO.out.alloc (.cells #[] 2)) hgr2 (fun b hb => (HLTO.out b hb).2); have hz2 : w1.heap.size < w2.heap.size := by have h0 := hgr2.size; simp at h0; omega) | (at_builtin; have _t := tok2; refine app_i64 _ rfl _ _ rfl rfl (ho2.alloc _) rfl (cell_new1 _ _ _) (by omega) (by simp; omega) ?_; intro A3 c3 w3 ho3 hgr3; clear tok2; obtain ⟨g3, _, rfl, _, hg3b, _⟩ := own_at ho3 (k := 0) (by omega); have hO3 := own_keep1 (hO2.alloc (.cells #[.int .i64 (k : Int)] 2)) hgr3 (fun b hb => by have h1 := (HLTO.out b hb).2; have h2 := (hl2 g2 rfl).1; show b < g2; omega); have hz3 : w2.heap.size < w3.heap.size := by have h0 := hgr3.size; simp at h0; omega) | (at_builtin; have _t := tok3; refine app_src _ rfl _ _ rfl rfl ho3 (ys := out.drop v) rfl (k + 1) (by omega) (out.take v ++ [(k : Int)] ++ out.drop v) rfl (by have h0 := HL.out; rw [List.length_drop]; omega) (own_cells hO3 v).2 (by omega) (by omega) ?_; intro g4 c4 w4 ho4 hgr4; clear tok3))
        have hl3 := ho3.lt
        have s2 : Src w0 w2 A n cap code g s1 := (HS1.out.alloc (.cells #[] 2)).grown hgr2 (fun q e => by injection e with e; subst e; show g < w1.heap.size; omega)
        have s3 : Src w0 w3 A n cap code g s1 := (s2.alloc (.cells #[.int .i64 (k : Int)] 2)).grown hgr3 (fun q e => by injection e with e; subst e; have h2 := (hl2 g2 rfl).1; show g < g2; omega)
        have s4 : Src w0 w4 A n cap code g s1 := s3.grown hgr4 (fun q e => by injection e with e; subst e; have h2 := (hl3 g3 rfl).1; show g < g3; omega)
        have t2 : Chg g (g + 1) w w2 := chg_grown (chg_alloc HC.out (.cells #[] 2)) hgr2 (fun q e => by injection e with e; subst e; exact hsz)
        have t3 : Chg g (g + 1) w w3 := chg_grown (chg_alloc t2 (.cells #[.int .i64 (k : Int)] 2)) hgr3 (fun q e => by injection e with e; subst e; have h2 := (hl2 g2 rfl).1; show w.heap.size ≤ g2; omega)
        have t4 : Chg g (g + 1) w w4 := chg_grown t3 hgr4 (fun q e => by injection e with e; subst e; have h2 := (hl3 g3 rfl).1; show w.heap.size ≤ g3; omega)
        have S4 := Lib.hid s4; have T4 := Lib.hid t4; have O4 := Lib.hid (own_base ho4 hsz)
        clear s2 s3 s4 t2 t3 t4 ho4 ho3 ho2 hgr2 hgr3 hgr4 hl2 hl3 hO2 hO3
        go_wp2_with fail
        go_roundw
        case rel => exact ⟨k + 1, g4, c4, _, _, by omega, by go_num, rfl, O4.out, by rw [← HR.out, HGO.out], S4.out, T4.out⟩
        case measure => simp [intOf]; omega
    · obtain rfl : k = N := by omega
      rw [Nat.sub_self, orderGo] at HR
      go_wp2_with fail
      go_ret
      exact ⟨_, _, _, rfl, by rw [← HR.out]; exact ho, by rw [← HR.out]; exact hs, hc⟩

end Go.Proofs.Ytfkllgnenbbccaa

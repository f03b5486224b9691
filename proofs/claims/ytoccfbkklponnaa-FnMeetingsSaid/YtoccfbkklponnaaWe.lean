/- Walks: drawn orders. -/
import Derived.Test.YtoccfbkklponnaaMe
import Derived.Test.YtoccfbkklponnaaWd
namespace Go.Proofs.Ytoccfbkklponnaa
open Go.RowKit
set_option linter.unusedVariables false
set_option maxRecDepth 100000

theorem chg_grown {lo hi : Nat} {a w w' : World} {row : Option Nat} (h : Chg lo hi a w) (hg : w.grownBy w' row) (hr : ∀ k, row = some k → a.heap.size ≤ k) : Chg lo hi a w' :=
  ⟨hg.os.trans h.os, hg.tape.trans h.tape, hg.output.trans h.output, Nat.le_trans h.size hg.size, fun k hk hn => (hg.block k (Nat.lt_of_lt_of_le hk h.size) (fun e => by have := hr k e.symm; omega)).trans (h.block k hk hn)⟩
theorem chg_alloc {lo hi : Nat} {a w : World} (h : Chg lo hi a w) (o : Obj) : Chg lo hi a (w.alloc o) := chg_grown h (World.grownBy_alloc w o none) (fun k e => by cases e)
theorem chg_below {lo hi : Nat} {a w w' : World} (h : Chg lo hi a w) (k : Below w.heap.size w w') : Chg lo hi a w' := h.trans (Chg.of_below k)
theorem Src.grown {w0 w w' : World} {A : Option Addr} {n cap : Nat} {code : List Int} {g : Nat} {s : St} {row : Option Nat} (h : Src w0 w A n cap code g s) (hg : w.grownBy w' row) (hr : ∀ k, row = some k → g < k) : Src w0 w' A n cap code g s :=
  ⟨(hg.block g h.lt (fun e => by have := hr g e.symm; omega)).trans h.blk, h.old, h.bel.grown hg h.bel.size (fun k e => by have := hr k e; have := h.old; omega), h.ok⟩
theorem Src.alloc {w0 w : World} {A : Option Addr} {n cap : Nat} {code : List Int} {g : Nat} {s : St} (h : Src w0 w A n cap code g s) (o : Obj) : Src w0 (w.alloc o) A n cap code g s := h.grown (World.grownBy_alloc w o none) (fun k e => by cases e)
theorem own_ne_chg {g : Nat} {w w' : World} {base e s n : Nat} {v : Value} {xs : List Value} (h : w.ownsRow base e s v n xs) (k : Chg g (g + 1) w w') (hb : g < base) : w'.ownsRow base e s v n xs :=
  own_chg h k (fun b hv => by have := (h.lt b hv).1; omega)

/-- Numbers are appended to an own row; the source is not nil. -/
theorem app_src {ops : Array Oper} {rest : List Oper} {o : Oper} {a : Act} {Q : Exit → Act → World → Prop} (w : World) (hgd : o.guard = none) (s x : Operand)
    (ho : o.op = .call { callee := .builtin .append, args := #[s, x], argTypes := #[22, 22] }) {base n c : Nat} {g0 : Addr} {xs : List Int}
    (hs : a.eval s = .slice (some g0) n c) (hown : w.ownsRow base 2 1 (.slice (some g0) n c) n (ints xs)) {ad : Addr} {m d : Nat} {ys : List Int} (hx : a.eval x = .slice (some ad) m d) (N' : Nat) (hN' : n + m = N') (zs : List Int) (hzs : xs ++ ys = zs) (hy : ys.length = m)
    (hc : ∀ (j : Nat) (y : Int), ys[j]? = some y → w.cell? (ad.add j) = some (.int .i64 y)) (hn : n + m ≤ 1099511627776) (hbase : base ≤ w.heap.size)
    (h : ∀ g1 c' w', w'.ownsRow base 2 1 (.slice (some ⟨g1, 0, none⟩) N' c') N' (ints zs) → w.grownBy w' (some g0.block) → wpList Try.prog ops Q rest (a.put o.dst (.slice (some ⟨g1, 0, none⟩) N' c')) w') :
    wpList Try.prog ops Q (o :: rest) a w := by
  subst hN' hzs
  obtain ⟨i, hi, hz, hs1, hb1⟩ := info_parts Try.info_i64
  refine wpList_append_own w hgd s x 22 ho base 2 i (.int .i64 0) 1 8 Try.underlying22 hi hz hs1 hb1 rfl (by decide) (.slice (some g0) n c) n (ints xs) hs hown ad m d (ints ys) hx (by rw [ints_length, hy, Nat.mul_one]) ?_ (ints_oneCell _ _) (by unfold maxLen; omega) (by omega) hbase ?_
  · intro j u hu
    unfold ints at hu
    rw [List.getElem?_map] at hu
    cases hj : ys[j]? with
    | none => rw [hj] at hu; cases hu
    | some y => rw [hj] at hu; injection hu with hu; subst hu; exact hc j y hj
  · intro v' w' h1 h2 h3
    rw [← ints_append] at h1
    rcases h1.2 with ⟨rfl, h0⟩ | ⟨g, cap, cur, rfl, _⟩
    · have := h3.1 rfl
      cases this.1
    · exact h _ _ w' h1 h2

theorem boatsD_any (w0 : World) (A : Option Addr) (n cap : Nat) (code : List Int) (hcode : Code0 w0 A n code) (g : Nat) (s : St) (w : World) (h : Src w0 w A n cap code g s) :
    Calls Try.prog 83 #[.pointer (some ⟨g, 0, none⟩)] w (RetN w0 w A n cap code g (boatsD code s)) := by
  have e1 : boatsD code s = if (nextF code s 24).1 = 0 then (16 * (nextF code (nextF code s 24).2 2).1, (nextF code (nextF code s 24).2 2).2) else (1 + (nextF code (nextF code s 24).2 6).1, (nextF code (nextF code s 24).2 6).2) := rfl
  rw [e1]; clear e1
  have hn := next_any w0 A n cap code hcode g s 24 (by omega) w h
  generalize nextF code s 24 = r at *
  obtain ⟨v, s1⟩ := r
  have HN := Lib.hid hn; clear hn
  simp only
  by_cases hv : v = 0
  · subst hv
    rw [if_pos rfl]
    have hb := nextF_bd code s1 2 (by omega)
    obtain ⟨hb0, hb1⟩ := hb
    go_enter Try.func83, Try.ntmps83
    go_wp2_with fail
    refine HN.out.mono ?_
    rintro e w1 ⟨rfl, hs1, hc1⟩
    go_wp2_with fail
    refine (next_any w0 A n cap code hcode g s1 2 (by omega) _ hs1).mono ?_
    rintro e w2 ⟨rfl, hs2, hc2⟩
    go_wp2_with fail
    go_ret
    exact ⟨rfl, hs2, hc1.trans hc2⟩
  · rw [if_neg hv]
    have hne : (v == 0) = false := by simpa using hv
    have hb := nextF_bd code s1 6 (by omega)
    obtain ⟨hb0, hb1⟩ := hb
    clear hv
    go_enter Try.func83, Try.ntmps83
    go_wp2_with fail
    refine HN.out.mono ?_
    rintro e w1 ⟨rfl, hs1, hc1⟩
    go_wp2_with fail
    refine (next_any w0 A n cap code hcode g s1 6 (by omega) _ hs1).mono ?_
    rintro e w2 ⟨rfl, hs2, hc2⟩
    go_wp2_with fail
    go_ret
    exact ⟨rfl, hs2, hc1.trans hc2⟩
theorem kD_any (w0 : World) (A : Option Addr) (n cap : Nat) (code : List Int) (hcode : Code0 w0 A n code) (g : Nat) (s : St) (w : World) (h : Src w0 w A n cap code g s) :
    Calls Try.prog 70 #[.pointer (some ⟨g, 0, none⟩)] w (RetN w0 w A n cap code g (kD code s)) := by
  have e1 : kD code s = if (nextF code s 24).1 = 0 then (5 * (nextF code (nextF code s 24).2 2).1, (nextF code (nextF code s 24).2 2).2) else (1 + (nextF code (nextF code s 24).2 4).1, (nextF code (nextF code s 24).2 4).2) := rfl
  rw [e1]; clear e1
  have hn := next_any w0 A n cap code hcode g s 24 (by omega) w h
  generalize nextF code s 24 = r at *
  obtain ⟨v, s1⟩ := r
  have HN := Lib.hid hn; clear hn
  simp only
  by_cases hv : v = 0
  · subst hv
    rw [if_pos rfl]
    have hb := nextF_bd code s1 2 (by omega)
    obtain ⟨hb0, hb1⟩ := hb
    go_enter Try.func70, Try.ntmps70
    go_wp2_with fail
    refine HN.out.mono ?_
    rintro e w1 ⟨rfl, hs1, hc1⟩
    go_wp2_with fail
    refine (next_any w0 A n cap code hcode g s1 2 (by omega) _ hs1).mono ?_
    rintro e w2 ⟨rfl, hs2, hc2⟩
    go_wp2_with fail
    go_ret
    exact ⟨rfl, hs2, hc1.trans hc2⟩
  · rw [if_neg hv]
    have hne : (v == 0) = false := by simpa using hv
    have hb := nextF_bd code s1 4 (by omega)
    obtain ⟨hb0, hb1⟩ := hb
    clear hv
    go_enter Try.func70, Try.ntmps70
    go_wp2_with fail
    refine HN.out.mono ?_
    rintro e w1 ⟨rfl, hs1, hc1⟩
    go_wp2_with fail
    refine (next_any w0 A n cap code hcode g s1 4 (by omega) _ hs1).mono ?_
    rintro e w2 ⟨rfl, hs2, hc2⟩
    go_wp2_with fail
    go_ret
    exact ⟨rfl, hs2, hc1.trans hc2⟩

/-- New integers are drawn. -/
def RetD (w0 w : World) (A : Option Addr) (n cap : Nat) (code : List Int) (g : Nat) (r : List Int × St) (e : Ending) (w' : World) : Prop :=
  ∃ g1 m c, e = .returned (.slice (some ⟨g1, 0, none⟩) m c) ∧ w'.ownsRow w.heap.size 2 1 (.slice (some ⟨g1, 0, none⟩) m c) m (ints r.1) ∧ Src w0 w' A n cap code g r.2 ∧ Chg g (g + 1) w w'

theorem own_some {w : World} {base e n c : Nat} {a : Addr} {xs : List Value} (h : w.ownsRow base e 1 (.slice (some a) n c) n xs) : ∃ g, a = ⟨g, 0, none⟩ ∧ n ≤ c ∧ base ≤ g ∧ g < w.heap.size := by
  rcases h.2 with ⟨hv, _⟩ | ⟨g, cap, cur, hv, hb, hg, hnc, _⟩
  · cases hv
  · injection hv with h1 _ h2
    injection h1 with h1
    subst h1 h2
    exact ⟨g, rfl, hnc, hb, (Array.getElem?_eq_some_iff.1 hg).1⟩

theorem own_cells {w : World} {base e n c g : Nat} {xs : List Int} (h : w.ownsRow base e 1 (.slice (some ⟨g, 0, none⟩) n c) n (ints xs)) (v : Nat) :
    (∀ (j : Nat) (y : Int), (xs.take v)[j]? = some y → w.cell? ((⟨g, 0, none⟩ : Addr).add j) = some (.int .i64 y)) ∧ (∀ (j : Nat) (y : Int), (xs.drop v)[j]? = some y → w.cell? ((⟨g, v, none⟩ : Addr).add j) = some (.int .i64 y)) := by
  have hc := h.cells (g := g) rfl
  refine ⟨fun j y hy => ?_, fun j y hy => ?_⟩
  · rw [List.getElem?_take] at hy
    split at hy
    · exact hc j _ (ints_get hy)
    · cases hy
  · rw [List.getElem?_drop] at hy
    have := hc (v + j) _ (ints_get hy)
    have e1 : (⟨g, 0, none⟩ : Addr).add (v + j) = ⟨g, v + j, none⟩ := by unfold Addr.add; split <;> simp_all
    have e2 : (⟨g, v, none⟩ : Addr).add j = ⟨g, v + j, none⟩ := by unfold Addr.add; split <;> simp_all
    rw [e2, ← e1]; exact this
theorem own_keep1 {w w' : World} {base e s n gb : Nat} {v : Value} {xs : List Value} (h : w.ownsRow base e s v n xs) (hg : w.grownBy w' (some gb)) (hv : ∀ b, v.ownBlock = some b → b < gb) : w'.ownsRow base e s v n xs :=
  h.kept hg (by
    rcases hb : v.ownBlock with _ | b
    · exact .inl rfl
    · refine .inr (fun e => ?_)
      injection e with e
      have := hv b hb
      omega)

theorem orderD_any (w0 : World) (A : Option Addr) (n cap : Nat) (code : List Int) (hcode : Code0 w0 A n code) (g : Nat) (s : St) (N : Nat) (hN : N ≤ 1000) (w : World) (h : Src w0 w A n cap code g s) :
    Calls Try.prog 89 #[.pointer (some ⟨g, 0, none⟩), .int .i64 (N : Int)] w (RetD w0 w A n cap code g (orderD code N s)) := by
  have hgl := h.lt
  go_enter Try.func89, Try.ntmps89
  go_wp2_with fail
  go_loopw [5, 6] (fun v i wr => ∃ (k g1 c' : Nat) (out : List Int) (s' : St), k ≤ N ∧ i = .int .i64 k ∧ v = .slice (some ⟨g1, 0, none⟩) k c' ∧ wr.ownsRow w.heap.size 2 1 (.slice (some ⟨g1, 0, none⟩) k c') k (ints out) ∧ orderGo code (N - k) k out s' = orderD code N s ∧ Src w0 wr A n cap code g s' ∧ Chg g (g + 1) w wr) (fun _ i _ => N - (intOf i).toNat)
  case atStart => exact ⟨0, _, _, [], s, Nat.zero_le _, rfl, rfl, own_empty _ _ _ (Nat.le_refl _), rfl, h.alloc _, chg_alloc (Chg.refl _ _ _) _⟩
  case round =>
    obtain ⟨k, g1, c', out, s', hk, rfl, rfl, ho, hr, hs, hc⟩ := hrel
    have HR := Lib.hid hr; clear hr
    by_cases hlt : k < N
    · have hnx := next_any w0 A n cap code hcode g s' ((k : Int) + 1) (by omega) wr hs
      have hvb := nextF_bd code s' ((k : Int) + 1) (by omega)
      have hgo : orderGo code (N - k) k out s' = orderGo code (N - (k + 1)) (k + 1) (out.take (nextF code s' ((k : Int) + 1)).1.toNat ++ [(k : Int)] ++ out.drop (nextF code s' ((k : Int) + 1)).1.toNat) (nextF code s' ((k : Int) + 1)).2 := by
        have e : N - k = (N - (k + 1)) + 1 := by omega
        rw [e, orderGo]
      have HGO := Lib.hid hgo; clear hgo
      generalize nextF code s' ((k : Int) + 1) = r at *
      obtain ⟨v, s1⟩ := r
      simp only at hvb HGO
      obtain ⟨v, rfl⟩ := int_up v hvb.1
      have hvk : v ≤ k := by omega
      rw [Int.toNat_natCast] at HGO
      have HNX := Lib.hid hnx; clear hnx hvb
      go_wp2_with fail
      refine HNX.out.mono ?_
      rintro e w1 ⟨rfl, hs1, hc1⟩
      have ho1 := own_ne_chg ho hc1 hgl
      have hcc := hc.trans hc1
      have hl1 := own_len ho1
      obtain ⟨g1', hg1', hkc, hb1, hb2⟩ := own_some ho1
      obtain rfl : g1 = g1' := by injection hg1'
      have hsz := hcc.size
      have HC := Lib.hid hcc; have HS1 := Lib.hid hs1; have HO := Lib.hid ho1; have HL := Lib.hid hl1
      clear ho hc hc1 hs hg1' hcc hs1 ho1 hl1
      have hlto := HO.out.lt
      obtain ⟨hct, _⟩ := own_cells HO.out v
      have HCT := Lib.hid hct; have HLTO := Lib.hid hlto
      clear hct hlto
      have tok1 : True := trivial
      have tok2 : True := trivial
      have tok3 : True := trivial
      by_cases hcap : c' = v
      · obtain rfl : k = v := by omega
        go_wp2_with (first | (at_builtin; have _t := tok1; refine app_src _ rfl _ _ rfl (xs := []) rfl (own_empty w1 w1.heap.size _ (Nat.le_refl _)) (ys := out.take k) rfl k (Nat.zero_add _) (out.take k) (List.nil_append _) (by rw [List.length_take, HL.out]; omega) (fun j y hy => Keeps.below ((Below.refl _ _).alloc (Nat.le_refl _) _) _ _ (HCT.out j y hy)) (by omega) (by simp) ?_; intro g2 c2 w2 ho2 hgr2; clear tok1; have hl2 := ho2.lt; have hO2 := own_keep1 (HO.out.alloc (.cells #[] 2)) hgr2 (fun b hb => (HLTO.out b hb).2); have hz2 : w1.heap.size < w2.heap.size := by have h0 := hgr2.size; simp at h0; omega) | (at_builtin; have _t := tok2; refine app_i64 _ rfl _ _ rfl rfl (ho2.alloc _) rfl (cell_new1 _ _ _) (by omega) (by simp; omega) ?_; intro A3 c3 w3 ho3 hgr3; clear tok2; obtain ⟨g3, _, rfl, _, hg3b, _⟩ := own_at ho3 (k := 0) (by omega); have hO3 := own_keep1 (hO2.alloc (.cells #[.int .i64 (k : Int)] 2)) hgr3 (fun b hb => by have h1 := (HLTO.out b hb).2; have h2 := (hl2 g2 rfl).1; show b < g2; omega); have hz3 : w2.heap.size < w3.heap.size := by have h0 := hgr3.size; simp at h0; omega) | (at_builtin; have _t := tok3; refine app_src _ rfl _ _ rfl rfl ho3 (ys := out.drop k) rfl (k + 1) (by omega) (out.take k ++ [(k : Int)] ++ out.drop k) rfl (by have h0 := HL.out; rw [List.length_drop]; omega) (fun j y hy => by rw [List.drop_eq_nil_of_le (by rw [HL.out]; omega)] at hy; simp at hy) (by omega) (by omega) ?_; intro g4 c4 w4 ho4 hgr4; clear tok3))
        have hl3 := ho3.lt
        have s2 : Src w0 w2 A n cap code g s1 := (HS1.out.alloc (.cells #[] 2)).grown hgr2 (fun q e => by injection e with e; subst e; show g < w1.heap.size; omega)
        have s3 : Src w0 w3 A n cap code g s1 := (s2.alloc (.cells #[.int .i64 (k : Int)] 2)).grown hgr3 (fun q e => by injection e with e; subst e; have h2 := (hl2 g2 rfl).1; show g < g2; omega)
        have s4 : Src w0 w4 A n cap code g s1 := s3.grown hgr4 (fun q e => by injection e with e; subst e; have h2 := (hl3 g3 rfl).1; show g < g3; omega)
        have t2 : Chg g (g + 1) w w2 := chg_grown (chg_alloc HC.out (.cells #[] 2)) hgr2 (fun q e => by injection e with e; subst e; exact hsz)
        have t3 : Chg g (g + 1) w w3 := chg_grown (chg_alloc t2 (.cells #[.int .i64 (k : Int)] 2)) hgr3 (fun q e => by injection e with e; subst e; have h2 := (hl2 g2 rfl).1; show w.heap.size ≤ g2; omega)
        have t4 : Chg g (g + 1) w w4 := chg_grown t3 hgr4 (fun q e => by injection e with e; subst e; have h2 := (hl3 g3 rfl).1; show w.heap.size ≤ g3; omega)
        have S4 := Lib.hid s4; have T4 := Lib.hid t4; have O4 := Lib.hid (own_base ho4 hsz)
        clear s2 s3 s4 t2 t3 t4 ho4 ho3 ho2 hgr2 hgr3 hgr4 hl2 hl3 hO2 hO3
        go_wp2_with fail
        go_roundw
        case rel => exact ⟨k + 1, g4, c4, _, _, by omega, by go_num, rfl, O4.out, by rw [← HR.out, HGO.out], S4.out, T4.out⟩
        case measure => simp [intOf]; omega
      · go_wp2_with (first | (at_builtin; have _t := tok1; refine app_src _ rfl _ _ rfl (xs := []) rfl (own_empty w1 w1.heap.size _ (Nat.le_refl _)) (ys := out.take v) rfl v (Nat.zero_add _) (out.take v) (List.nil_append _) (by rw [List.length_take, HL.out]; omega) (fun j y hy => Keeps.below ((Below.refl _ _).alloc (Nat.le_refl _) _) _ _ (HCT.out j y hy)) (by omega) (by simp) ?_; intro g2 c2 w2 ho2 hgr2; clear tok1; have hl2 := ho2.lt; have hO2 := own_keep1 (HO.out.alloc (.cells #[] 2)) hgr2 (fun b hb => (HLTO.out b hb).2); have hz2 : w1.heap.size < w2.heap.size := by have h0 := hgr2.size; simp at h0; omega) | (at_builtin; have _t := tok2; refine app_i64 _ rfl _ _ rfl rfl (ho2.alloc _) rfl (cell_new1 _ _ _) (by omega) (by simp; omega) ?_; intro A3 c3 w3 ho3 hgr3; clear tok2; obtain ⟨g3, _, rfl, _, hg3b, _⟩ := own_at ho3 (k := 0) (by omega); have hO3 := own_keep1 (hO2.alloc (.cells #[.int .i64 (k : Int)] 2)) hgr3 (fun b hb => by have h1 := (HLTO.out b hb).2; have h2 := (hl2 g2 rfl).1; show b < g2; omega); have hz3 : w2.heap.size < w3.heap.size := by have h0 := hgr3.size; simp at h0; omega) | (at_builtin; have _t := tok3; refine app_src _ rfl _ _ rfl rfl ho3 (ys := out.drop v) rfl (k + 1) (by omega) (out.take v ++ [(k : Int)] ++ out.drop v) rfl (by have h0 := HL.out; rw [List.length_drop]; omega) (own_cells hO3 v).2 (by omega) (by omega) ?_; intro g4 c4 w4 ho4 hgr4; clear tok3))
        have hl3 := ho3.lt
        have s2 : Src w0 w2 A n cap code g s1 := (HS1.out.alloc (.cells #[] 2)).grown hgr2 (fun q e => by injection e with e; subst e; show g < w1.heap.size; omega)
        have s3 : Src w0 w3 A n cap code g s1 := (s2.alloc (.cells #[.int .i64 (k : Int)] 2)).grown hgr3 (fun q e => by injection e with e; subst e; have h2 := (hl2 g2 rfl).1; show g < g2; omega)
        have s4 : Src w0 w4 A n cap code g s1 := s3.grown hgr4 (fun q e => by injection e with e; subst e; have h2 := (hl3 g3 rfl).1; show g < g3; omega)
        have t2 : Chg g (g + 1) w w2 := chg_grown (chg_alloc HC.out (.cells #[] 2)) hgr2 (fun q e => by injection e with e; subst e; exact hsz)
        have t3 : Chg g (g + 1) w w3 := chg_grown (chg_alloc t2 (.cells #[.int .i64 (k : Int)] 2)) hgr3 (fun q e => by injection e with e; subst e; have h2 := (hl2 g2 rfl).1; show w.heap.size ≤ g2; omega)
        have t4 : Chg g (g + 1) w w4 := chg_grown t3 hgr4 (fun q e => by injection e with e; subst e; have h2 := (hl3 g3 rfl).1; show w.heap.size ≤ g3; omega)
        have S4 := Lib.hid s4; have T4 := Lib.hid t4; have O4 := Lib.hid (own_base ho4 hsz)
        clear s2 s3 s4 t2 t3 t4 ho4 ho3 ho2 hgr2 hgr3 hgr4 hl2 hl3 hO2 hO3
        go_wp2_with fail
        go_roundw
        case rel => exact ⟨k + 1, g4, c4, _, _, by omega, by go_num, rfl, O4.out, by rw [← HR.out, HGO.out], S4.out, T4.out⟩
        case measure => simp [intOf]; omega
    · obtain rfl : k = N := by omega
      rw [Nat.sub_self, orderGo] at HR
      go_wp2_with fail
      go_ret
      exact ⟨_, _, _, rfl, by rw [← HR.out]; exact ho, by rw [← HR.out]; exact hs, hc⟩

theorem anyD_any (w0 : World) (A : Option Addr) (n cap : Nat) (code : List Int) (hcode : Code0 w0 A n code) (g : Nat) (s : St) (w : World) (h : Src w0 w A n cap code g s) :
    Calls Try.prog 69 #[.pointer (some ⟨g, 0, none⟩)] w (RetD w0 w A n cap code g (anyD code s)) := by
  have hgl := h.lt
  have e1 : anyD code s = if (orderD code (boatsD code s).1.toNat (boatsD code s).2).1.length = 0 then orderD code (boatsD code s).1.toNat (boatsD code s).2
      else if (nextF code (orderD code (boatsD code s).1.toNat (boatsD code s).2).2 16).1 = 0 then
        ((orderD code (boatsD code s).1.toNat (boatsD code s).2).1.set (nextF code (nextF code (orderD code (boatsD code s).1.toNat (boatsD code s).2).2 16).2 ((orderD code (boatsD code s).1.toNat (boatsD code s).2).1.length : Int)).1.toNat
          ((nextF code (nextF code (nextF code (orderD code (boatsD code s).1.toNat (boatsD code s).2).2 16).2 ((orderD code (boatsD code s).1.toNat (boatsD code s).2).1.length : Int)).2 8).1 - 1),
         (nextF code (nextF code (nextF code (orderD code (boatsD code s).1.toNat (boatsD code s).2).2 16).2 ((orderD code (boatsD code s).1.toNat (boatsD code s).2).1.length : Int)).2 8).2)
      else ((orderD code (boatsD code s).1.toNat (boatsD code s).2).1, (nextF code (orderD code (boatsD code s).1.toNat (boatsD code s).2).2 16).2) := rfl
  rw [e1]; clear e1
  have h1 := boatsD_any w0 A n cap code hcode g s w h
  have hbd := boatsD_bd code s
  generalize boatsD code s = r1 at *
  obtain ⟨n1, s1⟩ := r1
  simp only at hbd
  obtain ⟨N, rfl⟩ := int_up n1 hbd.1
  simp only [Int.toNat_natCast]
  have hN : N ≤ 16 := by omega
  have h2 := fun W hs => orderD_any w0 A n cap code hcode g s1 N (by omega) W hs
  have hl := orderD_len code N s1
  generalize orderD code N s1 = r2 at *
  obtain ⟨out, s2⟩ := r2
  simp only at hl
  simp only [hl]
  have H1 := Lib.hid h1; have H2 := Lib.hid h2; have HL := Lib.hid hl
  clear h1 h2 hl hbd
  by_cases hN0 : N = 0
  · rw [if_pos hN0]
    subst hN0
    go_enter Try.func69, Try.ntmps69
    go_wp2_with fail
    refine H1.out.mono ?_
    rintro e w1 ⟨rfl, hs1, hc1⟩
    go_wp2_with fail
    refine (H2.out _ hs1).mono ?_
    rintro e w2 ⟨g2, m2, c2, rfl, ho2, hs2, hc2⟩
    obtain rfl : 0 = m2 := by have h0 : out.length = m2 := own_len ho2; have h1 := HL.out; omega
    have O2 := Lib.hid (own_base ho2 hc1.size)
    clear ho2
    go_wp2_with fail
    go_ret
    exact ⟨_, _, _, rfl, O2.out, hs2, hc1.trans (hc2.mono (Nat.le_refl _) (Nat.le_refl _))⟩
  · rw [if_neg hN0]
    have hNp : 0 < N := by omega
    have h3 := fun W hs => next_any w0 A n cap code hcode g s2 16 (by omega) W hs
    generalize nextF code s2 16 = r3 at *
    obtain ⟨v3, s3⟩ := r3
    simp only
    have H3 := Lib.hid h3; clear h3 hN0
    by_cases hv3 : v3 = 0
    · subst hv3
      rw [if_pos rfl]
      have h4 := fun W hs => next_any w0 A n cap code hcode g s3 (N : Int) (by omega) W hs
      have hb4 := nextF_bd code s3 (N : Int) (by omega)
      generalize nextF code s3 (N : Int) = r4 at *
      obtain ⟨v4, s4⟩ := r4
      simp only at hb4
      obtain ⟨p, rfl⟩ := int_up v4 hb4.1
      have hpN : p < N := by omega
      have h5 := fun W hs => next_any w0 A n cap code hcode g s4 8 (by omega) W hs
      have hb5 := nextF_bd code s4 8 (by omega)
      generalize nextF code s4 8 = r5 at *
      obtain ⟨v5, s5⟩ := r5
      simp only at hb5
      obtain ⟨hb50, hb51⟩ := hb5
      simp only [Int.toNat_natCast]
      have H4 := Lib.hid h4; have H5 := Lib.hid h5; clear h4 h5 hb4
      go_enter Try.func69, Try.ntmps69
      go_wp2_with fail
      refine H1.out.mono ?_
      rintro e w1 ⟨rfl, hs1, hc1⟩
      go_wp2_with fail
      refine (H2.out _ hs1).mono ?_
      rintro e w2 ⟨g2, m2, c2, rfl, ho2, hs2, hc2⟩
      obtain rfl : N = m2 := by have h0 : out.length = m2 := own_len ho2; have h1 := HL.out; omega
      have hsz1 := hc1.size
      have O2 := Lib.hid ho2; clear ho2
      go_wp2_with fail
      refine (H3.out _ hs2).mono ?_
      rintro e w3 ⟨rfl, hs3, hc3⟩
      have hgw1 : g < w1.heap.size := by omega
      have O3 := Lib.hid (own_ne_chg O2.out hc3 hgw1)
      go_wp2_with fail
      refine (H4.out _ hs3).mono ?_
      rintro e w4 ⟨rfl, hs4, hc4⟩
      have O4 := Lib.hid (own_ne_chg O3.out hc4 hgw1)
      go_wp2_with fail
      refine (H5.out _ hs4).mono ?_
      rintro e w5 ⟨rfl, hs5, hc5⟩
      have ho5 := own_ne_chg O4.out hc5 hgw1
      obtain ⟨g2', x, hg2', hgb, hgl2, _, hcx, hfx⟩ := own_int_at ho5 (k := p) hpN
      obtain rfl : g2 = g2' := by injection hg2' with e; injection e
      have ho6 := own_set (k := p) ho5 (v5 - 1)
      have hgr6 : w5.grownBy (w5.setCell ⟨g2, p, none⟩ (.int .i64 (v5 - 1))) (some g2) := grown_set (World.grownBy.refl _ _) p _
      have hs6 : Src w0 (w5.setCell ⟨g2, p, none⟩ (.int .i64 (v5 - 1))) A n cap code g s5 := hs5.grown hgr6 (fun q e => by injection e with e; omega)
      have hc6 : Chg g (g + 1) w (w5.setCell ⟨g2, p, none⟩ (.int .i64 (v5 - 1))) := chg_grown (((hc1.trans hc2).trans hc3).trans (hc4.trans hc5)) hgr6 (fun q e => by injection e with e; omega)
      have O6 := Lib.hid (own_base ho6 hsz1); have S6 := Lib.hid hs6; have C6 := Lib.hid hc6
      clear hg2' ho5 ho6 hgr6 hs6 hc6
      go_wp2_with fail
      go_ret
      exact ⟨_, _, _, rfl, O6.out, S6.out, C6.out⟩
    · rw [if_neg hv3]
      have hne : (v3 == 0) = false := by simpa using hv3
      clear hv3
      go_enter Try.func69, Try.ntmps69
      go_wp2_with fail
      refine H1.out.mono ?_
      rintro e w1 ⟨rfl, hs1, hc1⟩
      go_wp2_with fail
      refine (H2.out _ hs1).mono ?_
      rintro e w2 ⟨g2, m2, c2, rfl, ho2, hs2, hc2⟩
      obtain rfl : N = m2 := by have h0 : out.length = m2 := own_len ho2; have h1 := HL.out; omega
      have hsz1 := hc1.size
      have O2 := Lib.hid ho2; clear ho2
      go_wp2_with fail
      refine (H3.out _ hs2).mono ?_
      rintro e w3 ⟨rfl, hs3, hc3⟩
      have hgw1 : g < w1.heap.size := by omega
      have O3 := Lib.hid (own_base (own_ne_chg O2.out hc3 hgw1) hsz1)
      go_wp2_with fail
      go_ret
      exact ⟨_, _, _, rfl, O3.out, hs3, (hc1.trans hc2).trans hc3⟩

/-- The drawn order and number, twice alike. -/
theorem snakeD_any (w0 : World) (A : Option Addr) (n cap : Nat) (code : List Int) (hcode : Code0 w0 A n code) (w : World) (hb : Below w0.heap.size w0 w) :
    Calls Try.prog 35 #[.slice A n cap] w (RetI w (snakeD code)) := by
  have e1 : snakeD code = ((anyD code (fromF code)).1, (kD code (anyD code (fromF code)).2).1) := rfl
  rw [e1]; clear e1
  have h2 := fun g W hs => anyD_any w0 A n cap code hcode g (fromF code) W hs
  have hln := anyD_len code (fromF code)
  generalize anyD code (fromF code) = r2 at *
  obtain ⟨out, s2⟩ := r2
  simp only at hln
  simp only
  have H2 := Lib.hid h2; clear h2
  go_enter Try.func35, Try.ntmps35
  go_wp2_with fail
  refine (from_any w0 A n cap code hcode w hb).mono ?_
  rintro e w1 ⟨g, rfl, hs1, hg, hb1⟩
  go_wp2_with fail
  refine (H2.out g _ hs1).mono ?_
  rintro e w2 ⟨g2, m2, c2, rfl, ho2, hs2, hc2⟩
  have hgl := hs1.lt
  have hl2 : out.length = m2 := own_len ho2
  have O2 := Lib.hid ho2; clear ho2
  go_wp2_with fail
  refine (kD_any w0 A n cap code hcode g s2 _ hs2).mono ?_
  rintro e w3 ⟨rfl, hs3, hc3⟩
  have O3 := Lib.hid (own_base (own_ne_chg O2.out hc3 hgl) hb1.size)
  have hb3 : Below w.heap.size w w3 := below_chg (below_chg hb1 hc2 hg hb1.size) hc3 hg (Nat.le_trans hb1.size hc2.size)
  go_wp2_with fail
  go_ret2
  exact ⟨_, _, _, rfl, O3.out, by omega, hb3⟩
end Go.Proofs.Ytoccfbkklponnaa

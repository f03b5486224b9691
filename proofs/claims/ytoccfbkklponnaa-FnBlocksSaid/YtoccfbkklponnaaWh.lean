/- Walks: drawn blocks. -/
import Derived.Test.YtoccfbkklponnaaMh
import Derived.Test.YtoccfbkklponnaaWe
namespace Go.Proofs.Ytoccfbkklponnaa
open Go.RowKit
set_option linter.unusedVariables false
set_option maxRecDepth 100000

/-- Result: two lists of new integers. -/
def RetII (w : World) (r : List Int × List Int) (e : Ending) (w' : World) : Prop :=
  ∃ A n c A' n' c', e = .returned (.tuple #[.slice A n c, .slice A' n' c']) ∧ w'.ownsRow w.heap.size 2 1 (.slice A n c) n (ints r.1) ∧ w'.ownsRow w.heap.size 2 1 (.slice A' n' c') n' (ints r.2) ∧ n ≤ 1048576 ∧ n' ≤ 1048576 ∧ Below w.heap.size w w'

theorem own_other {w w' : World} {base e s n n' c' gb : Nat} {row : Option Nat} {xs : List Value} (h : w.ownsRow base e s (.slice (some ⟨gb, 0, none⟩) n' c') n xs) (hg : w.grownBy w' row) (hr : ∀ q, row = some q → gb < q) :
    w'.ownsRow base e s (.slice (some ⟨gb, 0, none⟩) n' c') n xs :=
  h.kept hg (.inr (fun e => by have := hr gb e.symm; omega))

theorem blockD_any (w0 : World) (A : Option Addr) (n cap : Nat) (code : List Int) (hcode : Code0 w0 A n code) (w : World) (hb : Below w0.heap.size w0 w) :
    Calls Try.prog 41 #[.slice A n cap] w (RetII w (blockD code)) := by
  unfold blockD
  have h2 := fun g W hs => anyD_any w0 A n cap code hcode g (fromF code) W hs
  have hln := anyD_len code (fromF code)
  generalize anyD code (fromF code) = r2 at *
  obtain ⟨out, s2⟩ := r2
  simp only at hln
  simp only
  have hkb := kD_bd code s2
  have h3 := fun g W hs => kD_any w0 A n cap code hcode g s2 W hs
  generalize kD code s2 = r3 at *
  obtain ⟨kk, s3⟩ := r3
  simp only at hkb
  simp only
  obtain ⟨k, rfl⟩ := int_up kk hkb.1
  have hk5 : k ≤ 5 := by omega
  rw [Int.toNat_natCast]
  have H2 := Lib.hid h2; have H3 := Lib.hid h3; clear h2 h3 hkb
  generalize hbg : blockGo code (k - 1) (out.length : Int) [] s3 = bg
  have HBG := Lib.hid hbg; clear hbg
  go_enter Try.func41, Try.ntmps41
  go_wp2_with fail
  refine (from_any w0 A n cap code hcode w hb).mono ?_
  rintro e w1 ⟨g, rfl, hs1, hg, hb1⟩
  have hgl := hs1.lt
  go_wp2_with fail
  refine (H2.out g _ hs1).mono ?_
  rintro e w2 ⟨g2, m2, c2, rfl, ho2, hs2, hc2⟩
  obtain rfl : out.length = m2 := own_len ho2
  have hg2l := (ho2.lt g2 rfl).2
  have hs2' := hs2.alloc (.cells #[] 2)
  have hc2' := chg_alloc hc2 (.cells #[] 2)
  have ho2' := ho2.alloc (.cells #[] 2)
  have hoe := own_empty w2 w2.heap.size 2 (Nat.le_refl _)
  have hsz2 := hc2.size
  have hsz1 := hb1.size
  obtain ⟨wa, hwa⟩ : ∃ wa, wa = w2.alloc (.cells #[] 2) := ⟨_, rfl⟩
  have hsza : w2.heap.size ≤ wa.heap.size := by rw [hwa]; simp
  rw [← hwa] at hs2' hc2' ho2' hoe
  have O2 := Lib.hid ho2'
  clear ho2' ho2 hs2 hc2
  go_wp2_with fail
  rw [← hwa]
  refine (H3.out _ _ hs2').mono ?_
  rintro e w3 ⟨rfl, hs3, hc3⟩
  have hsz3 := hc3.size
  have HS3 := Lib.hid hs3; have HC3 := Lib.hid (hc2'.trans hc3); have OE := Lib.hid (own_ne_chg hoe hc3 (by omega)); have O3 := Lib.hid (own_ne_chg O2.out hc3 hgl)
  clear hs2' hc2' hoe hs3 hc3 O2 hwa
  go_wp2_with fail
  go_loopw [6, 7, 8] (fun v l i wr => ∃ (kq m c' : Nat) (A' : Option Addr) (left : Int) (sz : List Int) (s' : St), kq ≤ k ∧ m + kq ≤ 5 ∧ 0 ≤ left ∧ left ≤ 16 ∧ i = .int .i64 kq ∧ l = .int .i64 left ∧ v = .slice A' m c' ∧ wr.ownsRow w2.heap.size 2 1 (.slice A' m c') m (ints sz) ∧ wr.ownsRow w1.heap.size 2 1 (.slice (some ⟨g2, 0, none⟩) out.length c2) out.length (ints out) ∧ blockGo code (kq - 1) left sz s' = bg ∧ Src w0 wr A n cap code g s' ∧ Chg g (g + 1) w1 wr ∧ w2.heap.size ≤ wr.heap.size) (fun _ _ i _ => (intOf i).toNat)
  case atStart => exact ⟨k, 0, 0, _, _, [], s3, Nat.le_refl _, by omega, by omega, by omega, rfl, rfl, rfl, OE.out, O3.out, HBG.out, HS3.out, HC3.out, by omega⟩
  case round =>
    obtain ⟨kq, m, c', A', left, sz, s', hkq, hm5, hl0, hl16, rfl, rfl, rfl, ho, ho3, hr, hs, hc, hsw⟩ := hrel
    have HR := Lib.hid hr; clear hr
    have hszr := hc.size
    clear HS3 HC3 OE O3
    by_cases hlt : 1 < kq
    · have hnx := next_any w0 A n cap code hcode g s' (left + 1) (by omega) wr hs
      have hvb := nextF_bd code s' (left + 1) (by omega)
      have hgo : blockGo code (kq - 1) left sz s' = blockGo code (kq - 1 - 1) (left - (nextF code s' (left + 1)).1) (sz ++ [(nextF code s' (left + 1)).1]) (nextF code s' (left + 1)).2 := by
        conv => lhs; rw [show kq - 1 = (kq - 1 - 1) + 1 from by omega, blockGo]
      rw [hgo] at HR
      clear hgo
      generalize nextF code s' (left + 1) = r at *
      obtain ⟨v, s1⟩ := r
      simp only at hvb HR
      obtain ⟨hv0, hv1⟩ := hvb
      have HNX := Lib.hid hnx; have O := Lib.hid ho; have O3 := Lib.hid ho3
      clear hnx ho ho3 hs
      go_wp2_with fail
      refine HNX.out.mono ?_
      rintro e w4 ⟨rfl, hs4, hc4⟩
      have O4 := Lib.hid (own_ne_chg O.out hc4 (by omega)); have O34 := Lib.hid (own_ne_chg O3.out hc4 hgl)
      have HS4 := Lib.hid hs4; have HC4 := Lib.hid (hc.trans hc4)
      have hsz4 := hc4.size
      clear O O3 hs4 hc4 hc
      have tok1 : True := trivial
      go_wp2_with (first | (at_builtin; have _t := tok1; refine app_i64 _ rfl _ _ rfl rfl (O4.out.alloc _) rfl (cell_new1 _ _ _) (by omega) (by simp; omega) ?_; intro A5 c5 w5 ho5 hgr5; clear tok1))
      have hrow : ∀ q, (Value.slice A' m c').ownBlock = some q → w2.heap.size ≤ q := fun q e => (O4.out.lt q e).1
      have S5 := Lib.hid ((HS4.out.alloc (.cells #[.int .i64 v] 2)).grown hgr5 (fun q e => by have := hrow q e; omega))
      have T5 := Lib.hid (chg_grown (chg_alloc HC4.out (.cells #[.int .i64 v] 2)) hgr5 (fun q e => by have := hrow q e; omega))
      have O35 := Lib.hid (own_other (O34.out.alloc (.cells #[.int .i64 v] 2)) hgr5 (fun q e => by have := hrow q e; omega))
      have O5 := Lib.hid ho5
      have hsz5 : w2.heap.size ≤ w5.heap.size := by have h0 := hgr5.size; simp at h0; omega
      clear ho5 hgr5 hrow
      go_wp2_with fail
      go_roundw
      case rel => exact ⟨kq - 1, m + 1, c5, A5, _, _, _, by omega, by omega, by omega, by omega, by go_num, by go_num, rfl, O5.out, O35.out, HR.out, S5.out, T5.out, hsz5⟩
      case measure => simp [intOf]; omega
    · have e0 : kq - 1 = 0 := by omega
      rw [e0, blockGo] at HR
      have hbg := HR.out
      subst hbg
      simp only
      have hnx := fun W hs => next_any w0 A n cap code hcode g s' 20 (by omega) W hs
      have hvb := nextF_bd code s' 20 (by omega)
      generalize nextF code s' 20 = r at *
      obtain ⟨v, s1⟩ := r
      simp only at hvb
      obtain ⟨hv0, hv1⟩ := hvb
      have HNX := Lib.hid hnx
      clear hnx HR e0
      have O := Lib.hid ho; have O3 := Lib.hid ho3; have HS := Lib.hid hs; have HC := Lib.hid hc
      clear ho ho3 hs hc
      have hrow : ∀ q, (Value.slice A' m c').ownBlock = some q → w2.heap.size ≤ q := fun q e => (O.out.lt q e).1
      have HROW := Lib.hid hrow; clear hrow
      have tok1 : True := trivial
      go_wp2_with (first | (at_builtin; have _t := tok1; refine app_i64 _ rfl _ _ rfl rfl (O.out.alloc _) rfl (cell_new1 _ _ _) (by omega) (by simp; omega) ?_; intro A5 c5 w5 ho5 hgr5; clear tok1; obtain ⟨g5, _, rfl, hcc5, hg5b, _⟩ := own_at ho5 (k := 0) (by omega); have S5 := Lib.hid ((HS.out.alloc (.cells #[.int .i64 left] 2)).grown hgr5 (fun q e => by have := HROW.out q e; omega)); have T5 := Lib.hid (chg_grown (chg_alloc HC.out (.cells #[.int .i64 left] 2)) hgr5 (fun q e => by have := HROW.out q e; omega)); have O35 := Lib.hid (own_other (O3.out.alloc (.cells #[.int .i64 left] 2)) hgr5 (fun q e => by have := HROW.out q e; omega)); have O5 := Lib.hid ho5; clear ho5 hgr5))
      refine (HNX.out _ S5.out).mono ?_
      rintro e w6 ⟨rfl, hs6, hc6⟩
      have O6 := Lib.hid (own_ne_chg O5.out hc6 (by omega)); have O36 := Lib.hid (own_ne_chg O35.out hc6 hgl)
      have T6 := Lib.hid (T5.out.trans hc6)
      clear hs6 hc6 S5 T5 O5 O35
      have BB := Lib.hid (below_chg hb1 T6.out hg hb1.size)
      generalize hsl : sz ++ [left] = ss at *
      have hsn : ss.length = m + 1 := by rw [← hsl]; have := own_len O.out; simp; omega
      clear hsl
      by_cases h0 : v = 0
      · subst h0
        obtain ⟨g5', x, hg5', hgb, hgl2, hx, hcx, hfx⟩ := own_int_at O6.out (k := 0) (by omega)
        obtain rfl : g5 = g5' := by injection hg5' with e; injection e
        have he : blockEnd ss 0 = ss.set 0 (wrap64 (x + 1)) := by
          unfold blockEnd
          rw [if_pos rfl, List.getD_eq_getElem?_getD, hx]; rfl
        have HE := Lib.hid he
        have ho7 := own_set (k := 0) O6.out (wrap64 (x + 1))
        obtain ⟨w7, hw7⟩ : ∃ w7, w7 = w6.setCell ⟨g5, 0, none⟩ (.int .i64 (wrap64 (x + 1))) := ⟨_, rfl⟩
        have hgr7 : w6.grownBy w7 (some g5) := by rw [hw7]; exact grown_set (World.grownBy.refl _ _) 0 _
        have H7 := Lib.hid hw7
        rw [← hw7] at ho7
        have O7 := Lib.hid (own_base ho7 (show w.heap.size ≤ w2.heap.size by omega)); have O37 := Lib.hid (own_base (own_other O36.out hgr7 (fun q e => by injection e with e; omega)) hsz1)
        have B7 := Lib.hid (BB.out.grown hgr7 BB.out.size (fun q e => by injection e with e; omega))
        clear ho7 hgr7 hw7 hx he hg5'
        go_wp2_with fail
        rw [show w6.setCell ⟨g5, 0, none⟩ (.int .i64 (wrap64 (x + 1))) = w7 from H7.out.symm]
        go_ret2
        exact ⟨_, _, _, _, _, _, rfl, O37.out, by simp only [HE.out]; exact O7.out, by omega, by omega, B7.out⟩
      by_cases h1 : v = 1
      · subst h1
        obtain ⟨g5', x, hg5', hgb, hgl2, hx, hcx, hfx⟩ := own_int_at O6.out (k := 0) (by omega)
        obtain rfl : g5 = g5' := by injection hg5' with e; injection e
        have he : blockEnd ss 1 = ss.set 0 (-1) := rfl
        have HE := Lib.hid he
        have ho7 := own_set (k := 0) O6.out (-1)
        obtain ⟨w7, hw7⟩ : ∃ w7, w7 = w6.setCell ⟨g5, 0, none⟩ (.int .i64 (-1)) := ⟨_, rfl⟩
        have hgr7 : w6.grownBy w7 (some g5) := by rw [hw7]; exact grown_set (World.grownBy.refl _ _) 0 _
        have H7 := Lib.hid hw7
        rw [← hw7] at ho7
        have O7 := Lib.hid (own_base ho7 (show w.heap.size ≤ w2.heap.size by omega)); have O37 := Lib.hid (own_base (own_other O36.out hgr7 (fun q e => by injection e with e; omega)) hsz1)
        have B7 := Lib.hid (BB.out.grown hgr7 BB.out.size (fun q e => by injection e with e; omega))
        clear ho7 hgr7 hw7 hx he hg5'
        go_wp2_with fail
        rw [show w6.setCell ⟨g5, 0, none⟩ (.int .i64 (-1)) = w7 from H7.out.symm]
        go_ret2
        exact ⟨_, _, _, _, _, _, rfl, O37.out, by simp only [HE.out]; exact O7.out, by omega, by omega, B7.out⟩
      have n0 : (v == 0) = false := by simpa using h0
      have n1 : (v == 1) = false := by simpa using h1
      have O37 := Lib.hid (own_base O36.out hsz1)
      by_cases h2 : v = 2
      · subst h2
        have he : blockEnd ss 2 = [] := rfl
        have HE := Lib.hid he
        go_wp2_with fail
        go_ret2
        exact ⟨_, _, _, _, _, _, rfl, O37.out, by simp only [HE.out]; exact World.ownsRow_nil _ _ _ _, by omega, by omega, BB.out⟩
      · have n2 : (v == 2) = false := by simpa using h2
        have he : blockEnd ss v = ss := by unfold blockEnd; rw [if_neg h0, if_neg h1, if_neg h2]
        have HE := Lib.hid he
        have O7 := Lib.hid (own_base O6.out (show w.heap.size ≤ w2.heap.size by omega))
        clear h0 h1 h2 he
        go_wp2_with fail
        go_ret2
        exact ⟨_, _, _, _, _, _, rfl, O37.out, by simp only [HE.out]; exact O7.out, by omega, by omega, BB.out⟩
end Go.Proofs.Ytoccfbkklponnaa

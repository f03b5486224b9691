/- Walks: drawn potentials (chapter 32). -/
import Derived.Test.YtpaamhkgokkgpaaHn
import Derived.Test.YtpaamhkgokkgpaaHf
import Derived.Deep.LoopGhost
namespace Go.Proofs.Ytpaamhkgokkgpaa
open Go.RowKit
set_option linter.unusedVariables false
set_option maxRecDepth 100000

/-- A list was drawn. -/
def RetPo (w0 w : World) (A : Option Addr) (n cap : Nat) (code : List Int) (g : Nat) (e : Ending) (w' : World) : Prop :=
  ∃ (A2 : Option Addr) (k c2 : Nat) (L : List Int), e = .returned (.slice A2 k c2) ∧ k ≤ 1048576 ∧ Rd w' 1 A2 k (ints L) ∧ (∀ b o, A2 = some ⟨b, o, none⟩ → w.heap.size ≤ b) ∧ Sx w0 w' A n cap code g ∧ Chg g (g + 1) w w'
theorem fastTF_bd (W H : Int) (xs : List (Int × Int)) (fr : Int) (hm : xs.length ≤ 25) : (fastTF W H xs fr).1.length ≤ 25 ∧ ∀ v, -1 ≤ tm (fastTF W H xs fr).1 v ∧ tm (fastTF W H xs fr).1 v ≤ 252000 := by
  unfold fastTF
  by_cases hz : gcodeF W H xs fr = 0
  · rw [if_pos hz]
    obtain ⟨hg, c1, c2⟩ := gcode_ok hz
    obtain ⟨s, rfl⟩ := int_up fr c1
    have hl := hg.len
    have hs : s < xs.length := by omega
    have hcap := timesB_cap hg false hs
    rw [timesB_false hg hs] at hcap
    rw [Int.toNat_natCast]
    exact ⟨by rw [hcap.len]; exact hm, fun v => ⟨hcap.low v, hcap.bd (by omega) v⟩⟩
  · rw [if_neg hz]
    exact ⟨by simp, fun v => by unfold tm; simp⟩
theorem rd_take {w : World} {A : Option Addr} {n : Nat} {xs : List Int} (h : Rd w 1 A n (ints xs)) {k : Nat} (hk : k ≤ n) : Rd w 1 A k (ints (xs.take k)) := by
  have hl := h.len_int
  refine ⟨by simp [ints]; omega, by have := h.le; omega, fun h0 => ?_⟩
  obtain ⟨b, o, e, hc⟩ := h.pos (by omega)
  refine ⟨b, o, e, fun i u hu => hc i u ?_⟩
  have hi : i < k := by
    rcases Nat.lt_or_ge i k with hh | hh
    · exact hh
    · rw [List.getElem?_eq_none (by simp [ints]; omega)] at hu; cases hu
  unfold ints at hu ⊢
  simpa [hi] using hu
set_option maxHeartbeats 4000000 in
theorem drawPot_any (w0 : World) (A : Option Addr) (n cap : Nat) (code : List Int) (hcode : Code0 w0 A n code) (g : Nat) (W H : Int) (A1 : Option Addr) (m c1 : Nat) (xs : List (Int × Int)) (fr : Int) (hm : m ≤ 25) (w : World) (h : Sx w0 w A n cap code g) (hrd : Rd w 2 A1 m (winds xs)) :
    Calls Try.prog 71 #[.pointer (some ⟨g, 0, none⟩), .agg #[.int .i64 W, .int .i64 H, .slice A1 m c1], .int .i64 fr] w (RetPo w0 w A n cap code g) := by
  have HN := Lib.hid (fun k h1 hk w' h => nextX_any w0 A n cap code hcode g k h1 hk w' h)
  have HFT := Lib.hid (fun X hr => specFastT_any W H A1 m c1 xs fr X hr)
  have hlx := hrd.len_wind
  obtain ⟨b1, b2⟩ := fastTF_bd W H xs fr (by omega)
  obtain ⟨R, hR⟩ : ∃ R, R = fastTF W H xs fr := ⟨_, rfl⟩
  rw [← hR] at b1 b2 HFT
  obtain ⟨T, cd⟩ := R
  simp only at b1 b2
  have HB2 := Lib.hid b2
  have hgl := h.lt
  have hbx : Below w.heap.size w (w.alloc (.cells #[.int .i64 W, .int .i64 H, .slice A1 m c1] 29)) := (Below.refl _ _).alloc (Nat.le_refl _) _
  have HSX := Lib.hid (And.intro (h.below hbx) (And.intro (hrd.below hbx) hbx))
  clear hR b2 h hrd hbx
  go_enter Try.func71, Try.ntmps71
  go_wp2_with fail
  refine (HFT.out _ HSX.out.2.1).mono ?_
  rintro e w1 ⟨A5, n5, c5, rfl, o5, hn5, hb1⟩
  simp only at o5
  have hl5 := own_len o5
  rw [hl5] at b1
  have hs1 := HSX.out.1.below hb1
  have hb01 : Below w.heap.size w w1 := HSX.out.2.2.trans (hb1.mono HSX.out.2.2.size)
  have ho5 := own_base o5 (show w.heap.size + 1 ≤ _ by simp)
  have hz1 := hb01.size
  have hz1' := hb1.size
  simp only [World.size_alloc] at hz1'
  have HO5 := Lib.hid ho5
  have HS1 := Lib.hid hs1
  have HB1 := Lib.hid hb01
  clear o5 hb1 HSX HFT ho5 hs1 hb01
  by_cases h0 : n5 = 0
  · subst h0
    go_wp2_with fail
    go_ret
    exact ⟨_, 1, 1, [0], rfl, by omega, rd_lit 0 w1, (fun b o e => by injection e with e; injection e with e; omega), HS1.out.below ((Below.refl _ _).alloc (Nat.le_refl _) _), chg_alloc (Chg.of_below HB1.out) _⟩
  · have hne : ((n5 : Int) == 0) = false := by simp; omega
    go_wp2_with fail
    refine (HN.out n5 (by omega) (by omega) _ HS1.out).mono ?_
    rintro e w2 ⟨k, rfl, k0, k1, hs2, hc2⟩
    obtain ⟨kn, rfl⟩ := int_up k k0
    have hkn : kn < n5 := by omega
    have ho2 := own_chg HO5.out hc2 (fun b hv => by have := (HO5.out.lt b hv).1; omega)
    have hcc2 := (Chg.of_below HB1.out (lo := g) (hi := g + 1)).trans hc2
    have hz2 := hc2.size
    clear HS1 HO5 HB1 hc2
    go_wp2_with fail
    refine (HN.out 8 (by omega) (by omega) _ hs2).mono ?_
    rintro e w3 ⟨t, rfl, t0, t1, hs3, hc3⟩
    have ho3 := own_chg ho2 hc3 (fun b hv => by have := (ho2.lt b hv).1; omega)
    have hcc3 := hcc2.trans hc3
    have hz3 := hc3.size
    clear hs2 ho2 hcc2 hc3
    obtain ⟨g5, x, rfl, hg5, hg5l, hx, hcx, hfx⟩ := own_int_at ho3 hkn
    have htx := tm_get hx
    obtain ⟨q0, q1⟩ := HB2.out kn
    rw [htx] at q0 q1
    have HO3 := Lib.hid ho3
    have HS3 := Lib.hid hs3
    have HC3 := Lib.hid hcc3
    have HL5 := Lib.hid hl5
    have hgs : g < w3.heap.size := hs3.lt
    clear ho3 hs3 hcc3 hx htx hl5
    have HPUT := Lib.hid (show ∀ X (v : Int), X.ownsRow (w.heap.size + 1) 2 1 (.slice (some ⟨g5, 0, none⟩) n5 c5) n5 (ints T) → Sx w0 X A n cap code g → Chg g (g + 1) w X → RetPo w0 w A n cap code g (.returned (.slice (some ⟨g5, 0, none⟩) n5 c5)) (X.setCell ⟨g5, kn, none⟩ (.int .i64 v)) from fun X v ho hs hc =>
      ⟨_, _, _, _, rfl, by omega, own_rd (own_set ho v), (fun b o e => by injection e with e; injection e with e; omega), hs.kept ((Below.refl (g + 1) X).setCell (p := ⟨g5, kn, none⟩) (by show g + 1 ≤ g5; omega) _), chg_put hc (by omega) _⟩)
    by_cases ht0 : t = 0
    · subst ht0
      go_wp2_with fail
      go_ret
      exact HPUT.out _ _ HO3.out HS3.out HC3.out
    · have htb0 : (t == 0) = false := by simpa using ht0
      by_cases ht1 : t = 1
      · subst ht1
        have HQ := Lib.hid (show ∀ Z, Chg g (g + 1) w3.drew Z → Sx w0 Z A n cap code g → Z.ownsRow (w.heap.size + 1) 2 1 (.slice (some ⟨g5, 0, none⟩) n5 c5) n5 (ints T) ∧ Chg g (g + 1) w Z ∧ Z.cell? ⟨g5, kn, none⟩ = some (.int .i64 x) ∧ Z.frozen? ⟨g5, kn, none⟩ = false from fun Z hc hs => by
          have h1 := (chg_drewN (Chg.refl g (g + 1) w3) 1).trans hc
          have h2 := own_chg HO3.out h1 (fun b hv => by have := (HO3.out.lt b hv).1; omega)
          obtain ⟨g5', x', e5, _, _, hx', hcx', hfx'⟩ := own_int_at h2 hkn
          obtain rfl : g5 = g5' := by injection e5 with e5; injection e5
          obtain ⟨g5'', x'', e5', _, _, hx'', hcx'', _⟩ := own_int_at HO3.out hkn
          obtain rfl : g5 = g5'' := by injection e5' with e5'; injection e5'
          rw [hcx] at hcx''
          injection hcx'' with hcx''
          injection hcx'' with _ hcx''
          subst hcx''
          rw [hx''] at hx'
          injection hx' with hx'
          subst hx'
          exact ⟨h2, HC3.out.trans h1, hcx', hfx'⟩)
        have HSD := Lib.hid (HS3.out.drewN 1)
        go_wp2_with fail
        go_region_with (go_at_call 87; (refine (HN.out 30 (by omega) (by omega) _ HSD.out).mono ?_); (rintro e wq ⟨vq, rfl, vq0, vq1, hsq, hcq⟩); (obtain ⟨hoq, hccq, hcxq, hfxq⟩ := HQ.out _ hcq hsq))
        all_goals go_wp2_with fail
        all_goals
          go_ret
          exact HPUT.out _ _ hoq hsq hccq
      · have htb1 : (t == 1) = false := by simpa using ht1
        by_cases ht2 : t = 2
        · subst ht2
          go_wp2_with fail
          clear hcx hfx
          go_loopw [11] (fun s11 wr => ∃ (i : Nat) (L : List Int), i ≤ n5 ∧ s11 = .int .i64 i ∧ wr.ownsRow (w.heap.size + 1) 2 1 (.slice (some ⟨g5, 0, none⟩) n5 c5) n5 (ints L) ∧ (∀ v, -1 ≤ tm L v ∧ tm L v ≤ 252000) ∧ Sx w0 wr A n cap code g ∧ Chg g (g + 1) w wr) (fun s11 _ => n5 - (intOf s11).toNat)
          case atStart => exact ⟨0, T, Nat.zero_le _, rfl, HO3.out, HB2.out, HS3.out, HC3.out⟩
          case round =>
            obtain ⟨i, L, hi, rfl, ho, hbd, hs, hc⟩ := hrel
            by_cases hlt : i < n5
            · obtain ⟨g5', y, e5, _, _, hy, hcy, hfy⟩ := own_int_at ho hlt
              obtain rfl : g5 = g5' := by injection e5 with e5; injection e5
              have hty := tm_get hy
              have hbi := hbd i
              rw [hty] at hbi
              obtain ⟨y0, y1⟩ := hbi
              have hll := own_len ho
              have hbd2 : ∀ v, -1 ≤ tm (L.set i (y.tdiv 2)) v ∧ tm (L.set i (y.tdiv 2)) v ≤ 252000 := by
                intro v
                by_cases e : i = v
                · subst e
                  rw [tm_set_same _ (by omega)]
                  rcases (by omega : y = -1 ∨ 0 ≤ y) with rfl | hy0
                  · decide
                  · rw [Int.tdiv_eq_ediv_of_nonneg hy0]; omega
                · rw [tm_set_ne _ e]; exact hbd v
              have HA := Lib.hid (And.intro (own_set ho (k := i) (y.tdiv 2)) (And.intro hbd2 (And.intro (hs.kept ((Below.refl (g + 1) wr).setCell (p := ⟨g5, i, none⟩) (by show g + 1 ≤ g5; omega) (.int .i64 (y.tdiv 2)))) (chg_put hc (g := g5) (i := i) (by omega) (.int .i64 (y.tdiv 2))))))
              clear ho hbd hs hc e5 hy hty hll hbd2
              go_wp2_with fail
              go_roundw
              case rel => exact ⟨i + 1, _, by omega, by go_num, HA.out.1, HA.out.2.1, HA.out.2.2.1, HA.out.2.2.2⟩
              case measure => simp [intOf] <;> omega
            · obtain rfl : n5 = i := by omega
              go_wp2_with fail
              go_ret
              exact ⟨_, _, _, _, rfl, by omega, own_rd ho, (fun b o e => by injection e with e; injection e with e; omega), hs, hc⟩
        · have htb2 : (t == 2) = false := by simpa using ht2
          by_cases ht3 : t = 3
          · subst ht3
            have hcap := own_cap HO3.out
            have hkc : kn ≤ c5 := by omega
            go_wp2_with fail
            go_ret
            exact ⟨_, _, _, _, rfl, by omega, rd_take (own_rd HO3.out) (by omega), (fun b o e => by injection e with e; injection e with e; omega), HS3.out, HC3.out⟩
          · have htb3 : (t == 3) = false := by simpa using ht3
            go_wp2_with fail
            go_ret
            exact ⟨_, _, _, _, rfl, by omega, own_rd HO3.out, (fun b o e => by injection e with e; injection e with e; omega), HS3.out, HC3.out⟩
end Go.Proofs.Ytpaamhkgokkgpaa

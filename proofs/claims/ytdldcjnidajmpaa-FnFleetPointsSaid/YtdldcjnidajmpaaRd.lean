/- Walks: drawn races. -/
import Derived.Test.YtdldcjnidajmpaaMk
import Derived.Test.YtdldcjnidajmpaaWeb
import Derived.Test.YtdldcjnidajmpaaRa
namespace Go.Proofs.Ytdldcjnidajmpaa
open Go.RowKit
set_option linter.unusedVariables false
set_option maxRecDepth 100000

/-- A new race is drawn. -/
def RetFD (w0 w : World) (A : Option Addr) (n cap : Nat) (code : List Int) (g : Nat) (r : List FinishT × St) (e : Ending) (w' : World) : Prop :=
  ∃ A' m c, e = .returned (.agg #[.slice A' m c]) ∧ w'.ownsRow w.heap.size 88 3 (.slice A' m c) m (fins r.1) ∧ Src w0 w' A n cap code g r.2 ∧ Chg g (g + 1) w w'
theorem src_put {w0 w : World} {A : Option Addr} {n cap : Nat} {code : List Int} {g : Nat} {s : St} (h : Src w0 w A n cap code g s) {b i : Nat} (hb : g < b) (v : Value) : Src w0 (w.setCell ⟨b, i, none⟩ v) A n cap code g s :=
  h.grown (row := some b) (grown_set ⟨rfl, rfl, rfl, Nat.le_refl _, fun _ _ _ => rfl⟩ i v) (fun k e => by injection e with e; omega)
theorem chg_put {lo hi : Nat} {w w' : World} (h : Chg lo hi w w') {g i : Nat} (h1 : w.heap.size ≤ g) (v : Value) : Chg lo hi w (w'.setCell ⟨g, i, none⟩ v) :=
  ⟨h.os, h.tape, h.output, by simpa [World.setCell] using h.size, fun k hk hn => (Below.heap_setCell _ _ _ _ (by simp; omega)).trans (h.block k hk hn)⟩
theorem src_app {w0 w w' : World} {A : Option Addr} {n cap : Nat} {code : List Int} {g : Nat} {s : St} (h : Src w0 w A n cap code g s) {base e sz m c : Nat} {A1 : Option Addr} {vs : List Value} {o : Obj} (ho : w.ownsRow base e sz (.slice A1 m c) m vs) (hb : g < base) (hg : (w.alloc o).grownBy w' (Value.slice A1 m c).ownBlock) : Src w0 w' A n cap code g s :=
  (h.alloc o).grown hg (fun k e => by have := (ho.lt k e).1; omega)
theorem chg_app {lo hi : Nat} {a w w' : World} (h : Chg lo hi a w) {base e sz m c : Nat} {A1 : Option Addr} {vs : List Value} {o : Obj} (ho : w.ownsRow base e sz (.slice A1 m c) m vs) (hb : a.heap.size ≤ base) (hg : (w.alloc o).grownBy w' (Value.slice A1 m c).ownBlock) : Chg lo hi a w' :=
  chg_grown (chg_alloc h o) hg (fun k e => by have := (ho.lt k e).1; omega)
theorem own_emptyF (w : World) (base e s : Nat) (hb : base ≤ w.heap.size) : (w.alloc (.cells #[] e)).ownsRow base e s (.slice (some ⟨w.heap.size, 0, none⟩) 0 0) 0 [] := by
  have := World.ownsRow_lit (base := base) (e := e) (size := s) w #[] 0 hb (by unfold maxLen; omega) (by simp)
  simpa using this
set_option maxHeartbeats 4000000 in
theorem raceD_any (w0 : World) (A : Option Addr) (n cap : Nat) (code : List Int) (hcode : Code0 w0 A n code) (g : Nat) (s : St) (N : Nat) (hN : N ≤ 17) (w : World) (h : Src w0 w A n cap code g s) :
    Calls Try.prog 124 #[.pointer (some ⟨g, 0, none⟩), .int .i64 (N : Int)] w (RetFD w0 w A n cap code g (raceD code N s)) := by
  have hgl := h.lt
  have HNX := Lib.hid (fun s k hk w' h => next_any w0 A n cap code hcode g s k hk w' h)
  unfold raceD
  generalize hR : raceGo code (N : Int) N 0 [] s = R at *
  have HR := Lib.hid hR
  clear hR
  obtain ⟨wa, hwa, XR, hba, hsa⟩ := one_box w #[.slice none 0 0] 31
  have HS := Lib.hid (h.below hba)
  have HC := Lib.hid (Chg.of_below (lo := g) (hi := g + 1) hba)
  have ho0 := own_emptyF wa (w.heap.size + 1) 88 3 (by omega)
  have HSA := Lib.hid hsa
  clear h hba hsa
  go_enter Try.func124, Try.ntmps124
  go_wp2_with fail
  rw [← hwa]
  clear hwa
  rw [← HSA.out] at *
  go_wp2_with fail
  go_loopw [5, 6] (fun v i wr => ∃ (k c' : Nat) (A' : Option Addr) (out : List FinishT) (s' : St), k ≤ N ∧ i = .int .i64 k ∧ v = .slice A' k c' ∧ Hid (wr.ownsRow (w.heap.size + 1) 88 3 (.slice A' k c') k (fins out)) ∧ Hid (raceGo code (N : Int) (N - k) k out s' = R) ∧ Hid (Src w0 wr A n cap code g s') ∧ Hid (Chg g (g + 1) w wr) ∧ Hid (Box wr w.heap.size #[.slice none 0 0] 31)) (fun _ i _ => N - (intOf i).toNat)
  case atStart => exact ⟨0, _, _, [], s, Nat.zero_le _, rfl, rfl, Lib.hid ho0, HR, Lib.hid (HS.out.alloc _), Lib.hid (chg_alloc HC.out _), Lib.hid (XR.below ((Below.refl _ _).alloc (Nat.le_refl _) _))⟩
  case round =>
    clear ho0 HR HS HC XR
    obtain ⟨k, c', A', out, s', hk, rfl, rfl, HO, HR, HS, HC, HX⟩ := hrel
    by_cases hlt : k < N
    · have hsz := HC.out.size
      have hxl := HX.out.lt
      have ek : N - k = (N - (k + 1)) + 1 := by omega
      have hr := HR.out
      rw [ek, raceGo] at hr
      have ex : finX code (N : Int) k s' = if (nextF code (nextF code s' (2 * (N : Int))).2 4).1 = 0 then (((k : Int), 1 + (nextF code (nextF code (nextF code s' (2 * (N : Int))).2 4).2 9).1, 0), (nextF code (nextF code (nextF code s' (2 * (N : Int))).2 4).2 9).2) else (((k : Int), 0, 1 + (nextF code s' (2 * (N : Int))).1), (nextF code (nextF code s' (2 * (N : Int))).2 4).2) := rfl
      generalize finX code (N : Int) k s' = X at *
      have H1 := Lib.hid (HNX.out s' (2 * (N : Int)) (by omega))
      have b1 := nextF_bd code s' (2 * (N : Int)) (by omega)
      generalize nextF code s' (2 * (N : Int)) = r1 at *
      obtain ⟨t, s1⟩ := r1
      have H2 := Lib.hid (HNX.out s1 4 (by omega))
      simp only at ex b1
      generalize nextF code s1 4 = r2 at *
      obtain ⟨q, s2⟩ := r2
      have H3 := Lib.hid (HNX.out s2 9 (by omega))
      have b3 := nextF_bd code s2 9 (by omega)
      simp only at ex
      generalize nextF code s2 9 = r3 at *
      obtain ⟨v3, s3⟩ := r3
      simp only at ex b3
      obtain ⟨b10, b11⟩ := b1
      obtain ⟨b30, b31⟩ := b3
      have HR2 := Lib.hid hr
      have HEX := Lib.hid ex
      clear hr ex HR ek
      go_wp2_with fail
      refine (H1.out _ HS.out).mono ?_
      rintro e w1 ⟨rfl, hs1, hc1⟩
      have HO1 := Lib.hid (own_ne_chg HO.out hc1 (by omega))
      have HC1 := Lib.hid (HC.out.trans hc1)
      have HX1 := Lib.hid (HX.out.chg hc1 (by omega))
      have HS1 := Lib.hid hs1
      have hsz1 := hc1.size
      have HV := Lib.hid (fun b hb => (HO1.out.lt b hb).2)
      clear hs1 hc1 HO HC HX HS H1
      simp only
      go_wp2_with fail
      obtain ⟨wb, hwb, XB, hbb, hsb⟩ := one_box w1 #[.int .i64 (k : Int), .int .i64 0, .int .i64 (1 + t)] 88
      rw [← hwb]
      clear hwb
      refine (H2.out _ (HS1.out.below hbb)).mono ?_
      rintro e w2 ⟨rfl, hs2, hc2⟩
      have XB2 := Lib.hid (XB.chg hc2 (by omega))
      have HO2 := Lib.hid (own_ne_chg (own_below HO1.out hbb) hc2 (by omega))
      have HC2 := Lib.hid ((chg_below HC1.out hbb).trans hc2)
      have HX2 := Lib.hid ((HX1.out.below hbb).chg hc2 (by omega))
      have HS2 := Lib.hid hs2
      have hsz2 := hc2.size
      clear hs2 hc2 HO1 HC1 HX1 HS1 H2 XB hbb
      simp only
      by_cases hq : q = 0
      · subst hq
        have ex := HEX.out
        rw [if_pos rfl] at ex
        have hr := HR2.out
        subst ex
        have HR3 := Lib.hid hr
        clear hr HR2 HEX
        go_wp2_with fail
        refine (H3.out _ HS2.out).mono ?_
        rintro e w3 ⟨rfl, hs3, hc3⟩
        have XB3 := XB2.out.chg hc3 (by omega)
        have HO3 := Lib.hid (own_ne_chg HO2.out hc3 (by omega))
        have HC3 := Lib.hid (HC2.out.trans hc3)
        have HX3 := Lib.hid (HX2.out.chg hc3 (by omega))
        have HS3 := Lib.hid hs3
        have hsz3 := hc3.size
        have F3 := XB3.f3
        clear hs3 hc3 HO2 HC2 HX2 HS2 H3 XB2
        simp only
        have hput := put_chg (g := w1.heap.size) [.int .i64 (k : Int), .int .i64 (1 + v3), .int .i64 0] 0 (Chg.refl w1.heap.size (w1.heap.size + 1) w3) (Nat.le_refl _) (by omega)
        have HO4 := Lib.hid (own_chg HO3.out hput (fun b hb => .inl (HV.out b hb)))
        have HS4 := Lib.hid (HS3.out.chg hput (by omega))
        have HC4 := Lib.hid (chg_put (i := 2) (chg_put (i := 1) (chg_put (i := 0) HC3.out (g := w1.heap.size) (by omega) (.int .i64 (k : Int))) (g := w1.heap.size) (by omega) (.int .i64 (1 + v3))) (g := w1.heap.size) (by omega) (.int .i64 0))
        have HX4 := Lib.hid (HX3.out.chg hput (.inl (by omega)))
        clear hput
        have HN4 := Lib.hid (show ((((w3.setCell ⟨w1.heap.size, 0, none⟩ (.int .i64 (k : Int))).setCell ⟨w1.heap.size, 1, none⟩ (.int .i64 (1 + v3))).setCell ⟨w1.heap.size, 2, none⟩ (.int .i64 0)).alloc (.cells #[.int .i64 (k : Int), .int .i64 (1 + v3), .int .i64 0] 88)).heap[w3.heap.size]? = some (.cells #[.int .i64 (k : Int), .int .i64 (1 + v3), .int .i64 0] 88 (0, 0)) from by
          have := heap_alloc_new (((w3.setCell ⟨w1.heap.size, 0, none⟩ (.int .i64 (k : Int))).setCell ⟨w1.heap.size, 1, none⟩ (.int .i64 (1 + v3))).setCell ⟨w1.heap.size, 2, none⟩ (.int .i64 0)) (.cells #[.int .i64 (k : Int), .int .i64 (1 + v3), .int .i64 0] 88)
          rwa [size_set, size_set, size_set] at this)
        go_wp2_with (at_builtin; refine app_fin _ rfl _ _ rfl rfl (HO4.out.alloc _) rfl HN4.out (by omega) ?cA ?_; rotate_left; intro g5 c5 w5 hown5 hgr5 _ _)
        · have HO5 := Lib.hid hown5
          have HS5 := Lib.hid (src_app HS4.out HO4.out (by omega) hgr5)
          have HC5 := Lib.hid (chg_app HC4.out HO4.out (by omega) hgr5)
          have HX5 := Lib.hid ((HX4.out.below ((Below.refl _ _).alloc (Nat.le_refl _) _)).grown hgr5 (fun e => by have := (HO4.out.lt _ e).1; omega))
          clear hown5 hgr5
          go_roundw
          case rel => exact ⟨k + 1, _, _, _, _, by omega, by go_num, rfl, HO5, HR3, HS5, HC5, HX5⟩
          case measure => simp [intOf] <;> omega
        · first | omega | (simp; omega)
      · have ex := HEX.out
        rw [if_neg hq] at ex
        have hqb : (q == 0) = false := by simpa using hq
        have hr := HR2.out
        subst ex
        have HR3 := Lib.hid hr
        have F2 := XB2.out.f3
        clear hr HR2 HEX hq XB2
        go_wp2_with (at_builtin; refine app_fin _ rfl _ _ rfl rfl (HO2.out.alloc _) rfl (heap_alloc_new _ _) (by omega) ?cB ?_; rotate_left; intro g5 c5 w5 hown5 hgr5 _ _)
        · have HO5 := Lib.hid hown5
          have HS5 := Lib.hid (src_app HS2.out HO2.out (by omega) hgr5)
          have HC5 := Lib.hid (chg_app HC2.out HO2.out (by omega) hgr5)
          have HX5 := Lib.hid ((HX2.out.below ((Below.refl _ _).alloc (Nat.le_refl _) _)).grown hgr5 (fun e => by have := (HO2.out.lt _ e).1; omega))
          clear hown5 hgr5
          go_roundw
          case rel => exact ⟨k + 1, _, _, _, _, by omega, by go_num, rfl, HO5, HR3, HS5, HC5, HX5⟩
          case measure => simp [intOf] <;> omega
        · first | omega | (simp; omega)
    · obtain rfl : k = N := by omega
      have hr := HR.out
      rw [Nat.sub_self, raceGo] at hr
      subst hr
      have F := HX.out.l1
      go_wp2_with fail
      refine bodyPost_ret (v := .agg #[.slice A' k c']) (by simp [results, Try.results124, go_sem, F]) rfl ?_
      have hxl := HX.out.lt
      have hput := put_chg (g := w.heap.size) [.slice A' k c'] 0 (Chg.refl w.heap.size (w.heap.size + 1) wr) (Nat.le_refl _) (by omega)
      exact ⟨_, _, _, rfl, own_base (own_chg HO.out hput (fun b hb => .inr (by have := (HO.out.lt b hb).1; omega))) (by omega), src_put HS.out hgl _, chg_put HC.out (Nat.le_refl _) _⟩
end Go.Proofs.Ytdldcjnidajmpaa

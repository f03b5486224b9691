/- Walks: drawn races, some spoiled. -/
import Derived.Test.YtdldcjnidajmpaaRd
import Derived.Test.YtdldcjnidajmpaaS1
import Derived.BigRegion
namespace Go.Proofs.Ytdldcjnidajmpaa
open Go.RowKit
set_option linter.unusedVariables false
set_option maxRecDepth 100000

theorem set_same {α : Type} {xs : List α} {k : Nat} {x : α} (h : xs[k]? = some x) : xs.set k x = xs := by
  obtain ⟨hk, he⟩ := List.getElem?_eq_some_iff.1 h
  rw [← he]; exact List.set_getElem_self hk
/-- What stands while a race is spoiled: b0 the result's box, b1 the variable's. -/
structure RSt (w0 w W : World) (A : Option Addr) (n cap : Nat) (code : List Int) (g b0 b1 m c : Nat) (A' : Option Addr) (s : St) (fs : List FinishT) : Prop where
  bx : Box W b0 #[.slice none 0 0] 31
  br : Box W b1 #[.slice A' m c] 31
  ow : W.ownsRow (b0 + 1) 88 3 (.slice A' m c) m (fins fs)
  rl : ∀ b, (Value.slice A' m c).ownBlock = some b → b < b1
  sx : Src w0 W A n cap code g s
  ch : Chg g (g + 1) w W
  gl : g < w.heap.size
  eb : b0 = w.heap.size
  lb : b0 < b1
theorem RSt.turn {w0 w W W' : World} {A A' : Option Addr} {n cap g b0 b1 m c : Nat} {code : List Int} {s s' : St} {fs : List FinishT} (h : RSt w0 w W A n cap code g b0 b1 m c A' s fs) (k : Chg g (g + 1) W W') (hs : Src w0 W' A n cap code g s') : RSt w0 w W' A n cap code g b0 b1 m c A' s' fs :=
  ⟨h.bx.chg k (by have := h.gl; have := h.eb; omega), h.br.chg k (by have := h.gl; have := h.eb; have := h.lb; omega), own_ne_chg h.ow k (by have := h.gl; have := h.eb; omega), h.rl, hs, h.ch.trans k, h.gl, h.eb, h.lb⟩
theorem RSt.drewN {w0 w W : World} {A A' : Option Addr} {n cap g b0 b1 m c : Nat} {code : List Int} {s : St} {fs : List FinishT} (h : RSt w0 w W A n cap code g b0 b1 m c A' s fs) (q : Nat) : RSt w0 w (W.drewN q) A n cap code g b0 b1 m c A' s fs :=
  h.turn (Chg.of_below (below_drewN' _ _ _)) (h.sx.drewN q)
/-- One cell of one finish is written. -/
theorem RSt.put {w0 w W : World} {A : Option Addr} {n cap g b0 b1 m c g5 k j : Nat} {code : List Int} {s : St} {fs : List FinishT} (h : RSt w0 w W A n cap code g b0 b1 m c (some ⟨g5, 0, none⟩) s fs) {x : FinishT} (hx : fs[k]? = some x) (hj : j < 3) (v : Value) (y : FinishT) (hy : finC y = (finC x).set j v) :
    RSt w0 w (W.setCell ⟨g5, k * 3 + j, none⟩ v) A n cap code g b0 b1 m c (some ⟨g5, 0, none⟩) s (fs.set k y) := by
  have h5 := h.ow.lt g5 rfl
  have h6 := h.rl g5 rfl
  have hg := h.gl
  have he := h.eb
  exact ⟨h.bx.other (by omega) _, h.br.other (by omega) _, own_set1 finC_len h.ow hj hx v y hy, h.rl, src_put h.sx (by omega) _, chg_put h.ch (by omega) _, h.gl, h.eb, h.lb⟩
/-- The result is laid. -/
theorem RSt.done {w0 w W : World} {A A' : Option Addr} {n cap g b0 b1 m c : Nat} {code : List Int} {s : St} {fs : List FinishT} (h : RSt w0 w W A n cap code g b0 b1 m c A' s fs) : RetFD w0 w A n cap code g (fs, s) (.returned (.agg #[.slice A' m c])) (W.setCell ⟨b0, 0, none⟩ (.slice A' m c)) := by
  have hxl := h.bx.lt
  have hg := h.gl
  have he := h.eb
  have hput := put_chg (g := b0) [.slice A' m c] 0 (Chg.refl b0 (b0 + 1) W) (Nat.le_refl _) (by omega)
  exact ⟨_, _, _, rfl, own_base (own_chg h.ow hput (fun b hb => .inr (by have := (h.ow.lt b hb).1; omega))) (by omega), src_put h.sx (by omega) _, chg_put h.ch (by omega) _⟩
set_option maxHeartbeats 4000000 in
theorem anyRaceD_any (w0 : World) (A : Option Addr) (n cap : Nat) (code : List Int) (hcode : Code0 w0 A n code) (g : Nat) (s : St) (N : Nat) (hN : N ≤ 17) (w : World) (h : Src w0 w A n cap code g s) :
    Calls Try.prog 79 #[.pointer (some ⟨g, 0, none⟩), .int .i64 (N : Int)] w (RetFD w0 w A n cap code g (anyRaceD code N s)) := by
  have hgl := h.lt
  have HNX := Lib.hid (fun s k hk w' h => next_any w0 A n cap code hcode g s k hk w' h)
  have HRC := Lib.hid (fun w' h => raceD_any w0 A n cap code hcode g s N hN w' h)
  unfold anyRaceD
  have hlen := raceD_len code N s
  generalize raceD code N s = R at *
  obtain ⟨fs, s1⟩ := R
  simp only at hlen
  have HLEN := Lib.hid hlen
  obtain ⟨wa, hwa, XR, hba, hsa⟩ := one_box w #[.slice none 0 0] 31
  have HS := Lib.hid (h.below hba)
  have HBA := Lib.hid hba
  clear h hlen hba
  go_enter Try.func79, Try.ntmps79
  go_wp2_with fail
  rw [← hwa]
  clear hwa
  go_wp2_with fail
  refine (HRC.out _ HS.out).mono ?_
  rintro e w1 ⟨A', m, c, rfl, ho1, hs1, hc1⟩
  have hml : fs.length = m := own_len_flat finC_len (by decide) ho1
  have hmn : m = N := by rw [← hml]; exact HLEN.out
  subst hmn
  have HML := Lib.hid hml
  have hz1 := hc1.size
  obtain ⟨b0, hb0⟩ : ∃ b, b = w.heap.size := ⟨_, rfl⟩
  obtain ⟨b1, hb1⟩ : ∃ b, b = w1.heap.size := ⟨_, rfl⟩
  obtain ⟨w2, hw2, X2, hb2, hs2⟩ := one_box w1 #[.slice A' m c] 31
  have HST := Lib.hid (show RSt w0 w w2 A n cap code g b0 b1 m c A' s1 fs from by
    subst hb0 hb1
    exact ⟨(XR.chg hc1 (by omega)).below hb2, X2, own_base (own_below ho1 hb2) (by omega), fun b hb => (ho1.lt b hb).2, hs1.below hb2, ((Chg.of_below HBA.out).trans hc1).trans (Chg.of_below hb2), hgl, rfl, by omega⟩)
  have HB0 := Lib.hid hb0
  have HB1 := Lib.hid hb1
  have HW2 := Lib.hid hw2
  have hbb : b0 < b1 := by omega
  have hgb : g < b0 := by omega
  have XR1 := (XR.chg hc1 (by omega)).l1
  have HO1 := Lib.hid (own_base (base' := w.heap.size + 1) ho1 (by omega))
  have HS1 := Lib.hid hs1
  have HC1 := Lib.hid ((Chg.of_below HBA.out).trans hc1)
  clear hml HLEN HRC HS HBA XR ho1 hs1 hc1 X2 hb2 hs2 hsa
  by_cases hN0 : m < 1
  · have hd : decide ((m : Int) < 1) = true := by simp; omega
    have hsp : spoilRace code m (fs, s1) = (fs, s1) := by unfold spoilRace; rw [if_pos hN0]
    have HSP := Lib.hid hsp
    clear hsp
    subst hw2 hb0 hb1
    have F1 := XR1
    clear HST HB0 HB1 HW2
    go_wp2_with fail
    refine bodyPost_ret (v := .agg #[.slice A' m c]) (by simp [results, Try.results79, go_sem, F1]) rfl ?_
    rw [HSP.out]
    have hput := put_chg (g := w.heap.size) [.slice A' m c] 0 (Chg.refl w.heap.size (w.heap.size + 1) w1) (Nat.le_refl _) (by omega)
    exact ⟨_, _, _, rfl, own_base (own_below (own_chg HO1.out hput (fun b hb => .inr (by have := (HO1.out.lt b hb).1; omega))) ((Below.refl _ _).alloc (Nat.le_refl _) _)) (by omega), (src_put HS1.out hgl _).alloc _, chg_alloc (chg_put HC1.out (Nat.le_refl _) _) _⟩
  · have hd : decide ((m : Int) < 1) = false := by simp; omega
    clear hw2 XR1 HO1 HS1 HC1
    have esp : spoilRace code m (fs, s1) = (fs.set (nextF code s1 (m : Int)).1.toNat (spoilFin (nextF code (nextF code s1 (m : Int)).2 24).1 m (if (nextF code (nextF code s1 (m : Int)).2 24).1 = 1 ∨ (nextF code (nextF code s1 (m : Int)).2 24).1 = 3 then nextF code (nextF code (nextF code s1 (m : Int)).2 24).2 2 else (0, (nextF code (nextF code s1 (m : Int)).2 24).2)).1 (fs.getD (nextF code s1 (m : Int)).1.toNat (0, 0, 0))), (if (nextF code (nextF code s1 (m : Int)).2 24).1 = 1 ∨ (nextF code (nextF code s1 (m : Int)).2 24).1 = 3 then nextF code (nextF code (nextF code s1 (m : Int)).2 24).2 2 else (0, (nextF code (nextF code s1 (m : Int)).2 24).2)).2) := by
      unfold spoilRace; rw [if_neg hN0]
    generalize spoilRace code m (fs, s1) = SP at *
    have b1' := nextF_bd code s1 (m : Int) (by omega)
    have H1 := Lib.hid (HNX.out s1 (m : Int) (by omega))
    generalize nextF code s1 (m : Int) = r1 at *
    obtain ⟨a0, s2⟩ := r1
    have H2 := Lib.hid (HNX.out s2 24 (by omega))
    simp only at esp b1'
    generalize nextF code s2 24 = r2 at *
    obtain ⟨t, s3⟩ := r2
    have H3 := Lib.hid (HNX.out s3 2 (by omega))
    have b3 := nextF_bd code s3 2 (by omega)
    simp only at esp
    generalize nextF code s3 2 = r3 at *
    obtain ⟨v3, s4⟩ := r3
    simp only at b3 esp
    obtain ⟨a00, a01⟩ := b1'
    obtain ⟨v30, v31⟩ := b3
    obtain ⟨k, rfl⟩ := int_up a0 a00
    rw [Int.toNat_natCast] at esp
    have hkm : k < m := by omega
    obtain ⟨x, hx, _⟩ := drop_cons (xs := fs) (k := k) (by rw [HML.out]; exact hkm)
    have hgd : fs.getD k (0, 0, 0) = x := by rw [List.getD_eq_getElem?_getD, hx]; rfl
    rw [hgd] at esp
    have HX := Lib.hid hx
    have HESP := Lib.hid esp
    clear esp hx hgd HNX hN0
    go_wp2_with fail
    rw [show w1.alloc (.cells #[.slice A' m c] 31) = w2 from HW2.out.symm]
    rw [← HB0.out, ← HB1.out]
    refine (H1.out _ HST.out.sx).mono ?_
    rintro e w3 ⟨rfl, hs3, hc3⟩
    have HST3 := Lib.hid (HST.out.turn hc3 hs3)
    clear hs3 hc3 HST H1 hb0 hb1
    simp only
    go_wp2_with fail
    refine (H2.out _ HST3.out.sx).mono ?_
    rintro e w4 ⟨rfl, hs4, hc4⟩
    have HST4 := Lib.hid (HST3.out.turn hc4 hs4)
    clear hs4 hc4 HST3 H2
    simp only
    obtain ⟨x0, x1, x2⟩ := x
    have hst := HST4.out
    obtain ⟨g5, y0, y1, y2, rfl, hg5, hg5l, hy, _, c0, c1, c2, f0, f1, f2⟩ := own_fin_at hst.ow hkm
    rw [HX.out] at hy
    obtain ⟨rfl, rfl, rfl⟩ : x0 = y0 ∧ x1 = y1 ∧ x2 = y2 := by injection hy with hy; injection hy with e1 hy; injection hy with e2 e3; exact ⟨e1, e2, e3⟩
    have g5b := hst.rl g5 rfl
    obtain ⟨r0, r1, r2⟩ := hst.br.l1
    have F0 := hst.bx.l1
    clear hy hst
    by_cases t0 : t = 0
    · subst t0
      have HD := Lib.hid (HST4.out.put HX.out (j := 2) (by decide) (.int .i64 0) ((x0, x1, 0)) rfl)
      have hesp := HESP.out
      rw [show spoilFin 0 m _ (x0, x1, x2) = (x0, x1, 0) from rfl, if_neg (by decide)] at hesp
      have HESP := Lib.hid hesp
      clear hesp
      go_wp2_with fail
      obtain ⟨w5, hw5⟩ : ∃ w5, w5 = w4.setCell ⟨g5, k * 3 + 2, none⟩ (.int .i64 0) := ⟨_, rfl⟩
      rw [← hw5] at HD
      rw [← hw5]
      clear hw5 c0 c1 c2 f0 f1 f2 r0 r1 r2 F0
      have F0 := HD.out.bx.l1
      have F1 := HD.out.br.l1
      have HFIN := Lib.hid HD.out.done
      go_wp2_with fail
      refine bodyPost_ret (v := .agg #[.slice (some ⟨g5, 0, none⟩) m c]) (by simp [results, Try.results79, go_sem, F0]) rfl ?_
      rw [HESP.out]
      exact HFIN.out
    · have tb0 : (t == 0) = false := by simpa using t0
      by_cases t1 : t = 1
      · subst t1
        have HQ := Lib.hid (show ∀ Z, Chg g (g + 1) w4.drew Z → Src w0 Z A n cap code g s4 → RSt w0 w Z A n cap code g b0 b1 m c (some ⟨g5, 0, none⟩) s4 fs ∧ Z.cell? ⟨b1, 0, none⟩ = some (.slice (some ⟨g5, 0, none⟩) m c) ∧ Z.cell? ⟨g5, k * 3 + 1, none⟩ = some (.int .i64 x1) ∧ Z.frozen? ⟨g5, k * 3 + 1, none⟩ = false from fun Z hc hs => by
          have h1 := (HST4.out.drewN 1).turn hc hs
          obtain ⟨g6, y0, y1, y2, hg6, _, _, hy, _, c0, c1, c2, f0, f1, f2⟩ := own_fin_at h1.ow hkm
          rw [HX.out] at hy
          obtain ⟨rfl, rfl, rfl⟩ : x0 = y0 ∧ x1 = y1 ∧ x2 = y2 := by injection hy with hy; injection hy with e1 hy; injection hy with e2 e3; exact ⟨e1, e2, e3⟩
          obtain rfl : g5 = g6 := by injection hg6 with hg6; injection hg6
          exact ⟨h1, h1.br.c1, c1, f1⟩)
        have HS4 := Lib.hid (HST4.out.drewN 1).sx
        have HWR := Lib.hid (show IntKind.i64.wrap (10 * v3) = 10 * v3 from IntWalk.i64_in _ (by omega))
        have hesp := HESP.out
        simp only [true_or, if_true] at hesp
        rw [show spoilFin 1 m v3 (x0, x1, x2) = (x0, 10 * v3, x2) from rfl] at hesp
        replace HESP := Lib.hid hesp
        clear hesp
        go_wp2_with fail
        go_region_with (go_at_call 81; (refine (H3.out _ HS4.out).mono ?_); (rintro e wq ⟨rfl, hsq, hcq⟩); (obtain ⟨hstq, r0q, cq, fq⟩ := HQ.out _ hcq hsq))
        all_goals
          (try rw [HWR.out])
          have HD := Lib.hid (hstq.put HX.out (j := 1) (by decide) (.int .i64 (10 * v3)) (x0, 10 * v3, x2) rfl)
          clear r0q cq fq c0 c1 c2 f0 f1 f2 r0 r1 r2 F0
          obtain ⟨w5, hw5⟩ : ∃ w5, w5 = wq.setCell ⟨g5, k * 3 + 1, none⟩ (.int .i64 (10 * v3)) := ⟨_, rfl⟩
          rw [← hw5] at HD
          rw [← hw5]
          clear hw5
          have F0 := HD.out.bx.l1
          have F1 := HD.out.br.l1
          have HFIN := Lib.hid HD.out.done
          go_wp2_with fail
          refine bodyPost_ret (v := .agg #[.slice (some ⟨g5, 0, none⟩) m c]) (by simp [results, Try.results79, go_sem, F0]) rfl ?_
          rw [HESP.out]
          exact HFIN.out
      · have tb1 : (t == 1) = false := by simpa using t1
        by_cases t2 : t = 2
        · subst t2
          have HD := Lib.hid (HST4.out.put HX.out (j := 0) (by decide) (.int .i64 (m : Int)) (((m : Int), x1, x2)) rfl)
          rw [Nat.add_zero] at HD
          have hesp := HESP.out
          rw [show spoilFin 2 m _ (x0, x1, x2) = ((m : Int), x1, x2) from rfl, if_neg (by decide)] at hesp
          have HESP := Lib.hid hesp
          clear hesp
          go_wp2_with fail
          obtain ⟨w5, hw5⟩ : ∃ w5, w5 = w4.setCell ⟨g5, k * 3, none⟩ (.int .i64 (m : Int)) := ⟨_, rfl⟩
          rw [← hw5] at HD
          rw [← hw5]
          clear hw5 c0 c1 c2 f0 f1 f2 r0 r1 r2 F0
          have F0 := HD.out.bx.l1
          have F1 := HD.out.br.l1
          have HFIN := Lib.hid HD.out.done
          go_wp2_with fail
          refine bodyPost_ret (v := .agg #[.slice (some ⟨g5, 0, none⟩) m c]) (by simp [results, Try.results79, go_sem, F0]) rfl ?_
          rw [HESP.out]
          exact HFIN.out
        · have tb2 : (t == 2) = false := by simpa using t2
          by_cases t3 : t = 3
          · subst t3
            have HQ := Lib.hid (show ∀ Z, Chg g (g + 1) w4.drew Z → Src w0 Z A n cap code g s4 → RSt w0 w Z A n cap code g b0 b1 m c (some ⟨g5, 0, none⟩) s4 fs ∧ Z.cell? ⟨b1, 0, none⟩ = some (.slice (some ⟨g5, 0, none⟩) m c) ∧ Z.cell? ⟨g5, k * 3 + 2, none⟩ = some (.int .i64 x2) ∧ Z.frozen? ⟨g5, k * 3 + 2, none⟩ = false from fun Z hc hs => by
              have h1 := (HST4.out.drewN 1).turn hc hs
              obtain ⟨g6, y0, y1, y2, hg6, _, _, hy, _, c0, c1, c2, f0, f1, f2⟩ := own_fin_at h1.ow hkm
              rw [HX.out] at hy
              obtain ⟨rfl, rfl, rfl⟩ : x0 = y0 ∧ x1 = y1 ∧ x2 = y2 := by injection hy with hy; injection hy with e1 hy; injection hy with e2 e3; exact ⟨e1, e2, e3⟩
              obtain rfl : g5 = g6 := by injection hg6 with hg6; injection hg6
              exact ⟨h1, h1.br.c1, c2, f2⟩)
            have HS4 := Lib.hid (HST4.out.drewN 1).sx
            have HWR := Lib.hid (show IntKind.i64.wrap (1000000000 + v3) = 1000000000 + v3 from IntWalk.i64_in _ (by omega))
            have hesp := HESP.out
            simp only [or_true, if_true] at hesp
            rw [show spoilFin 3 m v3 (x0, x1, x2) = (x0, x1, 1000000000 + v3) from rfl] at hesp
            replace HESP := Lib.hid hesp
            clear hesp
            go_wp2_with fail
            go_region_with (go_at_call 81; (refine (H3.out _ HS4.out).mono ?_); (rintro e wq ⟨rfl, hsq, hcq⟩); (obtain ⟨hstq, r0q, cq, fq⟩ := HQ.out _ hcq hsq))
            all_goals
              (try rw [HWR.out])
              have HD := Lib.hid (hstq.put HX.out (j := 2) (by decide) (.int .i64 (1000000000 + v3)) (x0, x1, 1000000000 + v3) rfl)
              clear r0q cq fq c0 c1 c2 f0 f1 f2 r0 r1 r2 F0
              obtain ⟨w5, hw5⟩ : ∃ w5, w5 = wq.setCell ⟨g5, k * 3 + 2, none⟩ (.int .i64 (1000000000 + v3)) := ⟨_, rfl⟩
              rw [← hw5] at HD
              rw [← hw5]
              clear hw5
              have F0 := HD.out.bx.l1
              have F1 := HD.out.br.l1
              have HFIN := Lib.hid HD.out.done
              go_wp2_with fail
              refine bodyPost_ret (v := .agg #[.slice (some ⟨g5, 0, none⟩) m c]) (by simp [results, Try.results79, go_sem, F0]) rfl ?_
              rw [HESP.out]
              exact HFIN.out
          · have tb3 : (t == 3) = false := by simpa using t3
            have hesp := HESP.out
            rw [show spoilFin t m _ (x0, x1, x2) = (x0, x1, x2) from by unfold spoilFin; rw [if_neg t0, if_neg t1, if_neg t2, if_neg t3], if_neg (by omega)] at hesp
            rw [show fs.set k (x0, x1, x2) = fs from set_same HX.out] at hesp
            replace HESP := Lib.hid hesp
            clear hesp
            have HD := HST4
            clear c0 c1 c2 f0 f1 f2 r0 r1 r2 F0
            have F0 := HD.out.bx.l1
            have F1 := HD.out.br.l1
            have HFIN := Lib.hid HD.out.done
            go_wp2_with fail
            refine bodyPost_ret (v := .agg #[.slice (some ⟨g5, 0, none⟩) m c]) (by simp [results, Try.results79, go_sem, F0]) rfl ?_
            rw [HESP.out]
            exact HFIN.out
end Go.Proofs.Ytdldcjnidajmpaa

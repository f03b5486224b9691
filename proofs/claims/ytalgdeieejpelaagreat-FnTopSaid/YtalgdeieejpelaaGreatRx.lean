/- Walks: drawn registers. -/
import Derived.Test.YtalgdeieejpelaaGreatRw
namespace Go.Proofs.YtalgdeieejpelaaGreat
open Go.RowKit Go.Sort
set_option linter.unusedVariables false
set_option maxRecDepth 100000

/-- A register is drawn. -/
def RetRD (w0 w : World) (A : Option Addr) (n cap : Nat) (code : List Int) (g : Nat) (r : RegT × St) (e : Ending) (w' : World) : Prop :=
  ∃ A' m c, e = .returned (.agg #[.int .i64 r.1.1, .int .i64 r.1.2.1, .slice A' m c]) ∧ w'.ownsRow w.heap.size 50 7 (.slice A' m c) m (ents r.1.2.2) ∧ Src w0 w' A n cap code g r.2 ∧ Chg g (g + 1) w w'
/-- What stands while a register is drawn. -/
structure RS (w0 w W : World) (A : Option Addr) (n cap : Nat) (code : List Int) (g : Nat) (A' : Option Addr) (m c : Nat) (s : St) (out : List EntryT) : Prop where
  d : DS w0 w W A n cap code g s
  bx : Box W w.heap.size #[.int .i64 0, .int .i64 0, .slice none 0 0] 31
  ow : W.ownsRow (w.heap.size + 1) 50 7 (.slice A' m c) m (ents out)
section
variable {w0 w W W' : World} {A A' : Option Addr} {n cap g m c : Nat} {code : List Int} {s s' : St} {out : List EntryT}
theorem RS.turn (h : RS w0 w W A n cap code g A' m c s out) (hs : Src w0 W' A n cap code g s') (hc : Chg g (g + 1) W W') : RS w0 w W' A n cap code g A' m c s' out :=
  ⟨h.d.turn hs hc, h.bx.chg hc (.inr h.d.gl), own_ne_chg h.ow hc (by have := h.d.gl; omega)⟩
theorem RS.below (h : RS w0 w W A n cap code g A' m c s out) (k : Below W.heap.size W W') : RS w0 w W' A n cap code g A' m c s out := ⟨h.d.below k, h.bx.below k, own_below h.ow k⟩
/-- An entry is appended. -/
theorem RS.app {A1 : Option Addr} {m1 c1 : Nat} {out1 : List EntryT} (h : RS w0 w W A n cap code g A' m c s out) (hg : W.grownBy W' (Value.slice A' m c).ownBlock) (ho : W'.ownsRow (w.heap.size + 1) 50 7 (.slice A1 m1 c1) m1 (ents out1)) : RS w0 w W' A n cap code g A1 m1 c1 s out1 :=
  ⟨h.d.grown h.ow (by omega) hg, h.bx.grown hg (fun e => by have := (h.ow.lt _ e).1; omega), ho⟩
theorem RS.put {g5 k j : Nat} (h : RS w0 w W A n cap code g (some ⟨g5, 0, none⟩) m c s out) {x : EntryT} (hx : out[k]? = some x) (hj : j < 7) (v : Value) (y : EntryT) (hy : entC y = (entC x).set j v) :
    RS w0 w (W.setCell ⟨g5, k * 7 + j, none⟩ v) A n cap code g (some ⟨g5, 0, none⟩) m c s (out.set k y) := by
  have h5 := h.ow.lt g5 rfl
  exact ⟨h.d.put (by omega) _ _, h.bx.other (by omega) _, own_set1 entC_len h.ow hj hx v y hy⟩
theorem RS.done (h : RS w0 w W A n cap code g A' m c s out) (b q : Int) : RetRD w0 w A n cap code g ((b, q, out), s) (.returned (.agg #[.int .i64 b, .int .i64 q, .slice A' m c])) (putW W w.heap.size 0 [.int .i64 b, .int .i64 q, .slice A' m c]) := by
  have hxl := h.bx.lt
  have hput := put_chg (g := w.heap.size) [.int .i64 b, .int .i64 q, .slice A' m c] 0 (Chg.refl w.heap.size (w.heap.size + 1) W) (Nat.le_refl _) (by omega)
  have hd := h.d.puts [.int .i64 b, .int .i64 q, .slice A' m c] (b := w.heap.size) (Nat.le_refl _) 0
  exact ⟨_, _, _, rfl, own_base (own_chg h.ow hput (fun b hb => .inr (by have := (h.ow.lt b hb).1; omega))) (by omega), hd.src, hd.ch⟩
end
set_option maxHeartbeats 4000000 in
theorem regD_any (w0 : World) (A : Option Addr) (n cap : Nat) (code : List Int) (hcode : Code0 w0 A n code) (g : Nat) (s : St) (w : World) (h : Src w0 w A n cap code g s) :
    Calls Tryz.prog 47 #[.pointer (some ⟨g, 0, none⟩)] w (RetRD w0 w A n cap code g (regD code s)) := by
  have hgl := h.lt
  have HNX := Lib.hid (fun s k hk w' h => next_any w0 A n cap code hcode g s k hk w' h)
  have HBT := Lib.hid (fun w' h => boatsD_any w0 A n cap code hcode g s w' h)
  have HEN := Lib.hid (fun s b hb w' h => entX_any w0 A n cap code hcode g s b hb w' h)
  have ex := regD_eq code s
  generalize regD code s = X at *
  have q1 := boatsD_bd code s
  generalize boatsD code s = r1 at *
  obtain ⟨v1, s1⟩ := r1
  simp only at ex q1
  have H2 := Lib.hid (HNX.out s1 2 (by omega))
  have q2 := nextF_bd code s1 2 (by omega)
  generalize nextF code s1 2 = r2 at *
  obtain ⟨v2, s2⟩ := r2
  simp only at q2
  simp only at ex
  have H3 := Lib.hid (HNX.out s2 20 (by omega))
  have q3 := nextF_bd code s2 20 (by omega)
  generalize nextF code s2 20 = r3 at *
  obtain ⟨v3, s3⟩ := r3
  simp only at q3
  simp only at ex
  obtain ⟨N, rfl⟩ := int_up v3 q3.1
  rw [Int.toNat_natCast] at ex
  have hN : N ≤ 19 := by omega
  generalize hR : entsD code v1 N [] s3 = R at *
  have HR := Lib.hid hR
  have HEX := Lib.hid ex
  obtain ⟨wa, hwa, XR, hba, hsa⟩ := one_box w #[.int .i64 0, .int .i64 0, .slice none 0 0] 31
  have HD0 := Lib.hid (DS.below (w := w) ⟨h, Chg.refl _ _ _, hgl⟩ hba)
  have HX0 := Lib.hid XR
  clear h hba XR ex hR
  go_enter Tryz.func47, Tryz.ntmps47
  go_wp2_with fail
  rw [← hwa]
  clear hwa
  go_wp2_with fail
  refine (HBT.out _ HD0.out.src).mono ?_
  rintro e w1 ⟨rfl, hs, hc⟩
  have HD1 := Lib.hid (HD0.out.turn hs hc)
  have HX1 := Lib.hid (HX0.out.chg hc (.inr (by omega)))
  clear hs hc HBT HD0 HX0
  simp only
  go_wp2_with fail
  refine (H2.out _ HD1.out.src).mono ?_
  rintro e w2 ⟨rfl, hs, hc⟩
  have HD2 := Lib.hid (HD1.out.turn hs hc)
  have HX2 := Lib.hid (HX1.out.chg hc (.inr (by omega)))
  clear hs hc H2 HD1 HX1
  simp only
  go_wp2_with fail
  have hz2 := HX2.out.lt
  have HS2 := Lib.hid (show RS w0 w (w2.alloc (.cells #[] 50)) A n cap code g (some ⟨w2.heap.size, 0, none⟩) 0 0 s2 [] from ⟨HD2.out.below ((Below.refl _ _).alloc (Nat.le_refl _) _), HX2.out.below ((Below.refl _ _).alloc (Nat.le_refl _) _), own_emptyE w2 (w.heap.size + 1) 50 7 (by omega)⟩)
  clear HD2 HX2
  generalize w2.alloc (.cells #[] 50) = w2a at *
  refine (H3.out _ HS2.out.d.src).mono ?_
  rintro e w3 ⟨rfl, hs, hc⟩
  have HS3 := Lib.hid (HS2.out.turn hs hc)
  clear hs hc H3 HS2
  simp only
  go_wp2_with fail
  go_loopw [5, 6] (fun v u wr => ∃ (k m c' : Nat) (A' : Option Addr) (out : List EntryT) (s' : St), k ≤ N ∧ m + k ≤ N ∧ u = .int .i64 k ∧ v = .slice A' m c' ∧ Hid (entsD code v1 k out s' = R) ∧ Hid (RS w0 w wr A n cap code g A' m c' s' out)) (fun _ u _ => (intOf u).toNat)
  case atStart => exact ⟨N, 0, _, _, [], s3, Nat.le_refl _, by omega, rfl, rfl, HR, HS3⟩
  case round =>
    clear HR HS3
    obtain ⟨k, m, c', A', out, s', hk, hmk, rfl, rfl, HR, HS⟩ := hrel
    obtain ⟨wo, hwo⟩ : ∃ wo : World, wo = wr := ⟨_, rfl⟩
    subst hwo
    rcases k with _ | k
    rotate_left
    · have hki : decide (((k + 1 : Nat) : Int) > 0) = true := by first | (simp; done) | (simp; omega)
      have hr := HR.out
      unfold entsD at hr
      have H5 := Lib.hid (HEN.out s' v1 (by omega))
      generalize entX code v1 s' = r5 at *
      obtain ⟨⟨x0, x1, x2, x3, x4, x5, x6⟩, s5⟩ := r5
      simp only at hr
      have HR2 := Lib.hid hr
      clear hr HR
      have H6 := Lib.hid (HNX.out s5 60 (by omega))
      generalize nextF code s5 60 = r6 at *
      obtain ⟨v6, s6⟩ := r6
      go_wp2_with fail
      refine (H5.out _ HS.out.d.src).mono ?_
      rintro e w5 ⟨rfl, hs, hc⟩
      have HS5 := Lib.hid (HS.out.turn hs hc)
      have hz5 := HS5.out.d.ch.size
      clear hs hc H5 HS
      simp only [E.race, E.boat, E.rev, E.code, E.time, E.kind, E.points]
      obtain ⟨wb, hwb, XB, hbb, hsb⟩ := one_box w5 #[.int .i64 x0, .int .i64 x1, .int .i64 x2, .int .i64 x3, .int .i64 x4, .int .i64 x5, .int .i64 x6] 50
      have HXB := Lib.hid XB
      have HSB := Lib.hid (HS5.out.below hbb)
      clear XB hbb HS5
      have HH := Lib.hid (l33Has_any A' m c' out x0 x1 x2 x3 x4 x5 x6 wb (own_rd HSB.out.ow))
      have FX := HXB.out.f7
      cases hh : hasB out (x0, x1, x2, x3, x4, x5, x6) with
      | false =>
        rw [hh] at HH
        have HR3 := Lib.hid (show entsD code v1 k (out ++ [(x0, x1, x2, x3, x4, x5, x6)]) s5 = R from by have := HR2.out; rw [hh] at this; simpa using this)
        clear HR2 hh
        go_wp2_with fail
        rw [← hwb]
        clear hwb
        go_wp2_with fail
        refine HH.out.mono ?_
        rintro e w6 ⟨rfl, hb6⟩
        have HS6 := Lib.hid (HSB.out.below hb6)
        have FX := (HXB.out.below hb6).f7
        clear hb6 HH HSB HXB
        have hz6 := HS6.out.bx.lt
        go_wp2_with (at_builtin; refine app_ent (x0 := x0) (x1 := x1) (x2 := x2) (x3 := x3) (x4 := x4) (x5 := x5) (x6 := x6) _ rfl _ _ rfl rfl (own_below HS6.out.ow ((Below.refl _ _).alloc (Nat.le_refl _) _)) rfl (heap_alloc_new _ _) (by omega) ?cBs5 ?_; rotate_left; intro g9 c9 w9 hown9 hgr9 _ _)
        · have HS9 := Lib.hid ((HS6.out.below ((Below.refl _ _).alloc (Nat.le_refl _) _)).app hgr9 hown9)
          clear hown9 hgr9
          go_roundw
          case rel => exact ⟨k, m + 1, _, _, _, s5, by omega, by omega, by go_num, rfl, HR3, HS9⟩
          case measure => simp [intOf] <;> omega
        · first | omega | (simp; omega)
      | true =>
        rw [hh] at HH
        have hr := HR2.out
        rw [hh, if_pos rfl] at hr
        skip
        by_cases hv6 : v6 = 0
        · subst hv6
          rw [if_pos rfl] at hr
          have HR3 := Lib.hid hr
          clear HR2 hh hr
          go_wp2_with fail
          rw [← hwb]
          clear hwb
          go_wp2_with fail
          refine HH.out.mono ?_
          rintro e w6 ⟨rfl, hb6⟩
          have HS6 := Lib.hid (HSB.out.below hb6)
          have HX6 := Lib.hid (HXB.out.below hb6)
          clear hb6 HH HSB HXB FX
          go_wp2_with fail
          refine (H6.out _ HS6.out.d.src).mono ?_
          rintro e w7 ⟨rfl, hs, hc⟩
          have hgs := HS6.out.d.ch.size
          have HS7 := Lib.hid (HS6.out.turn hs hc)
          have FX := (HX6.out.chg hc (.inr (by omega))).f7
          clear hs hc HS6 HX6 H6
          simp only
          have hz6 := HS7.out.bx.lt
          go_wp2_with (at_builtin; refine app_ent (x0 := x0) (x1 := x1) (x2 := x2) (x3 := x3) (x4 := x4) (x5 := x5) (x6 := x6) _ rfl _ _ rfl rfl (own_below HS7.out.ow ((Below.refl _ _).alloc (Nat.le_refl _) _)) rfl (heap_alloc_new _ _) (by omega) ?cBs6 ?_; rotate_left; intro g9 c9 w9 hown9 hgr9 _ _)
          · have HS9 := Lib.hid ((HS7.out.below ((Below.refl _ _).alloc (Nat.le_refl _) _)).app hgr9 hown9)
            clear hown9 hgr9
            go_roundw
            case rel => exact ⟨k, m + 1, _, _, _, s6, by omega, by omega, by go_num, rfl, HR3, HS9⟩
            case measure => simp [intOf] <;> omega
          · first | omega | (simp; omega)
        · have hv6b : (v6 == 0) = false := by simp [hv6]
          rw [if_neg hv6] at hr
          have HR3 := Lib.hid hr
          clear HR2 hh hr hv6
          go_wp2_with fail
          rw [← hwb]
          clear hwb
          go_wp2_with fail
          refine HH.out.mono ?_
          rintro e w6 ⟨rfl, hb6⟩
          have HS6 := Lib.hid (HSB.out.below hb6)
          clear hb6 HH HSB HXB FX
          go_wp2_with fail
          refine (H6.out _ HS6.out.d.src).mono ?_
          rintro e w7 ⟨rfl, hs, hc⟩
          have HS7 := Lib.hid (HS6.out.turn hs hc)
          clear hs hc HS6 H6
          simp only
          go_wp2_with fail
          go_roundw
          case rel => exact ⟨k, m, c', A', out, s6, by omega, by omega, by go_num, rfl, HR3, HS7⟩
          case measure => simp [intOf] <;> omega
    · have hki : decide (((0 : Nat) : Int) > 0) = false := by simp
      have hr := HR.out
      unfold entsD at hr
      have HR2 := Lib.hid hr
      clear hr HR
      have ex := HEX.out
      rw [← HR2.out] at ex
      clear HEX HR2
      have HML := Lib.hid (own_len_flat entC_len (by decide) HS.out.ow)
      by_cases hm0 : m = 0
      · subst hm0
        have e0 : out = [] := List.eq_nil_of_length_eq_zero HML.out
        subst e0
        rw [show spoilR code v1 ([], s') = ([], s') from rfl] at ex
        subst ex
        have F0 := HS.out.bx.f3
        go_wp2_with fail
        refine bodyPost_ret (v := .agg #[.int .i64 v1, .int .i64 v2, .slice A' 0 c']) (by simp [results, Tryz.results47, go_sem, F0]) rfl ?_
        exact HS.out.done v1 v2
      · have hmi : decide ((m : Int) > 0) = true := by simp; omega
        rw [spoilR_eq code v1 (out, s') (by simp only; rw [HML.out]; exact hm0)] at ex
        simp only at ex
        rw [HML.out] at ex
        have H5 := Lib.hid (HNX.out s' 16 (by omega))
        have q5 := nextF_bd code s' 16 (by omega)
        generalize nextF code s' 16 = r5 at *
        obtain ⟨v5, s5⟩ := r5
        simp only at q5
        simp only at ex
        have H6 := Lib.hid (HNX.out s5 (m : Int) (by omega))
        have q6 := nextF_bd code s5 (m : Int) (by omega)
        generalize nextF code s5 (m : Int) = r6 at *
        obtain ⟨v6, s6⟩ := r6
        simp only at q6
        simp only at ex
        have H7 := Lib.hid (HNX.out s6 4 (by omega))
        have q7 := nextF_bd code s6 4 (by omega)
        generalize nextF code s6 4 = r7 at *
        obtain ⟨v7, s7⟩ := r7
        simp only at q7
        simp only at ex
        have H8 := Lib.hid (HNX.out s7 2 (by omega))
        have q8 := nextF_bd code s7 2 (by omega)
        generalize nextF code s7 2 = r8 at *
        obtain ⟨v8, s8⟩ := r8
        simp only at q8
        simp only at ex
        by_cases hv5 : v5 = 0
        rotate_left
        · have hv5b : (v5 == 0) = false := by simp [hv5]
          rw [if_neg hv5] at ex
          subst ex
          clear hv5
          go_wp2_with fail
          refine (H5.out _ HS.out.d.src).mono ?_
          rintro e w5 ⟨rfl, hs, hc⟩
          have HS5 := Lib.hid (HS.out.turn hs hc)
          clear hs hc HS H5
          simp only
          have F0 := HS5.out.bx.f3
          go_wp2_with fail
          refine bodyPost_ret (v := .agg #[.int .i64 v1, .int .i64 v2, .slice A' m c']) (by simp [results, Tryz.results47, go_sem, F0]) rfl ?_
          exact HS5.out.done v1 v2
        subst hv5
        rw [if_pos rfl] at ex
        obtain ⟨k, rfl⟩ := int_up v6 q6.1
        rw [Int.toNat_natCast] at ex
        have hkm : k < m := by omega
        obtain ⟨⟨x0, x1, x2, x3, x4, x5, x6⟩, hx, _⟩ := drop_cons (xs := out) (k := k) (by rw [HML.out]; exact hkm)
        have hgd : out.getD k (0, 0, 0, 0, 0, 0, 0) = (x0, x1, x2, x3, x4, x5, x6) := by rw [List.getD_eq_getElem?_getD, hx]; rfl
        rw [hgd] at ex
        have HX := Lib.hid hx
        have HEX := Lib.hid ex
        clear ex hx hgd HNX
        go_wp2_with fail
        refine (H5.out _ HS.out.d.src).mono ?_
        rintro e w5 ⟨rfl, hs, hc⟩
        have HS5 := Lib.hid (HS.out.turn hs hc)
        clear hs hc HS H5
        simp only
        go_wp2_with fail
        refine (H6.out _ HS5.out.d.src).mono ?_
        rintro e w6 ⟨rfl, hs, hc⟩
        have HS6 := Lib.hid (HS5.out.turn hs hc)
        clear hs hc HS5 H6
        simp only
        go_wp2_with fail
        refine (H7.out _ HS6.out.d.src).mono ?_
        rintro e w7 ⟨rfl, hs, hc⟩
        have HS7 := Lib.hid (HS6.out.turn hs hc)
        clear hs hc HS6 H7
        simp only
        obtain ⟨g5, y0, y1, y2, y3, y4, y5, y6, rfl, hg5, hg5l, hy, _, c0, c1, c2, c3, c4, c5, c6, fz⟩ := own_ent_at HS7.out.ow hkm
        clear hy
        by_cases t0 : v7 = 0
        · subst t0
          have ex := HEX.out
          rw [show spoilE 0 v8 v1 (x0, x1, x2, x3, x4, x5, x6) = (x0, v1, x2, x3, x4, x5, x6) from rfl, if_neg (by decide)] at ex
          subst ex
          have HP := Lib.hid (HS7.out.put HX.out (j := 1) (by decide) (.int .i64 v1) (x0, v1, x2, x3, x4, x5, x6) rfl)
          have F0 := HS7.out.bx.f3
          have hne : (w.heap.size = g5) = False := by simp; omega
          have hne2 : (g5 = w.heap.size) = False := by simp; omega
          go_wp2_with fail
          refine bodyPost_ret (v := .agg #[.int .i64 v1, .int .i64 v2, .slice (some ⟨g5, 0, none⟩) m c']) (by simp [results, Tryz.results47, go_sem, F0]) rfl ?_
          exact HP.out.done v1 v2
        have t0b : (v7 == 0) = false := by simp [t0]
        by_cases t1 : v7 = 1
        · subst t1
          have ex := HEX.out
          rw [show spoilE 1 v8 v1 (x0, x1, x2, x3, x4, x5, x6) = (x0, x1, x2, x3, -1, x5, x6) from rfl, if_neg (by decide)] at ex
          subst ex
          have HP := Lib.hid (HS7.out.put HX.out (j := 4) (by decide) (.int .i64 (-1)) (x0, x1, x2, x3, -1, x5, x6) rfl)
          have F0 := HS7.out.bx.f3
          have hne : (w.heap.size = g5) = False := by simp; omega
          have hne2 : (g5 = w.heap.size) = False := by simp; omega
          go_wp2_with fail
          refine bodyPost_ret (v := .agg #[.int .i64 v1, .int .i64 v2, .slice (some ⟨g5, 0, none⟩) m c']) (by simp [results, Tryz.results47, go_sem, F0]) rfl ?_
          exact HP.out.done v1 v2
        have t1b : (v7 == 1) = false := by simp [t1]
        by_cases t2 : v7 = 2
        · subst t2
          have ex := HEX.out
          rw [show spoilE 2 v8 v1 (x0, x1, x2, x3, x4, x5, x6) = (x0, x1, x2, x3, x4, 4, x6) from rfl, if_neg (by decide)] at ex
          subst ex
          have HP := Lib.hid (HS7.out.put HX.out (j := 5) (by decide) (.int .i64 4) (x0, x1, x2, x3, x4, 4, x6) rfl)
          have F0 := HS7.out.bx.f3
          have hne : (w.heap.size = g5) = False := by simp; omega
          have hne2 : (g5 = w.heap.size) = False := by simp; omega
          go_wp2_with fail
          refine bodyPost_ret (v := .agg #[.int .i64 v1, .int .i64 v2, .slice (some ⟨g5, 0, none⟩) m c']) (by simp [results, Tryz.results47, go_sem, F0]) rfl ?_
          exact HP.out.done v1 v2
        have t2b : (v7 == 2) = false := by simp [t2]
        obtain rfl : v7 = 3 := by omega
        have ex := HEX.out
        rw [show spoilE 3 v8 v1 (x0, x1, x2, x3, x4, x5, x6) = (x0, x1, 1001 * v8, x3, x4, x5, x6) from rfl, if_pos rfl] at ex
        subst ex
        clear t0b t1b t2b t0 t1 t2 c0 c1 c2 c3 c4 c5 c6 fz
        go_wp2_with fail
        refine (H8.out _ HS7.out.d.src).mono ?_
        rintro e w8 ⟨rfl, hs, hc⟩
        have HS8 := Lib.hid (HS7.out.turn hs hc)
        clear hs hc HS7 H8
        simp only
        obtain ⟨g6, z0, z1, z2, z3, z4, z5, z6, hg6, _, hg6l, hy, _, c0, c1, c2, c3, c4, c5, c6, fz⟩ := own_ent_at HS8.out.ow hkm
        obtain rfl : g5 = g6 := by injection hg6 with e; injection e
        clear hy hg6
        have HP := Lib.hid (HS8.out.put HX.out (j := 2) (by decide) (.int .i64 (1001 * v8)) (x0, x1, 1001 * v8, x3, x4, x5, x6) rfl)
        have F0 := HS8.out.bx.f3
        have hne : (w.heap.size = g5) = False := by simp; omega
        have hne2 : (g5 = w.heap.size) = False := by simp; omega
        go_wp2_with fail
        refine bodyPost_ret (v := .agg #[.int .i64 v1, .int .i64 v2, .slice (some ⟨g5, 0, none⟩) m c']) (by simp [results, Tryz.results47, go_sem, F0]) rfl ?_
        exact HP.out.done v1 v2
end Go.Proofs.YtalgdeieejpelaaGreat

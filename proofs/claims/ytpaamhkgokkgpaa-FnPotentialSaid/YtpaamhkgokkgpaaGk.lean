/- Walks: routes (chapter 32). -/
import Derived.Test.YtpaamhkgokkgpaaGj
import Derived.Test.YtpaamhkgokkgpaaWz
namespace Go.Proofs.Ytpaamhkgokkgpaa
open Go.RowKit
set_option linter.unusedVariables false
set_option maxRecDepth 100000

/-- A route, step by step: the cells so far, the last of them, the time so far. -/
def routeL (W H : Int) (xs : List (Int × Int)) : List Int → List Int → Int → Int → Option (List Int × Int)
  | [], cs, _, t => some (cs, t)
  | d :: r, cs, c, t => if (withinB d 0 7 && moveB W H xs c d) = true then routeL W H xs r (cs ++ [nbF W H c d]) (nbF W H c d) (t + takeF xs c d) else none
def sailR : Option (List Int × Int) → List Int × Int × Int
  | some r => (r.1, r.2, 0)
  | none => ([], 0, 5)
def sailRouteF (W H : Int) (xs : List (Int × Int)) (cell : Int) (route : List Int) : List Int × Int × Int :=
  if gcodeF W H xs cell = 0 then (if route.length ≤ 100 then sailR (routeL W H xs route [cell] cell 0) else ([], 0, 3)) else ([], 0, gcodeF W H xs cell)
theorem moveB_nb {W H : Int} {xs : List (Int × Int)} {c d : Int} (h : moveB W H xs c d = true) : nbB W H c d = true := by
  unfold moveB at h
  simp only [Bool.and_eq_true] at h
  exact h.1
/-- A slice of own integers. -/
def IntsAt (w : World) (base : Nat) (v : Value) (n : Nat) (cs : List Int) : Prop := ∃ A c, v = .slice A n c ∧ w.ownsRow base 2 1 (.slice A n c) n (ints cs)
theorem own_one (w : World) (base : Nat) (e : TypeId) (x : Int) (hb : base ≤ w.heap.size) : (w.alloc (.cells #[.int .i64 x] e)).ownsRow base e 1 (.slice (some ⟨w.heap.size, 0, none⟩) 1 1) 1 (ints [x]) := by
  have := World.ownsRow_lit (base := base) (e := e) (size := 1) w #[.int .i64 x] 1 hb (by unfold maxLen; omega) (by simp)
  simpa [ints] using this
def RetSail (w : World) (r : List Int × Int × Int) (e : Ending) (w' : World) : Prop :=
  ∃ A n c, e = .returned (.tuple #[.slice A n c, .int .i64 r.2.1, .int .i64 r.2.2]) ∧ w'.ownsRow w.heap.size 2 1 (.slice A n c) n (ints r.1) ∧ n ≤ 1048576 ∧ Below w.heap.size w w'
theorem RetSail.nil (w w' : World) (code : Int) (h : Below w.heap.size w w') : RetSail w ([], 0, code) (.returned (.tuple #[.slice none 0 0, .int .i64 0, .int .i64 code])) w' :=
  ⟨none, 0, 0, rfl, World.ownsRow_nil _ _ _ _, by omega, h⟩
set_option maxHeartbeats 1000000 in
theorem sailRoute_any (W H : Int) (A : Option Addr) (n c : Nat) (xs : List (Int × Int)) (cell : Int) (A2 : Option Addr) (m c2 : Nat) (route : List Int) (w : World) (h : Rd w 2 A n (winds xs)) (h2 : Rd w 1 A2 m (ints route)) :
    Calls Try.prog 63 #[.agg #[.int .i64 W, .int .i64 H, .slice A n c], .int .i64 cell, .slice A2 m c2] w (RetSail w (sailRouteF W H xs cell route)) := by
  have HN := Lib.hid h2.len_int
  have hm := h2.le
  have HB := Lib.hid (show ∀ o, Below w.heap.size w (w.alloc o) from fun o => (Below.refl _ _).alloc (Nat.le_refl _) o)
  have HC := Lib.hid (fun w' (hb : Below w.heap.size w w') => gridCode_any W H A n c xs cell w' (h.below hb))
  unfold sailRouteF
  by_cases hz : gcodeF W H xs cell = 0
  · obtain ⟨hg, c1, c2'⟩ := gcode_ok hz
    rw [hz] at HC
    simp only [hz, if_true, HN.out]
    by_cases hlen : m ≤ 100
    · simp only [if_pos hlen]
      have HMT := Lib.hid (fun c' d (g1 : 0 ≤ c') (g2 : c' < W * H) (d1 : 0 ≤ d) (d2 : d ≤ 7) w' (hb : Below w.heap.size w w') => moveTime_any W H A n c xs c' d hg g1 g2 d1 d2 w' (h.below hb))
      have HNB := Lib.hid (fun c' d (g1 : 0 ≤ c') (g2 : c' < W * H) (d1 : 0 ≤ d) (d2 : d ≤ 7) w' => implNb_any W H A n c c' d hg.w1 hg.w2 hg.h1 hg.h2 g1 g2 d1 d2 w')
      have HBD := Lib.hid (fun c' d (g1 : 0 ≤ c') (g2 : c' < W * H) hh => moveF_bd (d := d) hg hh g1 g2)
      have HCL := Lib.hid (fun c' d (hh : moveB W H xs c' d = true) => nb_cell (cell := c') (d := d) hg.w1 hg.h1 (moveB_nb hh))
      have HMF := Lib.hid (show ∀ c' d, moveF W H xs c' d = if moveB W H xs c' d = true then takeF xs c' d else -1 from fun _ _ => rfl)
      generalize hres : routeL W H xs route [cell] cell 0 = res
      have HRES := Lib.hid hres
      obtain ⟨N, hN⟩ : ∃ N, N = W * H := ⟨_, rfl⟩
      rw [← hN] at c2' HMT HNB HBD HCL
      clear hres hz hg hN h
      go_enter Try.func63, Try.ntmps63
      go_wp2_with fail
      refine (HC.out _ (HB.out _)).mono ?_
      rintro e w2 ⟨rfl, hb2⟩
      obtain ⟨x0, x1, x2, hs2, hb2'⟩ := box3 hb2
      have B2 := Lib.hid hb2'
      clear hb2 hb2'
      go_wp2_with fail
      have hone := own_one w2 w2.heap.size 2 cell (Nat.le_refl _)
      have hb3 : Below w2.heap.size w2 (w2.alloc (.cells #[.int .i64 cell] 2)) := (Below.refl _ _).alloc (Nat.le_refl _) _
      go_loopw [10, 11, 13, 14, 28] (fun v t _ _ i wr => ∃ (k : Nat) (cs : List Int) (c' tt : Int), k ≤ m ∧ i = .int .i64 k ∧ t = .int .i64 tt ∧ IntsAt wr w2.heap.size v (k + 1) cs ∧ cs[k]? = some c' ∧ 0 ≤ c' ∧ c' < N ∧ 0 ≤ tt ∧ tt ≤ 2520 * k ∧ routeL W H xs (route.drop k) cs c' tt = res ∧ Below w2.heap.size w2 wr) (fun _ _ _ _ i _ => m - (intOf i).toNat)
      case atStart => exact ⟨0, [cell], cell, 0, Nat.zero_le _, rfl, rfl, ⟨_, _, rfl, hone⟩, rfl, c1, c2', by omega, by omega, HRES.out, hb3⟩
      case round =>
        clear hone hb3 HRES
        obtain ⟨k, cs, c', tt, hk, rfl, rfl, ⟨A1, c3, rfl, ho⟩, hcl, g1, g2, t1, t2, hr, hb⟩ := hrel
        have hl := own_len ho
        have HL := Lib.hid hl
        have HCS := Lib.hid hcl
        have HR := Lib.hid hr
        have s3 := hb.size
        clear hl hr
        by_cases hlt : k < m
        · obtain ⟨b, o, d, rfl, hx, hd, hc⟩ := ((h2.below B2.out).below hb).int hlt
          have HD := Lib.hid hd
          obtain ⟨g, y, rfl, hg1, hg2, hy, hcy, _⟩ := own_int_at ho (k := k) (by omega)
          obtain rfl : y = c' := by rw [hcl] at hy; injection hy with hy; exact hy.symm
          have BR := Lib.hid hb
          replace x0 := Keeps.below hb _ _ x0
          replace x1 := Keeps.below hb _ _ x1
          replace x2 := Keeps.below hb _ _ x2
          have HO := Lib.hid ho
          clear hd hx hy ho hb hcl
          cases hw : withinB d 0 7 with
          | false =>
            go_wp2_with (go_at_call 50; refine (within_any _ _ _ _).mono ?_; rintro e w' ⟨rfl, rfl⟩)
            refine bodyPost_ret (results_tmp3 rfl _ _ _) rfl ?_
            have hn : res = none := by rw [← HR.out, HD.out, routeL, hw]; rfl
            rw [hn]
            exact RetSail.nil w _ 5 (B2.out.trans (BR.out.mono B2.out.size))
          | true =>
            obtain ⟨d1, d2⟩ := withinB_iff.1 hw
            have HM := Lib.hid (HMF.out y d)
            have HW := Lib.hid hw
            generalize hmf : moveF W H xs y d = r at *
            have HMT1 := Lib.hid (fun w' hb => HMT.out y d g1 g2 d1 d2 w' hb)
            rw [hmf] at HMT1
            clear hmf
            cases hmb : moveB W H xs y d with
            | false =>
              obtain rfl : r = -1 := by rw [HM.out, hmb]; rfl
              have HMB := Lib.hid hmb
              clear hmb
              go_wp2_with (go_at_call 50; refine (within_any _ _ _ _).mono ?_; rintro e w' ⟨rfl, rfl⟩)
              refine (HMT1.out _ (B2.out.trans (BR.out.mono B2.out.size))).mono ?_
              rintro e w3 ⟨rfl, hbw3⟩
              replace x0 := Keeps.below hbw3 _ _ x0
              replace x1 := Keeps.below hbw3 _ _ x1
              replace x2 := Keeps.below hbw3 _ _ x2
              replace BR := Lib.hid (BR.out.trans (hbw3.mono BR.out.size))
              have sw3 := hbw3.size
              replace HO := Lib.hid (own_below HO.out hbw3)
              clear hbw3
              go_wp2_with fail
              refine bodyPost_ret (results_tmp3 rfl _ _ _) rfl ?_
              have hn : res = none := by rw [← HR.out, HD.out, routeL, HW.out, HMB.out]; rfl
              rw [hn]
              exact RetSail.nil w _ 5 (B2.out.trans (BR.out.mono B2.out.size))
            | true =>
              obtain ⟨k1, k2⟩ := HBD.out y d g1 g2 hmb
              obtain ⟨n1, n2⟩ := HCL.out y d hmb
              have HT := Lib.hid (show takeF xs y d = r by rw [HM.out, hmb]; rfl)
              rw [HT.out] at k1 k2
              have HNB1 := Lib.hid (fun w' => HNB.out y d g1 g2 d1 d2 w')
              have HMB := Lib.hid hmb
              have hw7 := hw
              generalize hnf : nbF W H y d = nf at *
              have HNF := Lib.hid hnf
              clear hmb hnf HM hw7
              go_wp2_with (go_at_call 50; refine (within_any _ _ _ _).mono ?_; rintro e w' ⟨rfl, rfl⟩)
              refine (HMT1.out _ (B2.out.trans (BR.out.mono B2.out.size))).mono ?_
              rintro e w3 ⟨rfl, hbw3⟩
              replace x0 := Keeps.below hbw3 _ _ x0
              replace x1 := Keeps.below hbw3 _ _ x1
              replace x2 := Keeps.below hbw3 _ _ x2
              replace BR := Lib.hid (BR.out.trans (hbw3.mono BR.out.size))
              have sw3 := hbw3.size
              replace HO := Lib.hid (own_below HO.out hbw3)
              clear hbw3
              go_wp2_with fail
              refine (HMT1.out _ (B2.out.trans (BR.out.mono B2.out.size))).mono ?_
              rintro e w4 ⟨rfl, hbw4⟩
              replace x0 := Keeps.below hbw4 _ _ x0
              replace x1 := Keeps.below hbw4 _ _ x1
              replace x2 := Keeps.below hbw4 _ _ x2
              replace BR := Lib.hid (BR.out.trans (hbw4.mono BR.out.size))
              have sw4 := hbw4.size
              replace HO := Lib.hid (own_below HO.out hbw4)
              clear hbw4
              go_wp2_with fail
              refine (HNB1.out _).mono ?_
              rintro e w5 ⟨rfl, hbw5⟩
              replace x0 := Keeps.below hbw5 _ _ x0
              replace x1 := Keeps.below hbw5 _ _ x1
              replace x2 := Keeps.below hbw5 _ _ x2
              replace BR := Lib.hid (BR.out.trans (hbw5.mono BR.out.size))
              have sw5 := hbw5.size
              replace HO := Lib.hid (own_below HO.out hbw5)
              clear hbw5
              go_wp2_with (at_builtin; refine app_i64 (base := w2.heap.size) _ rfl _ _ rfl rfl (HO.out.alloc _) rfl (cell_new1 _ _ _) (by omega) (by simp <;> omega) ?_; intro A' c' w6 ho6 hgr6)
              have b6 : Below w2.heap.size w2 w6 := below_app BR.out (by omega) (Nat.le_refl _) HO.out hgr6
              have HO6 := Lib.hid ho6
              have B6 := Lib.hid b6
              clear ho6 hgr6 b6 x0 x1 x2
              go_wp2_with fail
              go_roundw
              case rel =>
                refine ⟨k + 1, cs ++ [nf], nf, tt + r, by omega, by go_num, rfl, ⟨_, _, rfl, HO6.out⟩, ?_, n1, n2, by omega, by omega, ?_, B6.out⟩
                · rw [List.getElem?_append_right (by rw [HL.out]; exact Nat.le_refl _), HL.out, Nat.sub_self]; rfl
                · rw [← HR.out, HD.out, routeL, HW.out, HMB.out, HNF.out, HT.out]; rfl
              case measure => simp [intOf] <;> omega
        · obtain rfl : k = m := by omega
          have HO := Lib.hid ho
          have BR := Lib.hid hb
          clear ho hb
          have hn : res = some (cs, tt) := by rw [← HR.out, List.drop_eq_nil_of_le (by rw [HN.out]; exact Nat.le_refl _)]; rfl
          go_wp2_with fail
          refine bodyPost_ret (results_tmp3 rfl _ _ _) rfl ?_
          rw [hn]
          exact ⟨_, _, _, rfl, own_base HO.out (by have := B2.out.size; omega), (show k + 1 ≤ 1048576 by omega), B2.out.trans (BR.out.mono B2.out.size)⟩
    · simp only [if_neg hlen]
      clear hg h hz c1 c2'
      go_enter Try.func63, Try.ntmps63
      go_wp2_with fail
      refine (HC.out _ (HB.out _)).mono ?_
      rintro e w2 ⟨rfl, hb2⟩
      obtain ⟨x0, x1, x2, hs2, hb2'⟩ := box3 hb2
      have B2 := Lib.hid hb2'
      clear hb2 hb2'
      go_wp2_with fail
      refine bodyPost_ret (results_tmp3 rfl _ _ _) rfl ?_
      exact RetSail.nil w _ 3 B2.out
  · rw [if_neg hz]
    generalize gcodeF W H xs cell = code at *
    have hne : (code != 0) = true := by simp [hz]
    clear hz h
    go_enter Try.func63, Try.ntmps63
    go_wp2_with fail
    refine (HC.out _ (HB.out _)).mono ?_
    rintro e w2 ⟨rfl, hb2⟩
    obtain ⟨x0, x1, x2, hs2, hb2'⟩ := box3 hb2
    have B2 := Lib.hid hb2'
    clear hb2 hb2'
    go_wp2_with fail
    refine bodyPost_ret (results_tmp3 rfl _ _ _) rfl ?_
    exact RetSail.nil w _ code B2.out
end Go.Proofs.Ytpaamhkgokkgpaa

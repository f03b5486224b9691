/- Walks: routes of the laws (chapter 32). -/
import Derived.Test.YtpaamhkgokkgpaaGk
import Derived.Deep.RegionHeld3
namespace Go.Proofs.Ytpaamhkgokkgpaa
open Go.RowKit
set_option linter.unusedVariables false
set_option maxRecDepth 100000

def optC (r : Option (List Int × Int)) : List Int := match r with
  | some x => x.1
  | none => []
def optT (r : Option (List Int × Int)) : Int := match r with
  | some x => x.2
  | none => 0
def RetRoute (w : World) (r : Option (List Int × Int)) (e : Ending) (w' : World) : Prop :=
  ∃ A n c, e = .returned (.tuple #[.slice A n c, .int .i64 (optT r), .bool r.isSome]) ∧ w'.ownsRow w.heap.size 2 1 (.slice A n c) n (ints (optC r)) ∧ n ≤ 1048577 ∧ Below w.heap.size w w'
theorem RetRoute.none' (w w' : World) (h : Below w.heap.size w w') : RetRoute w none (.returned (.tuple #[.slice none 0 0, .int .i64 0, .bool false])) w' :=
  ⟨none, 0, 0, rfl, World.ownsRow_nil _ _ _ _, by omega, h⟩
set_option maxHeartbeats 1000000 in
theorem l32Route_any (W H : Int) (A : Option Addr) (n c : Nat) (xs : List (Int × Int)) (cell : Int) (A2 : Option Addr) (m c2 : Nat) (route : List Int) (w : World) (hg : GridOk W H xs) (c1 : 0 ≤ cell) (c2' : cell < W * H) (hm : m ≤ 1048576) (h : Rd w 2 A n (winds xs)) (h2 : Rd w 1 A2 m (ints route)) :
    Calls Try.prog 62 #[.agg #[.int .i64 W, .int .i64 H, .slice A n c], .int .i64 cell, .slice A2 m c2] w (RetRoute w (routeL W H xs route [cell] cell 0)) := by
  have HN := Lib.hid h2.len_int
  have HMT := Lib.hid (fun c' d (g1 : 0 ≤ c') (g2 : c' < W * H) (d1 : 0 ≤ d) (d2 : d ≤ 7) w' (hb : Below w.heap.size w w') => l32Time_any W H A n c xs c' d hg g1 g2 d1 d2 w' (h.below hb))
  have HNB := Lib.hid (fun c' d (g1 : 0 ≤ c') (g2 : c' < W * H) (d1 : 0 ≤ d) (d2 : d ≤ 7) w' => specNb_any W H A n c c' d hg.w1 hg.w2 hg.h1 hg.h2 g1 g2 d1 d2 w')
  have HBD := Lib.hid (fun c' d (g1 : 0 ≤ c') (g2 : c' < W * H) hh => moveF_bd (d := d) hg hh g1 g2)
  have HCL := Lib.hid (fun c' d (hh : moveB W H xs c' d = true) => nb_cell (cell := c') (d := d) hg.w1 hg.h1 (moveB_nb hh))
  have HMV := Lib.hid (show ∀ c' d, moveV W H xs c' d = if moveB W H xs c' d = true then takeF xs c' d else 0 from fun _ _ => rfl)
  have HNV := Lib.hid (show ∀ c' d, moveB W H xs c' d = true → nbV W H c' d = nbF W H c' d ∧ nbB W H c' d = true from fun c' d hh => ⟨by unfold nbV; rw [if_pos (moveB_nb hh)], moveB_nb hh⟩)
  generalize hres : routeL W H xs route [cell] cell 0 = res
  have HRES := Lib.hid hres
  obtain ⟨N, hN⟩ : ∃ N, N = W * H := ⟨_, rfl⟩
  rw [← hN] at c2' HMT HNB HBD HCL
  clear hres hg hN h
  go_enter Try.func62, Try.ntmps62
  go_wp2_with fail
  obtain ⟨wb, hwb⟩ : ∃ wb, wb = w.alloc (.cells #[.int .i64 W, .int .i64 H, .slice A n c] 29) := ⟨_, rfl⟩
  rw [← hwb]
  have hb0 : Below w.heap.size w wb := by rw [hwb]; exact (Below.refl _ _).alloc (Nat.le_refl _) _
  have x0 : wb.cell? ⟨w.heap.size, 0, none⟩ = some (.int .i64 W) := by rw [hwb]; exact cell_top _ _ _ rfl rfl
  have x1 : wb.cell? ⟨w.heap.size, 1, none⟩ = some (.int .i64 H) := by rw [hwb]; exact cell_top _ _ _ rfl rfl
  have x2 : wb.cell? ⟨w.heap.size, 2, none⟩ = some (.slice A n c) := by rw [hwb]; exact cell_top _ _ _ rfl rfl
  have s0 := hb0.size
  have hsw : (w.alloc (.cells #[.int .i64 W, .int .i64 H, .slice A n c] 29)).heap.size = wb.heap.size := by rw [hwb]
  simp only [World.size_alloc] at hsw
  clear hwb
  try rw [hsw]
  have HSW := Lib.hid hsw
  clear hsw
  have hone := own_one wb wb.heap.size 2 cell (Nat.le_refl _)
  have hb3 : Below wb.heap.size wb (wb.alloc (.cells #[.int .i64 cell] 2)) := (Below.refl _ _).alloc (Nat.le_refl _) _
  go_loopw [1, 9, 10, 11, 12, 13] (fun f v t i _ _ wr => ∃ (k : Nat) (cs : List Int) (c' tt : Int), k ≤ m ∧ i = .int .i64 k ∧ t = .int .i64 tt ∧ f = .int .i64 c' ∧ IntsAt wr wb.heap.size v (k + 1) cs ∧ 0 ≤ c' ∧ c' < N ∧ 0 ≤ tt ∧ tt ≤ 2520 * k ∧ routeL W H xs (route.drop k) cs c' tt = res ∧ Below wb.heap.size wb wr) (fun _ _ _ i _ _ _ => m - (intOf i).toNat)
  case atStart => exact ⟨0, [cell], cell, 0, Nat.zero_le _, rfl, rfl, rfl, ⟨_, _, rfl, hone⟩, c1, c2', by omega, by omega, HRES.out, hb3⟩
  case round =>
    clear hone hb3 HRES
    obtain ⟨k, cs, c', tt, hk, rfl, rfl, rfl, ⟨A1, c3, rfl, ho⟩, g1, g2, t1, t2, hr, hb⟩ := hrel
    have HL := Lib.hid (own_len ho)
    have HR := Lib.hid hr
    have s3 := hb.size
    clear hr
    by_cases hlt : k < m
    · obtain ⟨b, o, d, rfl, hx, hd, hcr⟩ := ((h2.below hb0).below hb).int hlt
      have HD := Lib.hid hd
      have BR := Lib.hid hb
      replace x0 := Keeps.below hb _ _ x0
      replace x1 := Keeps.below hb _ _ x1
      replace x2 := Keeps.below hb _ _ x2
      have HO := Lib.hid ho
      clear hd hx ho hb
      cases hw : withinB d 0 7 with
      | false =>
        go_wp2_with (go_at_call 47; refine (l01In_any _ _ _ _).mono ?_; rintro e w' ⟨rfl, rfl⟩)
        refine bodyPost_ret (results_tmp3 rfl _ _ _) rfl ?_
        have hn : res = none := by rw [← HR.out, HD.out, routeL, hw]; rfl
        rw [hn]
        exact RetRoute.none' w _ (hb0.trans (BR.out.mono hb0.size))
      | true =>
        obtain ⟨d1, d2⟩ := withinB_iff.1 hw
        have HW := Lib.hid hw
        have HM := Lib.hid (HMV.out c' d)
        generalize hmv : moveV W H xs c' d = mv at *
        have HMT1 := Lib.hid (fun w' hb => HMT.out c' d g1 g2 d1 d2 w' hb)
        rw [hmv] at HMT1
        clear hmv
        cases hmb : moveB W H xs c' d with
        | false =>
          rw [hmb] at HMT1
          have HMB := Lib.hid hmb
          clear hmb
          go_wp2_with (go_at_call 47; refine (l01In_any _ _ _ _).mono ?_; rintro e w' ⟨rfl, rfl⟩)
          have hl0 := cell_lt x0
          have hl1 := cell_lt hcr
          simp only at hl0 hl1
          have HSR := Lib.hid (show ∀ w1, Below wr.heap.size wr w1 → (w1.cell? ⟨w.heap.size, 0, none⟩ = some (.int .i64 W) ∧ w1.cell? ⟨w.heap.size, 1, none⟩ = some (.int .i64 H) ∧ w1.cell? ⟨w.heap.size, 2, none⟩ = some (.slice A n c) ∧ w1.cell? ⟨b, o + k, none⟩ = some (.int .i64 d) ∧ Below wr.heap.size wr w1) from fun w1 hb => ⟨(hb.cell (p := ⟨w.heap.size, 0, none⟩) (show w.heap.size < wr.heap.size by omega)).trans x0, (hb.cell (p := ⟨w.heap.size, 1, none⟩) (show w.heap.size < wr.heap.size by omega)).trans x1, (hb.cell (p := ⟨w.heap.size, 2, none⟩) (show w.heap.size < wr.heap.size by omega)).trans x2, (hb.cell (p := ⟨b, o + k, none⟩) (show b < wr.heap.size by omega)).trans hcr, hb⟩)
          go_region_held3 (fun w1 => w1.cell? ⟨w.heap.size, 0, none⟩ = some (.int .i64 W) ∧ w1.cell? ⟨w.heap.size, 1, none⟩ = some (.int .i64 H) ∧ w1.cell? ⟨w.heap.size, 2, none⟩ = some (.slice A n c) ∧ w1.cell? ⟨b, o + k, none⟩ = some (.int .i64 d) ∧ Below wr.heap.size wr w1) (first | exact HSR.out _ HBq | exact HSR.out _ ((Drawn.refl _).step 1).below | exact HSR.out _ (Drawn.refl _).below | assumption) (first | (go_at_call 59; have hq := (‹_ ∧ _ ∧ _ ∧ _ ∧ Below wr.heap.size wr _›).2.2.2.2; refine (HMT1.out _ (hb0.trans ((BR.out.trans (hq.mono BR.out.size)).mono hb0.size))).mono ?_; rintro e wq ⟨rfl, hbq⟩; have HBq := hq.trans (hbq.mono hq.size)))
          obtain ⟨w3, rfl⟩ : ∃ w3 : World, w3 = wq := ⟨_, rfl⟩
          have hbw3 := HBq
          clear HBq HSR hl0 hl1
          replace x0 := Keeps.below hbw3 _ _ x0
          replace x1 := Keeps.below hbw3 _ _ x1
          replace x2 := Keeps.below hbw3 _ _ x2
          replace hcr := Keeps.below hbw3 _ _ hcr
          replace BR := Lib.hid (BR.out.trans (hbw3.mono BR.out.size))
          have sw3 := hbw3.size
          replace HO := Lib.hid (own_below HO.out hbw3)
          clear hbw3
          go_wp2_with fail
          refine bodyPost_ret (results_tmp3 rfl _ _ _) rfl ?_
          have hn : res = none := by rw [← HR.out, HD.out, routeL, HW.out, HMB.out]; rfl
          rw [hn]
          exact RetRoute.none' w _ (hb0.trans (BR.out.mono hb0.size))
        | true =>
          rw [hmb] at HMT1
          obtain ⟨k1, k2⟩ := HBD.out c' d g1 g2 hmb
          obtain ⟨n1, n2⟩ := HCL.out c' d hmb
          have hmv : mv = takeF xs c' d := by rw [HM.out, hmb]; rfl
          rw [← hmv] at k1 k2
          have HT := Lib.hid hmv
          obtain ⟨v1, v2⟩ := HNV.out c' d hmb
          have HNB1 := Lib.hid (fun w' => HNB.out c' d g1 g2 d1 d2 w')
          rw [v1, v2] at HNB1
          have HMB := Lib.hid hmb
          generalize hnf : nbF W H c' d = nf at *
          have HNF := Lib.hid hnf
          clear hmb hnf HM hmv v1 v2
          go_wp2_with (go_at_call 47; refine (l01In_any _ _ _ _).mono ?_; rintro e w' ⟨rfl, rfl⟩)
          have hl0 := cell_lt x0
          have hl1 := cell_lt hcr
          simp only at hl0 hl1
          have HSR := Lib.hid (show ∀ w1, Below wr.heap.size wr w1 → (w1.cell? ⟨w.heap.size, 0, none⟩ = some (.int .i64 W) ∧ w1.cell? ⟨w.heap.size, 1, none⟩ = some (.int .i64 H) ∧ w1.cell? ⟨w.heap.size, 2, none⟩ = some (.slice A n c) ∧ w1.cell? ⟨b, o + k, none⟩ = some (.int .i64 d) ∧ Below wr.heap.size wr w1) from fun w1 hb => ⟨(hb.cell (p := ⟨w.heap.size, 0, none⟩) (show w.heap.size < wr.heap.size by omega)).trans x0, (hb.cell (p := ⟨w.heap.size, 1, none⟩) (show w.heap.size < wr.heap.size by omega)).trans x1, (hb.cell (p := ⟨w.heap.size, 2, none⟩) (show w.heap.size < wr.heap.size by omega)).trans x2, (hb.cell (p := ⟨b, o + k, none⟩) (show b < wr.heap.size by omega)).trans hcr, hb⟩)
          go_region_held3 (fun w1 => w1.cell? ⟨w.heap.size, 0, none⟩ = some (.int .i64 W) ∧ w1.cell? ⟨w.heap.size, 1, none⟩ = some (.int .i64 H) ∧ w1.cell? ⟨w.heap.size, 2, none⟩ = some (.slice A n c) ∧ w1.cell? ⟨b, o + k, none⟩ = some (.int .i64 d) ∧ Below wr.heap.size wr w1) (first | exact HSR.out _ HBq | exact HSR.out _ ((Drawn.refl _).step 1).below | exact HSR.out _ (Drawn.refl _).below | assumption) (first | (go_at_call 59; have hq := (‹_ ∧ _ ∧ _ ∧ _ ∧ Below wr.heap.size wr _›).2.2.2.2; refine (HMT1.out _ (hb0.trans ((BR.out.trans (hq.mono BR.out.size)).mono hb0.size))).mono ?_; rintro e wq ⟨rfl, hbq⟩; have HBq := hq.trans (hbq.mono hq.size)))
          obtain ⟨w3, rfl⟩ : ∃ w3 : World, w3 = wq := ⟨_, rfl⟩
          have hbw3 := HBq
          clear HBq HSR hl0 hl1
          replace x0 := Keeps.below hbw3 _ _ x0
          replace x1 := Keeps.below hbw3 _ _ x1
          replace x2 := Keeps.below hbw3 _ _ x2
          replace hcr := Keeps.below hbw3 _ _ hcr
          replace BR := Lib.hid (BR.out.trans (hbw3.mono BR.out.size))
          have sw3 := hbw3.size
          replace HO := Lib.hid (own_below HO.out hbw3)
          clear hbw3
          go_wp2_with fail
          have hl0 := cell_lt x0
          have hl1 := cell_lt hcr
          simp only at hl0 hl1
          have HSR := Lib.hid (show ∀ w1, Below w3.heap.size w3 w1 → (w1.cell? ⟨w.heap.size, 0, none⟩ = some (.int .i64 W) ∧ w1.cell? ⟨w.heap.size, 1, none⟩ = some (.int .i64 H) ∧ w1.cell? ⟨w.heap.size, 2, none⟩ = some (.slice A n c) ∧ w1.cell? ⟨b, o + k, none⟩ = some (.int .i64 d) ∧ Below w3.heap.size w3 w1) from fun w1 hb => ⟨(hb.cell (p := ⟨w.heap.size, 0, none⟩) (show w.heap.size < w3.heap.size by omega)).trans x0, (hb.cell (p := ⟨w.heap.size, 1, none⟩) (show w.heap.size < w3.heap.size by omega)).trans x1, (hb.cell (p := ⟨w.heap.size, 2, none⟩) (show w.heap.size < w3.heap.size by omega)).trans x2, (hb.cell (p := ⟨b, o + k, none⟩) (show b < w3.heap.size by omega)).trans hcr, hb⟩)
          go_region_held3 (fun w1 => w1.cell? ⟨w.heap.size, 0, none⟩ = some (.int .i64 W) ∧ w1.cell? ⟨w.heap.size, 1, none⟩ = some (.int .i64 H) ∧ w1.cell? ⟨w.heap.size, 2, none⟩ = some (.slice A n c) ∧ w1.cell? ⟨b, o + k, none⟩ = some (.int .i64 d) ∧ Below w3.heap.size w3 w1) (first | exact HSR.out _ HBq | exact HSR.out _ ((Drawn.refl _).step 1).below | exact HSR.out _ (Drawn.refl _).below | assumption) (first | (go_at_call 56; have hq := (‹_ ∧ _ ∧ _ ∧ _ ∧ Below w3.heap.size w3 _›).2.2.2.2; refine (HNB1.out _).mono ?_; rintro e wq ⟨rfl, hbq⟩; have HBq := hq.trans (hbq.mono hq.size)))
          obtain ⟨w5, rfl⟩ : ∃ w3 : World, w3 = wq := ⟨_, rfl⟩
          have hbw5 := HBq
          clear HBq HSR hl0 hl1
          replace x0 := Keeps.below hbw5 _ _ x0
          replace x1 := Keeps.below hbw5 _ _ x1
          replace x2 := Keeps.below hbw5 _ _ x2
          replace hcr := Keeps.below hbw5 _ _ hcr
          replace BR := Lib.hid (BR.out.trans (hbw5.mono BR.out.size))
          have sw5 := hbw5.size
          replace HO := Lib.hid (own_below HO.out hbw5)
          clear hbw5
          go_wp2_with (at_builtin; refine app_i64 (base := wb.heap.size) _ rfl _ _ rfl rfl (HO.out.alloc _) rfl (cell_new1 _ _ _) (by omega) (by simp <;> omega) ?_; intro A' c4 w6 ho6 hgr6)
          have b6 : Below wb.heap.size wb w6 := below_app BR.out (by omega) (Nat.le_refl _) HO.out hgr6
          have HO6 := Lib.hid ho6
          have B6 := Lib.hid b6
          clear ho6 hgr6 b6 x0 x1 x2
          go_wp2_with fail
          go_roundw
          case rel =>
            refine ⟨k + 1, cs ++ [nf], nf, tt + mv, by omega, by go_num, rfl, rfl, ⟨_, _, rfl, HO6.out⟩, n1, n2, by omega, by omega, ?_, B6.out⟩
            rw [← HR.out, HD.out, routeL, HW.out, HMB.out, HNF.out, HT.out]; rfl
          case measure => simp [intOf] <;> omega
    · obtain rfl : k = m := by omega
      have HO := Lib.hid ho
      have BR := Lib.hid hb
      clear ho hb
      have hn : res = some (cs, tt) := by rw [← HR.out, List.drop_eq_nil_of_le (by rw [HN.out]; exact Nat.le_refl _)]; rfl
      go_wp2_with fail
      refine bodyPost_ret (results_tmp3 rfl _ _ _) rfl ?_
      rw [hn]
      exact ⟨_, _, _, rfl, own_base HO.out s0, (show k + 1 ≤ 1048577 by omega), hb0.trans (BR.out.mono hb0.size)⟩
end Go.Proofs.Ytpaamhkgokkgpaa

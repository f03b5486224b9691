/- Walks: potentials of the laws (chapter 32). -/
import Derived.Test.YtpaamhkgokkgpaaGp
namespace Go.Proofs.Ytpaamhkgokkgpaa
open Go.RowKit
set_option linter.unusedVariables false
set_option maxRecDepth 100000

set_option maxHeartbeats 2000000 in
theorem specPot_any (W H : Int) (A : Option Addr) (n c : Nat) (xs : List (Int × Int)) (cell : Int) (A2 : Option Addr) (m c2 : Nat) (L : List Int) (w : World) (h : Rd w 2 A n (winds xs)) (h2 : Rd w 1 A2 m (ints L)) :
    Calls Try.prog 24 #[.agg #[.int .i64 W, .int .i64 H, .slice A n c], .int .i64 cell, .slice A2 m c2] w fun e w' => e = .returned (.bool (potB W H xs cell L)) ∧ Below w.heap.size w w' := by
  have HN := Lib.hid h2.len_int
  have HX := Lib.hid h.len_wind
  have hm := h2.le
  have hn := h.le
  have HB := Lib.hid (show ∀ o, Below w.heap.size w (w.alloc o) from fun o => (Below.refl _ _).alloc (Nat.le_refl _) o)
  have HG := Lib.hid (fun w' (hb : Below w.heap.size w w') => specIsWindGrid_any W H A n c xs w' (h.below hb))
  have hp : potB W H xs cell L = if gcodeF W H xs cell = 0 then (if L.length = xs.length then (if atF L cell = 0 then (L.all (fun p => withinB p (-1) 1000000000) && (List.range xs.length).all (edgesB W H xs L)) else false) else false) else false := rfl
  generalize potB W H xs cell L = pot at *
  cases hgb : gridB W H xs with
  | false =>
    rw [hgb] at HG
    have hz : ¬ gcodeF W H xs cell = 0 := by unfold gcodeF; rw [hgb]; simp
    rw [if_neg hz] at hp
    have HP := Lib.hid hp
    clear hp hz h hgb
    go_enter Try.func24, Try.ntmps24
    go_wp2_with fail
    refine (HG.out _ (HB.out _)).mono ?_
    rintro e w1 ⟨rfl, hb1⟩
    obtain ⟨x0, x1, x2, hs1, hb1'⟩ := box3 hb1
    have B1 := Lib.hid hb1'
    clear hb1 hb1'
    go_wp2_with fail
    go_ret
    exact ⟨ret_bool HP.out.symm, B1.out⟩
  | true =>
    have hk := gridB_ok hgb
    rw [hgb] at HG
    have HC := Lib.hid (fun w => l32Cell_any W H A n c xs cell w hk)
    cases hcb : withinB cell 0 ((xs.length : Int) - 1) with
    | false =>
      rw [hcb] at HC
      have hz : ¬ gcodeF W H xs cell = 0 := by unfold gcodeF; rw [hgb, hcb]; simp
      rw [if_neg hz] at hp
      have HP := Lib.hid hp
      clear hp hz h hgb hk hcb
      go_enter Try.func24, Try.ntmps24
      go_wp2_with fail
      refine (HG.out _ (HB.out _)).mono ?_
      rintro e w1 ⟨rfl, hb1⟩
      obtain ⟨x0, x1, x2, hs1, hb1'⟩ := box3 hb1
      have B1 := Lib.hid hb1'
      clear hb1 hb1'
      go_wp2_with fail
      refine (HC.out _).mono ?_
      rintro e w2 ⟨rfl, hb2⟩
      replace x0 := Keeps.below hb2 _ _ x0
      replace x1 := Keeps.below hb2 _ _ x1
      replace x2 := Keeps.below hb2 _ _ x2
      have B2 := Lib.hid (B1.out.trans (hb2.mono B1.out.size))
      clear hb2
      go_wp2_with fail
      go_ret
      exact ⟨ret_bool HP.out.symm, B2.out⟩
    | true =>
      have hz : gcodeF W H xs cell = 0 := by unfold gcodeF; rw [hgb, hcb]; rfl
      obtain ⟨hg, c1, c2'⟩ := gcode_ok hz
      rw [hcb] at HC
      rw [if_pos hz] at hp
      have hlen := hg.len
      have hWH := mul_bd (show 0 ≤ W by have := hg.w1; omega) hg.w2 (show 0 ≤ H by have := hg.h1; omega) hg.h2
      obtain ⟨hp0, hp1⟩ := hWH
      rw [HX.out] at hlen hp
      rw [HN.out] at hp
      by_cases hl : m = n
      · subst hl
        rw [if_pos rfl] at hp
        have hne0 : ((m : Int) != W * H) = false := by simp [hlen]
        obtain ⟨kf, rfl⟩ := int_up cell c1
        have hkf : kf < m := by omega
        have hkf0 : (0 : Int) ≤ kf := by omega
        obtain ⟨bl, ol, lf, rfl, hlx, _, hcl⟩ := h2.int hkf
        rw [atF_get hlx] at hp
        by_cases hf : lf = 0
        · subst hf
          rw [if_pos rfl] at hp
          have HP := Lib.hid hp
          have HMT := Lib.hid (fun c' d (g1 : 0 ≤ c') (g2 : c' < W * H) (d1 : 0 ≤ d) (d2 : d ≤ 7) w' (hb : Below w.heap.size w w') => l32Time_any W H A m c xs c' d hg g1 g2 d1 d2 w' (h.below hb))
          have HNB := Lib.hid (fun c' d (g1 : 0 ≤ c') (g2 : c' < W * H) (d1 : 0 ≤ d) (d2 : d ≤ 7) w' => specNb_any W H A m c c' d hg.w1 hg.w2 hg.h1 hg.h2 g1 g2 d1 d2 w')
          have HBD := Lib.hid (fun c' d (g1 : 0 ≤ c') (g2 : c' < W * H) hh => moveF_bd (d := d) hg hh g1 g2)
          have HCL := Lib.hid (fun c' d (hh : moveB W H xs c' d = true) => nb_cell (cell := c') (d := d) hg.w1 hg.h1 (moveB_nb hh))
          have HMV := Lib.hid (show ∀ c' d, moveV W H xs c' d = if moveB W H xs c' d = true then takeF xs c' d else 0 from fun _ _ => rfl)
          have HNV := Lib.hid (show ∀ c' d, moveB W H xs c' d = true → nbV W H c' d = nbF W H c' d ∧ nbB W H c' d = true from fun c' d hh => ⟨by unfold nbV; rw [if_pos (moveB_nb hh)], moveB_nb hh⟩)
          rw [← hlen] at HMT HNB HBD HCL
          clear hp hz hg c2' hlx h hgb hcb hk hlen
          go_enter Try.func24, Try.ntmps24
          go_wp2_with fail
          refine (HG.out _ (HB.out _)).mono ?_
          rintro e w1 ⟨rfl, hb1⟩
          obtain ⟨x0, x1, x2, hs1, hb1'⟩ := box3 hb1
          have B1 := Lib.hid hb1'
          clear hb1 hb1'
          go_wp2_with fail
          refine (HC.out _).mono ?_
          rintro e w2 ⟨rfl, hb2⟩
          replace x0 := Keeps.below hb2 _ _ x0
          replace x1 := Keeps.below hb2 _ _ x1
          replace x2 := Keeps.below hb2 _ _ x2
          have B2 := Lib.hid (B1.out.trans (hb2.mono B1.out.size))
          clear hb2
          replace hcl := Keeps.below B2.out _ _ hcl
          go_wp2_with fail
          clear hcl hne0 hp0 hp1
          go_loop [7] (fun i => ∃ k : Nat, k ≤ m ∧ i = .int .i64 k ∧ (L.drop k).all (fun p => withinB p (-1) 1000000000) = L.all (fun p => withinB p (-1) 1000000000)) (fun i => m - (intOf i).toNat)
          case atStart => exact ⟨0, Nat.zero_le _, rfl, rfl⟩
          case round =>
            obtain ⟨k, hk, rfl, hall⟩ := hrel
            have HA := Lib.hid hall
            clear hall
            by_cases hlt : k < m
            · obtain ⟨b, o, p, hbo, hx, hd, hc⟩ := (h2.below B2.out).int hlt
              injection hbo with hbo
              injection hbo with hb1 hb2
              subst hb1 hb2
              have HD := Lib.hid hd
              clear hx hd
              cases hw : withinB p (-1) 1000000000 with
              | true =>
                go_wp2_with (go_at_call 47; refine (l01In_any _ _ _ _).mono ?_; rintro e w' ⟨rfl, rfl⟩)
                go_round
                case rel => exact ⟨k + 1, by omega, by go_num, by rw [← HA.out, HD.out, List.all_cons, hw, Bool.true_and]⟩
                case measure => simp [intOf] <;> omega
              | false =>
                go_wp2_with (go_at_call 47; refine (l01In_any _ _ _ _).mono ?_; rintro e w' ⟨rfl, rfl⟩)
                go_ret
                exact ⟨ret_bool (by rw [HP.out, ← HA.out, HD.out, List.all_cons, hw]; rfl), B2.out⟩
            · obtain rfl : k = m := by omega
              rw [List.drop_eq_nil_of_le (by rw [HN.out]; exact Nat.le_refl _)] at HA
              have HP2 := Lib.hid (show pot = (List.range k).all (edgesB W H xs L) by rw [HP.out, ← HA.out]; rfl)
              have hall : ∀ p ∈ L, withinB p (-1) 1000000000 = true := fun p hp => List.all_eq_true.1 (HA.out.symm.trans rfl) p hp
              have HALL := Lib.hid hall
              clear HP HA hall
              go_wp2_with fail
              go_loopw [8] (fun i wr => ∃ u : Nat, u ≤ k ∧ i = .int .i64 u ∧ ((List.range k).drop u).all (edgesB W H xs L) = pot ∧ Below w2.heap.size w2 wr) (fun i _ => k - (intOf i).toNat)
              case atStart => exact ⟨0, Nat.zero_le _, rfl, HP2.out.symm, Below.refl _ _⟩
              case round =>
                clear HP2
                obtain ⟨u, hu, rfl, hR, hb⟩ := hrel
                by_cases hlt : u < k
                · rw [rng_drop hlt, List.all_cons] at hR
                  have HR := Lib.hid hR
                  obtain ⟨b, o, p, hbo, hx, _, hc⟩ := ((h2.below B2.out).below hb).int hlt
                  injection hbo with hbo
                  injection hbo with hb1 hb2
                  subst hb1 hb2
                  have hpw := withinB_iff.1 (HALL.out p (List.mem_of_getElem? hx))
                  obtain ⟨p1, p2⟩ := hpw
                  have HPU := Lib.hid (atF_get hx)
                  have BR := Lib.hid hb
                  have hsb := hb.size
                  clear hR hx
                  obtain ⟨wo, rfl⟩ : ∃ wo : World, wo = wr := ⟨_, rfl⟩
                  have y0 := Keeps.below hb _ _ x0
                  have y1 := Keeps.below hb _ _ x1
                  have y2 := Keeps.below hb _ _ x2
                  clear hb
                  have hu0 : (0 : Int) ≤ u := by omega
                  have hu1 : (u : Int) < k := by omega
                  go_wp2_with fail
                  go_loopw [9] (fun j w5 => ∃ d : Nat, d ≤ 8 ∧ j = .int .i64 d ∧ ((List.range 8).drop d).all (edgeB W H xs L u) = edgesB W H xs L u ∧ Below wo.heap.size wo w5) (fun j _ => 8 - (intOf j).toNat)
                  case atStart => exact ⟨0, Nat.zero_le _, rfl, rfl, Below.refl _ _⟩
                  case round =>
                    obtain ⟨d, hd8, rfl, hE, hb⟩ := hrel
                    by_cases hdlt : d < 8
                    · rw [rng_drop hdlt, List.all_cons] at hE
                      have HE := Lib.hid hE
                      have hd0 : (0 : Int) ≤ d := by omega
                      have hd7 : (d : Int) ≤ 7 := by omega
                      have z0 := Keeps.below hb _ _ y0
                      have z1 := Keeps.below hb _ _ y1
                      have z2 := Keeps.below hb _ _ y2
                      have zc := Keeps.below hb _ _ hc
                      have B5 := Lib.hid hb
                      clear hE hb
                      have HM := Lib.hid (HMV.out u d)
                      generalize hmv : moveV W H xs u d = r at *
                      have HMT1 := Lib.hid (fun w' hb => HMT.out u d hu0 hu1 hd0 hd7 w' hb)
                      rw [hmv] at HMT1
                      clear hmv
                      have HW5 := Lib.hid (B2.out.trans ((BR.out.trans (B5.out.mono BR.out.size)).mono B2.out.size))
                      have eb : edgeB W H xs L u d = (!moveB W H xs u d || decide (atF L u < 0) || (decide (0 ≤ atF L (nbF W H u d)) && decide (atF L (nbF W H u d) ≤ atF L u + takeF xs u d))) := rfl
                      rw [HPU.out] at eb
                      cases hmb : moveB W H xs u d with
                      | false =>
                        rw [hmb] at HMT1
                        have HEB := Lib.hid (show edgeB W H xs L u d = true by rw [eb, hmb]; rfl)
                        clear hmb eb
                        go_wp2_with fail
                        refine (HMT1.out _ HW5.out).mono ?_
                        rintro e w6 ⟨rfl, hb6⟩
                        replace zc := Keeps.below hb6 _ _ zc
                        have B6 := Lib.hid (B5.out.trans (hb6.mono B5.out.size))
                        clear hb6 z0 z1 z2
                        go_wp2_with fail
                        all_goals
                          go_roundw
                          case rel => exact ⟨d + 1, by omega, by go_num, by rw [← HE.out, HEB.out, Bool.true_and], B6.out⟩
                          case measure => simp [intOf] <;> omega
                      | true =>
                        rw [hmb] at HMT1
                        obtain ⟨k1, k2⟩ := HBD.out u d hu0 hu1 hmb
                        obtain ⟨n1, n2⟩ := HCL.out u d hmb
                        have hmv : r = takeF xs u d := by rw [HM.out, hmb]; rfl
                        rw [← hmv] at k1 k2 eb
                        obtain ⟨v1, v2⟩ := HNV.out u d hmb
                        have HNB1 := Lib.hid (fun w' => HNB.out u d hu0 hu1 hd0 hd7 w')
                        rw [v1, v2] at HNB1
                        rw [hmb] at eb
                        generalize hnf : nbF W H u d = nf at *
                        obtain ⟨v, rfl⟩ := int_up nf n1
                        clear hmb hnf HM hmv v1 v2
                        have hv : v < k := by omega
                        by_cases hp0 : p < 0
                        · have HEB := Lib.hid (show edgeB W H xs L u d = true by rw [eb]; simp [hp0])
                          clear eb
                          go_wp2_with fail
                          refine (HMT1.out _ HW5.out).mono ?_
                          rintro e w6 ⟨rfl, hb6⟩
                          replace zc := Keeps.below hb6 _ _ zc
                          have B6 := Lib.hid (B5.out.trans (hb6.mono B5.out.size))
                          clear hb6 z0 z1 z2
                          go_wp2_with fail
                          go_roundw
                          case rel => exact ⟨d + 1, by omega, by go_num, by rw [← HE.out, HEB.out, Bool.true_and], B6.out⟩
                          case measure => simp [intOf] <;> omega
                        · have h2v := fun w' (hb : Below w.heap.size w w') => (h2.below hb).int hv
                          have HEB := Lib.hid eb
                          clear eb
                          go_wp2_with fail
                          refine (HMT1.out _ HW5.out).mono ?_
                          rintro e w6 ⟨rfl, hb6⟩
                          replace z0 := Keeps.below hb6 _ _ z0
                          replace z1 := Keeps.below hb6 _ _ z1
                          replace z2 := Keeps.below hb6 _ _ z2
                          replace zc := Keeps.below hb6 _ _ zc
                          have B6 := Lib.hid (B5.out.trans (hb6.mono B5.out.size))
                          clear hb6
                          go_wp2_with fail
                          refine (HNB1.out _).mono ?_
                          rintro e w7 ⟨rfl, hb7⟩
                          replace zc := Keeps.below hb7 _ _ zc
                          have B7 := Lib.hid (B6.out.trans (hb7.mono B6.out.size))
                          clear hb7 z0 z1 z2
                          have HW7 := Lib.hid (B2.out.trans ((BR.out.trans (B7.out.mono BR.out.size)).mono B2.out.size))
                          obtain ⟨b, o, q, hbo, hx, _, hcq⟩ := h2v w7 HW7.out
                          injection hbo with hbo
                          injection hbo with hb1 hb2
                          subst hb1 hb2
                          have hqw := withinB_iff.1 (HALL.out q (List.mem_of_getElem? hx))
                          obtain ⟨q1, q2⟩ := hqw
                          have haq := atF_get hx
                          rw [haq] at HEB
                          clear haq hx h2v
                          have hv0 : (0 : Int) ≤ v := by omega
                          have hv1 : (v : Int) < k := by omega
                          have qq : IntKind.i64.wrap (p + r) = p + r := IntWalk.i64_in _ (by omega)
                          by_cases hq : q < 0
                          · have HEF := Lib.hid (show edgeB W H xs L u d = false by rw [HEB.out]; simp; omega)
                            have hqd : decide (q < 0) = true := by simpa using hq
                            go_wp2_with fail
                            go_quiet (fail)
                            go_wp2_with fail
                            go_ret
                            exact ⟨ret_bool (by rw [← HR.out, ← HE.out, HEF.out]; rfl), below_drewN HW7.out _⟩
                          · have hqd : decide (q < 0) = false := by simpa using hq
                            by_cases hq2 : p + r < q
                            · have HEF := Lib.hid (show edgeB W H xs L u d = false by rw [HEB.out]; simp; omega)
                              have hqd2 : decide (p + r < q) = true := by simpa using hq2
                              go_wp2_with fail
                              go_quiet (fail)
                              go_wp2_with fail
                              go_ret
                              exact ⟨ret_bool (by rw [← HR.out, ← HE.out, HEF.out]; rfl), below_drewN HW7.out _⟩
                            · have HEF := Lib.hid (show edgeB W H xs L u d = true by rw [HEB.out]; simp; omega)
                              have hqd2 : decide (p + r < q) = false := by simp; omega
                              go_wp2_with fail
                              go_quiet (fail)
                              go_wp2_with fail
                              go_roundw
                              case rel => exact ⟨d + 1, by omega, by go_num, by rw [← HE.out, HEF.out, Bool.true_and], below_drewN B7.out _⟩
                              case measure => simp [intOf] <;> omega
                    · obtain rfl : d = 8 := by omega
                      have HEU := Lib.hid (show edgesB W H xs L u = true from hE.symm)
                      have B5 := Lib.hid (BR.out.trans (hb.mono BR.out.size))
                      clear hE hb
                      go_wp2_with fail
                      go_roundw
                      case rel => exact ⟨u + 1, by omega, by go_num, by rw [← HR.out, HEU.out, Bool.true_and], B5.out⟩
                      case measure => simp [intOf] <;> omega
                · obtain rfl : u = k := by omega
                  have BR := Lib.hid (B2.out.trans (hb.mono B2.out.size))
                  have hpt : pot = true := by rw [← hR, List.drop_eq_nil_of_le (by simp)]; rfl
                  have HPT := Lib.hid hpt
                  clear hb hR hpt
                  go_wp2_with fail
                  go_ret
                  exact ⟨ret_bool HPT.out.symm, BR.out⟩
        · rw [if_neg hf] at hp
          have HP := Lib.hid hp
          have hne : (lf != 0) = true := by simp [hf]
          clear hp hz hg c2' hlx h hf hgb hcb hk hlen
          go_enter Try.func24, Try.ntmps24
          go_wp2_with fail
          refine (HG.out _ (HB.out _)).mono ?_
          rintro e w1 ⟨rfl, hb1⟩
          obtain ⟨x0, x1, x2, hs1, hb1'⟩ := box3 hb1
          have B1 := Lib.hid hb1'
          clear hb1 hb1'
          go_wp2_with fail
          refine (HC.out _).mono ?_
          rintro e w2 ⟨rfl, hb2⟩
          replace x0 := Keeps.below hb2 _ _ x0
          replace x1 := Keeps.below hb2 _ _ x1
          replace x2 := Keeps.below hb2 _ _ x2
          have B2 := Lib.hid (B1.out.trans (hb2.mono B1.out.size))
          clear hb2
          replace hcl := Keeps.below B2.out _ _ hcl
          go_wp2_with fail
          go_ret
          exact ⟨ret_bool HP.out.symm, B2.out⟩
      · rw [if_neg hl] at hp
        have HP := Lib.hid hp
        have hne : ((m : Int) != W * H) = true := by simp; omega
        clear hp hz hg c2' h hl hgb hcb hk hlen
        go_enter Try.func24, Try.ntmps24
        go_wp2_with fail
        refine (HG.out _ (HB.out _)).mono ?_
        rintro e w1 ⟨rfl, hb1⟩
        obtain ⟨x0, x1, x2, hs1, hb1'⟩ := box3 hb1
        have B1 := Lib.hid hb1'
        clear hb1 hb1'
        go_wp2_with fail
        refine (HC.out _).mono ?_
        rintro e w2 ⟨rfl, hb2⟩
        replace x0 := Keeps.below hb2 _ _ x0
        replace x1 := Keeps.below hb2 _ _ x1
        replace x2 := Keeps.below hb2 _ _ x2
        have B2 := Lib.hid (B1.out.trans (hb2.mono B1.out.size))
        clear hb2
        go_wp2_with fail
        go_ret
        exact ⟨ret_bool HP.out.symm, B2.out⟩
end Go.Proofs.Ytpaamhkgokkgpaa

/- Walks: the times of the laws (chapter 32). -/
import Derived.Test.YtpaamhkgokkgpaaHb
import Derived.Test.YtpaamhkgokkgpaaGi
import Derived.Deep.LoopGhost
import Derived.Outline
namespace Go.Proofs.Ytpaamhkgokkgpaa
open Go.RowKit
set_option linter.unusedVariables false
set_option maxRecDepth 100000

theorem fill_step (n k : Nat) (h : k < n) : (List.replicate k (-1 : Int) ++ List.replicate (n - k) 0).set k (-1) = List.replicate (k + 1) (-1) ++ List.replicate (n - (k + 1)) 0 := by
  have e : n - k = (n - (k + 1)) + 1 := by omega
  rw [List.set_append, if_neg (by simp), e, List.replicate_succ]
  have e2 : k - (List.replicate k (-1 : Int)).length = 0 := by simp
  rw [e2, List.replicate_succ' (n := k)]
  simp
set_option maxHeartbeats 4000000 in
theorem specTimes_any (W H : Int) (A : Option Addr) (n c : Nat) (xs : List (Int × Int)) (s : Nat) (back : Bool) (hg : GridOk W H xs) (hs : s < n) (w : World) (h : Rd w 2 A n (winds xs)) :
    Calls Try.prog 65 #[.agg #[.int .i64 W, .int .i64 H, .slice A n c], .int .i64 (s : Int), .bool back] w (RetCopy w (timesB back W H xs s)) := by
  have HX := Lib.hid h.len_wind
  have hn := h.le
  have hWH : W * H = n := by have := hg.len; have := HX.out; omega
  have hn100 : n ≤ 100 := by
    have h2 := mul_bd (show 0 ≤ W by have := hg.w1; omega) hg.w2 (show 0 ≤ H by have := hg.h1; omega) hg.h2
    omega
  have hmk := run_make_i64 n (by omega)
  have HMAKE := Lib.hid (fun w' : World => own_made w' w'.heap.size 2 n (.int .i64 0) (Nat.le_refl _) (by omega))
  have HMT := Lib.hid (fun c' d (g1 : 0 ≤ c') (g2 : c' < W * H) (d1 : 0 ≤ d) (d2 : d ≤ 7) w' (hb : Below w.heap.size w w') => l32Time_any W H A n c xs c' d hg g1 g2 d1 d2 w' (h.below hb))
  have HNB := Lib.hid (fun c' d (g1 : 0 ≤ c') (g2 : c' < W * H) (d1 : 0 ≤ d) (d2 : d ≤ 7) w' => specNb_any W H A n c c' d hg.w1 hg.w2 hg.h1 hg.h2 g1 g2 d1 d2 w')
  have HBD := Lib.hid (fun c' d (g1 : 0 ≤ c') (g2 : c' < W * H) hh => moveF_bd (d := d) hg hh g1 g2)
  have HCL := Lib.hid (fun c' d (hh : moveB W H xs c' d = true) => nb_cell (cell := c') (d := d) hg.w1 hg.h1 (moveB_nb hh))
  have HMV := Lib.hid (show ∀ c' d, moveV W H xs c' d = if moveB W H xs c' d = true then takeF xs c' d else 0 from fun _ _ => rfl)
  have HNV := Lib.hid (show ∀ c' d, moveB W H xs c' d = true → nbV W H c' d = nbF W H c' d ∧ nbB W H c' d = true from fun c' d hh => ⟨by unfold nbV; rw [if_pos (moveB_nb hh)], moveB_nb hh⟩)
  rw [hWH] at HMT HNB HBD HCL
  generalize hres : timesB back W H xs s = res
  unfold timesB at hres
  rw [HX.out] at hres
  have HRES := Lib.hid hres
  have HPS := Lib.hid (show ∀ q T, passesF back W H xs (q + 1) T = passesF back W H xs q ((List.range n).foldl (rowF back W H xs) T) from fun q T => by rw [passesF]; unfold passF; rw [HX.out])
  clear hres hg h
  go_enter Try.func65, Try.ntmps65
  go_wp2_with fail
  obtain ⟨wb, hwb⟩ : ∃ wb, wb = w.alloc (.cells #[.int .i64 W, .int .i64 H, .slice A n c] 29) := ⟨_, rfl⟩
  rw [← hwb]
  have hb0 : Below w.heap.size w wb := by rw [hwb]; exact (Below.refl _ _).alloc (Nat.le_refl _) _
  have x0 : wb.cell? ⟨w.heap.size, 0, none⟩ = some (.int .i64 W) := by rw [hwb]; exact cell_top _ _ _ rfl rfl
  have x1 : wb.cell? ⟨w.heap.size, 1, none⟩ = some (.int .i64 H) := by rw [hwb]; exact cell_top _ _ _ rfl rfl
  have x2 : wb.cell? ⟨w.heap.size, 2, none⟩ = some (.slice A n c) := by rw [hwb]; exact cell_top _ _ _ rfl rfl
  have hsz : w.heap.size < wb.heap.size := by rw [hwb]; simp
  have HB0 := Lib.hid hb0
  have HSW := Lib.hid (show w.heap.size + 1 = wb.heap.size by rw [hwb]; simp)
  clear hwb hb0
  have HST := Lib.hid (HMAKE.out wb)
  have HBM := Lib.hid (show Below wb.heap.size wb (wb.alloc (.cells (madeCells #[.int .i64 0] n) 2)) from (Below.refl _ _).alloc (Nat.le_refl _) _)
  obtain ⟨g5, hg5⟩ : ∃ g, g = wb.heap.size := ⟨_, rfl⟩
  have HG5 := Lib.hid hg5
  rw [← hg5] at HST
  clear hg5
  try rw [HSW.out, ← HG5.out]
  go_loopw [9] (fun s9 wr => ∃ k : Nat, k ≤ n ∧ s9 = .int .i64 k ∧ wr.ownsRow wb.heap.size 2 1 (.slice (some ⟨g5, 0, none⟩) n n) n (ints (List.replicate k (-1) ++ List.replicate (n - k) 0)) ∧ Below wb.heap.size wb wr) (fun s9 _ => n - (intOf s9).toNat)
  case atStart => exact ⟨0, Nat.zero_le _, rfl, by have hst := HST.out; rw [← ints_replicate] at hst; exact own_base hst (Nat.le_of_eq HG5.out.symm), HBM.out⟩
  case round =>
    obtain ⟨k, hk, rfl, ho, hb⟩ := hrel
    clear HST HBM
    by_cases hlt : k < n
    · obtain ⟨g5', z, e5, hgb, _, _, hc1, hf1⟩ := own_int_at ho hlt
      obtain rfl : g5 = g5' := by injection e5 with e5; injection e5
      have t5 := own_set ho (k := k) (-1)
      rw [fill_step n k hlt] at t5
      have HA := Lib.hid (And.intro t5 (hb.setCell (p := ⟨g5, k, none⟩) hgb (.int .i64 (-1))))
      clear ho hb t5 e5 hgb
      go_wp2_with fail
      go_roundw
      case rel => exact ⟨k + 1, by omega, by go_num, HA.out.1, HA.out.2⟩
      case measure => simp [intOf] <;> omega
    · obtain rfl : n = k := by omega
      rw [Nat.sub_self, List.replicate_zero, List.append_nil] at ho
      obtain ⟨g5', z, e5, hgb, _, _, hc1, hf1⟩ := own_int_at ho hs
      obtain rfl : g5 = g5' := by injection e5 with e5; injection e5
      have HA := Lib.hid (And.intro (own_set ho (k := s) 0) (hb.setCell (p := ⟨g5, s, none⟩) hgb (.int .i64 0)))
      clear ho hb e5 hgb
      go_wp2_with fail
      clear hc1 hf1
      go_loopw [10] (fun s10 wr => ∃ (k : Nat) (T : List Int), k ≤ n ∧ s10 = .int .i64 k ∧ passesF back W H xs (n - k) T = res ∧ Cap n T ∧ wr.ownsRow wb.heap.size 2 1 (.slice (some ⟨g5, 0, none⟩) n n) n (ints T) ∧ Below wb.heap.size wb wr) (fun s10 _ => n - (intOf s10).toNat)
      case atStart => exact ⟨0, _, Nat.zero_le _, rfl, HRES.out, cap_start hs, HA.out.1, HA.out.2⟩
      case round =>
        clear HA HRES
        obtain ⟨k, T, hk, rfl, hR, hcap, ho5, hb⟩ := hrel
        obtain ⟨wo, rfl⟩ : ∃ wo : World, wo = wr := ⟨_, rfl⟩
        have HT := Lib.hid ho5
        have HBR := Lib.hid hb
        have HC := Lib.hid hcap
        clear ho5 hb hcap
        by_cases hlt : k < n
        · have ek : n - k = (n - (k + 1)) + 1 := by omega
          rw [ek, HPS.out] at hR
          have HR := Lib.hid hR
          clear hR ek
          go_wp2_with fail
          go_loopw [11] (fun s11 wr => ∃ (u : Nat) (T' : List Int), u ≤ n ∧ s11 = .int .i64 u ∧ ((List.range n).drop u).foldl (rowF back W H xs) T' = (List.range n).foldl (rowF back W H xs) T ∧ Cap n T' ∧ wr.ownsRow wb.heap.size 2 1 (.slice (some ⟨g5, 0, none⟩) n n) n (ints T') ∧ Below wb.heap.size wb wr) (fun s11 _ => n - (intOf s11).toNat)
          case atStart => exact ⟨0, T, Nat.zero_le _, rfl, rfl, HC.out, HT.out, HBR.out⟩
          case round =>
            obtain ⟨u, T1, hu, rfl, hF, hcap, ho5, hb⟩ := hrel
            obtain ⟨w1, rfl⟩ : ∃ w1 : World, w1 = wr := ⟨_, rfl⟩
            have HT1 := Lib.hid ho5
            have HB1 := Lib.hid hb
            have HC1 := Lib.hid hcap
            clear ho5 hb hcap
            by_cases hltu : u < n
            · rw [rng_drop hltu, List.foldl_cons] at hF
              have HF1 := Lib.hid hF
              have hiu0 : (0 : Int) ≤ u := by omega
              have hiu1 : (u : Int) < n := by omega
              clear hF
              go_wp2_with fail
              go_loopw [12] (fun s12 wr => ∃ (d : Nat) (T' : List Int), d ≤ 8 ∧ s12 = .int .i64 d ∧ ((List.range 8).drop d).foldl (stepF back W H xs u) T' = rowF back W H xs T1 u ∧ Cap n T' ∧ wr.ownsRow wb.heap.size 2 1 (.slice (some ⟨g5, 0, none⟩) n n) n (ints T') ∧ Below wb.heap.size wb wr) (fun s12 _ => 8 - (intOf s12).toNat)
              case atStart => exact ⟨0, T1, Nat.zero_le _, rfl, rfl, HC1.out, HT1.out, HB1.out⟩
              case round =>
                obtain ⟨d, T', hd8, rfl, hF, hcap, ho5, hb⟩ := hrel
                obtain ⟨w5, rfl⟩ : ∃ w5 : World, w5 = wr := ⟨_, rfl⟩
                by_cases hdlt : d < 8
                · rw [rng_drop hdlt, List.foldl_cons] at hF
                  have z0 := Keeps.below hb _ _ x0
                  have z1 := Keeps.below hb _ _ x1
                  have z2 := Keeps.below hb _ _ x2
                  have HF := Lib.hid hF
                  have HO5 := Lib.hid ho5
                  have HB5 := Lib.hid hb
                  have HCAP := Lib.hid hcap
                  clear hF ho5 hb hcap
                  have hd0 : (0 : Int) ≤ d := by omega
                  have hd7 : (d : Int) ≤ 7 := by omega
                  have HM := Lib.hid (HMV.out u d)
                  generalize hmv : moveV W H xs u d = r at *
                  have HMT1 := Lib.hid (fun w' hb => HMT.out u d hiu0 hiu1 hd0 hd7 w' hb)
                  rw [hmv] at HMT1
                  clear hmv
                  have HW5 := Lib.hid (HB0.out.trans (HB5.out.mono (by omega)))
                  cases hmb : moveB W H xs u d with
                  | false =>
                    rw [hmb] at HMT1
                    have HF2 := Lib.hid (show ((List.range 8).drop (d + 1)).foldl (stepF back W H xs u) T' = rowF back W H xs T1 u by rw [← HF.out, step_none hmb])
                    clear hmb
                    go_wp2_with fail
                    refine (HMT1.out _ HW5.out).mono ?_
                    rintro e w6 ⟨rfl, hb6⟩
                    have HK6 := Lib.hid (And.intro (own_below HO5.out hb6) (HB5.out.trans (hb6.mono HB5.out.size)))
                    clear hb6 z0 z1 z2
                    go_wp2_with fail
                    all_goals
                      go_roundw
                      case rel => exact ⟨d + 1, T', by omega, by go_num, HF2.out, HCAP.out, HK6.out.1, HK6.out.2⟩
                      case measure => simp [intOf] <;> omega
                  | true =>
                    rw [hmb] at HMT1
                    obtain ⟨k1, k2⟩ := HBD.out u d hiu0 hiu1 hmb
                    obtain ⟨n1, n2⟩ := HCL.out u d hmb
                    have htk : takeF xs u d = r := by rw [HM.out, hmb]; rfl
                    rw [htk] at k1 k2
                    obtain ⟨v1, v2⟩ := HNV.out u d hmb
                    have HNB1 := Lib.hid (fun w' => HNB.out u d hiu0 hiu1 hd0 hd7 w')
                    rw [v1, v2] at HNB1
                    generalize hnf : nbF W H u d = nf at *
                    obtain ⟨v, rfl⟩ := int_up nf n1
                    have HSTP := Lib.hid (step_some (back := back) (T := T') hmb hnf htk)
                    clear hmb hnf HM htk v1 v2
                    have hv : v < n := by omega
                    cases back with
                    | false =>
                      obtain ⟨g5', q, e5, _, _, hq, hcq, _⟩ := own_int_at HO5.out hltu
                      obtain rfl : g5 = g5' := by injection e5 with e5; injection e5
                      obtain ⟨g5', p, e5, hg5', hgl, hp, hcp, hfp⟩ := own_int_at HO5.out hv
                      obtain rfl : g5 = g5' := by injection e5 with e5; injection e5
                      have htq := tm_get hq
                      have htp := tm_get hp
                      have q0 : -1 ≤ q := by rw [← htq]; exact HCAP.out.low _
                      have q1 : q ≤ 252000 := by rw [← htq]; exact HCAP.out.bd hn100 _
                      have p0 : -1 ≤ p := by rw [← htp]; exact HCAP.out.low _
                      have p1 : p ≤ 252000 := by rw [← htp]; exact HCAP.out.bd hn100 _
                      have HTQ := Lib.hid htq
                      have HTP := Lib.hid htp
                      have hwr : IntKind.i64.wrap (q + r) = q + r := IntWalk.i64_in _ (by omega)
                      have HCE := Lib.hid (fun w' (hb : Below w5.heap.size w5 w') => And.intro ((hb.cell (p := ⟨g5, u, none⟩) hgl).trans hcq) (And.intro ((hb.cell (p := ⟨g5, v, none⟩) hgl).trans hcp) ((hb.frozen (p := ⟨g5, v, none⟩) hgl).trans hfp)))
                      clear e5 hq hp hcq hcp hfp htq htp
                      have HYES := Lib.hid (fun (h0 : 0 ≤ q) (hc : p < 0 ∨ q + r < p) => show ((List.range 8).drop (d + 1)).foldl (stepF false W H xs u) (T'.set v (q + r)) = rowF false W H xs T1 u ∧ Cap n (T'.set v (q + r)) by
                        have hc' : tm T' v < 0 ∨ tm T' u + r < tm T' v := by rw [HTQ.out, HTP.out]; exact hc
                        have h0' : 0 ≤ tm T' u := by rw [HTQ.out]; exact h0
                        have e := relF_yes (a := u) (b := v) (c := r) h0' hc'
                        have e2 := HCAP.out.set hv k1 k2 h0' hc'
                        rw [HTQ.out] at e e2
                        exact ⟨by rw [← HF.out, HSTP.out, ← e]; rfl, e2⟩)
                      have HNO := Lib.hid (fun (hc : ¬ (0 ≤ q ∧ (p < 0 ∨ q + r < p))) => show ((List.range 8).drop (d + 1)).foldl (stepF false W H xs u) T' = rowF false W H xs T1 u by
                        have e := relF_no (T := T') (a := u) (b := v) (c := r) (by rw [HTQ.out, HTP.out]; omega)
                        rw [← HF.out, HSTP.out]
                        show _ = List.foldl _ (relF T' (u, v, r)) _
                        rw [e])
                      by_cases h0 : 0 ≤ q
                      · by_cases hp0 : p < 0
                        · skip
                          have HY := Lib.hid (HYES.out h0 (.inl hp0))
                          go_wp2_with fail
                          refine (HMT1.out _ HW5.out).mono ?_
                          rintro e w6 ⟨rfl, hb6⟩
                          replace z0 := Keeps.below hb6 _ _ z0
                          replace z1 := Keeps.below hb6 _ _ z1
                          replace z2 := Keeps.below hb6 _ _ z2
                          have B6 := Lib.hid hb6
                          clear hb6
                          go_wp2_with fail
                          refine (HNB1.out _).mono ?_
                          rintro e w7 ⟨rfl, hb7⟩
                          have hb57 := B6.out.trans (hb7.mono B6.out.size)
                          obtain ⟨a1, a2, a3⟩ := HCE.out _ hb57
                          have HK7 := Lib.hid (And.intro (own_below HO5.out hb57) (HB5.out.trans (hb57.mono HB5.out.size)))
                          clear hb7 z0 z1 z2 hb57
                          go_wp2_with fail
                          go_quiet (fail)
                          go_wp2_with fail
                          all_goals
                            go_roundw
                            case rel => exact ⟨d + 1, _, by omega, by go_num, HY.out.1, HY.out.2, own_set (own_drewN HK7.out.1 _) _, (below_drewN HK7.out.2 _).setCell (p := ⟨g5, v, none⟩) hg5' _⟩
                            case measure => simp [intOf] <;> omega
                        · by_cases hq1 : q + r < p
                          · skip
                            have HY := Lib.hid (HYES.out h0 (.inr hq1))
                            go_wp2_with fail
                            refine (HMT1.out _ HW5.out).mono ?_
                            rintro e w6 ⟨rfl, hb6⟩
                            replace z0 := Keeps.below hb6 _ _ z0
                            replace z1 := Keeps.below hb6 _ _ z1
                            replace z2 := Keeps.below hb6 _ _ z2
                            have B6 := Lib.hid hb6
                            clear hb6
                            go_wp2_with fail
                            refine (HNB1.out _).mono ?_
                            rintro e w7 ⟨rfl, hb7⟩
                            have hb57 := B6.out.trans (hb7.mono B6.out.size)
                            obtain ⟨a1, a2, a3⟩ := HCE.out _ hb57
                            have HK7 := Lib.hid (And.intro (own_below HO5.out hb57) (HB5.out.trans (hb57.mono HB5.out.size)))
                            clear hb7 z0 z1 z2 hb57
                            go_wp2_with fail
                            go_quiet (fail)
                            go_wp2_with fail
                            all_goals
                              go_roundw
                              case rel => exact ⟨d + 1, _, by omega, by go_num, HY.out.1, HY.out.2, own_set (own_drewN HK7.out.1 _) _, (below_drewN HK7.out.2 _).setCell (p := ⟨g5, v, none⟩) hg5' _⟩
                              case measure => simp [intOf] <;> omega
                          · skip
                            have HN1 := Lib.hid (HNO.out (by omega))
                            go_wp2_with fail
                            refine (HMT1.out _ HW5.out).mono ?_
                            rintro e w6 ⟨rfl, hb6⟩
                            replace z0 := Keeps.below hb6 _ _ z0
                            replace z1 := Keeps.below hb6 _ _ z1
                            replace z2 := Keeps.below hb6 _ _ z2
                            have B6 := Lib.hid hb6
                            clear hb6
                            go_wp2_with fail
                            refine (HNB1.out _).mono ?_
                            rintro e w7 ⟨rfl, hb7⟩
                            have hb57 := B6.out.trans (hb7.mono B6.out.size)
                            obtain ⟨a1, a2, a3⟩ := HCE.out _ hb57
                            have HK7 := Lib.hid (And.intro (own_below HO5.out hb57) (HB5.out.trans (hb57.mono HB5.out.size)))
                            clear hb7 z0 z1 z2 hb57
                            go_wp2_with fail
                            go_quiet (fail)
                            go_wp2_with fail
                            all_goals
                              go_roundw
                              case rel => exact ⟨d + 1, T', by omega, by go_num, HN1.out, HCAP.out, own_drewN HK7.out.1 _, below_drewN HK7.out.2 _⟩
                              case measure => simp [intOf] <;> omega
                      · obtain rfl : q = -1 := by omega
                        have HN1 := Lib.hid (HNO.out (by omega))
                        go_wp2_with fail
                        refine (HMT1.out _ HW5.out).mono ?_
                        rintro e w6 ⟨rfl, hb6⟩
                        replace z0 := Keeps.below hb6 _ _ z0
                        replace z1 := Keeps.below hb6 _ _ z1
                        replace z2 := Keeps.below hb6 _ _ z2
                        have B6 := Lib.hid hb6
                        clear hb6
                        go_wp2_with fail
                        refine (HNB1.out _).mono ?_
                        rintro e w7 ⟨rfl, hb7⟩
                        have hb57 := B6.out.trans (hb7.mono B6.out.size)
                        obtain ⟨a1, a2, a3⟩ := HCE.out _ hb57
                        have HK7 := Lib.hid (And.intro (own_below HO5.out hb57) (HB5.out.trans (hb57.mono HB5.out.size)))
                        clear hb7 z0 z1 z2 hb57
                        go_wp2_with fail
                        go_quiet (fail)
                        go_wp2_with fail
                        all_goals
                          go_roundw
                          case rel => exact ⟨d + 1, T', by omega, by go_num, HN1.out, HCAP.out, own_drewN HK7.out.1 _, below_drewN HK7.out.2 _⟩
                          case measure => simp [intOf] <;> omega
                    | true =>
                      obtain ⟨g5', q, e5, _, _, hq, hcq, _⟩ := own_int_at HO5.out hv
                      obtain rfl : g5 = g5' := by injection e5 with e5; injection e5
                      obtain ⟨g5', p, e5, hg5', hgl, hp, hcp, hfp⟩ := own_int_at HO5.out hltu
                      obtain rfl : g5 = g5' := by injection e5 with e5; injection e5
                      have htq := tm_get hq
                      have htp := tm_get hp
                      have q0 : -1 ≤ q := by rw [← htq]; exact HCAP.out.low _
                      have q1 : q ≤ 252000 := by rw [← htq]; exact HCAP.out.bd hn100 _
                      have p0 : -1 ≤ p := by rw [← htp]; exact HCAP.out.low _
                      have p1 : p ≤ 252000 := by rw [← htp]; exact HCAP.out.bd hn100 _
                      have HTQ := Lib.hid htq
                      have HTP := Lib.hid htp
                      have hwr : IntKind.i64.wrap (q + r) = q + r := IntWalk.i64_in _ (by omega)
                      have HCE := Lib.hid (fun w' (hb : Below w5.heap.size w5 w') => And.intro ((hb.cell (p := ⟨g5, v, none⟩) hgl).trans hcq) (And.intro ((hb.cell (p := ⟨g5, u, none⟩) hgl).trans hcp) ((hb.frozen (p := ⟨g5, u, none⟩) hgl).trans hfp)))
                      clear e5 hq hp hcq hcp hfp htq htp
                      have HYES := Lib.hid (fun (h0 : 0 ≤ q) (hc : p < 0 ∨ q + r < p) => show ((List.range 8).drop (d + 1)).foldl (stepF true W H xs u) (T'.set u (q + r)) = rowF true W H xs T1 u ∧ Cap n (T'.set u (q + r)) by
                        have hc' : tm T' u < 0 ∨ tm T' v + r < tm T' u := by rw [HTQ.out, HTP.out]; exact hc
                        have h0' : 0 ≤ tm T' v := by rw [HTQ.out]; exact h0
                        have e := relF_yes (a := v) (b := u) (c := r) h0' hc'
                        have e2 := HCAP.out.set hltu k1 k2 h0' hc'
                        rw [HTQ.out] at e e2
                        exact ⟨by rw [← HF.out, HSTP.out, ← e]; rfl, e2⟩)
                      have HNO := Lib.hid (fun (hc : ¬ (0 ≤ q ∧ (p < 0 ∨ q + r < p))) => show ((List.range 8).drop (d + 1)).foldl (stepF true W H xs u) T' = rowF true W H xs T1 u by
                        have e := relF_no (T := T') (a := v) (b := u) (c := r) (by rw [HTQ.out, HTP.out]; omega)
                        rw [← HF.out, HSTP.out]
                        show _ = List.foldl _ (relF T' (v, u, r)) _
                        rw [e])
                      by_cases h0 : 0 ≤ q
                      · by_cases hp0 : p < 0
                        · skip
                          have HY := Lib.hid (HYES.out h0 (.inl hp0))
                          go_wp2_with fail
                          refine (HMT1.out _ HW5.out).mono ?_
                          rintro e w6 ⟨rfl, hb6⟩
                          replace z0 := Keeps.below hb6 _ _ z0
                          replace z1 := Keeps.below hb6 _ _ z1
                          replace z2 := Keeps.below hb6 _ _ z2
                          have B6 := Lib.hid hb6
                          clear hb6
                          go_wp2_with fail
                          refine (HNB1.out _).mono ?_
                          rintro e w7 ⟨rfl, hb7⟩
                          have hb57 := B6.out.trans (hb7.mono B6.out.size)
                          obtain ⟨a1, a2, a3⟩ := HCE.out _ hb57
                          have HK7 := Lib.hid (And.intro (own_below HO5.out hb57) (HB5.out.trans (hb57.mono HB5.out.size)))
                          clear hb7 z0 z1 z2 hb57
                          go_wp2_with fail
                          go_quiet (fail)
                          go_wp2_with fail
                          all_goals
                            go_roundw
                            case rel => exact ⟨d + 1, _, by omega, by go_num, HY.out.1, HY.out.2, own_set (own_drewN HK7.out.1 _) _, (below_drewN HK7.out.2 _).setCell (p := ⟨g5, u, none⟩) hg5' _⟩
                            case measure => simp [intOf] <;> omega
                        · by_cases hq1 : q + r < p
                          · skip
                            have HY := Lib.hid (HYES.out h0 (.inr hq1))
                            go_wp2_with fail
                            refine (HMT1.out _ HW5.out).mono ?_
                            rintro e w6 ⟨rfl, hb6⟩
                            replace z0 := Keeps.below hb6 _ _ z0
                            replace z1 := Keeps.below hb6 _ _ z1
                            replace z2 := Keeps.below hb6 _ _ z2
                            have B6 := Lib.hid hb6
                            clear hb6
                            go_wp2_with fail
                            refine (HNB1.out _).mono ?_
                            rintro e w7 ⟨rfl, hb7⟩
                            have hb57 := B6.out.trans (hb7.mono B6.out.size)
                            obtain ⟨a1, a2, a3⟩ := HCE.out _ hb57
                            have HK7 := Lib.hid (And.intro (own_below HO5.out hb57) (HB5.out.trans (hb57.mono HB5.out.size)))
                            clear hb7 z0 z1 z2 hb57
                            go_wp2_with fail
                            go_quiet (fail)
                            go_wp2_with fail
                            all_goals
                              go_roundw
                              case rel => exact ⟨d + 1, _, by omega, by go_num, HY.out.1, HY.out.2, own_set (own_drewN HK7.out.1 _) _, (below_drewN HK7.out.2 _).setCell (p := ⟨g5, u, none⟩) hg5' _⟩
                              case measure => simp [intOf] <;> omega
                          · skip
                            have HN1 := Lib.hid (HNO.out (by omega))
                            go_wp2_with fail
                            refine (HMT1.out _ HW5.out).mono ?_
                            rintro e w6 ⟨rfl, hb6⟩
                            replace z0 := Keeps.below hb6 _ _ z0
                            replace z1 := Keeps.below hb6 _ _ z1
                            replace z2 := Keeps.below hb6 _ _ z2
                            have B6 := Lib.hid hb6
                            clear hb6
                            go_wp2_with fail
                            refine (HNB1.out _).mono ?_
                            rintro e w7 ⟨rfl, hb7⟩
                            have hb57 := B6.out.trans (hb7.mono B6.out.size)
                            obtain ⟨a1, a2, a3⟩ := HCE.out _ hb57
                            have HK7 := Lib.hid (And.intro (own_below HO5.out hb57) (HB5.out.trans (hb57.mono HB5.out.size)))
                            clear hb7 z0 z1 z2 hb57
                            go_wp2_with fail
                            go_quiet (fail)
                            go_wp2_with fail
                            all_goals
                              go_roundw
                              case rel => exact ⟨d + 1, T', by omega, by go_num, HN1.out, HCAP.out, own_drewN HK7.out.1 _, below_drewN HK7.out.2 _⟩
                              case measure => simp [intOf] <;> omega
                      · obtain rfl : q = -1 := by omega
                        have HN1 := Lib.hid (HNO.out (by omega))
                        go_wp2_with fail
                        refine (HMT1.out _ HW5.out).mono ?_
                        rintro e w6 ⟨rfl, hb6⟩
                        replace z0 := Keeps.below hb6 _ _ z0
                        replace z1 := Keeps.below hb6 _ _ z1
                        replace z2 := Keeps.below hb6 _ _ z2
                        have B6 := Lib.hid hb6
                        clear hb6
                        go_wp2_with fail
                        refine (HNB1.out _).mono ?_
                        rintro e w7 ⟨rfl, hb7⟩
                        have hb57 := B6.out.trans (hb7.mono B6.out.size)
                        obtain ⟨a1, a2, a3⟩ := HCE.out _ hb57
                        have HK7 := Lib.hid (And.intro (own_below HO5.out hb57) (HB5.out.trans (hb57.mono HB5.out.size)))
                        clear hb7 z0 z1 z2 hb57
                        go_wp2_with fail
                        go_quiet (fail)
                        go_wp2_with fail
                        all_goals
                          go_roundw
                          case rel => exact ⟨d + 1, T', by omega, by go_num, HN1.out, HCAP.out, own_drewN HK7.out.1 _, below_drewN HK7.out.2 _⟩
                          case measure => simp [intOf] <;> omega
                · obtain rfl : d = 8 := by omega
                  have HK := Lib.hid (And.intro ho5 hb)
                  have hT' : T' = rowF back W H xs T1 u := hF
                  have HF2 := Lib.hid (show ((List.range n).drop (u + 1)).foldl (rowF back W H xs) T' = (List.range n).foldl (rowF back W H xs) T by rw [hT']; exact HF1.out)
                  have HCAP := Lib.hid hcap
                  clear hF ho5 hb hT' hcap
                  go_wp2_with fail
                  go_roundw
                  case rel => exact ⟨u + 1, T', by omega, by go_num, HF2.out, HCAP.out, HK.out.1, HK.out.2⟩
                  case measure => simp [intOf] <;> omega
            · obtain rfl : n = u := by omega
              rw [List.drop_eq_nil_of_le (by simp)] at hF
              have hF : T1 = (List.range n).foldl (rowF back W H xs) T := hF
              have HFF := Lib.hid hF
              clear hF
              go_wp2_with fail
              go_roundw
              case rel => exact ⟨k + 1, T1, by omega, by go_num, by rw [HFF.out]; exact HR.out, HC1.out, HT1.out, HB1.out⟩
              case measure => simp [intOf] <;> omega
        · obtain rfl : n = k := by omega
          rw [Nat.sub_self] at hR
          have HR := Lib.hid (show T = res from hR)
          clear hR
          go_wp2_with fail
          go_ret
          rw [← HR.out]
          exact ⟨_, _, _, rfl, own_base HT.out (by omega), by omega, HB0.out.trans (HBR.out.mono (by omega))⟩
end Go.Proofs.Ytpaamhkgokkgpaa

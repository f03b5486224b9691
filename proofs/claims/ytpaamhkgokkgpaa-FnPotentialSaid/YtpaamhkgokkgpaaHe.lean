/- Walks: the times to a cell of the program (chapter 32). -/
import Derived.Test.YtpaamhkgokkgpaaHb
import Derived.Deep.LoopGhost
import Derived.Outline
namespace Go.Proofs.Ytpaamhkgokkgpaa
open Go.RowKit
set_option linter.unusedVariables false
set_option maxRecDepth 100000

/-- How a pass stands: has it bettered a time? -/
def Kept (T T' : List Int) (ag : Bool) : Prop := mu T' ≤ mu T ∧ (ag = true → mu T' < mu T) ∧ (ag = false → T' = T)
theorem Kept.refl (T : List Int) : Kept T T false := ⟨Nat.le_refl _, fun h => (by cases h), fun _ => rfl⟩
theorem Kept.less {T T' T2 : List Int} {ag : Bool} (h : Kept T T' ag) (hm : mu T2 < mu T') : Kept T T2 true := ⟨by have := h.1; omega, fun _ => by have := h.1; omega, fun h => (by cases h)⟩
set_option maxHeartbeats 4000000 in
theorem timesTo_any (W H : Int) (A : Option Addr) (n c : Nat) (xs : List (Int × Int)) (s : Nat) (hg : GridOk W H xs) (hs : s < n) (w : World) (h : Rd w 2 A n (winds xs)) :
    Calls Try.prog 70 #[.agg #[.int .i64 W, .int .i64 H, .slice A n c], .int .i64 (s : Int)] w (RetCopy w (timesB true W H xs s)) := by
  have HX := Lib.hid h.len_wind
  have hn := h.le
  have hn100 : n ≤ 100 := by
    have h1 := hg.len
    have h2 := mul_bd (show 0 ≤ W by have := hg.w1; omega) hg.w2 (show 0 ≤ H by have := hg.h1; omega) hg.h2
    have h3 := HX.out
    omega
  have HREP := Lib.hid (fun A c w' (h : Rd w' 1 A 1 (ints [-1])) => repeat_any A c (-1) n (by omega) hn100 w' h)
  have HLIT := Lib.hid (fun (w1 w2 : World) (hb : Below (w1.alloc (.cells #[.int .i64 (-1)] 2)).heap.size (w1.alloc (.cells #[.int .i64 (-1)] 2)) w2) => (rd_lit (-1) w1).below hb)
  have HMT := Lib.hid (fun c' d (g1 : 0 ≤ c') (g2 : c' < W * H) (d1 : 0 ≤ d) (d2 : d ≤ 7) w' (hb : Below w.heap.size w w') => moveTime_any W H A n c xs c' d hg g1 g2 d1 d2 w' (h.below hb))
  have HNB := Lib.hid (fun c' d (g1 : 0 ≤ c') (g2 : c' < W * H) (d1 : 0 ≤ d) (d2 : d ≤ 7) w' => implNb_any W H A n c c' d hg.w1 hg.w2 hg.h1 hg.h2 g1 g2 d1 d2 w')
  have HBD := Lib.hid (fun c' d (g1 : 0 ≤ c') (g2 : c' < W * H) hh => moveF_bd (d := d) hg hh g1 g2)
  have HCL := Lib.hid (fun c' d (hh : moveB W H xs c' d = true) => nb_cell (cell := c') (d := d) hg.w1 hg.h1 (moveB_nb hh))
  have HMF := Lib.hid (show ∀ c' d, moveF W H xs c' d = if moveB W H xs c' d = true then takeF xs c' d else -1 from fun _ _ => rfl)
  have hNm : W * H = n := by have := hg.len; have := HX.out; omega
  rw [hNm] at HMT HNB HBD HCL
  have hAR := arcsB_ok hg true
  rw [HX.out] at hAR
  have HAR := Lib.hid hAR
  have HIS := Lib.hid (show ∀ T, Sound n (arcsB true W H xs) s T → Closed (arcsB true W H xs) T → T = timesB true W H xs s from fun T h1 h2 => times_is hg true (by rw [HX.out]; exact hs) (by rw [HX.out]; exact h1) h2)
  have HPS := Lib.hid (show ∀ T, (List.range n).foldl (rowF true W H xs) T = (arcsB true W H xs).foldl relF T from fun T => by rw [← pass_eq]; unfold passF; rw [HX.out])
  generalize timesB true W H xs s = res at *
  clear hg hNm h hAR
  go_enter Try.func70, Try.ntmps70
  go_wp2_with fail
  obtain ⟨wb, hwb⟩ : ∃ wb, wb = w.alloc (.cells #[.int .i64 W, .int .i64 H, .slice A n c] 29) := ⟨_, rfl⟩
  rw [← hwb]
  have hb0 : Below w.heap.size w wb := by rw [hwb]; exact (Below.refl _ _).alloc (Nat.le_refl _) _
  have x0 : wb.cell? ⟨w.heap.size, 0, none⟩ = some (.int .i64 W) := by rw [hwb]; exact cell_top _ _ _ rfl rfl
  have x1 : wb.cell? ⟨w.heap.size, 1, none⟩ = some (.int .i64 H) := by rw [hwb]; exact cell_top _ _ _ rfl rfl
  have x2 : wb.cell? ⟨w.heap.size, 2, none⟩ = some (.slice A n c) := by rw [hwb]; exact cell_top _ _ _ rfl rfl
  have hsz : w.heap.size < wb.heap.size := by rw [hwb]; simp
  have HSW := Lib.hid (show w.heap.size + 1 = wb.heap.size by rw [hwb]; simp)
  have HB0 := Lib.hid hb0
  clear hwb hb0
  go_wp2_with fail
  try rw [HSW.out]
  refine (HREP.out _ _ _ (HLIT.out _ _ (Below.refl _ _))).mono ?_
  rintro e wc ⟨A5, n5, c5, rfl, ho, hn5, hbq⟩
  have hl5 := own_len ho
  rw [List.length_replicate] at hl5
  obtain rfl : n = n5 := hl5
  have hbc : Below wb.heap.size wb wc := ((Below.refl wb.heap.size wb).alloc (Nat.le_refl _) _).trans (hbq.mono (by simp))
  have h5 := own_base ho (show wb.heap.size ≤ _ by simp)
  clear ho hbq hn5
  obtain ⟨g5, z, rfl, hg5, _, _, hz1, hz2⟩ := own_int_at h5 hs
  have t5 := own_set h5 (k := s) 0
  have hbs := hbc.setCell (p := ⟨g5, s, none⟩) hg5 (.int .i64 0)
  have HA := Lib.hid (And.intro t5 hbs)
  clear h5 hbc t5 hbs HREP HLIT
  go_wp2_with fail
  clear hz1 hz2
  go_loopg [6] (mu ((List.replicate n (-1)).set s 0) + 1) (fun q s6 wr => ∃ (T : List Int) (ag : Bool), s6 = .bool ag ∧ mu T + (if ag = true then 1 else 0) = q ∧ Cap n T ∧ Sound n (arcsB true W H xs) s T ∧ (ag = false → Closed (arcsB true W H xs) T) ∧ wr.ownsRow wb.heap.size 2 1 (.slice (some ⟨g5, 0, none⟩) n c5) n (ints T) ∧ Below wb.heap.size wb wr)
  case atStart => exact ⟨_, true, rfl, rfl, cap_start hs, sound_start _ hs, fun h => (by cases h), HA.out.1, HA.out.2⟩
  case round =>
    clear HA
    obtain ⟨T, ag, rfl, hq, hcap, hsnd, hcl, ho5, hb⟩ := hrel
    obtain ⟨wo, rfl⟩ : ∃ wo : World, wo = wr := ⟨_, rfl⟩
    have HT := Lib.hid ho5
    have HBR := Lib.hid hb
    have HC := Lib.hid hcap
    have HQ := Lib.hid hq
    have HSN := Lib.hid hsnd
    have HCLO := Lib.hid hcl
    clear ho5 hb hcap hq hsnd hcl
    cases ag with
    | false =>
      have HRS := Lib.hid (HIS.out T HSN.out (HCLO.out rfl))
      go_wp2_with fail
      go_ret
      rw [← HRS.out]
      exact ⟨_, _, _, rfl, own_base HT.out (by omega), by omega, HB0.out.trans (HBR.out.mono (by omega))⟩
    | true =>
      go_wp2_with fail
      go_loopw [6, 22] (fun s6 i wr => ∃ (u : Nat) (T' : List Int) (ag : Bool), u ≤ n ∧ i = .int .i64 u ∧ s6 = .bool ag ∧ Kept T T' ag ∧ Cap n T' ∧ ((List.range n).drop u).foldl (rowF true W H xs) T' = (List.range n).foldl (rowF true W H xs) T ∧ wr.ownsRow wb.heap.size 2 1 (.slice (some ⟨g5, 0, none⟩) n c5) n (ints T') ∧ Below wb.heap.size wb wr) (fun _ i _ => n - (intOf i).toNat)
      case atStart => exact ⟨0, T, false, Nat.zero_le _, rfl, rfl, Kept.refl T, HC.out, rfl, HT.out, HBR.out⟩
      case round =>
        obtain ⟨u, T1, ag, hu, rfl, rfl, hk1, hcap, hF, ho5, hb⟩ := hrel
        obtain ⟨w1, rfl⟩ : ∃ w1 : World, w1 = wr := ⟨_, rfl⟩
        have HT1 := Lib.hid ho5
        have HB1 := Lib.hid hb
        have HC1 := Lib.hid hcap
        have HK1 := Lib.hid hk1
        by_cases hlt : u < n
        · rw [rng_drop hlt, List.foldl_cons] at hF
          have HF1 := Lib.hid hF
          have hiu0 : (0 : Int) ≤ u := by omega
          have hiu1 : (u : Int) < n := by omega
          clear ho5 hb hcap hk1 hF
          go_wp2_with fail
          go_loopw [6, 25] (fun s6 i wr => ∃ (d : Nat) (T' : List Int) (ag : Bool), d ≤ 8 ∧ i = .int .i64 d ∧ s6 = .bool ag ∧ Kept T T' ag ∧ Cap n T' ∧ ((List.range 8).drop d).foldl (stepF true W H xs u) T' = rowF true W H xs T1 u ∧ wr.ownsRow wb.heap.size 2 1 (.slice (some ⟨g5, 0, none⟩) n c5) n (ints T') ∧ Below wb.heap.size wb wr) (fun _ i _ => 8 - (intOf i).toNat)
          case atStart => exact ⟨0, T1, ag, Nat.zero_le _, rfl, rfl, HK1.out, HC1.out, rfl, HT1.out, HB1.out⟩
          case round =>
            obtain ⟨d, T', ag, hd8, rfl, rfl, hk, hcap, hF, ho5, hb⟩ := hrel
            obtain ⟨w5, rfl⟩ : ∃ w5 : World, w5 = wr := ⟨_, rfl⟩
            by_cases hdlt : d < 8
            · rw [rng_drop hdlt, List.foldl_cons] at hF
              have z0 := Keeps.below hb _ _ x0
              have z1 := Keeps.below hb _ _ x1
              have z2 := Keeps.below hb _ _ x2
              have HF := Lib.hid hF
              have HO5 := Lib.hid ho5
              have HB5 := Lib.hid hb
              have HCAP := Lib.hid hcap
              have HK := Lib.hid hk
              clear hF ho5 hb hcap hk
              have hd0 : (0 : Int) ≤ d := by omega
              have hd7 : (d : Int) ≤ 7 := by omega
              have HM := Lib.hid (HMF.out u d)
              generalize hmf : moveF W H xs u d = r at *
              have HMT1 := Lib.hid (fun w' hb => HMT.out u d hiu0 hiu1 hd0 hd7 w' hb)
              rw [hmf] at HMT1
              clear hmf
              have HW5 := Lib.hid (HB0.out.trans (HB5.out.mono (by omega)))
              cases hmb : moveB W H xs u d with
              | false =>
                obtain rfl : r = -1 := by rw [HM.out, hmb]; rfl
                have HF2 := Lib.hid (show ((List.range 8).drop (d + 1)).foldl (stepF true W H xs u) T' = rowF true W H xs T1 u by rw [← HF.out, step_none hmb])
                clear hmb
                go_wp2_with fail
                refine (HMT1.out _ HW5.out).mono ?_
                rintro e w6 ⟨rfl, hb6⟩
                have HK6 := Lib.hid (And.intro (own_below HO5.out hb6) (HB5.out.trans (hb6.mono HB5.out.size)))
                clear hb6 z0 z1 z2
                go_wp2_with fail
                all_goals
                  go_roundw
                  case rel => exact ⟨d + 1, T', ag, by omega, by go_num, rfl, HK.out, HCAP.out, HF2.out, HK6.out.1, HK6.out.2⟩
                  case measure => simp [intOf] <;> omega
              | true =>
                obtain ⟨k1, k2⟩ := HBD.out u d hiu0 hiu1 hmb
                obtain ⟨n1, n2⟩ := HCL.out u d hmb
                have htk : takeF xs u d = r := by rw [HM.out, hmb]; rfl
                rw [htk] at k1 k2
                have HNB1 := Lib.hid (fun w' => HNB.out u d hiu0 hiu1 hd0 hd7 w')
                generalize hnf : nbF W H u d = nf at *
                obtain ⟨v, rfl⟩ := int_up nf n1
                have HST := Lib.hid (step_some (back := true) (T := T') hmb hnf htk)
                clear hmb hnf HM htk
                have hv : v < n := by omega
                obtain ⟨g5', q, e5, _, _, hq, hcq, _⟩ := own_int_at HO5.out hv
                obtain rfl : g5 = g5' := by injection e5 with e5; injection e5
                obtain ⟨g5', p, e5, hg5', hgl, hp, hcp, hfp⟩ := own_int_at HO5.out hlt
                obtain rfl : g5 = g5' := by injection e5 with e5; injection e5
                have htq := tm_get hq
                have htp := tm_get hp
                have q0 : -1 ≤ q := by rw [← htq]; exact HCAP.out.low v
                have q1 : q ≤ 252000 := by rw [← htq]; exact HCAP.out.bd hn100 v
                have p0 : -1 ≤ p := by rw [← htp]; exact HCAP.out.low u
                have p1 : p ≤ 252000 := by rw [← htp]; exact HCAP.out.bd hn100 u
                have HTQ := Lib.hid htq
                have HTP := Lib.hid htp
                have hwr : IntKind.i64.wrap (q + r) = q + r := IntWalk.i64_in _ (by omega)
                have HCE := Lib.hid (fun w' (hb : Below w5.heap.size w5 w') => And.intro ((hb.cell (p := ⟨g5, v, none⟩) hgl).trans hcq) (And.intro ((hb.cell (p := ⟨g5, u, none⟩) hgl).trans hcp) ((hb.frozen (p := ⟨g5, u, none⟩) hgl).trans hfp)))
                clear e5 hq hp hcq hcp hfp htq htp
                have HYES := Lib.hid (fun (h0 : 0 ≤ q) (hc : p < 0 ∨ q + r < p) => show ((List.range 8).drop (d + 1)).foldl (stepF true W H xs u) (T'.set u (q + r)) = rowF true W H xs T1 u ∧ Cap n (T'.set u (q + r)) ∧ Kept T (T'.set u (q + r)) true by
                  have hc' : tm T' u < 0 ∨ tm T' v + r < tm T' u := by rw [HTQ.out, HTP.out]; exact hc
                  have h0' : 0 ≤ tm T' v := by rw [HTQ.out]; exact h0
                  have e := relF_yes (a := v) (b := u) (c := r) h0' hc'
                  have e2 := HCAP.out.set hlt k1 k2 h0' hc'
                  have e3 := mu_less HCAP.out hn100 hlt k1 k2 h0' hc'
                  rw [HTQ.out] at e e2 e3
                  exact ⟨by rw [← HF.out, HST.out, ← e]; rfl, e2, HK.out.less e3⟩)
                have HNO := Lib.hid (fun (hc : ¬ (0 ≤ q ∧ (p < 0 ∨ q + r < p))) => show ((List.range 8).drop (d + 1)).foldl (stepF true W H xs u) T' = rowF true W H xs T1 u by
                  have e := relF_no (T := T') (a := v) (b := u) (c := r) (by rw [HTQ.out, HTP.out]; omega)
                  rw [← HF.out, HST.out]
                  show _ = List.foldl _ (relF T' (v, u, r)) _
                  rw [e])
                by_cases h0 : 0 ≤ q
                · by_cases hp0 : p < 0
                  · skip
                    have HY := Lib.hid (HYES.out h0 (.inl hp0))
                    go_wp2_with fail
                    refine (HMT1.out _ HW5.out).mono ?_
                    rintro e w6 ⟨rfl, hb6⟩
                    replace z0 := Keeps.below hb6 _ _ z0
                    replace z1 := Keeps.below hb6 _ _ z1
                    replace z2 := Keeps.below hb6 _ _ z2
                    have B6 := Lib.hid hb6
                    clear hb6
                    go_wp2_with fail
                    refine (HNB1.out _).mono ?_
                    rintro e w7 ⟨rfl, hb7⟩
                    have hb57 := B6.out.trans (hb7.mono B6.out.size)
                    obtain ⟨a1, a2, a3⟩ := HCE.out _ hb57
                    have HK7 := Lib.hid (And.intro (own_below HO5.out hb57) (HB5.out.trans (hb57.mono HB5.out.size)))
                    clear hb7 z0 z1 z2 hb57
                    go_wp2_with fail
                    all_goals
                      go_roundw
                      case rel => exact ⟨d + 1, _, true, by omega, by go_num, rfl, HY.out.2.2, HY.out.2.1, HY.out.1, own_set HK7.out.1 _, HK7.out.2.setCell (p := ⟨g5, u, none⟩) hg5 _⟩
                      case measure => simp [intOf] <;> omega
                  · by_cases hq1 : q + r < p
                    · skip
                      have HY := Lib.hid (HYES.out h0 (.inr hq1))
                      go_wp2_with fail
                      refine (HMT1.out _ HW5.out).mono ?_
                      rintro e w6 ⟨rfl, hb6⟩
                      replace z0 := Keeps.below hb6 _ _ z0
                      replace z1 := Keeps.below hb6 _ _ z1
                      replace z2 := Keeps.below hb6 _ _ z2
                      have B6 := Lib.hid hb6
                      clear hb6
                      go_wp2_with fail
                      refine (HNB1.out _).mono ?_
                      rintro e w7 ⟨rfl, hb7⟩
                      have hb57 := B6.out.trans (hb7.mono B6.out.size)
                      obtain ⟨a1, a2, a3⟩ := HCE.out _ hb57
                      have HK7 := Lib.hid (And.intro (own_below HO5.out hb57) (HB5.out.trans (hb57.mono HB5.out.size)))
                      clear hb7 z0 z1 z2 hb57
                      go_wp2_with fail
                      all_goals
                        go_roundw
                        case rel => exact ⟨d + 1, _, true, by omega, by go_num, rfl, HY.out.2.2, HY.out.2.1, HY.out.1, own_set HK7.out.1 _, HK7.out.2.setCell (p := ⟨g5, u, none⟩) hg5 _⟩
                        case measure => simp [intOf] <;> omega
                    · skip
                      have HN1 := Lib.hid (HNO.out (by omega))
                      go_wp2_with fail
                      refine (HMT1.out _ HW5.out).mono ?_
                      rintro e w6 ⟨rfl, hb6⟩
                      replace z0 := Keeps.below hb6 _ _ z0
                      replace z1 := Keeps.below hb6 _ _ z1
                      replace z2 := Keeps.below hb6 _ _ z2
                      have B6 := Lib.hid hb6
                      clear hb6
                      go_wp2_with fail
                      refine (HNB1.out _).mono ?_
                      rintro e w7 ⟨rfl, hb7⟩
                      have hb57 := B6.out.trans (hb7.mono B6.out.size)
                      obtain ⟨a1, a2, a3⟩ := HCE.out _ hb57
                      have HK7 := Lib.hid (And.intro (own_below HO5.out hb57) (HB5.out.trans (hb57.mono HB5.out.size)))
                      clear hb7 z0 z1 z2 hb57
                      go_wp2_with fail
                      all_goals
                        go_roundw
                        case rel => exact ⟨d + 1, T', ag, by omega, by go_num, rfl, HK.out, HCAP.out, HN1.out, HK7.out.1, HK7.out.2⟩
                        case measure => simp [intOf] <;> omega
                · skip
                  have HN1 := Lib.hid (HNO.out (by omega))
                  go_wp2_with fail
                  refine (HMT1.out _ HW5.out).mono ?_
                  rintro e w6 ⟨rfl, hb6⟩
                  replace z0 := Keeps.below hb6 _ _ z0
                  replace z1 := Keeps.below hb6 _ _ z1
                  replace z2 := Keeps.below hb6 _ _ z2
                  have B6 := Lib.hid hb6
                  clear hb6
                  go_wp2_with fail
                  refine (HNB1.out _).mono ?_
                  rintro e w7 ⟨rfl, hb7⟩
                  have hb57 := B6.out.trans (hb7.mono B6.out.size)
                  obtain ⟨a1, a2, a3⟩ := HCE.out _ hb57
                  have HK7 := Lib.hid (And.intro (own_below HO5.out hb57) (HB5.out.trans (hb57.mono HB5.out.size)))
                  clear hb7 z0 z1 z2 hb57
                  go_wp2_with fail
                  all_goals
                    go_roundw
                    case rel => exact ⟨d + 1, T', ag, by omega, by go_num, rfl, HK.out, HCAP.out, HN1.out, HK7.out.1, HK7.out.2⟩
                    case measure => simp [intOf] <;> omega
            · obtain rfl : d = 8 := by omega
              have HK := Lib.hid (And.intro ho5 hb)
              have hT' : T' = rowF true W H xs T1 u := hF
              have HF2 := Lib.hid (show ((List.range n).drop (u + 1)).foldl (rowF true W H xs) T' = (List.range n).foldl (rowF true W H xs) T by rw [hT']; exact HF1.out)
              have HKK := Lib.hid hk
              have HCAP := Lib.hid hcap
              clear hF ho5 hb hT' hcap hk
              go_wp2_with fail
              go_roundw
              case rel => exact ⟨u + 1, T', ag, by omega, by go_num, rfl, HKK.out, HCAP.out, HF2.out, HK.out.1, HK.out.2⟩
              case measure => simp [intOf] <;> omega
        · obtain rfl : n = u := by omega
          rw [List.drop_eq_nil_of_le (by simp)] at hF
          have hF : T1 = (List.range n).foldl (rowF true W H xs) T := hF
          rw [HPS.out] at hF
          have hsn : Sound n (arcsB true W H xs) s T1 := by rw [hF]; exact Sound.rels HAR.out hs _ _ (fun x hx => hx) HSN.out
          have hcl : ag = false → Closed (arcsB true W H xs) T1 := fun ha => by
            have e := hk1.2.2 ha
            rw [e] at hF ⊢
            exact closed_fix HAR.out HC.out.len hF.symm
          have HNEW := Lib.hid (And.intro hsn hcl)
          clear ho5 hb hcap hk1 hF hsn hcl
          go_wp2_with fail
          go_roundg (mu T1 + (if ag = true then 1 else 0))
          case measure =>
            have h1 := HQ.out
            have h2 := HK1.out
            cases ag with
            | false => have := h2.1; simp at h1 ⊢; omega
            | true => have := h2.2.1 rfl; simp at h1 ⊢; omega
          case rel => exact ⟨T1, ag, rfl, rfl, HC1.out, HNEW.out.1, HNEW.out.2, HT1.out, HB1.out⟩
end Go.Proofs.Ytpaamhkgokkgpaa

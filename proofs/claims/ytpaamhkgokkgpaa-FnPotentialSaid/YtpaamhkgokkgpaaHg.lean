/- Walks: FastestRoute of the program (chapter 32). -/
import Derived.Test.YtpaamhkgokkgpaaHe
import Derived.Test.YtpaamhkgokkgpaaGk
import Derived.Deep.LoopGhost
import Derived.Outline
namespace Go.Proofs.Ytpaamhkgokkgpaa
open Go.RowKit
set_option linter.unusedVariables false
set_option maxRecDepth 100000

def fastRF (W H : Int) (xs : List (Int × Int)) (cell tgt : Int) : List Int × Int × Int :=
  if gcodeF W H xs cell = 0 then (if withinB tgt 0 ((xs.length : Int) - 1) = true then (if tm (timesB true W H xs tgt.toNat) cell.toNat < 0 then ([], 0, 5) else
    (pathF W H xs (timesB true W H xs tgt.toNat) tgt.toNat (tm (timesB true W H xs tgt.toNat) cell.toNat).toNat cell.toNat, tm (timesB true W H xs tgt.toNat) cell.toNat, 0)) else ([], 0, 4)) else ([], 0, gcodeF W H xs cell)
/-- What the walk to a cell rests on. -/
structure Left (W H : Int) (xs : List (Int × Int)) (n tg : Nat) (L : List Int) : Prop where
  some : ∀ u, u < n → u ≠ tg → 0 ≤ tm L u → ∃ d, (List.range 8).find? (goodB W H xs L u) = some d
  zero : ∀ u, u < n → tm L u = 0 → u = tg
theorem left_of {W H : Int} {xs : List (Int × Int)} (hg : GridOk W H xs) {tg : Nat} (ht : tg < xs.length) : Left W H xs xs.length tg (timesB true W H xs tg) :=
  ⟨fun u hu hne h0 => good_some hg ht hu hne h0, fun u hu h0 => good_zero hg ht hu h0⟩
theorem timesB_cap {W H : Int} {xs : List (Int × Int)} (hg : GridOk W H xs) (back : Bool) {s : Nat} (hs : s < xs.length) : Cap xs.length (timesB back W H xs s) := by
  have hp : ∀ (l : List Arc) (T : List Int), ArcsOk xs.length l → Cap xs.length T → Cap xs.length (l.foldl relF T) := by
    intro l
    induction l with
    | nil => intro T _ h; exact h
    | cons x r ih => intro T hl h; exact ih _ (fun y hy => hl y (by simp [hy])) (h.rel (hl x (by simp)))
  have hq : ∀ (k : Nat) (T : List Int), Cap xs.length T → Cap xs.length (passesF back W H xs k T) := by
    intro k
    induction k with
    | zero => intro T h; exact h
    | succ k ih => intro T h; exact ih _ (by rw [pass_eq]; exact hp _ _ (arcsB_ok hg back) h)
  exact hq _ _ (cap_start hs)
theorem path_len {W H : Int} {xs : List (Int × Int)} {L : List Int} {tg : Nat} : ∀ (q u : Nat), (pathF W H xs L tg q u).length ≤ q := by
  intro q
  induction q with
  | zero => intro u; exact Nat.le_refl _
  | succ q ih =>
    intro u
    unfold pathF
    split
    · simp
    · split
      · simp
      · rename_i d _; simp only [List.length_cons]; have := ih (nbF W H u d).toNat; omega
theorem path_here {W H : Int} {xs : List (Int × Int)} {L : List Int} {tg q : Nat} : pathF W H xs L tg q tg = [] := by
  cases q with
  | zero => rfl
  | succ q => rw [pathF, if_pos rfl]
theorem path_next {W H : Int} {xs : List (Int × Int)} {L : List Int} {tg q u d v : Nat} (hne : u ≠ tg) (h : (List.range 8).find? (goodB W H xs L u) = some d) (hn : nbF W H u d = v) : pathF W H xs L tg (q + 1) u = (d : Int) :: pathF W H xs L tg q v := by
  rw [pathF, if_neg hne, h]
  show (d : Int) :: pathF W H xs L tg q (nbF W H u d).toNat = _
  rw [hn, Int.toNat_natCast]
theorem find_here {p : Nat → Bool} {d d0 : Nat} (hd : d < 8) (h : ((List.range 8).drop d).find? p = some d0) (hp : p d = true) : d0 = d := by
  rw [rng_drop hd, List.find?_cons, hp] at h
  injection h with h; exact h.symm
theorem find_on {p : Nat → Bool} {d d0 : Nat} (hd : d < 8) (h : ((List.range 8).drop d).find? p = some d0) (hp : p d = false) : ((List.range 8).drop (d + 1)).find? p = some d0 := by
  rwa [rng_drop hd, List.find?_cons, hp] at h
theorem find_end {p : Nat → Bool} {d d0 : Nat} (hd : ¬ d < 8) (h : ((List.range 8).drop d).find? p = some d0) : False := by
  rw [List.drop_eq_nil_of_le (by simp; omega)] at h; cases h
set_option maxHeartbeats 4000000 in
theorem implFastR_any (W H : Int) (A : Option Addr) (n c : Nat) (xs : List (Int × Int)) (cell tgt : Int) (w : World) (h : Rd w 2 A n (winds xs)) :
    Calls Try.prog 42 #[.agg #[.int .i64 W, .int .i64 H, .slice A n c], .int .i64 cell, .int .i64 tgt] w (RetSail w (fastRF W H xs cell tgt)) := by
  have HB := Lib.hid (show ∀ o, Below w.heap.size w (w.alloc o) from fun o => (Below.refl _ _).alloc (Nat.le_refl _) o)
  have hlx := h.len_wind
  have HC := Lib.hid (fun w' (hb : Below w.heap.size w w') => gridCode_any W H A n c xs cell w' (h.below hb))
  have HI := Lib.hid (fun w' (hb : Below w.heap.size w w') => isCell_any W H A n c xs tgt w' (h.below hb))
  unfold fastRF
  by_cases hz : gcodeF W H xs cell = 0
  · obtain ⟨hg, c1, c2'⟩ := gcode_ok hz
    rw [hz] at HC
    rw [if_pos hz]
    obtain ⟨s, rfl⟩ := int_up cell c1
    have hus : s < n := by have := hg.len; omega
    cases hw : withinB tgt 0 ((xs.length : Int) - 1) with
    | false =>
      rw [hw] at HI
      simp only [Bool.false_eq_true, if_false]
      clear hz hg c1 c2' h hlx hw
      go_enter Try.func42, Try.ntmps42
      go_wp2_with fail
      refine (HC.out _ (HB.out _)).mono ?_
      rintro e w2 ⟨rfl, hb2⟩
      obtain ⟨x0, x1, x2, hs2, hb2'⟩ := box3 hb2
      have B2 := Lib.hid hb2'
      clear hb2 hb2'
      go_wp2_with fail
      refine (HI.out _ B2.out).mono ?_
      rintro e w3 ⟨rfl, hb3⟩
      replace x0 := Keeps.below hb3 _ _ x0
      replace x1 := Keeps.below hb3 _ _ x1
      replace x2 := Keeps.below hb3 _ _ x2
      have B3 := Lib.hid (B2.out.trans (hb3.mono B2.out.size))
      clear hb3
      go_wp2_with fail
      refine bodyPost_ret (results_tmp3 rfl _ _ _) rfl ?_
      exact RetSail.nil _ _ _ B3.out
    | true =>
      rw [hw] at HI
      obtain ⟨t1, t2⟩ := withinB_iff.1 hw
      obtain ⟨tg, rfl⟩ := int_up tgt t1
      have htg : tg < n := by omega
      have hn100 : n ≤ 100 := by
        have h1 := hg.len
        have h2 := mul_bd (show 0 ≤ W by have := hg.w1; omega) hg.w2 (show 0 ≤ H by have := hg.h1; omega) hg.h2
        omega
      simp only [if_true, Int.toNat_natCast]
      have HF := Lib.hid (fun w' (hb : Below w.heap.size w w') => timesTo_any W H A n c xs tg hg htg w' (h.below hb))
      have hcapL := timesB_cap hg true (s := tg) (by omega)
      have hleft := left_of hg (tg := tg) (by omega)
      rw [hlx] at hcapL hleft
      have hLlen := hcapL.len
      generalize timesB true W H xs tg = L at *
      have HLEFT := Lib.hid hleft
      have HCAPL := Lib.hid hcapL
      have HMT := Lib.hid (fun c' d (g1 : 0 ≤ c') (g2 : c' < W * H) (d1 : 0 ≤ d) (d2 : d ≤ 7) w' (hb : Below w.heap.size w w') => moveTime_any W H A n c xs c' d hg g1 g2 d1 d2 w' (h.below hb))
      have HNB := Lib.hid (fun c' d (g1 : 0 ≤ c') (g2 : c' < W * H) (d1 : 0 ≤ d) (d2 : d ≤ 7) w' => implNb_any W H A n c c' d hg.w1 hg.w2 hg.h1 hg.h2 g1 g2 d1 d2 w')
      have HBD := Lib.hid (fun c' d (g1 : 0 ≤ c') (g2 : c' < W * H) hh => moveF_bd (d := d) hg hh g1 g2)
      have HCL := Lib.hid (fun c' d (hh : moveB W H xs c' d = true) => nb_cell (cell := c') (d := d) hg.w1 hg.h1 (moveB_nb hh))
      have HMF := Lib.hid (show ∀ c' d, moveF W H xs c' d = if moveB W H xs c' d = true then takeF xs c' d else -1 from fun _ _ => rfl)
      have hNm : W * H = n := by have := hg.len; omega
      rw [hNm] at HMT HNB HBD HCL
      have HLL := Lib.hid hLlen
      have hLlen := HLL.out
      generalize hrr : (if tm L s < 0 then (([] : List Int), (0 : Int), (5 : Int)) else (pathF W H xs L tg (tm L s).toNat s, tm L s, 0)) = rr
      have HRR := Lib.hid hrr
      clear hz hg c1 c2' h hlx hw t1 t2 hNm hleft hcapL hrr
      go_enter Try.func42, Try.ntmps42
      go_wp2_with fail
      refine (HC.out _ (HB.out _)).mono ?_
      rintro e w2 ⟨rfl, hb2⟩
      obtain ⟨x0, x1, x2, hs2, hb2'⟩ := box3 hb2
      have B2 := Lib.hid hb2'
      clear hb2 hb2'
      go_wp2_with fail
      refine (HI.out _ B2.out).mono ?_
      rintro e w3 ⟨rfl, hb3⟩
      replace x0 := Keeps.below hb3 _ _ x0
      replace x1 := Keeps.below hb3 _ _ x1
      replace x2 := Keeps.below hb3 _ _ x2
      have B3 := Lib.hid (B2.out.trans (hb3.mono B2.out.size))
      clear hb3
      go_wp2_with fail
      refine (HF.out _ B3.out).mono ?_
      rintro e wl ⟨A5, n5, c5, rfl, ho, hn5, hbl⟩
      replace x0 := Keeps.below hbl _ _ x0
      replace x1 := Keeps.below hbl _ _ x1
      replace x2 := Keeps.below hbl _ _ x2
      have hl5 := own_len ho
      rw [hLlen] at hl5
      obtain rfl : n = n5 := hl5
      have BL := Lib.hid (B3.out.trans (hbl.mono B3.out.size))
      have hrl := own_rd ho
      clear ho hn5 hbl
      obtain ⟨b5, o5, p, rfl, hp, _, hcp⟩ := hrl.int hus
      have htp := tm_get hp
      by_cases hp0 : p < 0
      · have HR5 := Lib.hid (show ([], 0, 5) = rr by rw [← HRR.out, if_pos (by rw [htp]; exact hp0)])
        clear htp hp hrl hLlen
        go_wp2_with fail
        refine bodyPost_ret (results_tmp3 rfl _ _ _) rfl ?_
        rw [← HR5.out]
        exact RetSail.nil _ _ _ BL.out
      · have hp1 : p ≤ 252000 := by rw [← htp]; exact HCAPL.out.bd hn100 s
        obtain ⟨q0, rfl⟩ := int_up p (by omega)
        have HR6 := Lib.hid (show (pathF W H xs L tg q0 s, (q0 : Int), 0) = rr by rw [← HRR.out, if_neg (by rw [htp]; exact hp0), htp, Int.toNat_natCast])
        have hq0 : q0 ≤ 252000 := by omega
        generalize hres : pathF W H xs L tg q0 s = res at HR6
        have HRES := Lib.hid hres
        have HRL := Lib.hid hrl
        have HTP := Lib.hid htp
        have HPL := Lib.hid (show ∀ q u, (pathF W H xs L tg q u).length ≤ q from fun q u => path_len q u)
        have HOE := Lib.hid (own_empty wl wl.heap.size 2 (Nat.le_refl _))
        have HBE := Lib.hid (show Below wl.heap.size wl (wl.alloc (.cells #[] 2)) from (Below.refl _ _).alloc (Nat.le_refl _) _)
        clear hres htp hp hrl hLlen hp0
        go_wp2_with fail
        go_loopg [11, 12] q0 (fun q s11 s12 wr => ∃ (cs : List Int) (A1 : Option Addr) (c1 m u : Nat), s11 = .slice A1 m c1 ∧ s12 = .int .i64 u ∧ u < n ∧ 0 ≤ tm L u ∧ tm L u ≤ q ∧ cs ++ pathF W H xs L tg q u = res ∧ wr.ownsRow wl.heap.size 2 1 (.slice A1 m c1) m (ints cs) ∧ m + q ≤ 252000 ∧ Below wl.heap.size wl wr)
        case atStart => exact ⟨[], _, 0, 0, s, rfl, rfl, hus, by rw [HTP.out]; omega, by rw [HTP.out]; omega, HRES.out, HOE.out, by omega, HBE.out⟩
        case round =>
          clear HRES HOE HBE
          obtain ⟨cs, A1, c1, m, u, rfl, rfl, hu, hu0, hu1, hR, ho, hm, hb⟩ := hrel
          obtain ⟨wo, rfl⟩ : ∃ wo : World, wo = wr := ⟨_, rfl⟩
          have HO := Lib.hid ho
          have HBO := Lib.hid hb
          have HR := Lib.hid hR
          have hson := hb.size
          by_cases hut : u = tg
          · subst hut
            rw [path_here, List.append_nil] at hR
            have HR2 := Lib.hid hR
            replace hcp := Keeps.below hb _ _ hcp
            clear hb ho hR hu0 hu1 HR
            go_wp2_with fail
            try go_quiet (fail)
            go_wp2_with fail
            refine bodyPost_ret (results_tmp3 rfl _ _ _) rfl ?_
            rw [← HR6.out, ← HR2.out]
            exact ⟨A1, m, c1, rfl, own_base (own_drewN HO.out _) BL.out.size, by omega, BL.out.trans ((below_drewN HBO.out _).mono BL.out.size)⟩
          · have hq : gk ≠ 0 := by
              rintro rfl
              exact hut (HLEFT.out.zero u hu (by omega))
            obtain ⟨q, rfl⟩ : ∃ q, gk = q + 1 := ⟨gk - 1, by omega⟩
            obtain ⟨d0, hd0⟩ := HLEFT.out.some u hu hut hu0
            have HD0 := Lib.hid hd0
            have hne : ((u : Int) != tg) = true := by simp; omega
            have hiu0 : (0 : Int) ≤ u := by omega
            have hiu1 : (u : Int) < n := by omega
            have HU0 := Lib.hid hu0
            have HU1 := Lib.hid hu1
            clear hb ho hR hd0 hu0 hu1 hcp
            go_wp2_with fail
            clear hne
            go_loopw [11, 12, 39] (fun s11 s12 j wr => ∃ d : Nat, d ≤ 8 ∧ j = .int .i64 d ∧ s11 = .slice A1 m c1 ∧ s12 = .int .i64 u ∧ ((List.range 8).drop d).find? (goodB W H xs L u) = some d0 ∧ Below wo.heap.size wo wr) (fun _ _ j _ => 8 - (intOf j).toNat)
            case atStart => exact ⟨0, by omega, rfl, rfl, rfl, HD0.out, Below.refl _ _⟩
            case round =>
              obtain ⟨d, hd8, rfl, rfl, rfl, hfd, hb⟩ := hrel
              obtain ⟨w5, rfl⟩ : ∃ w5 : World, w5 = wr := ⟨_, rfl⟩
              by_cases hdlt : d < 8
              · have HFD := Lib.hid hfd
                have HB5 := Lib.hid hb
                have HBL5 := Lib.hid (HBO.out.trans (hb.mono hson))
                have z0 := Keeps.below HBL5.out _ _ x0
                have z1 := Keeps.below HBL5.out _ _ x1
                have z2 := Keeps.below HBL5.out _ _ x2
                have hd0 : (0 : Int) ≤ d := by omega
                have hd7 : (d : Int) ≤ 7 := by omega
                clear hfd hb
                have HM := Lib.hid (HMF.out u d)
                generalize hmf : moveF W H xs u d = r at *
                have HMT1 := Lib.hid (fun w' hb => HMT.out u d hiu0 hiu1 hd0 hd7 w' hb)
                rw [hmf] at HMT1
                clear hmf
                have HW5 := Lib.hid (BL.out.trans (HBL5.out.mono BL.out.size))
                have eg : goodB W H xs L u d = (moveB W H xs u d && (decide (0 ≤ tm L (nbF W H u d).toNat) && decide (tm L (nbF W H u d).toNat + takeF xs u d = tm L u))) := rfl
                cases hmb : moveB W H xs u d with
                | false =>
                  obtain rfl : r = -1 := by rw [HM.out, hmb]; rfl
                  have HF2 := Lib.hid (find_on hdlt HFD.out (by rw [eg, hmb]; rfl))
                  clear hmb eg
                  go_wp2_with fail
                  refine (HMT1.out _ HW5.out).mono ?_
                  rintro e w6 ⟨rfl, hb6⟩
                  have HK6 := Lib.hid (HB5.out.trans (hb6.mono HB5.out.size))
                  clear hb6 z0 z1 z2
                  go_wp2_with fail
                  all_goals
                    go_roundw
                    case rel => exact ⟨d + 1, by omega, by go_num, rfl, rfl, HF2.out, HK6.out⟩
                    case measure => simp [intOf] <;> omega
                | true =>
                  obtain ⟨k1, k2⟩ := HBD.out u d hiu0 hiu1 hmb
                  obtain ⟨n1, n2⟩ := HCL.out u d hmb
                  have htk : takeF xs u d = r := by rw [HM.out, hmb]; rfl
                  rw [htk] at k1 k2 eg
                  have HNB1 := Lib.hid (fun w' => HNB.out u d hiu0 hiu1 hd0 hd7 w')
                  have HPN := Lib.hid (fun (v : Nat) (hn : nbF W H u d = v) (h : (List.range 8).find? (goodB W H xs L u) = some d) => path_next (q := q) hut h hn)
                  rw [hmb] at eg
                  generalize hnf : nbF W H u d = nf at *
                  obtain ⟨v, rfl⟩ := int_up nf n1
                  rw [Int.toNat_natCast] at eg
                  have HPN1 := Lib.hid (HPN.out v rfl)
                  clear hmb hnf HM htk HPN
                  have hv : v < n := by omega
                  obtain ⟨b', o', y, e5, hy, _, hcy⟩ := HRL.out.int hv
                  obtain ⟨rfl, rfl⟩ : b5 = b' ∧ o5 = o' := by injection e5 with e5; injection e5 with e5 e6; exact ⟨e5, e6⟩
                  obtain ⟨b', o', x, e5, hx, _, hcx⟩ := HRL.out.int hu
                  obtain ⟨rfl, rfl⟩ : b5 = b' ∧ o5 = o' := by injection e5 with e5; injection e5 with e5 e6; exact ⟨e5, e6⟩
                  have hty := tm_get hy
                  have htx := tm_get hx
                  rw [hty, htx] at eg
                  have y0 : -1 ≤ y := by rw [← hty]; exact HCAPL.out.low _
                  have y1 : y ≤ 252000 := by rw [← hty]; exact HCAPL.out.bd hn100 _
                  have hx1 : x ≤ (q : Int) + 1 := by rw [← htx]; have := HU1.out; omega
                  have HTY := Lib.hid hty
                  have HEG := Lib.hid eg
                  have hwr : IntKind.i64.wrap (y + r) = y + r := IntWalk.i64_in _ (by omega)
                  have HCE := Lib.hid (fun w' (hb : Below wl.heap.size wl w') => And.intro (Keeps.below hb _ _ hcy) (Keeps.below hb _ _ hcx))
                  clear e5 hy hx hcy hcx hty htx eg
                  by_cases h0 : 0 ≤ y
                  · by_cases he : y + r = x
                    · obtain rfl : d0 = d := find_here hdlt HFD.out (by rw [HEG.out]; simp <;> omega)
                      have HPP := Lib.hid (HPN1.out HD0.out)
                      have HY := Lib.hid (show 0 ≤ tm L v ∧ tm L v ≤ q by rw [HTY.out]; omega)
                      clear HEG HPN1
                      go_wp2_with fail
                      refine (HMT1.out _ HW5.out).mono ?_
                      rintro e w6 ⟨rfl, hb6⟩
                      replace z0 := Keeps.below hb6 _ _ z0
                      replace z1 := Keeps.below hb6 _ _ z1
                      replace z2 := Keeps.below hb6 _ _ z2
                      have B6 := Lib.hid hb6
                      clear hb6
                      go_wp2_with fail
                      refine (HNB1.out _).mono ?_
                      rintro e w7 ⟨rfl, hb7⟩
                      have hb57 := B6.out.trans (hb7.mono B6.out.size)
                      have BL7 := Lib.hid (HBL5.out.trans (hb57.mono HBL5.out.size))
                      have B57 := Lib.hid (HB5.out.trans (hb57.mono HB5.out.size))
                      have hs7 := BL7.out.size
                      obtain ⟨a1, a2⟩ := HCE.out _ BL7.out
                      clear hb7 z0 z1 z2 hb57
                      go_wp2_with fail
                      go_quiet (fail)
                      go_wp2_with (at_builtin; refine app_i64 (base := wl.heap.size) _ rfl _ _ rfl rfl ((own_drewN (own_below HO.out B57.out) _).alloc _) rfl (cell_new1 _ _ _) (by omega) (by simp <;> omega) ?_; intro A' c4 w9 ho9 hgr9)
                      go_roundg q
                      case measure => omega
                      case rel => exact ⟨cs ++ [(d0 : Int)], A', c4, m + 1, v, rfl, rfl, hv, HY.out.1, HY.out.2, by rw [← HR.out, HPP.out]; simp, ho9, by omega, below_app (below_drewN BL7.out _) hs7 (Nat.le_refl _) (own_drewN (own_below HO.out B57.out) _) hgr9⟩
                    · skip
                      have HF2 := Lib.hid (find_on hdlt HFD.out (by rw [HEG.out]; simp <;> omega))
                      clear HEG
                      go_wp2_with fail
                      refine (HMT1.out _ HW5.out).mono ?_
                      rintro e w6 ⟨rfl, hb6⟩
                      replace z0 := Keeps.below hb6 _ _ z0
                      replace z1 := Keeps.below hb6 _ _ z1
                      replace z2 := Keeps.below hb6 _ _ z2
                      have B6 := Lib.hid hb6
                      clear hb6
                      go_wp2_with fail
                      refine (HNB1.out _).mono ?_
                      rintro e w7 ⟨rfl, hb7⟩
                      have hb57 := B6.out.trans (hb7.mono B6.out.size)
                      have BL7 := Lib.hid (HBL5.out.trans (hb57.mono HBL5.out.size))
                      have B57 := Lib.hid (HB5.out.trans (hb57.mono HB5.out.size))
                      have hs7 := BL7.out.size
                      obtain ⟨a1, a2⟩ := HCE.out _ BL7.out
                      clear hb7 z0 z1 z2 hb57
                      go_wp2_with fail
                      go_quiet (fail)
                      go_wp2_with fail
                      all_goals
                        go_roundw
                        case rel => exact ⟨d + 1, by omega, by go_num, rfl, rfl, HF2.out, below_drewN B57.out _⟩
                        case measure => simp [intOf] <;> omega
                  · obtain rfl : y = -1 := by omega
                    have HF2 := Lib.hid (find_on hdlt HFD.out (by rw [HEG.out]; simp <;> omega))
                    clear HEG
                    go_wp2_with fail
                    refine (HMT1.out _ HW5.out).mono ?_
                    rintro e w6 ⟨rfl, hb6⟩
                    replace z0 := Keeps.below hb6 _ _ z0
                    replace z1 := Keeps.below hb6 _ _ z1
                    replace z2 := Keeps.below hb6 _ _ z2
                    have B6 := Lib.hid hb6
                    clear hb6
                    go_wp2_with fail
                    refine (HNB1.out _).mono ?_
                    rintro e w7 ⟨rfl, hb7⟩
                    have hb57 := B6.out.trans (hb7.mono B6.out.size)
                    have BL7 := Lib.hid (HBL5.out.trans (hb57.mono HBL5.out.size))
                    have B57 := Lib.hid (HB5.out.trans (hb57.mono HB5.out.size))
                    have hs7 := BL7.out.size
                    obtain ⟨a1, a2⟩ := HCE.out _ BL7.out
                    clear hb7 z0 z1 z2 hb57
                    go_wp2_with fail
                    go_quiet (fail)
                    go_wp2_with fail
                    all_goals
                      go_roundw
                      case rel => exact ⟨d + 1, by omega, by go_num, rfl, rfl, HF2.out, below_drewN B57.out _⟩
                      case measure => simp [intOf] <;> omega
              · exact (find_end hdlt hfd).elim
  · rw [if_neg hz]
    generalize gcodeF W H xs cell = code at *
    have hne : (code != 0) = true := by simp [hz]
    clear hz h hlx HI
    go_enter Try.func42, Try.ntmps42
    go_wp2_with fail
    refine (HC.out _ (HB.out _)).mono ?_
    rintro e w2 ⟨rfl, hb2⟩
    obtain ⟨x0, x1, x2, hs2, hb2'⟩ := box3 hb2
    have B2 := Lib.hid hb2'
    clear hb2 hb2'
    go_wp2_with fail
    refine bodyPost_ret (results_tmp3 rfl _ _ _) rfl ?_
    exact RetSail.nil _ _ _ B2.out
end Go.Proofs.Ytpaamhkgokkgpaa

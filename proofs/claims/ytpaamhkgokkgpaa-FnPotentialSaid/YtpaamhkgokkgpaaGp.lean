/- Walks: potentials (chapter 32). -/
import Derived.Test.YtpaamhkgokkgpaaGn
namespace Go.Proofs.Ytpaamhkgokkgpaa
open Go.RowKit
set_option linter.unusedVariables false
set_option maxRecDepth 100000

def atF (L : List Int) (u : Int) : Int := L.getD u.toNat 0
/-- Is a move from u in direction d as a potential demands? -/
def edgeB (W H : Int) (xs : List (Int × Int)) (L : List Int) (u d : Nat) : Bool :=
  !moveB W H xs u d || decide (atF L u < 0) || (decide (0 ≤ atF L (nbF W H u d)) && decide (atF L (nbF W H u d) ≤ atF L u + takeF xs u d))
def edgesB (W H : Int) (xs : List (Int × Int)) (L : List Int) (u : Nat) : Bool := (List.range 8).all (edgeB W H xs L u)
def potB (W H : Int) (xs : List (Int × Int)) (cell : Int) (L : List Int) : Bool :=
  if gcodeF W H xs cell = 0 then (if L.length = xs.length then (if atF L cell = 0 then (L.all (fun p => withinB p (-1) 1000000000) && (List.range xs.length).all (edgesB W H xs L)) else false) else false) else false
theorem rng_drop {n k : Nat} (h : k < n) : (List.range n).drop k = k :: (List.range n).drop (k + 1) := by
  rw [List.drop_eq_getElem_cons (by simpa using h)]
  simp
theorem atF_get {L : List Int} {k : Nat} {x : Int} (h : L[k]? = some x) : atF L (k : Int) = x := by
  unfold atF
  rw [Int.toNat_natCast, List.getD_eq_getElem?_getD, h]; rfl
set_option maxHeartbeats 2000000 in
theorem implPot_any (W H : Int) (A : Option Addr) (n c : Nat) (xs : List (Int × Int)) (cell : Int) (A2 : Option Addr) (m c2 : Nat) (L : List Int) (w : World) (h : Rd w 2 A n (winds xs)) (h2 : Rd w 1 A2 m (ints L)) :
    Calls Try.prog 26 #[.agg #[.int .i64 W, .int .i64 H, .slice A n c], .int .i64 cell, .slice A2 m c2] w fun e w' => e = .returned (.bool (potB W H xs cell L)) ∧ Below w.heap.size w w' := by
  have HN := Lib.hid h2.len_int
  have HX := Lib.hid h.len_wind
  have hm := h2.le
  have hn := h.le
  have HB := Lib.hid (show ∀ o, Below w.heap.size w (w.alloc o) from fun o => (Below.refl _ _).alloc (Nat.le_refl _) o)
  have HC := Lib.hid (fun w' (hb : Below w.heap.size w w') => gridCode_any W H A n c xs cell w' (h.below hb))
  have hp : potB W H xs cell L = if gcodeF W H xs cell = 0 then (if L.length = xs.length then (if atF L cell = 0 then (L.all (fun p => withinB p (-1) 1000000000) && (List.range xs.length).all (edgesB W H xs L)) else false) else false) else false := rfl
  rw [HN.out, HX.out] at hp
  generalize potB W H xs cell L = pot at *
  by_cases hz : gcodeF W H xs cell = 0
  · obtain ⟨hg, c1, c2'⟩ := gcode_ok hz
    rw [hz] at HC
    rw [if_pos hz] at hp
    by_cases hl : m = n
    · subst hl
      rw [if_pos rfl] at hp
      obtain ⟨kf, rfl⟩ := int_up cell c1
      have hkf : kf < m := by have := hg.len; have := HX.out; omega
      have hkf0 : (0 : Int) ≤ kf := by omega
      obtain ⟨bl, ol, lf, rfl, hlx, _, hcl⟩ := h2.int hkf
      rw [atF_get hlx] at hp
      by_cases hf : lf = 0
      · subst hf
        rw [if_pos rfl] at hp
        have HP := Lib.hid hp
        have HMT := Lib.hid (fun c' d (g1 : 0 ≤ c') (g2 : c' < W * H) (d1 : 0 ≤ d) (d2 : d ≤ 7) w' (hb : Below w.heap.size w w') => moveTime_any W H A m c xs c' d hg g1 g2 d1 d2 w' (h.below hb))
        have HNB := Lib.hid (fun c' d (g1 : 0 ≤ c') (g2 : c' < W * H) (d1 : 0 ≤ d) (d2 : d ≤ 7) w' => implNb_any W H A m c c' d hg.w1 hg.w2 hg.h1 hg.h2 g1 g2 d1 d2 w')
        have HBD := Lib.hid (fun c' d (g1 : 0 ≤ c') (g2 : c' < W * H) hh => moveF_bd (d := d) hg hh g1 g2)
        have HCL := Lib.hid (fun c' d (hh : moveB W H xs c' d = true) => nb_cell (cell := c') (d := d) hg.w1 hg.h1 (moveB_nb hh))
        have HMF := Lib.hid (show ∀ c' d, moveF W H xs c' d = if moveB W H xs c' d = true then takeF xs c' d else -1 from fun _ _ => rfl)
        have hNm : W * H = m := by have := hg.len; have := HX.out; omega
        rw [hNm] at HMT HNB HBD HCL
        clear hp hz hg c2' hlx hNm h
        go_enter Try.func26, Try.ntmps26
        go_wp2_with fail
        refine (HC.out _ (HB.out _)).mono ?_
        rintro e w2 ⟨rfl, hb2⟩
        obtain ⟨x0, x1, x2, hs2, hb2'⟩ := box3 hb2
        have B2 := Lib.hid hb2'
        clear hb2 hb2'
        replace hcl := Keeps.below B2.out _ _ hcl
        go_wp2_with fail
        clear hcl
        go_loop [35] (fun i => ∃ k : Nat, k ≤ m ∧ i = .int .i64 k ∧ (L.drop k).all (fun p => withinB p (-1) 1000000000) = L.all (fun p => withinB p (-1) 1000000000)) (fun i => m - (intOf i).toNat)
        case atStart => exact ⟨0, Nat.zero_le _, rfl, rfl⟩
        case round =>
          obtain ⟨k, hk, rfl, hall⟩ := hrel
          have HA := Lib.hid hall
          clear hall
          by_cases hlt : k < m
          · obtain ⟨b, o, p, hbo, hx, hd, hc⟩ := (h2.below B2.out).int hlt
            injection hbo with hbo
            injection hbo with hb1 hb2
            subst hb1 hb2
            have HD := Lib.hid hd
            clear hx hd
            cases hw : withinB p (-1) 1000000000 with
            | true =>
              go_wp2_with (go_at_call 50; refine (within_any _ _ _ _).mono ?_; rintro e w' ⟨rfl, rfl⟩)
              go_round
              case rel => exact ⟨k + 1, by omega, by go_num, by rw [← HA.out, HD.out, List.all_cons, hw, Bool.true_and]⟩
              case measure => simp [intOf] <;> omega
            | false =>
              go_wp2_with (go_at_call 50; refine (within_any _ _ _ _).mono ?_; rintro e w' ⟨rfl, rfl⟩)
              go_ret
              exact ⟨ret_bool (by rw [HP.out, ← HA.out, HD.out, List.all_cons, hw]; rfl), B2.out⟩
          · obtain rfl : k = m := by omega
            rw [List.drop_eq_nil_of_le (by rw [HN.out]; exact Nat.le_refl _)] at HA
            have HP2 := Lib.hid (show pot = (List.range k).all (edgesB W H xs L) by rw [HP.out, ← HA.out]; rfl)
            have hall : ∀ p ∈ L, withinB p (-1) 1000000000 = true := fun p hp => List.all_eq_true.1 (HA.out.symm.trans rfl) p hp
            have HALL := Lib.hid hall
            clear HP HA hall
            go_wp2_with fail
            go_loopw [45] (fun i wr => ∃ u : Nat, u ≤ k ∧ i = .int .i64 u ∧ ((List.range k).drop u).all (edgesB W H xs L) = pot ∧ Below w2.heap.size w2 wr) (fun i _ => k - (intOf i).toNat)
            case atStart => exact ⟨0, Nat.zero_le _, rfl, HP2.out.symm, Below.refl _ _⟩
            case round =>
              clear HP2
              obtain ⟨u, hu, rfl, hR, hb⟩ := hrel
              by_cases hlt : u < k
              · rw [rng_drop hlt, List.all_cons] at hR
                have HR := Lib.hid hR
                obtain ⟨b, o, p, hbo, hx, _, hc⟩ := ((h2.below B2.out).below hb).int hlt
                injection hbo with hbo
                injection hbo with hb1 hb2
                subst hb1 hb2
                have hpw := withinB_iff.1 (HALL.out p (List.mem_of_getElem? hx))
                obtain ⟨p1, p2⟩ := hpw
                have HPU := Lib.hid (atF_get hx)
                have BR := Lib.hid hb
                have hsb := hb.size
                clear hR hx
                obtain ⟨wo, rfl⟩ : ∃ wo : World, wo = wr := ⟨_, rfl⟩
                have y0 := Keeps.below hb _ _ x0
                have y1 := Keeps.below hb _ _ x1
                have y2 := Keeps.below hb _ _ x2
                clear hb
                have hu0 : (0 : Int) ≤ u := by omega
                have hu1 : (u : Int) < k := by omega
                go_wp2_with fail
                go_loopw [50] (fun j w5 => ∃ d : Nat, d ≤ 8 ∧ j = .int .i64 d ∧ ((List.range 8).drop d).all (edgeB W H xs L u) = edgesB W H xs L u ∧ Below wo.heap.size wo w5) (fun j _ => 8 - (intOf j).toNat)
                case atStart => exact ⟨0, Nat.zero_le _, rfl, rfl, Below.refl _ _⟩
                case round =>
                  obtain ⟨d, hd8, rfl, hE, hb⟩ := hrel
                  by_cases hdlt : d < 8
                  · rw [rng_drop hdlt, List.all_cons] at hE
                    have HE := Lib.hid hE
                    have hd0 : (0 : Int) ≤ d := by omega
                    have hd7 : (d : Int) ≤ 7 := by omega
                    have z0 := Keeps.below hb _ _ y0
                    have z1 := Keeps.below hb _ _ y1
                    have z2 := Keeps.below hb _ _ y2
                    have B5 := Lib.hid hb
                    clear hE hb
                    have HM := Lib.hid (HMF.out u d)
                    generalize hmf : moveF W H xs u d = r at *
                    have HMT1 := Lib.hid (fun w' hb => HMT.out u d hu0 hu1 hd0 hd7 w' hb)
                    rw [hmf] at HMT1
                    clear hmf
                    have HW5 := Lib.hid (B2.out.trans ((BR.out.trans (B5.out.mono BR.out.size)).mono B2.out.size))
                    have eb : edgeB W H xs L u d = (!moveB W H xs u d || decide (atF L u < 0) || (decide (0 ≤ atF L (nbF W H u d)) && decide (atF L (nbF W H u d) ≤ atF L u + takeF xs u d))) := rfl
                    rw [HPU.out] at eb
                    cases hmb : moveB W H xs u d with
                    | false =>
                      obtain rfl : r = -1 := by rw [HM.out, hmb]; rfl
                      have HEB := Lib.hid (show edgeB W H xs L u d = true by rw [eb, hmb]; rfl)
                      clear hmb eb
                      go_wp2_with fail
                      refine (HMT1.out _ HW5.out).mono ?_
                      rintro e w6 ⟨rfl, hb6⟩
                      have B6 := Lib.hid (B5.out.trans (hb6.mono B5.out.size))
                      clear hb6 z0 z1 z2
                      go_wp2_with fail
                      all_goals
                        go_roundw
                        case rel => exact ⟨d + 1, by omega, by go_num, by rw [← HE.out, HEB.out, Bool.true_and], B6.out⟩
                        case measure => simp [intOf] <;> omega
                    | true =>
                      obtain ⟨k1, k2⟩ := HBD.out u d hu0 hu1 hmb
                      obtain ⟨n1, n2⟩ := HCL.out u d hmb
                      have HT := Lib.hid (show takeF xs u d = r by rw [HM.out, hmb]; rfl)
                      rw [HT.out] at k1 k2 eb
                      have HNB1 := Lib.hid (fun w' => HNB.out u d hu0 hu1 hd0 hd7 w')
                      rw [hmb] at eb
                      generalize hnf : nbF W H u d = nf at *
                      obtain ⟨v, rfl⟩ := int_up nf n1
                      clear hmb hnf HM
                      have hv : v < k := by omega
                      by_cases hp0 : p < 0
                      · have HEB := Lib.hid (show edgeB W H xs L u d = true by rw [eb]; simp [hp0])
                        clear eb
                        go_wp2_with fail
                        refine (HMT1.out _ HW5.out).mono ?_
                        rintro e w6 ⟨rfl, hb6⟩
                        have B6 := Lib.hid (B5.out.trans (hb6.mono B5.out.size))
                        clear hb6 z0 z1 z2
                        go_wp2_with fail
                        go_roundw
                        case rel => exact ⟨d + 1, by omega, by go_num, by rw [← HE.out, HEB.out, Bool.true_and], B6.out⟩
                        case measure => simp [intOf] <;> omega
                      · have h2v := fun w' (hb : Below w.heap.size w w') => (h2.below hb).int hv
                        have HEB := Lib.hid eb
                        clear eb
                        go_wp2_with fail
                        refine (HMT1.out _ HW5.out).mono ?_
                        rintro e w6 ⟨rfl, hb6⟩
                        replace z0 := Keeps.below hb6 _ _ z0
                        replace z1 := Keeps.below hb6 _ _ z1
                        replace z2 := Keeps.below hb6 _ _ z2
                        have B6 := Lib.hid (B5.out.trans (hb6.mono B5.out.size))
                        clear hb6
                        go_wp2_with fail
                        refine (HNB1.out _).mono ?_
                        rintro e w7 ⟨rfl, hb7⟩
                        have B7 := Lib.hid (B6.out.trans (hb7.mono B6.out.size))
                        clear hb7 z0 z1 z2
                        have HW7 := Lib.hid (B2.out.trans ((BR.out.trans (B7.out.mono BR.out.size)).mono B2.out.size))
                        obtain ⟨b, o, q, hbo, hx, _, hcq⟩ := h2v w7 HW7.out
                        injection hbo with hbo
                        injection hbo with hb1 hb2
                        subst hb1 hb2
                        have hqw := withinB_iff.1 (HALL.out q (List.mem_of_getElem? hx))
                        obtain ⟨q1, q2⟩ := hqw
                        have haq := atF_get hx
                        rw [haq] at HEB
                        clear haq hx h2v
                        by_cases hq : q < 0
                        · have HEF := Lib.hid (show edgeB W H xs L u d = false by rw [HEB.out]; simp; omega)
                          go_wp2_with fail
                          go_ret
                          exact ⟨ret_bool (by rw [← HR.out, ← HE.out, HEF.out]; rfl), HW7.out⟩
                        · by_cases hq2 : p + r < q
                          · have HEF := Lib.hid (show edgeB W H xs L u d = false by rw [HEB.out]; simp; omega)
                            go_wp2_with fail
                            go_ret
                            exact ⟨ret_bool (by rw [← HR.out, ← HE.out, HEF.out]; rfl), HW7.out⟩
                          · have HEF := Lib.hid (show edgeB W H xs L u d = true by rw [HEB.out]; simp; omega)
                            go_wp2_with fail
                            go_roundw
                            case rel => exact ⟨d + 1, by omega, by go_num, by rw [← HE.out, HEF.out, Bool.true_and], B7.out⟩
                            case measure => simp [intOf] <;> omega
                  · obtain rfl : d = 8 := by omega
                    have HEU := Lib.hid (show edgesB W H xs L u = true from hE.symm)
                    have B5 := Lib.hid (BR.out.trans (hb.mono BR.out.size))
                    clear hE hb
                    go_wp2_with fail
                    go_roundw
                    case rel => exact ⟨u + 1, by omega, by go_num, by rw [← HR.out, HEU.out, Bool.true_and], B5.out⟩
                    case measure => simp [intOf] <;> omega
              · obtain rfl : u = k := by omega
                have BR := Lib.hid (B2.out.trans (hb.mono B2.out.size))
                have hpt : pot = true := by rw [← hR, List.drop_eq_nil_of_le (by simp)]; rfl
                have HPT := Lib.hid hpt
                clear hb hR hpt
                go_wp2_with fail
                go_ret
                exact ⟨ret_bool HPT.out.symm, BR.out⟩
      · rw [if_neg hf] at hp
        have HP := Lib.hid hp
        have hne : (lf != 0) = true := by simp [hf]
        clear hp hz hg c2' hlx h hf
        go_enter Try.func26, Try.ntmps26
        go_wp2_with fail
        refine (HC.out _ (HB.out _)).mono ?_
        rintro e w2 ⟨rfl, hb2⟩
        obtain ⟨x0, x1, x2, hs2, hb2'⟩ := box3 hb2
        have B2 := Lib.hid hb2'
        clear hb2 hb2'
        replace hcl := Keeps.below B2.out _ _ hcl
        go_wp2_with fail
        go_ret
        exact ⟨ret_bool HP.out.symm, B2.out⟩
    · rw [if_neg hl] at hp
      have HP := Lib.hid hp
      have hne : ((m : Int) != n) = true := by simp; omega
      clear hp hz hg c2' h hl
      go_enter Try.func26, Try.ntmps26
      go_wp2_with fail
      refine (HC.out _ (HB.out _)).mono ?_
      rintro e w2 ⟨rfl, hb2⟩
      obtain ⟨x0, x1, x2, hs2, hb2'⟩ := box3 hb2
      have B2 := Lib.hid hb2'
      clear hb2 hb2'
      go_wp2_with fail
      go_ret
      exact ⟨ret_bool HP.out.symm, B2.out⟩
  · rw [if_neg hz] at hp
    have HP := Lib.hid hp
    generalize gcodeF W H xs cell = code at *
    have hne : (code != 0) = true := by simp [hz]
    clear hp hz h
    go_enter Try.func26, Try.ntmps26
    go_wp2_with fail
    refine (HC.out _ (HB.out _)).mono ?_
    rintro e w2 ⟨rfl, hb2⟩
    obtain ⟨x0, x1, x2, hs2, hb2'⟩ := box3 hb2
    have B2 := Lib.hid hb2'
    clear hb2 hb2'
    go_wp2_with fail
    go_ret
    exact ⟨ret_bool HP.out.symm, B2.out⟩
end Go.Proofs.Ytpaamhkgokkgpaa

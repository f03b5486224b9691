/- The walk of FnRedress. -/
import Derived.Test.YtmgkoldipchljaaYv
import Derived.Test.YtmgkoldipchljaaYw
import Derived.Test.YtmgkoldipchljaaYx
import Derived.Test.YtmgkoldipchljaaTn
import Derived.Test.YtmgkoldipchljaaZmf
import Derived.Deep.QuietTactic
import Derived.BigQuiet
namespace Go.Proofs.Ytmgkoldipchljaa
open Go.RowKit Go.Sort
set_option linter.unusedVariables false
set_option maxRecDepth 100000

theorem applyCF_code {t ta : Tb} {xs : List RedT} {c : Int} (h : applyCF t xs = (ta, c)) : (tableB t && redsB t xs) = decide (c = 0) := by
  unfold applyCF redCodeF at h
  cases ht : tableB t <;> cases hr : redsB t xs <;> simp [ht, hr] at h <;> (obtain ⟨_, rfl⟩ := h; rfl)
theorem applyCF_ok {t ta : Tb} {xs : List RedT} (h : applyCF t xs = (ta, 0)) : ta = applyF t xs ∧ tableB t = true ∧ redsB t xs = true := by
  unfold applyCF redCodeF at h
  cases ht : tableB t <;> cases hr : redsB t xs <;> simp [ht, hr] at h
  exact ⟨h.symm, rfl, rfl⟩
theorem openF_ok {t : Tb} {xs : List RedT} (h1 : tableB t = true) (h2 : redsB t xs = true) : openF t xs = (openGo xs 0 t.cds, 0) := by
  unfold openF redCodeF
  simp [h1, h2]
set_option maxHeartbeats 8000000 in
theorem fnRedress_walk (a0 : Option Addr) (len0 cap0 : Nat) (z0 : List Int) (w : World) (v0 : IsRow .u8 w a0 len0 cap0 z0) :
    Calls Try.prog 4 #[.slice a0 len0 cap0] w fun e w' => e = .returned (.bool true) ∧ Below w.heap.size w w' := by
  have hle := v0.lenle
  by_cases hbig : 4096 < len0
  · have hd : decide (4096 < len0) = true := by simpa using hbig
    have HB := Lib.hid (big_any a0 len0 cap0 hle w)
    rw [hd] at HB
    clear hd v0
    go_enter Try.func4, Try.ntmps4
    go_wp2_with fail
    refine HB.out.mono ?_
    rintro e w' ⟨rfl, rfl⟩
    go_wp2_with fail
    go_ret
    exact ⟨rfl, Below.refl _ _⟩
  have hd : decide (4096 < len0) = false := by simpa using hbig
  have HB := Lib.hid (big_any a0 len0 cap0 hle w)
  rw [hd] at HB
  clear hd
  have hcode := code0_of v0 (by omega)
  generalize z0.take len0 = code at hcode
  clear v0
  have HD := Lib.hid (fun W hb => drawRed_any w a0 len0 cap0 code hcode W hb)
  clear hcode
  generalize (red29 code (fromF code)).1 = D at *
  obtain ⟨t, xs⟩ := D
  obtain ⟨Z, hZ⟩ : ∃ Z, Z = applyCF t xs := ⟨_, rfl⟩
  have HI := Lib.hid (fun P n c C m d A l cl w h hl => implApply_any P n c C m d t A l cl xs w h hl)
  have HS := Lib.hid (fun P n c C m d A l cl w h hl => specApply_any P n c C m d t A l cl xs w h hl)
  rw [← hZ] at HI HS
  obtain ⟨ta, c⟩ := Z
  have HQ := Lib.hid (fun P n c C m d A l cl w h hl => implIsRedress_any P n c C m d t A l cl xs w h hl)
  rw [applyCF_code hZ.symm] at HQ
  have HZ := Lib.hid hZ.symm
  clear hZ
  go_enter Try.func4, Try.ntmps4
  go_wp2_with fail
  refine HB.out.mono ?_
  rintro e w' ⟨rfl, rfl⟩
  go_wp2_with fail
  refine (HD.out _ (Below.refl _ _)).mono ?_
  rintro e w1 ⟨P1, n1, c1, C1, m1, d1, A1, l1, cl1, rfl, k1, o1, q1, hb⟩
  have B_w1 := Lib.hid (hb)
  have z_w1 := hb.size
  have K1 := Lib.hid k1
  have O1 := Lib.hid o1
  clear hb
  try simp only
  obtain ⟨w2, hw, Xt, hb, hs⟩ := one_box w1 #[.int .i64 t.boats, .slice P1 n1 c1, .slice C1 m1 d1] 26
  replace Xt := Lib.hid Xt
  have B_w2 := Lib.hid (B_w1.out.trans (hb.mono B_w1.out.size))
  have z_w2 := hb.size
  replace K1 := Lib.hid (K1.out.below hb)
  replace O1 := Lib.hid (own_below O1.out hb)
  have l_t := Xt.out.lt
  have e_w2 : w2.heap.size = w1.heap.size + 1 := hs
  replace e_w2 := Lib.hid e_w2
  have HW_w2 := Lib.hid hw
  clear hb hs hw
  go_wp2_with fail
  rw [← HW_w2.out]
  clear HW_w2
  have Ft := Xt.out.f3
  go_wp2_with fail
  clear Ft
  have e2 := e_w2.out
  refine (HI.out _ _ _ _ _ _ _ _ _ _ K1.out.rd (own_rd O1.out)).mono ?_
  rintro e w3 ⟨P3, n3, c3, vs3, C3, m3, d3, us3, rfl, t3, sm3, hb⟩
  have B_w3 := Lib.hid (B_w2.out.trans (hb.mono B_w2.out.size))
  have z_w3 := hb.size
  replace K1 := Lib.hid (K1.out.below hb)
  replace O1 := Lib.hid (own_below O1.out hb)
  replace Xt := Lib.hid (Xt.out.below hb)
  have K3 := Lib.hid (t3.krd (lo := w1.heap.size + 1) (by omega))
  clear hb
  try simp only
  clear e2
  clear K1
  clear O1
  obtain ⟨w4, hw, Xo, hb, hs⟩ := one_box w3 #[.int .i64 ta.boats, .slice P3 n3 c3, .slice C3 m3 d3] 26
  replace Xo := Lib.hid Xo
  have B_w4 := Lib.hid (B_w3.out.trans (hb.mono B_w3.out.size))
  have z_w4 := hb.size
  replace K3 := Lib.hid (K3.out.below hb)
  replace Xt := Lib.hid (Xt.out.below hb)
  have l_o := Xo.out.lt
  have e_w4 : w4.heap.size = w3.heap.size + 1 := hs
  replace e_w4 := Lib.hid e_w4
  have HW_w4 := Lib.hid hw
  clear hb hs hw
  go_wp2_with fail
  rw [← HW_w4.out]
  clear HW_w4
  refine (HD.out _ B_w4.out).mono ?_
  rintro e w5 ⟨P2, n2, c2, C2, m2, d2, A2, l2, cl2, rfl, k2, o2, q2, hb⟩
  have B_w5 := Lib.hid (B_w4.out.trans (hb.mono B_w4.out.size))
  have z_w5 := hb.size
  replace K3 := Lib.hid (K3.out.below hb)
  replace Xt := Lib.hid (Xt.out.below hb)
  replace Xo := Lib.hid (Xo.out.below hb)
  have K2 := Lib.hid k2
  have O2 := Lib.hid o2
  clear hb
  try simp only
  have ee := e_w2.out
  have e4 := B_w1.out.size
  have e5 := B_w2.out.size
  have e6 := B_w3.out.size
  obtain ⟨w6, hw⟩ : ∃ wz : World, wz = (((w5.setCell ⟨w1.heap.size, 0, none⟩ (.int .i64 t.boats)).setCell ⟨w1.heap.size, 1, none⟩ (.slice P2 n2 c2)).setCell ⟨w1.heap.size, 2, none⟩ (.slice C2 m2 d2)) := ⟨_, rfl⟩
  have hc : Chg (w1.heap.size) (w1.heap.size + 1) w5 w6 := by rw [hw]; (repeat refine chg_set ?_ (by omega) (by omega) _); exact Chg.refl _ _ _
  replace K3 := Lib.hid (K3.out.turn (chg_wide hc (Nat.zero_le _) (by omega)))
  replace K2 := Lib.hid (K2.out.turn (chg_wide hc (Nat.zero_le _) (by omega)))
  have B_w6 := Lib.hid (below_chg B_w5.out hc (by omega) B_w5.out.size)
  have z_w6 := hc.size
  replace O2 := Lib.hid (own_chg O2.out hc (fun b hb => by have := (O2.out.lt b hb).1; omega))
  replace Xo := Lib.hid (Xo.out.chg hc (by omega))
  have Yt : Box w6 (w1.heap.size) #[.int .i64 t.boats, .slice P2 n2 c2, .slice C2 m2 d2] 26 := by rw [hw]; have := (((Xt.out.set 0 (.int .i64 t.boats)).set 1 (.slice P2 n2 c2)).set 2 (.slice C2 m2 d2)); simpa using this
  have Gt := Xt.out.f3
  replace Xt := Lib.hid Yt
  clear Yt
  have HW_w6 := Lib.hid hw
  clear hw hc
  go_wp2_with fail
  rw [← HW_w6.out]
  clear HW_w6 Gt
  clear ee e4 e5 e6
  have Ft := Xt.out.f3
  go_wp2_with fail
  clear Ft
  refine (HS.out _ _ _ _ _ _ _ _ _ _ K2.out.rd (own_rd O2.out)).mono ?_
  rintro e w7 ⟨P5, n5, c5, vs5, C5, m5, d5, us5, rfl, t5, sm5, hb⟩
  have B_w7 := Lib.hid (B_w6.out.trans (hb.mono B_w6.out.size))
  have z_w7 := hb.size
  replace O2 := Lib.hid (own_below O2.out hb)
  replace K3 := Lib.hid (K3.out.below hb)
  replace K2 := Lib.hid (K2.out.below hb)
  replace Xt := Lib.hid (Xt.out.below hb)
  replace Xo := Lib.hid (Xo.out.below hb)
  have K5 := Lib.hid (t5.krd (lo := 0) (Nat.zero_le _))
  clear hb
  try simp only
  have Fo := Xo.out.f3
  obtain ⟨w8, hw, Xn, hb, hs⟩ := one_box w7 #[.int .i64 ta.boats, .slice P5 n5 c5, .slice C5 m5 d5] 26
  replace Xn := Lib.hid Xn
  have B_w8 := Lib.hid (B_w7.out.trans (hb.mono B_w7.out.size))
  have z_w8 := hb.size
  replace O2 := Lib.hid (own_below O2.out hb)
  replace K3 := Lib.hid (K3.out.below hb)
  replace K2 := Lib.hid (K2.out.below hb)
  replace K5 := Lib.hid (K5.out.below hb)
  replace Xt := Lib.hid (Xt.out.below hb)
  replace Xo := Lib.hid (Xo.out.below hb)
  have l_n := Xn.out.lt
  have e_w8 : w8.heap.size = w7.heap.size + 1 := hs
  replace e_w8 := Lib.hid e_w8
  have HW_w8 := Lib.hid hw
  clear hb hs hw
  have hcc : (c != c) = false := by simp
  go_wp2_with fail
  rw [← HW_w8.out]
  clear HW_w8
  clear Fo
  refine (w6Tables_same _ _ _ _ _ _ _ _ _ _ _ _ ta _ K3.out.rd K5.out.rd).mono ?_
  rintro e w9 ⟨rfl, hb⟩
  have B_w9 := Lib.hid (B_w8.out.trans (hb.mono B_w8.out.size))
  have z_w9 := hb.size
  replace O2 := Lib.hid (own_below O2.out hb)
  replace K3 := Lib.hid (K3.out.below hb)
  replace K2 := Lib.hid (K2.out.below hb)
  replace K5 := Lib.hid (K5.out.below hb)
  replace Xt := Lib.hid (Xt.out.below hb)
  replace Xo := Lib.hid (Xo.out.below hb)
  replace Xn := Lib.hid (Xn.out.below hb)
  clear hb
  try simp only
  have Ft := Xt.out.f3
  go_wp2_with fail
  clear Ft
  refine (HQ.out _ _ _ _ _ _ _ _ _ _ K2.out.rd (own_rd O2.out)).mono ?_
  rintro e w10 ⟨rfl, hb⟩
  have B_w10 := Lib.hid (B_w9.out.trans (hb.mono B_w9.out.size))
  have z_w10 := hb.size
  replace O2 := Lib.hid (own_below O2.out hb)
  replace K3 := Lib.hid (K3.out.below hb)
  replace K2 := Lib.hid (K2.out.below hb)
  replace K5 := Lib.hid (K5.out.below hb)
  replace Xt := Lib.hid (Xt.out.below hb)
  replace Xo := Lib.hid (Xo.out.below hb)
  replace Xn := Lib.hid (Xn.out.below hb)
  clear hb
  try simp only
  by_cases hC0 : c = 0
  rotate_left
  · have hCb : (c != 0) = true := by simp [hC0]
    have hCe : (c == 0) = false := by simp [hC0]
    rw [decide_eq_false hC0]
    clear hC0
    go_wp2_with fail
    go_ret
    exact ⟨rfl, B_w10.out⟩
  subst hC0
  rw [decide_eq_true rfl]
  obtain ⟨rfl, htb, hrb⟩ := applyCF_ok HZ.out
  have HOO := Lib.hid (fun P n c C m d A l cl w h hl => implOpenRedress_any P n c C m d t A l cl xs w h hl)
  rw [openF_ok htb hrb] at HOO
  have HTA := Lib.hid (applyF_tab (tableB_ok htb) hrb)
  have HOK := Lib.hid (tableB_ok htb)
  have HRB := Lib.hid hrb
  clear htb hrb hcc HZ HI HS HD HB
  have Ft := Xt.out.f3
  go_wp2_with fail
  clear Ft
  refine (HOO.out _ _ _ _ _ _ _ _ _ _ K2.out.rd (own_rd O2.out)).mono ?_
  rintro e w11 ⟨A6, n6, c6, vs6, rfl, o6, sm6, hb⟩
  have B_w11 := Lib.hid (B_w10.out.trans (hb.mono B_w10.out.size))
  have z_w11 := hb.size
  replace O2 := Lib.hid (own_below O2.out hb)
  replace K3 := Lib.hid (K3.out.below hb)
  replace K2 := Lib.hid (K2.out.below hb)
  replace K5 := Lib.hid (K5.out.below hb)
  replace Xt := Lib.hid (Xt.out.below hb)
  replace Xo := Lib.hid (Xo.out.below hb)
  replace Xn := Lib.hid (Xn.out.below hb)
  clear hb
  try simp only
  have hl6 := o6.len
  simp only at hl6
  have h2 := K2.out.rd
  have h5 := K5.out.rd
  have hpl := h2.pts.len
  have hcl := h2.cds.len
  have hsm := HOK.out.same
  have hmany := HOK.out.many
  obtain rfl : n2 = m2 := by omega
  have hn12 : n2 ≤ 12 := by omega
  have hxl : xs.length = l2 := own_len_flat redC_len (by decide) O2.out
  have h5l : n5 = n2 := by
    have h1 := h5.pts.len
    have h3 := (tableB_ok HTA.out).same
    have h4 : (applyF t xs).cds.length = t.cds.length := rfl
    omega
  have hb1 := HOK.out.b1; have hb2 := HOK.out.b2
  obtain ⟨NB, hNB⟩ := int_up t.boats (by omega)
  have hnb16 : NB ≤ 16 := by omega
  have HNB := Lib.hid hNB
  have HN := Lib.hid hpl
  have HXL := Lib.hid hxl
  have HL6 := Lib.hid hl6
  have HBW := Lib.hid (Below.refl w11.heap.size w11)
  clear hpl hcl hsm hmany hxl hl6 hb1 hb2 hNB sm6 sm3 sm5 o6 HQ h2 h5 h5l
  have Ft := Xt.out.f3
  go_wp2_with fail
  clear Ft
  go_loopw [11, 12] (fun q i wr => ∃ (k qn : Nat), k ≤ n2 ∧ i = .int .i64 k ∧ q = .int .i64 qn ∧ qn ≤ 16 * k ∧ Hid (qn + (openGo xs k (t.cds.drop k)).length = n6) ∧ Hid (Below w11.heap.size w11 wr)) (fun _ i _ => n2 - (intOf i).toNat)
  case atStart => exact ⟨0, 0, Nat.zero_le _, rfl, rfl, Nat.zero_le _, Lib.hid (by have := HL6.out; simp only [List.drop_zero]; omega), HBW⟩
  case round =>
    clear HBW HL6
    obtain ⟨k, qn, hkn, rfl, rfl, hqk, HR, HBW⟩ := hrel
    obtain ⟨wo, hwo⟩ : ∃ wo : World, wo = wr := ⟨_, rfl⟩
    subst hwo
    have Ft := (Xt.out.below HBW.out).f3
    by_cases hlt : k < n2
    · have hkd : decide ((k : Int) < (n2 : Int)) = true := by simpa using hlt
      have hr := HR.out
      have hkc : k < t.cds.length := by have := K2.out.rd.cds.len; omega
      rw [List.drop_eq_getElem_cons hkc, openGo_cons] at hr
      obtain ⟨row, hrow⟩ : ∃ row, row = t.cds[k] := ⟨_, rfl⟩
      rw [← hrow] at hr
      obtain ⟨RR, hRR⟩ : ∃ RR, RR = (openGo xs (k + 1) (t.cds.drop (k + 1))).length := ⟨_, rfl⟩
      rw [← hRR] at hr
      have hrl : row.length = NB := by
        have hkp : k < t.pts.length := by rw [HN.out]; exact hlt
        have h1 := HOK.out.row k t.pts[k] row (List.getElem?_eq_getElem hkp) (by rw [hrow]; exact List.getElem?_eq_getElem hkc)
        have := HNB.out
        omega
      have HROW := Lib.hid hrow
      have HRR := Lib.hid hRR
      have HRL := Lib.hid hrl
      have HR2 := Lib.hid (show qn + (openRow xs k 0 (row.drop 0)).length + RR = n6 from by rw [List.drop_zero]; omega)
      have HBO := HBW
      clear hr hrow hRR hrl HR HBW
      go_wp2_with fail
      clear Ft
      go_loopw [11, 13] (fun q j wr => ∃ (b qn : Nat), b ≤ NB ∧ j = .int .i64 b ∧ q = .int .i64 qn ∧ qn ≤ 16 * k + b ∧ Hid (qn + (openRow xs k b (row.drop b)).length + RR = n6) ∧ Hid (Below w11.heap.size w11 wr)) (fun _ j _ => NB - (intOf j).toNat)
      case atStart => exact ⟨0, qn, Nat.zero_le _, rfl, rfl, by omega, HR2, HBO⟩
      case round =>
        clear HR2 HBO hqk
        obtain ⟨b, qn, hbn, rfl, rfl, hqk, HR, HBW⟩ := hrel
        obtain ⟨wp, hwp⟩ : ∃ wp : World, wp = wr := ⟨_, rfl⟩
        subst hwp
        have Ft := (Xt.out.below HBW.out).f3
        by_cases hbl : b < NB
        · have hbb : (b : Int) < t.boats := by rw [HNB.out]; omega
          have hbd : decide ((b : Int) < t.boats) = true := by simpa using hbb
          have hR2 := O2.out
          have HRD := Lib.hid ((own_rd O2.out).below HBW.out)
          go_wp2_with fail
          clear Ft
          go_loop [14, 15] (fun nm i => ∃ (mm : Nat) (nb : Bool), mm ≤ l2 ∧ i = .int .i64 mm ∧ nm = .bool nb ∧ Hid ((nb || namedB (xs.drop mm) k b) = namedB xs k b)) (fun _ i => l2 - (intOf i).toNat)
          case atStart => exact ⟨0, false, Nat.zero_le _, rfl, rfl, Lib.hid (by rw [List.drop_zero]; rfl)⟩
          case round =>
            obtain ⟨mm, nb, hmm, rfl, rfl, HNM⟩ := hrel
            by_cases hml : mm < l2
            · obtain ⟨b7, o7, x0, x1, x2, x3, rfl, hx, hd, c0, c1, c2', c3'⟩ := HRD.out.red hml
              have hnm := HNM.out
              rw [hd, named_cons] at hnm
              have HNM2 := Lib.hid hnm
              clear hnm HNM hd
              cases nb with
              | true =>
                go_wp2_with fail
                go_round
                case rel => exact ⟨mm + 1, true, by omega, by go_num, rfl, Lib.hid (by have := HNM2.out; simp at this; simp [this])⟩
                case measure => simp [intOf] <;> omega
              | false =>
                by_cases e0 : x0 = (k : Int)
                · have e0b : (x0 == (k : Int)) = true := by simp [e0]
                  clear e0
                  by_cases e1 : x1 = (b : Int)
                  · have e1b : (x1 == (b : Int)) = true := by simp [e1]
                    clear e1
                    go_wp2_with fail
                    go_round
                    case rel => exact ⟨mm + 1, true, by omega, by go_num, rfl, Lib.hid (by have := HNM2.out; simp [e0b, e1b] at this; simp [this])⟩
                    case measure => simp [intOf] <;> omega
                  · have e1b : (x1 == (b : Int)) = false := by simp [e1]
                    clear e1
                    go_wp2_with fail
                    go_round
                    case rel => exact ⟨mm + 1, false, by omega, by go_num, rfl, Lib.hid (by have := HNM2.out; simp [e0b, e1b] at this; simp [this])⟩
                    case measure => simp [intOf] <;> omega
                · have e0b : (x0 == (k : Int)) = false := by simp [e0]
                  clear e0
                  go_wp2_with fail
                  go_round
                  case rel => exact ⟨mm + 1, false, by omega, by go_num, rfl, Lib.hid (by have := HNM2.out; simp [e0b] at this; simp [this])⟩
                  case measure => simp [intOf] <;> omega
            · obtain rfl : mm = l2 := by omega
              have hnm := HNM.out
              rw [List.drop_eq_nil_of_le (by rw [HXL.out]; omega)] at hnm
              rw [show namedB [] (k : Int) (b : Int) = false from rfl, Bool.or_false] at hnm
              have HNM2 := Lib.hid hnm
              clear hnm HNM HRD hR2
              obtain ⟨bP, oP, A', c', p, bC, oC, A2', cc', q, x, y, b3, o3, b4, o4, rfl, rfl, hd, hd', hc1, hc2, rfl, rfl, hbp, hbq, hp16, hq16, hx, hy, hx0, hx1, hxc, hyc⟩ := tab_row (K2.out.rd.below HBW.out) HOK.out hlt hbb
              have hcde : (row.drop b) = y :: row.drop (b + 1) := by
                have hkc : k < t.cds.length := by have := K2.out.rd.cds.len; omega
                rw [List.drop_eq_getElem_cons hkc] at hd'
                have hq : row = q := by rw [HROW.out]; injection hd'
                subst hq
                rw [List.drop_eq_getElem_cons hbq]
                rw [← hy]
                simp [List.getD, List.getElem?_eq_getElem hbq]
              have hr := HR.out
              rw [hcde, openRow_cons] at hr
              have HR2 := Lib.hid hr
              have hpx : (t.pts.getD k []).getD b 0 = x := by rw [getD_of_drop hd, hx]
              have HPX := Lib.hid hpx
              clear hr HR hcde hd hd' hx hy hpx
              have Ft := (Xt.out.below HBW.out).f3
              have HB9 := Lib.hid (fun d => HBW.out.trans ((below_drewN' _ wp d).mono HBW.out.size))
              cases nb with
              | true =>
                clear hc1 hxc
                go_wp2_with fail
                go_quiet (fail)
                go_wp2_with fail
                go_roundw
                case rel => exact ⟨b + 1, qn, by omega, by go_num, rfl, by omega, Lib.hid (by have := HR2.out; rw [HNM2.out.symm] at this; simp at this; exact this), HB9.out _⟩
                case measure => simp [intOf] <;> omega
              | false =>
                have hta := (tableB_ok HTA.out)
                obtain ⟨eP, uP, G', g', p', eC, uC, G2', gg', q', x', y', f3, u3, f4, u4, rfl, rfl, hd, _, kc1, kc2, rfl, rfl, kbp, _, kp16, _, hx', _, _, _, kxc, _⟩ := tab_row (k := k) (bt := b) (K5.out.rd.below HBW.out) hta (by have := K5.out.rd.pts.len; have h3 := hta.same; have h4 : (applyF t xs).cds.length = t.cds.length := rfl; have h5 := HOK.out.same; have h6 := HN.out; omega) hbb
                have hk5 : k < n5 := by have := K5.out.rd.pts.len; have h3 := hta.same; have h4 : (applyF t xs).cds.length = t.cds.length := rfl; have h5 := HOK.out.same; have h6 := HN.out; omega
                have hxx : x' = x := by
                  rw [← hx', ← HPX.out, ← getD_of_drop hd]
                  exact applyF_at HRB.out HNM2.out.symm
                subst hxx
                have hxxb : (x' != x') = false := by simp
                clear hd hx' hta
                have Fn := (Xn.out.below HBW.out).f3
                by_cases hy9 : y = 9
                · have hyb : (y == 9) = true := by simp [hy9]
                  clear hy9
                  go_wp2_with fail
                  go_quiet (fail)
                  go_wp2_with fail
                  go_roundw
                  case rel => exact ⟨b + 1, qn + 1, by omega, by go_num, by go_num, by omega, Lib.hid (by have := HR2.out; rw [HNM2.out.symm, hyb] at this; simp at this; omega), HB9.out _⟩
                  case measure => simp [intOf] <;> omega
                · have hyb : (y == 9) = false := by simp [hy9]
                  clear hy9
                  go_wp2_with fail
                  go_quiet (fail)
                  go_wp2_with fail
                  go_roundw
                  case rel => exact ⟨b + 1, qn, by omega, by go_num, rfl, by omega, Lib.hid (by have := HR2.out; rw [hyb] at this; simp at this; omega), HB9.out _⟩
                  case measure => simp [intOf] <;> omega
        · obtain rfl : b = NB := by omega
          have hbd : decide ((b : Int) < t.boats) = false := by have := HNB.out; simp; omega
          have hr := HR.out
          rw [List.drop_eq_nil_of_le (by rw [HRL.out]; omega), openRow_end] at hr
          simp only [List.length_nil] at hr
          rw [HRR.out] at hr
          have HR3 := Lib.hid hr
          clear hr HR
          go_wp2_with fail
          go_roundw
          case rel => exact ⟨k + 1, qn, by omega, by go_num, rfl, by omega, Lib.hid (by have := HR3.out; omega), HBW⟩
          case measure => simp [intOf] <;> omega
    · obtain rfl : k = n2 := by omega
      have hkd : decide ((k : Int) < (k : Int)) = false := by simp
      have hr := HR.out
      rw [List.drop_eq_nil_of_le (by have := K2.out.rd.cds.len; omega), openGo_nil] at hr
      obtain rfl : qn = n6 := by omega
      have HTT := Lib.hid (fun P n c C m d w h => implIsTable_any P n c C m d (applyF t xs) w h)
      rw [HTA.out] at HTT
      have Fn := (Xn.out.below HBW.out).f3
      clear hr HR
      go_wp2_with fail
      refine (HTT.out _ _ _ _ _ _ _ (K5.out.rd.below HBW.out)).mono ?_
      rintro e w9 ⟨rfl, hb9⟩
      go_wp2_with fail
      go_ret
      exact ⟨rfl, (B_w11.out.trans (HBW.out.mono B_w11.out.size)).trans (hb9.mono (Nat.le_trans B_w11.out.size HBW.out.size))⟩
end Go.Proofs.Ytmgkoldipchljaa

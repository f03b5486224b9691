/- Walks: discards, counted points of the reference (chapter 27); a sorted copy. -/
import Derived.Test.YtalgdeieejpelaaGreatDoorZd
import Derived.Test.YtalgdeieejpelaaGreatDoorZmd
import Derived.Deep.Upon
namespace Go.Proofs.YtalgdeieejpelaaGreatDoor
open Go.RowKit Go.Sort
set_option linter.unusedVariables false
set_option maxRecDepth 100000

/-- Result: new memory that holds marks. -/
def RetBl (w : World) (xs : List Bool) (e : Ending) (w' : World) : Prop :=
  ∃ g n c, e = .returned (.slice (some ⟨g, 0, none⟩) n c) ∧ w'.ownsRow w.heap.size 4 1 (.slice (some ⟨g, 0, none⟩) n c) n (bools xs) ∧ Below w.heap.size w w'
theorem Box.below2 {B : Nat} {w w' : World} {b : Nat} {vs : Array Value} {t : TypeId} (h : Box w b vs t) (k : Below B w w') (hb : b < B) : Box w' b vs t := (k.block b hb).trans h
theorem outGo_succ (P K : List Int) (m : Nat) (out : List Bool) : outGo P K (m + 1) out = outGo P K m (markF out (bestF P K out)) := rfl
theorem bestGo_succ (P K : List Int) (out : List Bool) (m i : Nat) (best : Int) : bestGo P K out (m + 1) i best = bestGo P K out m (i + 1) (if (!out.getD i false && okC K i && (decide (best < 0) || decide (atI P best < atI P i))) = true then (i : Int) else best) := rfl
set_option maxHeartbeats 8000000 in
theorem specOut_any (P : Option Addr) (n c : Nat) (C : Option Addr) (m d : Nat) (t : Tb) (ok : TabOk t) (A : Option Addr) (l cl : Nat) (rule : List Int) (hrule : rule.length ≤ 3) (bt : Nat) (hbt : (bt : Int) < t.boats) (w : World) (h : RdT w P n C m t) (hl : Rd w 1 A l (ints rule)) :
    Calls Tryz.prog 83 #[.agg #[.int .i64 t.boats, .slice P n c, .slice C m d], .slice A l cl, .int .i64 bt] w (RetBl w (outF (colOf t.pts bt) (colOf t.cds bt) (leN t.pts.length rule))) := by
  have hn12 : n ≤ 12 := by have := ok.many; have := h.pts.len; omega
  have hpl := h.pts.len
  obtain rfl : n = m := by have := h.cds.len; have := ok.same; omega
  obtain ⟨wa, hwa, XT, hba, hsa⟩ := one_box w #[.int .i64 t.boats, .slice P n c, .slice C n d] 33
  have HWA := Lib.hid hwa
  have hmk := run_make_bool n (by omega) wa
  obtain ⟨wb, hwb⟩ : ∃ wb, wb = wa.alloc (.cells (madeCells #[.bool false] n) 4) := ⟨_, rfl⟩
  have hoe := own_made wa wa.heap.size 4 n (.bool false) (Nat.le_refl _) (by omega)
  rw [← bools_replicate, ← hwb, hsa] at hoe
  have hbb : Below wa.heap.size wa wb := by rw [hwb]; exact (Below.refl _ _).alloc (Nat.le_refl _) _
  have HBB := Lib.hid (hba.trans (hbb.mono hba.size))
  have HXT1 := Lib.hid (XT.below hbb)
  have HSZ := Lib.hid (show w.heap.size + 1 ≤ wb.heap.size from by have := hbb.size; omega)
  have HOE := Lib.hid hoe
  rw [← hwb, hsa] at hmk
  have HCN := Lib.hid (fun w' hb => specCount_any A l cl rule n w' (hl.below (w' := w') hb))
  have hle := leN_le (n : Int) rule
  rw [hpl]
  generalize leN (n : Int) rule = L0 at *
  have hL3 : L0 ≤ 3 := by omega
  have hcl : (colOf t.pts bt).length = n := by rw [colOf_len, hpl]
  have HT := Lib.hid h
  have HOK := Lib.hid ok
  have HBT := Lib.hid hbt
  have FX := XT.f3
  have HF0 := Lib.hid (show outGo (colOf t.pts bt) (colOf t.cds bt) L0 (List.replicate n false) = outF (colOf t.pts bt) (colOf t.cds bt) L0 from by unfold outF; rw [hcl])
  have HRL := Lib.hid (show (List.replicate n false).length = n from List.length_replicate ..)
  obtain ⟨R, hR⟩ : ∃ R, R = outF (colOf t.pts bt) (colOf t.cds bt) L0 := ⟨_, rfl⟩
  rw [← hR] at HF0 ⊢
  generalize List.replicate n false = sn0 at *
  clear hwa XT hba hwb hbb hoe hle hpl hcl h hl ok hbt hrule hR
  go_enter Tryz.func83, Tryz.ntmps83
  go_wp2_with fail
  rw [← HWA.out]
  clear HWA
  rw [hmk]
  clear FX hmk
  have FX := HXT1.out.f3
  go_wp2_with fail
  refine (HCN.out _ HBB.out).mono ?_
  rintro e w1 ⟨rfl, rfl⟩
  clear FX
  go_wp2_with fail
  go_loopw [8] (fun q wr => ∃ (L : Nat) (sn : List Bool), L ≤ L0 ∧ q = .int .i64 L ∧ Hid (sn.length = n) ∧ Hid (outGo (colOf t.pts bt) (colOf t.cds bt) L sn = R) ∧ Hid (wr.ownsRow (w.heap.size + 1) 4 1 (.slice (some ⟨w.heap.size + 1, 0, none⟩) n n) n (bools sn)) ∧ Hid (Below (w.heap.size + 1) wb wr)) (fun q _ => (intOf q).toNat)
  case atStart => exact ⟨L0, sn0, Nat.le_refl _, rfl, HRL, HF0, HOE, Lib.hid (Below.refl _ _)⟩
  case round =>
    clear HOE HF0 HRL
    obtain ⟨L, sn, hLL, rfl, HSN, HI, HO, HB⟩ := hrel
    obtain ⟨wo, hwo⟩ : ∃ wo : World, wo = wr := ⟨_, rfl⟩
    subst hwo
    have hsb := HB.out.size
    have HBo := Lib.hid (HBB.out.trans (HB.out.mono (by omega)))
    by_cases hL : L = 0
    · subst hL
      have hi := HI.out
      rw [outGo] at hi
      have HI2 := Lib.hid hi
      have HO2 := Lib.hid (own_base HO.out (show w.heap.size ≤ w.heap.size + 1 by omega))
      clear hi HI HO
      have e0 : decide ((0 : Int) < ((0 : Nat) : Int)) = false := by simp
      go_wp2_with fail
      go_ret
      exact ⟨_, n, n, rfl, by rw [← HI2.out]; exact HO2.out, HBo.out⟩
    · have hLp : 0 < L := by omega
      obtain ⟨L', hL'⟩ : ∃ L', L' = L - 1 := ⟨_, rfl⟩
      have HL' := Lib.hid hL'
      have hi := HI.out
      rw [show L = L' + 1 by omega, outGo_succ] at hi
      have HI2 := Lib.hid hi
      have hbs : bestGo (colOf t.pts bt) (colOf t.cds bt) sn (n - 0) 0 (-1) = bestF (colOf t.pts bt) (colOf t.cds bt) sn := by
        unfold bestF
        rw [HSN.out]
        rfl
      have HS0 := Lib.hid hbs
      clear hi HI hbs hL hL'
      have e0 : decide (0 < L) = true := by simp; omega
      go_wp2_with fail
      clear e0
      go_loopw [9, 10] (fun bv i wr => ∃ (k : Nat) (B : Int), k ≤ n ∧ i = .int .i64 k ∧ bv = .int .i64 B ∧ (B = -1 ∨ ∃ b : Nat, B = (b : Int) ∧ b < n) ∧ Hid (bestGo (colOf t.pts bt) (colOf t.cds bt) sn (n - k) k B = bestF (colOf t.pts bt) (colOf t.cds bt) sn) ∧ Hid (Drawn wo wr)) (fun _ i _ => n - (intOf i).toNat)
      case atStart => exact ⟨0, -1, Nat.zero_le _, rfl, rfl, .inl rfl, HS0, Lib.hid (Drawn.refl _)⟩
      case round =>
        clear HS0
        obtain ⟨k, B, hk, rfl, rfl, hB, HS, HQ⟩ := hrel
        obtain ⟨wp, hwp⟩ : ∃ wp : World, wp = wr := ⟨_, rfl⟩
        subst hwp
        by_cases hlt : k < n
        · have hkd : decide ((k : Int) < (n : Int)) = true := by simpa using hlt
          have hsp := HQ.out.below
          obtain ⟨gm, z, hgm, -, -, hz, hcz, -⟩ := own_bool_at (HQ.out.own HO.out) (k := k) hlt
          injection hgm with hgm
          injection hgm with hgm _
          subst hgm
          have HBp := Lib.hid (HBo.out.trans (hsp.mono HBo.out.size))
          obtain ⟨b, o, A', c', p, b', o', A2, c2, q, x, y, b3, o3, b4, o4, rfl, rfl, hd, hd', hc, hc', rfl, rfl, hbp, hbq, hp16, hq16, hx, hy, hx0, hx1, hxc, hyc⟩ := tab_row (HT.out.below HBp.out) HOK.out (k := k) hlt HBT.out
          have HX := Lib.hid (show atI (colOf t.pts (bt : Int)) (k : Int) = x from col_at hd hx)
          have HY := Lib.hid (show atI (colOf t.cds (bt : Int)) (k : Int) = y from col_at hd' hy)
          have hs := HS.out
          rw [show n - k = (n - (k + 1)) + 1 by omega, bestGo_succ] at hs
          have hzg : sn.getD k false = z := by rw [List.getD_eq_getElem?_getD, hz]; rfl
          rw [hzg] at hs
          have HS1 := Lib.hid hs
          have FX := ((HXT1.out.below2 HB.out (by omega)).below hsp).f3
          clear hs HS hd hd' hx hy hz hzg hsp
          cases z with
          | true =>
            have hs2 := HS1.out
            rw [if_neg (by simp)] at hs2
            have HS2 := Lib.hid hs2
            clear hs2 HS1
            go_wp2_with fail
            go_quiet (fail)
            go_wp2_with fail
            go_roundw
            case rel => exact ⟨k + 1, B, by omega, by go_num, rfl, hB, HS2, Lib.hid (HQ.out.step _)⟩
            case measure => simp [intOf] <;> omega
          | false =>
            by_cases h7 : y = 7
            · have h7a : (y != 7) = false := by simp [h7]
              have hs2 := HS1.out
              rw [if_neg (by unfold okC; rw [HY.out]; simp [h7])] at hs2
              have HS2 := Lib.hid hs2
              clear hs2 HS1
              go_wp2_with fail
              go_quiet (fail)
              go_wp2_with fail
              go_roundw
              case rel => exact ⟨k + 1, B, by omega, by go_num, rfl, hB, HS2, Lib.hid (HQ.out.step _)⟩
              case measure => simp [intOf] <;> omega
            · have h7a : (y != 7) = true := by simp [h7]
              rcases hB with rfl | ⟨bb, rfl, hbn⟩
              · have HOC := Lib.hid (show okC (colOf t.cds (bt : Int)) (k : Int) = true from by unfold okC; rw [HY.out]; simp [h7])
                clear h7
                have hs2 := HS1.out
                rw [if_pos (by rw [HOC.out]; simp)] at hs2
                have HS2 := Lib.hid hs2
                clear hs2 HS1
                go_wp2_with fail
                go_quiet (fail)
                go_wp2_with fail
                go_roundw
                case rel => exact ⟨k + 1, (k : Int), by omega, by go_num, rfl, .inr ⟨k, rfl, by omega⟩, HS2, Lib.hid (HQ.out.step _)⟩
                case measure => simp [intOf] <;> omega
              · have HOC := Lib.hid (show okC (colOf t.cds (bt : Int)) (k : Int) = true from by unfold okC; rw [HY.out]; simp [h7])
                obtain ⟨e, u, B', f', r, e', u', B2, f2, s, x', y', e3, u3, e4, u4, hP, hC, hd2, -, hc2, -, rfl, hA2, hbr, -, hr16, -, hx', -, hx0', hx1', hxc', -⟩ := tab_row (HT.out.below HBp.out) HOK.out (k := bb) hbn HBT.out
                injection hP with hP
                injection hP with e1 e2
                subst e1 e2
                have HX2 := Lib.hid (show atI (colOf t.pts (bt : Int)) (bb : Int) = x' from col_at hd2 hx')
                have hnn : decide ((bb : Int) < 0) = false := by simp
                clear h7 hC hd2 hA2 hx'
                by_cases hlt2 : x' < x
                · have hld : decide (x' < x) = true := decide_eq_true hlt2
                  have hs2 := HS1.out
                  rw [if_pos (by rw [HOC.out, HX.out, HX2.out, hld]; simp)] at hs2
                  have HS2 := Lib.hid hs2
                  clear hs2 HS1
                  go_wp2_with fail
                  go_quiet (fail)
                  go_wp2_with fail
                  go_roundw
                  case rel => exact ⟨k + 1, (k : Int), by omega, by go_num, rfl, .inr ⟨k, rfl, by omega⟩, HS2, Lib.hid (HQ.out.step _)⟩
                  case measure => simp [intOf] <;> omega
                · have hld : decide (x' < x) = false := decide_eq_false hlt2
                  have hs2 := HS1.out
                  rw [if_neg (by rw [HOC.out, HX.out, HX2.out, hld]; simp)] at hs2
                  have HS2 := Lib.hid hs2
                  clear hs2 HS1
                  go_wp2_with fail
                  go_quiet (fail)
                  go_wp2_with fail
                  go_roundw
                  case rel => exact ⟨k + 1, (bb : Int), by omega, by go_num, rfl, .inr ⟨bb, rfl, hbn⟩, HS2, Lib.hid (HQ.out.step _)⟩
                  case measure => simp [intOf] <;> omega
        · obtain rfl : k = n := by omega
          have hkd : decide ((k : Int) < (k : Int)) = false := by simp
          have hs := HS.out
          rw [Nat.sub_self, bestGo] at hs
          have HBF := Lib.hid hs
          have hop := HQ.out.own HO.out
          have hbp := HB.out.trans (HQ.out.below.mono (Nat.le_trans HSZ.out hsb))
          have HI3 := Lib.hid (show outGo (colOf t.pts (bt : Int)) (colOf t.cds (bt : Int)) L' (markF sn B) = R from by rw [hs]; exact HI2.out)
          clear hs HS
          rcases hB with rfl | ⟨bb, rfl, hbn⟩
          · have HO4 := Lib.hid hop
            have HB4 := Lib.hid hbp
            have HI4 := Lib.hid (show outGo (colOf t.pts (bt : Int)) (colOf t.cds (bt : Int)) L' sn = R from HI3.out)
            clear hop hbp HI3
            go_wp2_with fail
            go_roundw
            case rel => exact ⟨L', sn, by have := HL'.out; omega, by rw [HL'.out]; go_num, HSN, HI4, HO4, HB4⟩
            case measure => simp [intOf] <;> omega
          · obtain ⟨gm, z, hgm, -, -, hz, hcz, hfz⟩ := own_bool_at hop (k := bb) hbn
            injection hgm with hgm
            injection hgm with hgm _
            subst hgm
            have HO4 := Lib.hid (own_set_bool (k := bb) hop true)
            have HB4 := Lib.hid (hbp.setCell (p := ⟨w.heap.size + 1, bb, none⟩) (Nat.le_refl _) (.bool true))
            have HSN4 := Lib.hid (show (sn.set bb true).length = k from by rw [List.length_set]; exact HSN.out)
            have HI4 := Lib.hid (show outGo (colOf t.pts (bt : Int)) (colOf t.cds (bt : Int)) L' (sn.set bb true) = R from by have h1 := HI3.out; unfold markF at h1; rw [if_pos (by omega), Int.toNat_natCast] at h1; exact h1)
            clear hop hbp HI3 hz
            go_wp2_with fail
            go_roundw
            case rel => exact ⟨L', sn.set bb true, by have := HL'.out; omega, by rw [HL'.out]; go_num, HSN4, HI4, HO4, HB4⟩
            case measure => simp [intOf] <;> omega
set_option maxHeartbeats 8000000 in
theorem specCounted_any (P : Option Addr) (n c : Nat) (C : Option Addr) (m d : Nat) (t : Tb) (ok : TabOk t) (A : Option Addr) (l cl : Nat) (rule : List Int) (hrule : rule.length ≤ 3) (bt : Nat) (hbt : (bt : Int) < t.boats) (w : World) (h : RdT w P n C m t) (hl : Rd w 1 A l (ints rule)) :
    Calls Tryz.prog 66 #[.agg #[.int .i64 t.boats, .slice P n c, .slice C m d], .slice A l cl, .int .i64 bt] w (RetG w (cntT t rule bt)) := by
  have hn12 : n ≤ 12 := by have := ok.many; have := h.pts.len; omega
  have hpl := h.pts.len
  obtain rfl : n = m := by have := h.cds.len; have := ok.same; omega
  obtain ⟨wa, hwa, XT, hba, hsa⟩ := one_box w #[.int .i64 t.boats, .slice P n c, .slice C n d] 33
  have HWA := Lib.hid hwa
  have HBA := Lib.hid hba
  have HXT := Lib.hid XT
  have HOU := Lib.hid (specOut_any P n c C n d t ok A l cl rule hrule bt hbt wa (h.below hba) (hl.below hba))
  have hcl : (colOf t.pts bt).length = n := by rw [colOf_len, hpl]
  have hma := marks_all (colOf t.pts bt) (colOf t.cds bt) (leN t.pts.length rule)
  have hcm : cntT t rule bt = cntM 0 (colOf t.pts bt) (outF (colOf t.pts bt) (colOf t.cds bt) (leN t.pts.length rule)) := (cntM_eq _ _ _ hma.1 hma.2).symm
  have hml := hma.1
  have hD12 : (cntT t rule bt).length ≤ 12 := cntT_len ok rule bt
  generalize outF (colOf t.pts bt) (colOf t.cds bt) (leN t.pts.length rule) = M at *
  generalize cntT t rule bt = D at *
  have HML := Lib.hid (show M.length = n from hml.trans hcl)
  have HCL := Lib.hid hcl
  have HT := Lib.hid h
  have HOK := Lib.hid ok
  have HBT := Lib.hid hbt
  have FX := XT.f3
  have HD0 := Lib.hid (show D = [] ++ cntM 0 ((colOf t.pts bt).drop 0) (M.drop 0) from by rw [hcm]; simp)
  clear hwa hba hsa XT h hl ok hbt hpl hcl hcm hml hma hrule
  go_enter Tryz.func66, Tryz.ntmps66
  go_wp2_with fail
  rw [← HWA.out]
  clear HWA
  go_wp2_with fail
  refine HOU.out.mono ?_
  rintro e w2 ⟨gg, gn, gc, rfl, ho2, hb2⟩
  have hgn : gn = n := by
    have h1 := ho2.1
    simp only [bools, List.length_map, Nat.mul_one] at h1
    have := HML.out
    omega
  subst hgn
  have HM2 := Lib.hid ho2
  have HB2 := Lib.hid (HBA.out.trans (hb2.mono HBA.out.size))
  have HXT2 := Lib.hid (HXT.out.below hb2)
  obtain ⟨wc, hwc⟩ : ∃ wc, wc = w2.alloc (.cells #[] 2) := ⟨_, rfl⟩
  have hoe := own_empty w2 w2.heap.size 2 (Nat.le_refl _)
  rw [← hwc] at hoe
  have hbc : Below w2.heap.size w2 wc := by rw [hwc]; exact (Below.refl _ _).alloc (Nat.le_refl _) _
  have HWC := Lib.hid hwc
  have HOE := Lib.hid hoe
  have HBC := Lib.hid hbc
  clear ho2 hb2 HXT HOU FX HBA hwc hoe hbc
  go_wp2_with fail
  rw [← HWC.out]
  clear HWC
  go_loopw [8, 9] (fun v i wr => ∃ (k g' c' : Nat) (out : List Int), k ≤ gn ∧ i = .int .i64 k ∧ v = .slice (some ⟨g', 0, none⟩) out.length c' ∧ Hid (D = out ++ cntM k ((colOf t.pts bt).drop k) (M.drop k)) ∧ Hid (wr.ownsRow w2.heap.size 2 1 (.slice (some ⟨g', 0, none⟩) out.length c') out.length (ints out)) ∧ Hid (Below w2.heap.size w2 wr)) (fun _ i _ => gn - (intOf i).toNat)
  case atStart => exact ⟨0, _, 0, [], Nat.zero_le _, rfl, rfl, HD0, HOE, HBC⟩
  case round =>
    clear HOE HBC HD0
    obtain ⟨k, g', c', out, hk, rfl, rfl, HI, HO, HB⟩ := hrel
    obtain ⟨wo, hwo⟩ : ∃ wo : World, wo = wr := ⟨_, rfl⟩
    subst hwo
    have HBo := Lib.hid (HB2.out.trans (HB.out.mono HB2.out.size))
    have hs2 := HB.out.size
    have hout : out.length ≤ 12 := by have := hD12; have := congrArg List.length HI.out; rw [List.length_append] at this; omega
    by_cases hlt : k < gn
    · have hkd : decide ((k : Int) < (gn : Int)) = true := by simpa using hlt
      obtain ⟨gm, z, hgm, -, -, hz, hcz, -⟩ := own_bool_at (own_below HM2.out HB.out) (k := k) hlt
      injection hgm with hgm
      injection hgm with hgm _
      subst hgm
      obtain ⟨bq, oq, A', cq, p, b', o', A2, c2, q, x, y, b3, o3, b4, o4, rfl, hC', hd, hd', hcr, hcr', rfl, hA2, hbp, hbq, hp16, hq16, hx, hy, hx0', hx1', hxc, hyc⟩ := tab_row (HT.out.below HBo.out) HOK.out (k := k) hlt HBT.out
      have hmd : M.drop k = z :: M.drop (k + 1) := by
        have hkm : k < M.length := by have := HML.out; omega
        rw [List.drop_eq_getElem_cons hkm]
        rw [List.getElem?_eq_getElem hkm] at hz
        injection hz with hz
        rw [hz]
      have hi := HI.out
      rw [col_drop hd hx, hmd, cntM] at hi
      have HI1 := Lib.hid hi
      clear hi HI hd hd' hx hy hC' hA2 hcr' hyc hx0' hx1' hbq hq16 hmd hz
      have FX := (HXT2.out.below HB.out).f3
      cases z with
      | true =>
        have hI2 := HI1.out
        rw [if_pos rfl, List.nil_append] at hI2
        have HI2 := Lib.hid hI2
        clear hI2 HI1 FX hcr hxc
        go_wp2_with fail
        go_roundw
        case rel => exact ⟨k + 1, g', c', out, by omega, by go_num, rfl, HI2, HO, HB⟩
        case measure => simp [intOf] <;> omega
      | false =>
        have hI2 := HI1.out
        rw [if_neg (by simp)] at hI2
        have HI2 := Lib.hid (show D = (out ++ [x]) ++ cntM (k + 1) ((colOf t.pts (bt : Int)).drop (k + 1)) (M.drop (k + 1)) from by rw [hI2]; simp)
        clear hI2 HI1
        go_wp2_with (at_builtin; refine app_num (y := x) _ rfl _ _ rfl rfl (own_below HO.out ((Below.refl _ _).alloc (Nat.le_refl _) _)) rfl (heap_alloc_new _ _) (by omega) ?cBb ?_; rotate_left; intro g9 c9 w9 hown9 hgr9 hor9 hlt9)
        · have HB9 := Lib.hid ((HB.out.alloc hs2 _).grown hgr9 (by simp; omega) (fun j hj => (HO.out.lt j hj).1))
          have HO9 := Lib.hid (show w9.ownsRow w2.heap.size 2 1 (.slice (some ⟨g9, 0, none⟩) (out ++ [x]).length c9) (out ++ [x]).length (ints (out ++ [x])) from by rw [List.length_append]; exact hown9)
          clear hown9 hgr9 hor9
          go_roundw
          case rel => exact ⟨k + 1, g9, c9, out ++ [x], by omega, by go_num, by rw [List.length_append]; rfl, HI2, HO9, HB9⟩
          case measure => simp [intOf] <;> omega
        · first | omega | (simp; omega)
    · obtain rfl : k = gn := by omega
      have hi := HI.out
      rw [List.drop_eq_nil_of_le (by rw [HCL.out]; exact Nat.le_refl _), cntM_nil, List.append_nil] at hi
      have HD := Lib.hid hi
      have HO3 := Lib.hid (own_base HO.out HB2.out.size)
      clear hi HI HO
      have hkd : decide ((k : Int) < (k : Int)) = false := by simp
      go_wp2_with fail
      go_ret
      exact ⟨g', out.length, c', rfl, by rw [HD.out]; exact HO3.out, by omega, HBo.out⟩
set_option maxHeartbeats 2000000 in
theorem specSum_any (A : Option Addr) (n c : Nat) (X : List Int) (hX : ∀ x ∈ X, 0 ≤ x ∧ x ≤ 10000) (hn : n ≤ 12) (w : World) (h : Rd w 1 A n (ints X)) :
    Calls Tryz.prog 67 #[.slice A n c] w fun e w' => e = .returned (.int .i64 (sumI X)) ∧ w = w' := by
  have HL := Lib.hid h.len_int
  have HBD := Lib.hid hX
  have HS0 := Lib.hid (show sumI X = 0 + sumI (X.drop 0) from by simp)
  clear hX
  go_enter Tryz.func67, Tryz.ntmps67
  go_wp2_with fail
  go_loop [3, 4] (fun v i => ∃ (k : Nat) (S : Int), k ≤ n ∧ i = .int .i64 k ∧ v = .int .i64 S ∧ 0 ≤ S ∧ S ≤ 10000 * k ∧ Hid (sumI X = S + sumI (X.drop k))) (fun _ i => n - (intOf i).toNat)
  case atStart => exact ⟨0, 0, Nat.zero_le _, rfl, rfl, by omega, by omega, HS0⟩
  case round =>
    clear HS0
    obtain ⟨k, S, hk, rfl, rfl, hS0, hS1, HI⟩ := hrel
    by_cases hlt : k < n
    · have hkd : decide ((k : Int) < (n : Int)) = true := by simpa using hlt
      obtain ⟨b, o, x, rfl, hx, hd, hc⟩ := h.int hlt
      obtain ⟨hx0, hx1⟩ := HBD.out x (List.mem_of_getElem? hx)
      have hi := HI.out
      rw [hd, sumI] at hi
      have HI2 := Lib.hid (show sumI X = (S + x) + sumI (X.drop (k + 1)) from by omega)
      clear hi HI hx hd
      go_wp2_with fail
      go_round
      case rel => exact ⟨k + 1, S + x, by omega, by go_num, by go_num, by omega, by omega, HI2⟩
      case measure => simp [intOf] <;> omega
    · obtain rfl : k = n := by omega
      have hkd : decide ((k : Int) < (k : Int)) = false := by simp
      have hi := HI.out
      rw [List.drop_eq_nil_of_le (by rw [HL.out]; exact Nat.le_refl _), sumI] at hi
      have HI2 := Lib.hid hi
      clear hi HI
      go_wp2_with fail
      go_ret
      exact ⟨ret_int (by rw [HI2.out]; omega), rfl⟩
/-- Nothing is appended. -/
theorem app_nothing {ops : Array Oper} {rest : List Oper} {o : Oper} {a : Act} {Q : Exit → Act → World → Prop} (w : World) (hgd : o.guard = none) (s x : Operand)
    (ho : o.op = .call { callee := .builtin .append, args := #[s, x], argTypes := #[35, 35] }) {A0 A : Option Addr} {c0 c : Nat}
    (hs : a.eval s = .slice A0 0 c0) (hx : a.eval x = .slice A 0 c) (h : wpList Tryz.prog ops Q rest (a.put o.dst (.slice A0 0 c0)) w) : wpList Tryz.prog ops Q (o :: rest) a w := by
  obtain ⟨i, hi, hz, hs1, hb1⟩ := info_parts Tryz.info_i64
  have hsrc : Src Tryz.prog i.size 35 (.slice A 0 c) 0 [] w := by
    cases A with
    | none => exact Src.ofNil w Tryz.underlying35 c
    | some ad => exact Src.ofSlice w Tryz.underlying35 ad 0 c [] (by simp) (fun j u hu => by simp at hu) (fun u hu => by simp at hu)
  have hrun := run_append_nothing (P := Tryz.prog) w 35 35 o.type 2 i Tryz.underlying35 hi A0 0 c0 (Nat.zero_le _) (.slice A 0 c) hsrc
  refine wpList_plain hgd fun K hK => ?_
  unfold Oper.wp
  simp [execOp, ho, resolve, invoke, builtin, hs, hx, hrun, Result.andThen]
  exact hK _ _ h
theorem insOut_succ (lt : Int → Int → Bool) (m i : Nat) (xs : List Int) : insOut lt (m + 1) i xs = insOut lt m (i + 1) (insIn lt i xs) := rfl
theorem insIn_succ (lt : Int → Int → Bool) (j : Nat) (xs : List Int) : insIn lt (j + 1) xs = if lt (xs.getD (j + 1) 0) (xs.getD j 0) then insIn lt j (swapAt j xs) else xs := rfl
theorem insSort_nil (lt : Int → Int → Bool) : insSort lt [] = [] := rfl
set_option maxHeartbeats 8000000 in
/-- The reference's insertion sort, behind its copy. -/
theorem specSorted_any (A : Option Addr) (n c : Nat) (X : List Int) (hn : n ≤ 12) (w : World) (h : Rd w 1 A n (ints X)) :
    Calls Tryz.prog 65 #[.slice A n c] w (RetG w (insSort ltI X)) := by
  have HLX := Lib.hid h.len_int
  obtain ⟨wa, hwa⟩ : ∃ wa, wa = w.alloc (.cells #[] 2) := ⟨_, rfl⟩
  have hba : Below w.heap.size w wa := by rw [hwa]; exact (Below.refl _ _).alloc (Nat.le_refl _) _
  have hsa : wa.heap.size = w.heap.size + 1 := by rw [hwa]; simp
  have hoe := own_empty w w.heap.size 2 (Nat.le_refl _)
  rw [← hwa] at hoe
  have HWA := Lib.hid hwa
  -- behind the copy: an own row that holds the list
  have key : ∀ (w1 : World) (g c1 : Nat), w1.ownsRow w.heap.size 2 1 (.slice (some ⟨g, 0, none⟩) n c1) n (ints X) → Below w.heap.size w w1 → True := fun _ _ _ _ _ => trivial
  have HR := Lib.hid (h.below hba)
  have HOE := Lib.hid hoe
  have HBA := Lib.hid hba
  rcases Nat.eq_zero_or_pos n with h0 | h0
  · subst h0
    have hx : X = [] := List.eq_nil_of_length_eq_zero HLX.out
    subst hx
    clear hwa hba hoe key h
    go_enter Tryz.func65, Tryz.ntmps65
    go_wp2_with (at_builtin; rw [← HWA.out]; refine app_nothing _ rfl _ _ rfl rfl rfl ?_)
    clear HWA
    go_loopw [4] (fun i wr => ∃ k : Nat, k = 1 ∧ i = .int .i64 k ∧ Hid (wr = wa)) (fun _ _ => 0)
    case atStart => exact ⟨1, rfl, rfl, Lib.hid rfl⟩
    case round =>
      obtain ⟨k, rfl, rfl, HW⟩ := hrel
      have hw := HW.out
      subst hw
      go_wp2_with fail
      go_ret
      exact ⟨w.heap.size, 0, 0, rfl, HOE.out, by omega, HBA.out⟩
  · obtain ⟨bb, oo, rfl, -⟩ := h.pos h0
    clear hwa hba hoe key h
    go_enter Tryz.func65, Tryz.ntmps65
    go_wp2_with (at_builtin; rw [← HWA.out]; refine app_ints _ rfl _ _ rfl (xs := []) rfl HOE.out rfl HR.out h0 (by omega) (by omega) n (by omega) ?_; intro g1 c1 w1 ho1 hg1 hor1 hl1)
    rw [List.nil_append] at ho1
    have HB1 := Lib.hid (HBA.out.grown hg1 (by omega) (fun k hk => (HOE.out.lt k hk).1))
    have HO1 := Lib.hid ho1
    clear ho1 hg1 hor1 HWA HOE HBA HR
    have hg1 := (HO1.out.lt g1 rfl).1
    have HA0 := Lib.hid (show insOut ltI (n - 1) 1 X = insSort ltI X from by unfold insSort; rw [HLX.out])
    go_wp2_with fail
    go_loopw [4] (fun i wr => ∃ (k : Nat) (out : List Int), 1 ≤ k ∧ k ≤ n + 1 ∧ k ≤ 17 ∧ i = .int .i64 k ∧ Hid (insOut ltI (n - k) k out = insSort ltI X) ∧ Hid (wr.ownsRow w.heap.size 2 1 (.slice (some ⟨g1, 0, none⟩) n c1) n (ints out)) ∧ Hid (Below w.heap.size w wr)) (fun i _ => n - (intOf i).toNat)
    case atStart => exact ⟨1, X, by omega, by omega, by omega, rfl, HA0, HO1, HB1⟩
    case round =>
      clear HA0 HO1 HB1
      obtain ⟨k, out, hk1, hkn, hk17, rfl, HR, HO, HB⟩ := hrel
      by_cases hlt : k < n
      · have hr := HR.out
        rw [show n - k = (n - (k + 1)) + 1 by omega, insOut_succ] at hr
        have HR1 := Lib.hid hr
        clear hr HR
        go_wp2_with fail
        go_loopw [5] (fun i wr => ∃ (j : Nat) (o2 : List Int), j ≤ k ∧ i = .int .i64 j ∧ Hid (insIn ltI j o2 = insIn ltI k out) ∧ Hid (wr.ownsRow w.heap.size 2 1 (.slice (some ⟨g1, 0, none⟩) n c1) n (ints o2)) ∧ Hid (Below w.heap.size w wr)) (fun i _ => (intOf i).toNat)
        case atStart => exact ⟨k, out, Nat.le_refl _, rfl, Lib.hid rfl, HO, HB⟩
        case round =>
          clear HO HB
          obtain ⟨j, o2, hjk, rfl, HI, HO, HB⟩ := hrel
          obtain ⟨wo, hwo⟩ : ∃ wo : World, wo = wr := ⟨_, rfl⟩
          subst hwo
          by_cases hj : j = 0
          · subst hj
            have HR3 := Lib.hid (show insOut ltI (n - (k + 1)) (k + 1) o2 = insSort ltI X from by rw [← HR1.out, ← HI.out, insIn])
            go_wp2_with fail
            go_quiet (fail)
            go_wp2_with fail
            go_roundw
            case rel => exact ⟨k + 1, o2, by omega, by omega, by omega, by go_num, HR3, Lib.hid ((Drawn.refl _).own HO.out), Lib.hid (HB.out.trans ((below_drewN' _ wo _).mono HB.out.size))⟩
            case measure => simp [intOf]; omega
          · obtain ⟨p, hp⟩ : ∃ p, j = p + 1 := ⟨j - 1, by omega⟩
            obtain ⟨g2, x, hg2, -, -, hx, hcx, hfx⟩ := own_int_at HO.out (k := j) (by omega)
            obtain rfl : g1 = g2 := by injection hg2 with e; injection e
            obtain ⟨g3, y, hg3, -, -, hy, hcy, hfy⟩ := own_int_at HO.out (k := p) (by omega)
            obtain rfl : g1 = g3 := by injection hg3 with e; injection e
            have hstep : insIn ltI j o2 = if ltI x y then insIn ltI p ((o2.set j y).set p x) else o2 := by
              rw [hp] at hx ⊢
              rw [insIn_succ, swapAt, List.getD_eq_getElem?_getD, List.getD_eq_getElem?_getD, hx, hy]; rfl
            have HST := Lib.hid hstep
            have HP := Lib.hid hp
            have hw1 : IntKind.i64.wrap ((j : Int) - 1) = (p : Int) := by rw [IntWalk.i64_in _ (by omega)]; omega
            have HW1 := Lib.hid (show wrap64 ((j : Int) - 1) = (p : Int) from by rw [IntWalk.wrap64_in _ (by omega)]; omega)
            have hpj : p < j := by omega
            have hpj2 : j ≤ p + 1 := by omega
            have hpn : p < n := by omega
            have hjn : j < n := by omega
            have hpos : decide (0 < j) = true := by simp; omega
            clear hg2 hg3 hstep hx hy hp
            by_cases hb : x < y
            · have hltb : decide (x < y) = true := decide_eq_true hb
              have hst := HST.out
              rw [if_pos (by unfold ltI; exact hltb)] at hst
              have HST2 := Lib.hid hst
              clear hst HST hb
              go_wp2_with fail
              go_quiet (fail)
              obtain ⟨wq, hwq, hqd⟩ : ∃ wq, wq = wo.drewN nq ∧ Below wo.heap.size wo wq := ⟨_, rfl, below_drewN' _ _ _⟩
              rw [← hwq]
              have hcx' := (hqd.cell (p := ⟨g1, j, none⟩) (cell_lt hcx)).trans hcx
              have hcy' := (hqd.cell (p := ⟨g1, p, none⟩) (cell_lt hcy)).trans hcy
              have hfx' := (hqd.frozen (p := ⟨g1, j, none⟩) (cell_lt hcx)).trans hfx
              have hfy' := (hqd.frozen (p := ⟨g1, p, none⟩) (cell_lt hcy)).trans hfy
              have HO3 := Lib.hid (own_set (k := p) (own_set (k := j) (own_below HO.out hqd) y) x)
              have HB3 := Lib.hid (((HB.out.trans (hqd.mono HB.out.size)).setCell (p := ⟨g1, j, none⟩) hg1 (.int .i64 y)).setCell (p := ⟨g1, p, none⟩) hg1 (.int .i64 x))
              clear hwq hqd HO HB hcx hcy hfx hfy hltb
              go_wp2_with fail
              go_roundw
              case rel => exact ⟨p, (o2.set j y).set p x, by omega, by first | go_num | (rw [HW1.out]) | (congr 1), by unfold Hid; rw [← HI.out, HST2.out], HO3, HB3⟩
              case measure => simp [intOf] <;> omega
            · have hltb : decide (x < y) = false := decide_eq_false hb
              have hst := HST.out
              rw [if_neg (by unfold ltI; rw [hltb]; simp)] at hst
              have HR3 := Lib.hid (show insOut ltI (n - (k + 1)) (k + 1) o2 = insSort ltI X from by rw [← HR1.out, ← HI.out, hst])
              clear hst HST hb
              go_wp2_with fail
              go_quiet (fail)
              clear hw1
              go_wp2_with fail
              go_roundw
              case rel => exact ⟨k + 1, o2, by omega, by omega, by omega, by go_num, HR3, Lib.hid ((Drawn.refl _).own HO.out), Lib.hid (HB.out.trans ((below_drewN' _ wo _).mono HB.out.size))⟩
              case measure => simp [intOf]; omega
      · have hr := HR.out
        rw [show n - k = 0 by omega, insOut] at hr
        have HR1 := Lib.hid hr
        clear hr HR
        go_wp2_with fail
        go_ret
        exact ⟨g1, n, c1, rfl, by rw [← HR1.out]; exact HO.out, by omega, HB.out⟩
end Go.Proofs.YtalgdeieejpelaaGreatDoor

/- Walks: a boat's rank of the reference, all ranks of the program (chapter 28). -/
import Derived.Test.YtalgdeieejpelaaGreatDoorZf
import Derived.Test.YtalgdeieejpelaaGreatDoorZe
namespace Go.Proofs.YtalgdeieejpelaaGreatDoor
open Go.RowKit Go.Sort
set_option linter.unusedVariables false
set_option maxRecDepth 100000

/-- How many of the first j boats are ahead of a boat. -/
def beatN (t : Tb) (rule : List Int) (j : Nat) (b : Int) : Int := ((idx j).countP (fun k => ltT t rule k b) : Nat)
theorem beat_zero (t : Tb) (rule : List Int) (b : Int) : beatN t rule 0 b = 0 := rfl
theorem beat_succ (t : Tb) (rule : List Int) (j : Nat) (b : Int) : beatN t rule (j + 1) b = beatN t rule j b + (if (cmpT t rule (j : Int) b).1 < 0 then 1 else 0) := by
  unfold beatN
  have e : idx (j + 1) = idx j ++ [(j : Int)] := by unfold idx; rw [List.range_succ, List.map_append]; rfl
  rw [e, List.countP_append]
  by_cases hc : (cmpT t rule (j : Int) b).1 < 0
  · have hl : ltT t rule (j : Int) b = true := by unfold ltT; simpa using hc
    rw [if_pos hc, List.countP_cons, List.countP_nil, if_pos hl]
    omega
  · have hl : ¬ ltT t rule (j : Int) b = true := by unfold ltT; simpa using hc
    rw [if_neg hc, List.countP_cons, List.countP_nil, if_neg hl]
    omega
theorem beat_bd (t : Tb) (rule : List Int) (j : Nat) (b : Int) : 0 ≤ beatN t rule j b ∧ beatN t rule j b ≤ j := by
  unfold beatN
  have h := List.countP_le_length (p := fun k => ltT t rule k b) (l := idx j)
  rw [idx_length] at h
  omega
theorem rank_beat {t : Tb} {N : Nat} (h : t.boats = (N : Int)) (rule : List Int) (b : Int) : rankT t rule b = 1 + beatN t rule N b := by
  unfold rankT rankL beatN
  rw [h, Int.toNat_natCast]
  omega
/-- The ranks of all boats. -/
def rkL (t : Tb) (rule : List Int) : List Int := (idx t.boats.toNat).map (rankT t rule)
theorem rkL_get {t : Tb} {N : Nat} (h : t.boats = (N : Int)) (rule : List Int) {j : Nat} (hj : j < N) : (rkL t rule)[j]? = some (rankT t rule (j : Int)) := by
  unfold rkL
  rw [h, Int.toNat_natCast, List.getElem?_map, idx_get hj]
  rfl
theorem rkL_len {t : Tb} {N : Nat} (h : t.boats = (N : Int)) (rule : List Int) : (rkL t rule).length = N := by
  unfold rkL
  rw [List.length_map, idx_length, h, Int.toNat_natCast]
set_option maxHeartbeats 8000000 in
theorem specRank_any (P : Option Addr) (n c : Nat) (C : Option Addr) (m d : Nat) (t : Tb) (ok : TabOk t) (A : Option Addr) (l cl : Nat) (rule : List Int) (hrule : rule.length ≤ 3) (bt : Nat) (hbt : (bt : Int) < t.boats) (w : World) (h : RdT w P n C m t) (hl : Rd w 1 A l (ints rule)) :
    Calls Tryz.prog 36 #[.agg #[.int .i64 t.boats, .slice P n c, .slice C m d], .slice A l cl, .int .i64 bt] w fun e w' => e = .returned (.int .i64 (rankT t rule bt)) ∧ Below w.heap.size w w' := by
  obtain rfl : n = m := by have := h.cds.len; have := h.pts.len; have := ok.same; omega
  obtain ⟨N, hN⟩ : ∃ N : Nat, t.boats = (N : Int) := ⟨t.boats.toNat, by have := ok.b1; omega⟩
  have hN16 : N ≤ 16 := by have := ok.b2; omega
  have HR := Lib.hid (rank_beat hN rule (bt : Int))
  have HCM := Lib.hid (fun (k : Nat) (hk : (k : Int) < t.boats) w' (hq : Below w.heap.size w w') => specCmp_any P n c C n d t ok A l cl rule hrule k bt hk hbt w' (h.below hq) (hl.below hq))
  rw [hN] at HCM
  rw [hN]
  obtain ⟨wa, hwa, XT, hba, hsa⟩ := one_box w #[.int .i64 (N : Int), .slice P n c, .slice C n d] 33
  have HWA := Lib.hid hwa
  have HBA := Lib.hid hba
  have HXT := Lib.hid XT
  clear hwa XT hba h hl ok hbt hrule hN
  go_enter Tryz.func36, Tryz.ntmps36
  go_wp2_with fail
  rw [← HWA.out]
  clear HWA
  go_wp2_with fail
  go_loopw [7, 8] (fun v i wr => ∃ (k : Nat) (r : Int), k ≤ N ∧ i = .int .i64 k ∧ v = .int .i64 r ∧ r = 1 + beatN t rule k bt ∧ Hid (Below wa.heap.size wa wr)) (fun _ i _ => N - (intOf i).toNat)
  case atStart => exact ⟨0, 1, Nat.zero_le _, rfl, rfl, by rw [beat_zero]; rfl, Lib.hid (Below.refl _ _)⟩
  case round =>
    obtain ⟨k, r, hk, rfl, rfl, hr, HB⟩ := hrel
    have hbd := beat_bd t rule k bt
    have hr0 : 0 ≤ r := by omega
    have hr1 : r ≤ 20 := by omega
    have HRR := Lib.hid hr
    have FX := (HXT.out.below HB.out).f3
    clear hbd hr
    by_cases hlt : k < N
    · have hkd : decide ((k : Int) < (N : Int)) = true := by simpa using hlt
      have HC := Lib.hid (HCM.out k (by omega) wr (HBA.out.trans (HB.out.mono HBA.out.size)))
      have HS := Lib.hid (beat_succ t rule k bt)
      generalize cmpT t rule (k : Int) (bt : Int) = q at *
      by_cases hq : q.1 < 0
      · have hqd : decide (q.1 < 0) = true := by simpa using hq
        have hs := HS.out
        rw [if_pos hq] at hs
        have HS2 := Lib.hid (show r + 1 = 1 + beatN t rule (k + 1) bt from by rw [hs, HRR.out]; omega)
        clear hs HS hq HRR
        go_wp2_with fail
        refine HC.out.mono ?_
        rintro e w3 ⟨rfl, hb3⟩
        have HB3 := Lib.hid (HB.out.trans (hb3.mono HB.out.size))
        clear hb3 HB FX HC
        go_wp2_with fail
        go_roundw
        case rel => exact ⟨k + 1, r + 1, by omega, by go_num, by go_num, HS2.out, HB3⟩
        case measure => simp [intOf] <;> omega
      · have hqd : decide (q.1 < 0) = false := by simpa using hq
        have hs := HS.out
        rw [if_neg hq] at hs
        have HS2 := Lib.hid (show r = 1 + beatN t rule (k + 1) bt from by rw [hs, HRR.out]; omega)
        clear hs HS hq HRR
        go_wp2_with fail
        refine HC.out.mono ?_
        rintro e w3 ⟨rfl, hb3⟩
        have HB3 := Lib.hid (HB.out.trans (hb3.mono HB.out.size))
        clear hb3 HB FX HC
        go_wp2_with fail
        go_roundw
        case rel => exact ⟨k + 1, r, by omega, by go_num, rfl, HS2.out, HB3⟩
        case measure => simp [intOf] <;> omega
    · obtain rfl : k = N := by omega
      have hkd : decide ((k : Int) < (k : Int)) = false := by simp
      have HB3 := Lib.hid (HBA.out.trans (HB.out.mono HBA.out.size))
      clear HCM
      go_wp2_with fail
      go_ret
      exact ⟨by rw [HR.out, ← HRR.out]; rfl, HB3.out⟩
set_option maxHeartbeats 8000000 in
theorem implRanks_any (P : Option Addr) (n c : Nat) (C : Option Addr) (m d : Nat) (t : Tb) (ok : TabOk t) (A : Option Addr) (l cl : Nat) (rule : List Int) (hrule : rule.length ≤ 3) (w : World) (h : RdT w P n C m t) (hl : Rd w 1 A l (ints rule)) :
    Calls Tryz.prog 32 #[.agg #[.int .i64 t.boats, .slice P n c, .slice C m d], .slice A l cl] w (RetCopy w (rkL t rule)) := by
  obtain rfl : n = m := by have := h.cds.len; have := h.pts.len; have := ok.same; omega
  obtain ⟨N, hN⟩ : ∃ N : Nat, t.boats = (N : Int) := ⟨t.boats.toNat, by have := ok.b1; omega⟩
  have hN16 : N ≤ 16 := by have := ok.b2; omega
  have HR := Lib.hid (fun (b : Int) => rank_beat hN rule b)
  have HRG := Lib.hid (fun (j : Nat) (hj : j < N) => rkL_get hN rule hj)
  have HRL := Lib.hid (rkL_len hN rule)
  have HCM := Lib.hid (fun (a b : Nat) (ha : (a : Int) < t.boats) (hb : (b : Int) < t.boats) w' (hq : Below w.heap.size w w') => implCmp_any P n c C n d t ok A l cl rule hrule a b ha hb w' (h.below hq) (hl.below hq))
  rw [hN] at HCM
  rw [hN]
  obtain ⟨wa, hwa, XT, hba, hsa⟩ := one_box w #[.int .i64 (N : Int), .slice P n c, .slice C n d] 33
  have HWA := Lib.hid hwa
  have hmk := run_make_i64 N (by omega) wa
  obtain ⟨wb, hwb⟩ : ∃ wb, wb = wa.alloc (.cells (madeCells #[.int .i64 0] N) 2) := ⟨_, rfl⟩
  have hoe := own_made wa wa.heap.size 2 N (.int .i64 0) (Nat.le_refl _) (by omega)
  rw [← ints_replicate, ← hwb, hsa] at hoe
  have hbb : Below wa.heap.size wa wb := by rw [hwb]; exact (Below.refl _ _).alloc (Nat.le_refl _) _
  have HBB := Lib.hid (hba.trans (hbb.mono hba.size))
  have HXT := Lib.hid (XT.below hbb)
  have HSZ := Lib.hid (show w.heap.size + 1 ≤ wb.heap.size from by have := hbb.size; omega)
  have HOE := Lib.hid hoe
  rw [← hwb, hsa] at hmk
  have FX := XT.f3
  generalize List.replicate N (0 : Int) = sn0 at *
  clear hwa XT hba hwb hbb hoe h hl ok hrule hN
  go_enter Tryz.func32, Tryz.ntmps32
  go_wp2_with fail
  rw [← HWA.out]
  clear HWA
  go_wp2_with fail
  rw [hmk]
  clear FX hmk
  go_wp2_with fail
  go_loopw [16] (fun i wr => ∃ (a : Nat) (out : List Int), a ≤ N ∧ i = .int .i64 a ∧ Hid (∀ j : Nat, j < a → out[j]? = some (rankT t rule (j : Int))) ∧ Hid (wr.ownsRow (w.heap.size + 1) 2 1 (.slice (some ⟨w.heap.size + 1, 0, none⟩) N N) N (ints out)) ∧ Hid (Below (w.heap.size + 1) wb wr)) (fun i _ => N - (intOf i).toNat)
  case atStart => exact ⟨0, sn0, Nat.zero_le _, rfl, Lib.hid (fun j hj => absurd hj (Nat.not_lt_zero _)), HOE, Lib.hid (Below.refl _ _)⟩
  case round =>
    clear HOE
    obtain ⟨a, out, haN, rfl, HI, HO, HB⟩ := hrel
    obtain ⟨wo, hwo⟩ : ∃ wo : World, wo = wr := ⟨_, rfl⟩
    subst hwo
    have HLN := Lib.hid (own_len HO.out)
    by_cases halt : a < N
    · have had : decide ((a : Int) < (N : Int)) = true := by simpa using halt
      obtain ⟨gm, z, hgm, -, -, -, hcz, hfz⟩ := own_int_at HO.out (k := a) halt
      injection hgm with hgm
      injection hgm with hgm _
      subst hgm
      obtain ⟨ws, hws⟩ : ∃ ws, ws = wo.setCell ⟨w.heap.size + 1, a, none⟩ (.int .i64 1) := ⟨_, rfl⟩
      have HO1 := Lib.hid (show ws.ownsRow (w.heap.size + 1) 2 1 (.slice (some ⟨w.heap.size + 1, 0, none⟩) N N) N (ints (out.set a 1)) from by rw [hws]; exact own_set HO.out 1)
      have HB1 := Lib.hid (show Below (w.heap.size + 1) wb ws from by rw [hws]; exact HB.out.setCell (p := ⟨w.heap.size + 1, a, none⟩) (Nat.le_refl _) _)
      have HWS := Lib.hid hws
      clear hws HO HB
      go_wp2_with fail
      rw [← HWS.out]
      clear HWS hcz hfz
      go_wp2_with fail
      go_loopw [24] (fun i wr => ∃ (b : Nat) (r : Int), b ≤ N ∧ i = .int .i64 b ∧ Hid (r = 1 + beatN t rule b a) ∧ Hid (wr.ownsRow (w.heap.size + 1) 2 1 (.slice (some ⟨w.heap.size + 1, 0, none⟩) N N) N (ints (out.set a r))) ∧ Hid (Below (w.heap.size + 1) wb wr)) (fun i _ => N - (intOf i).toNat)
      case atStart => exact ⟨0, 1, Nat.zero_le _, rfl, Lib.hid (by rw [beat_zero]; rfl), HO1, HB1⟩
      case round =>
        clear HO1 HB1
        obtain ⟨b, r, hbN, rfl, HRR, HO, HB⟩ := hrel
        obtain ⟨wp, hwp⟩ : ∃ wp : World, wp = wr := ⟨_, rfl⟩
        subst hwp
        have hbd := beat_bd t rule b a
        have hr0 : 0 ≤ r := by have := HRR.out; omega
        have hr1 : r ≤ 20 := by have := HRR.out; omega
        have FX := (HXT.out.below2 HB.out (by omega)).f3
        clear hbd
        by_cases hlt : b < N
        · have hbd : decide ((b : Int) < (N : Int)) = true := by simpa using hlt
          have HC := Lib.hid (HCM.out b a (by omega) (by omega) wp (HBB.out.trans (HB.out.mono (by omega))))
          have HS := Lib.hid (beat_succ t rule b a)
          generalize cmpT t rule (b : Int) (a : Int) = q at *
          by_cases hq : q.1 < 0
          · have hqd : decide (q.1 < 0) = true := by simpa using hq
            have hs := HS.out
            rw [if_pos hq] at hs
            have HS2 := Lib.hid (show r + 1 = 1 + beatN t rule (b + 1) a from by rw [hs, HRR.out]; omega)
            clear hs HS hq HRR
            go_wp2_with fail
            refine HC.out.mono ?_
            rintro e w3 ⟨rfl, hb3⟩
            have HB3 := Lib.hid (HB.out.trans (hb3.mono (by have := HB.out.size; have := HSZ.out; omega)))
            have HO3 := Lib.hid (own_below HO.out hb3)
            obtain ⟨gm, z, hgm, -, -, hz, hcz, hfz⟩ := own_int_at HO3.out (k := a) halt
            injection hgm with hgm
            injection hgm with hgm _
            subst hgm
            rw [List.getElem?_set_self (by rw [HLN.out]; exact halt)] at hz
            injection hz with hz
            subst hz
            obtain ⟨wt, hwt⟩ : ∃ wt, wt = w3.setCell ⟨w.heap.size + 1, a, none⟩ (.int .i64 (r + 1)) := ⟨_, rfl⟩
            have HO4 := Lib.hid (show wt.ownsRow (w.heap.size + 1) 2 1 (.slice (some ⟨w.heap.size + 1, 0, none⟩) N N) N (ints (out.set a (r + 1))) from by
              rw [hwt]
              have := own_set HO3.out (k := a) (r + 1)
              rwa [List.set_set] at this)
            have HB4 := Lib.hid (show Below (w.heap.size + 1) wb wt from by rw [hwt]; exact HB3.out.setCell (p := ⟨w.heap.size + 1, a, none⟩) (Nat.le_refl _) _)
            have HWT := Lib.hid hwt
            have hwr : IntKind.i64.wrap (r + 1) = r + 1 := IntWalk.i64_in _ (by omega)
            clear hb3 HB FX HC hwt HO HB3 HO3
            go_wp2_with fail
            rw [← HWT.out]
            clear HWT hcz hfz hwr
            go_wp2_with fail
            go_roundw
            case rel => exact ⟨b + 1, r + 1, by omega, by go_num, HS2, HO4, HB4⟩
            case measure => simp [intOf] <;> omega
          · have hqd : decide (q.1 < 0) = false := by simpa using hq
            have hs := HS.out
            rw [if_neg hq] at hs
            have HS2 := Lib.hid (show r = 1 + beatN t rule (b + 1) a from by rw [hs, HRR.out]; omega)
            clear hs HS hq HRR
            go_wp2_with fail
            refine HC.out.mono ?_
            rintro e w3 ⟨rfl, hb3⟩
            have HB3 := Lib.hid (HB.out.trans (hb3.mono (by have := HB.out.size; have := HSZ.out; omega)))
            have HO3 := Lib.hid (own_below HO.out hb3)
            clear hb3 HB FX HC HO
            go_wp2_with fail
            go_roundw
            case rel => exact ⟨b + 1, r, by omega, by go_num, HS2, HO3, HB3⟩
            case measure => simp [intOf] <;> omega
        · obtain rfl : b = N := by omega
          have hbd : decide ((b : Int) < (b : Int)) = false := by simp
          have HI2 := Lib.hid (show ∀ j : Nat, j < a + 1 → (out.set a r)[j]? = some (rankT t rule (j : Int)) from by
            intro j hj
            by_cases e : j = a
            · subst e
              rw [List.getElem?_set_self (by rw [HLN.out]; exact halt), HRR.out, HR.out]
            · rw [List.getElem?_set_ne (by omega)]
              exact HI.out j (by omega))
          clear HCM HI HRR FX
          go_wp2_with fail
          go_roundw
          case rel => exact ⟨a + 1, out.set a r, by omega, by go_num, HI2, HO, HB⟩
          case measure => simp [intOf] <;> omega
    · obtain rfl : a = N := by omega
      have had : decide ((a : Int) < (a : Int)) = false := by simp
      have HB3 := Lib.hid (HBB.out.trans (HB.out.mono (by omega)))
      have HE := Lib.hid (show rkL t rule = out from by
        apply List.ext_getElem?
        intro j
        by_cases hj : j < a
        · rw [HRG.out j hj, HI.out j hj]
        · rw [List.getElem?_eq_none (by rw [HRL.out]; omega), List.getElem?_eq_none (by rw [HLN.out]; omega)])
      have HO3 := Lib.hid (own_base HO.out (show w.heap.size ≤ w.heap.size + 1 by omega))
      clear HCM HI HO
      go_wp2_with fail
      go_ret
      exact ⟨_, a, a, rfl, by rw [HE.out]; exact HO3.out, by omega, HB3.out⟩
end Go.Proofs.YtalgdeieejpelaaGreatDoor

/- Walks: a boat's rank of the reference, all ranks of the program (chapter 28). -/
import Derived.Test.YtalgdeieejpelaaGreatZf
import Derived.Test.YtalgdeieejpelaaGreatZe
namespace Go.Proofs.YtalgdeieejpelaaGreat
open Go.RowKit Go.Sort
set_option linter.unusedVariables false
set_option maxRecDepth 100000

/-- How many of the first j boats are ahead of a boat. -/
def beatN (t : Tb) (rule : List Int) (j : Nat) (b : Int) : Int := ((idx j).countP (fun k => ltT t rule k b) : Nat)
theorem beat_zero (t : Tb) (rule : List Int) (b : Int) : beatN t rule 0 b = 0 := rfl
theorem beat_succ (t : Tb) (rule : List Int) (j : Nat) (b : Int) : beatN t rule (j + 1) b = beatN t rule j b + (if (cmpT t rule (j : Int) b).1 < 0 then 1 else 0) := by
  unfold beatN
  have e : idx (j + 1) = idx j ++ [(j : Int)] := by unfold idx; rw [List.range_succ, List.map_append]; rfl
  rw [e, List.countP_append]
  by_cases hc : (cmpT t rule (j : Int) b).1 < 0
  · have hl : ltT t rule (j : Int) b = true := by unfold ltT; simpa using hc
    rw [if_pos hc, List.countP_cons, List.countP_nil, if_pos hl]
    omega
  · have hl : ¬ ltT t rule (j : Int) b = true := by unfold ltT; simpa using hc
    rw [if_neg hc, List.countP_cons, List.countP_nil, if_neg hl]
    omega
theorem beat_bd (t : Tb) (rule : List Int) (j : Nat) (b : Int) : 0 ≤ beatN t rule j b ∧ beatN t rule j b ≤ j := by
  unfold beatN
  have h := List.countP_le_length (p := fun k => ltT t rule k b) (l := idx j)
  rw [idx_length] at h
  omega
theorem rank_beat {t : Tb} {N : Nat} (h : t.boats = (N : Int)) (rule : List Int) (b : Int) : rankT t rule b = 1 + beatN t rule N b := by
  unfold rankT rankL beatN
  rw [h, Int.toNat_natCast]
  omega
/-- The ranks of all boats. -/
def rkL (t : Tb) (rule : List Int) : List Int := (idx t.boats.toNat).map (rankT t rule)
theorem rkL_get {t : Tb} {N : Nat} (h : t.boats = (N : Int)) (rule : List Int) {j : Nat} (hj : j < N) : (rkL t rule)[j]? = some (rankT t rule (j : Int)) := by
  unfold rkL
  rw [h, Int.toNat_natCast, List.getElem?_map, idx_get hj]
  rfl
theorem rkL_len {t : Tb} {N : Nat} (h : t.boats = (N : Int)) (rule : List Int) : (rkL t rule).length = N := by
  unfold rkL
  rw [List.length_map, idx_length, h, Int.toNat_natCast]
set_option maxHeartbeats 8000000 in
theorem specRank_any (P : Option Addr) (n c : Nat) (C : Option Addr) (m d : Nat) (t : Tb) (ok : TabOk t) (A : Option Addr) (l cl : Nat) (rule : List Int) (hrule : rule.length ≤ 3) (bt : Nat) (hbt : (bt : Int) < t.boats) (w : World) (h : RdT w P n C m t) (hl : Rd w 1 A l (ints rule)) :
    Calls Tryz.prog 67 #[.agg #[.int .i64 t.boats, .slice P n c, .slice C m d], .slice A l cl, .int .i64 bt] w fun e w' => e = .returned (.int .i64 (rankT t rule bt)) ∧ Below w.heap.size w w' := by
  obtain rfl : n = m := by have := h.cds.len; have := h.pts.len; have := ok.same; omega
  obtain ⟨N, hN⟩ : ∃ N : Nat, t.boats = (N : Int) := ⟨t.boats.toNat, by have := ok.b1; omega⟩
  have hN16 : N ≤ 16 := by have := ok.b2; omega
  have HR := Lib.hid (rank_beat hN rule (bt : Int))
  have HCM := Lib.hid (fun (k : Nat) (hk : (k : Int) < t.boats) w' (hq : Below w.heap.size w w') => specCmp_any P n c C n d t ok A l cl rule hrule k bt hk hbt w' (h.below hq) (hl.below hq))
  rw [hN] at HCM
  rw [hN]
  obtain ⟨wa, hwa, XT, hba, hsa⟩ := one_box w #[.int .i64 (N : Int), .slice P n c, .slice C n d] 53
  have HWA := Lib.hid hwa
  have HBA := Lib.hid hba
  have HXT := Lib.hid XT
  clear hwa XT hba h hl ok hbt hrule hN
  go_enter Tryz.func67, Tryz.ntmps67
  go_wp2_with fail
  rw [← HWA.out]
  clear HWA
  go_wp2_with fail
  go_loopw [7, 8] (fun v i wr => ∃ (k : Nat) (r : Int), k ≤ N ∧ i = .int .i64 k ∧ v = .int .i64 r ∧ r = 1 + beatN t rule k bt ∧ Hid (Below wa.heap.size wa wr)) (fun _ i _ => N - (intOf i).toNat)
  case atStart => exact ⟨0, 1, Nat.zero_le _, rfl, rfl, by rw [beat_zero]; rfl, Lib.hid (Below.refl _ _)⟩
  case round =>
    obtain ⟨k, r, hk, rfl, rfl, hr, HB⟩ := hrel
    have hbd := beat_bd t rule k bt
    have hr0 : 0 ≤ r := by omega
    have hr1 : r ≤ 20 := by omega
    have HRR := Lib.hid hr
    have FX := (HXT.out.below HB.out).f3
    clear hbd hr
    by_cases hlt : k < N
    · have hkd : decide ((k : Int) < (N : Int)) = true := by simpa using hlt
      have HC := Lib.hid (HCM.out k (by omega) wr (HBA.out.trans (HB.out.mono HBA.out.size)))
      have HS := Lib.hid (beat_succ t rule k bt)
      generalize cmpT t rule (k : Int) (bt : Int) = q at *
      by_cases hq : q.1 < 0
      · have hqd : decide (q.1 < 0) = true := by simpa using hq
        have hs := HS.out
        rw [if_pos hq] at hs
        have HS2 := Lib.hid (show r + 1 = 1 + beatN t rule (k + 1) bt from by rw [hs, HRR.out]; omega)
        clear hs HS hq HRR
        go_wp2_with fail
        refine HC.out.mono ?_
        rintro e w3 ⟨rfl, hb3⟩
        have HB3 := Lib.hid (HB.out.trans (hb3.mono HB.out.size))
        clear hb3 HB FX HC
        go_wp2_with fail
        go_roundw
        case rel => exact ⟨k + 1, r + 1, by omega, by go_num, by go_num, HS2.out, HB3⟩
        case measure => simp [intOf] <;> omega
      · have hqd : decide (q.1 < 0) = false := by simpa using hq
        have hs := HS.out
        rw [if_neg hq] at hs
        have HS2 := Lib.hid (show r = 1 + beatN t rule (k + 1) bt from by rw [hs, HRR.out]; omega)
        clear hs HS hq HRR
        go_wp2_with fail
        refine HC.out.mono ?_
        rintro e w3 ⟨rfl, hb3⟩
        have HB3 := Lib.hid (HB.out.trans (hb3.mono HB.out.size))
        clear hb3 HB FX HC
        go_wp2_with fail
        go_roundw
        case rel => exact ⟨k + 1, r, by omega, by go_num, rfl, HS2.out, HB3⟩
        case measure => simp [intOf] <;> omega
    · obtain rfl : k = N := by omega
      have hkd : decide ((k : Int) < (k : Int)) = false := by simp
      have HB3 := Lib.hid (HBA.out.trans (HB.out.mono HBA.out.size))
      clear HCM
      go_wp2_with fail
      go_ret
      exact ⟨by rw [HR.out, ← HRR.out]; rfl, HB3.out⟩
end Go.Proofs.YtalgdeieejpelaaGreat

/- Walks: points of a race (chapter 26), the program. -/
import Derived.Test.YtdldcjnidajmpaaFt
import Derived.BigRegion
namespace Go.Proofs.Ytdldcjnidajmpaa
open Go.RowKit
set_option linter.unusedVariables false
set_option maxRecDepth 100000

def dncN (fs : List FinishT) : Nat := (fs.filter fun f => f.2.1 == 1).length
/-- How many did not come, if they count (p). -/
def gone (p : Bool) (fs : List FinishT) : Nat := if p = true then dncN fs else 0
def codePointsF (fs : List FinishT) (code scheme : Int) : Int := if code = 9 then 0 else 10 * ((fs.length : Int) - gone (code != 1 && scheme == 1) fs + 1)
theorem gone_nil (p : Bool) : gone p [] = 0 := by cases p <;> rfl
theorem gone_le (p : Bool) (fs : List FinishT) : gone p fs ≤ fs.length := by
  unfold gone dncN
  split
  · exact List.length_filter_le _ _
  · omega
theorem gone_snoc (p : Bool) (fs : List FinishT) (f : FinishT) : gone p (fs ++ [f]) = gone p fs + (if ((f.2.1 == 1) && p) = true then 1 else 0) := by
  unfold gone dncN
  cases p
  · simp
  · rw [List.filter_append, List.length_append]
    by_cases hx : f.2.1 = 1 <;> simp [hx]
set_option maxHeartbeats 4000000 in
theorem codePoints_any (A : Option Addr) (n c : Nat) (fs : List FinishT) (code scheme : Int) (hn : n ≤ 16) (w : World) (h : Rd w 3 A n (fins fs)) :
    Calls Try.prog 125 #[.slice A n c, .int .i64 code, .int .i64 scheme] w fun e w' => e = .returned (.int .i64 (codePointsF fs code scheme)) ∧ Below w.heap.size w w' := by
  have HN := Lib.hid h.len_fin
  have HRD := Lib.hid (fun w' (hb : Below w.heap.size w w') => h.below hb)
  clear h
  by_cases h9 : code = 9
  · subst h9
    have e1 : codePointsF fs 9 scheme = 0 := by unfold codePointsF; rw [if_pos rfl]
    rw [e1]; clear e1
    go_enter Try.func125, Try.ntmps125
    go_wp2_with fail
    go_ret
    exact ⟨rfl, Below.refl _ _⟩
  · have k9 : (code == 9) = false := by simp [h9]
    have e1 : codePointsF fs code scheme = 10 * ((n : Int) - gone (code != 1 && scheme == 1) fs + 1) := by unfold codePointsF; rw [if_neg h9, HN.out]
    rw [e1]; clear e1 h9
    obtain ⟨bc, hc⟩ : ∃ bc, (code != 1) = bc := ⟨_, rfl⟩
    obtain ⟨bs, hs⟩ : ∃ bs, (scheme == 1) = bs := ⟨_, rfl⟩
    rw [hc, hs]
    have hg := gone_le (bc && bs) fs
    rw [HN.out] at hg
    go_enter Try.func125, Try.ntmps125
    cases bc <;> cases bs
    · go_wp2_with fail
      go_loopw [7, 16] (fun v i wr => ∃ j : Nat, j ≤ n ∧ i = .int .i64 j ∧ v = .int .i64 ((n : Int) - gone (false && false) (fs.take j)) ∧ Hid (Below w.heap.size w wr)) (fun _ i _ => n - (intOf i).toNat)
      case atStart => exact ⟨0, Nat.zero_le _, rfl, by rw [List.take_zero, gone_nil]; simp, Lib.hid (Below.refl _ _)⟩
      case round =>
        obtain ⟨j, hj, rfl, rfl, HB⟩ := hrel
        obtain ⟨wo, hwo⟩ : ∃ wo : World, wo = wr := ⟨_, rfl⟩
        subst hwo
        have hgj := gone_le (false && false) (fs.take j)
        have htj : (fs.take j).length ≤ 16 := by rw [List.length_take, HN.out]; omega
        by_cases hjn : j < n
        · obtain ⟨b, o, x0, x1, x2, rfl, hx, _, hc0, hc1, hc2⟩ := (HRD.out _ HB.out).fin hjn
          have HSN := Lib.hid (show gone (false && false) (fs.take (j + 1)) = gone (false && false) (fs.take j) + (if ((x1 == 1) && (false && false)) = true then 1 else 0) from by rw [take_snoc_get hx, gone_snoc])
          have HBA := Lib.hid (HB.out.trans (((Below.refl wo.heap.size wo).alloc (Nat.le_refl _) (.cells #[.int .i64 x0, .int .i64 x1, .int .i64 x2] 88)).mono HB.out.size))
          clear hx
          generalize gone (false && false) (fs.take j) = g at *
          by_cases e1 : x1 = 1
          · subst e1
            go_wp2_with fail
            go_roundw
            case rel => exact ⟨j + 1, by omega, by go_num, by rw [HSN.out]; first | done | (congr 1 <;> simp <;> omega) | simp, HBA⟩
            case measure => simp [intOf] <;> omega
          · have e0 : (x1 == 1) = false := by simp [e1]
            have HS0 := Lib.hid (show gone (false && false) (fs.take (j + 1)) = g from by rw [HSN.out, e0]; rfl)
            clear HSN e1
            go_wp2_with fail
            go_roundw
            case rel => exact ⟨j + 1, by omega, by go_num, by rw [HS0.out], HBA⟩
            case measure => simp [intOf] <;> omega
        · obtain rfl : j = n := by omega
          have HTK := Lib.hid (show fs.take j = fs from List.take_of_length_le (by rw [HN.out]; exact Nat.le_refl _))
          rw [HTK.out]
          clear hgj
          generalize hGG : gone (false && false) fs = g at *
          have HGG := Lib.hid hGG
          clear hGG
          go_wp2_with fail
          go_ret
          exact ⟨ret_int (by rw [HGG.out]), HB.out⟩
    · go_wp2_with fail
      go_loopw [7, 16] (fun v i wr => ∃ j : Nat, j ≤ n ∧ i = .int .i64 j ∧ v = .int .i64 ((n : Int) - gone (false && true) (fs.take j)) ∧ Hid (Below w.heap.size w wr)) (fun _ i _ => n - (intOf i).toNat)
      case atStart => exact ⟨0, Nat.zero_le _, rfl, by rw [List.take_zero, gone_nil]; simp, Lib.hid (Below.refl _ _)⟩
      case round =>
        obtain ⟨j, hj, rfl, rfl, HB⟩ := hrel
        obtain ⟨wo, hwo⟩ : ∃ wo : World, wo = wr := ⟨_, rfl⟩
        subst hwo
        have hgj := gone_le (false && true) (fs.take j)
        have htj : (fs.take j).length ≤ 16 := by rw [List.length_take, HN.out]; omega
        by_cases hjn : j < n
        · obtain ⟨b, o, x0, x1, x2, rfl, hx, _, hc0, hc1, hc2⟩ := (HRD.out _ HB.out).fin hjn
          have HSN := Lib.hid (show gone (false && true) (fs.take (j + 1)) = gone (false && true) (fs.take j) + (if ((x1 == 1) && (false && true)) = true then 1 else 0) from by rw [take_snoc_get hx, gone_snoc])
          have HBA := Lib.hid (HB.out.trans (((Below.refl wo.heap.size wo).alloc (Nat.le_refl _) (.cells #[.int .i64 x0, .int .i64 x1, .int .i64 x2] 88)).mono HB.out.size))
          clear hx
          generalize gone (false && true) (fs.take j) = g at *
          by_cases e1 : x1 = 1
          · subst e1
            go_wp2_with fail
            go_roundw
            case rel => exact ⟨j + 1, by omega, by go_num, by rw [HSN.out]; first | done | (congr 1 <;> simp <;> omega) | simp, HBA⟩
            case measure => simp [intOf] <;> omega
          · have e0 : (x1 == 1) = false := by simp [e1]
            have HS0 := Lib.hid (show gone (false && true) (fs.take (j + 1)) = g from by rw [HSN.out, e0]; rfl)
            clear HSN e1
            go_wp2_with fail
            go_roundw
            case rel => exact ⟨j + 1, by omega, by go_num, by rw [HS0.out], HBA⟩
            case measure => simp [intOf] <;> omega
        · obtain rfl : j = n := by omega
          have HTK := Lib.hid (show fs.take j = fs from List.take_of_length_le (by rw [HN.out]; exact Nat.le_refl _))
          rw [HTK.out]
          clear hgj
          generalize hGG : gone (false && true) fs = g at *
          have HGG := Lib.hid hGG
          clear hGG
          go_wp2_with fail
          go_ret
          exact ⟨ret_int (by rw [HGG.out]), HB.out⟩
    · go_wp2_with fail
      go_loopw [7, 16] (fun v i wr => ∃ j : Nat, j ≤ n ∧ i = .int .i64 j ∧ v = .int .i64 ((n : Int) - gone (true && false) (fs.take j)) ∧ Hid (Below w.heap.size w wr)) (fun _ i _ => n - (intOf i).toNat)
      case atStart => exact ⟨0, Nat.zero_le _, rfl, by rw [List.take_zero, gone_nil]; simp, Lib.hid (Below.refl _ _)⟩
      case round =>
        obtain ⟨j, hj, rfl, rfl, HB⟩ := hrel
        obtain ⟨wo, hwo⟩ : ∃ wo : World, wo = wr := ⟨_, rfl⟩
        subst hwo
        have hgj := gone_le (true && false) (fs.take j)
        have htj : (fs.take j).length ≤ 16 := by rw [List.length_take, HN.out]; omega
        by_cases hjn : j < n
        · obtain ⟨b, o, x0, x1, x2, rfl, hx, _, hc0, hc1, hc2⟩ := (HRD.out _ HB.out).fin hjn
          have HSN := Lib.hid (show gone (true && false) (fs.take (j + 1)) = gone (true && false) (fs.take j) + (if ((x1 == 1) && (true && false)) = true then 1 else 0) from by rw [take_snoc_get hx, gone_snoc])
          have HBA := Lib.hid (HB.out.trans (((Below.refl wo.heap.size wo).alloc (Nat.le_refl _) (.cells #[.int .i64 x0, .int .i64 x1, .int .i64 x2] 88)).mono HB.out.size))
          clear hx
          generalize gone (true && false) (fs.take j) = g at *
          by_cases e1 : x1 = 1
          · subst e1
            go_wp2_with fail
            go_roundw
            case rel => exact ⟨j + 1, by omega, by go_num, by rw [HSN.out]; first | done | (congr 1 <;> simp <;> omega) | simp, HBA⟩
            case measure => simp [intOf] <;> omega
          · have e0 : (x1 == 1) = false := by simp [e1]
            have HS0 := Lib.hid (show gone (true && false) (fs.take (j + 1)) = g from by rw [HSN.out, e0]; rfl)
            clear HSN e1
            go_wp2_with fail
            go_roundw
            case rel => exact ⟨j + 1, by omega, by go_num, by rw [HS0.out], HBA⟩
            case measure => simp [intOf] <;> omega
        · obtain rfl : j = n := by omega
          have HTK := Lib.hid (show fs.take j = fs from List.take_of_length_le (by rw [HN.out]; exact Nat.le_refl _))
          rw [HTK.out]
          clear hgj
          generalize hGG : gone (true && false) fs = g at *
          have HGG := Lib.hid hGG
          clear hGG
          go_wp2_with fail
          go_ret
          exact ⟨ret_int (by rw [HGG.out]), HB.out⟩
    · go_wp2_with fail
      go_loopw [7, 16] (fun v i wr => ∃ j : Nat, j ≤ n ∧ i = .int .i64 j ∧ v = .int .i64 ((n : Int) - gone (true && true) (fs.take j)) ∧ Hid (Below w.heap.size w wr)) (fun _ i _ => n - (intOf i).toNat)
      case atStart => exact ⟨0, Nat.zero_le _, rfl, by rw [List.take_zero, gone_nil]; simp, Lib.hid (Below.refl _ _)⟩
      case round =>
        obtain ⟨j, hj, rfl, rfl, HB⟩ := hrel
        obtain ⟨wo, hwo⟩ : ∃ wo : World, wo = wr := ⟨_, rfl⟩
        subst hwo
        have hgj := gone_le (true && true) (fs.take j)
        have htj : (fs.take j).length ≤ 16 := by rw [List.length_take, HN.out]; omega
        by_cases hjn : j < n
        · obtain ⟨b, o, x0, x1, x2, rfl, hx, _, hc0, hc1, hc2⟩ := (HRD.out _ HB.out).fin hjn
          have HSN := Lib.hid (show gone (true && true) (fs.take (j + 1)) = gone (true && true) (fs.take j) + (if ((x1 == 1) && (true && true)) = true then 1 else 0) from by rw [take_snoc_get hx, gone_snoc])
          have HBA := Lib.hid (HB.out.trans (((Below.refl wo.heap.size wo).alloc (Nat.le_refl _) (.cells #[.int .i64 x0, .int .i64 x1, .int .i64 x2] 88)).mono HB.out.size))
          clear hx
          generalize gone (true && true) (fs.take j) = g at *
          by_cases e1 : x1 = 1
          · subst e1
            go_wp2_with fail
            go_roundw
            case rel => exact ⟨j + 1, by omega, by go_num, by rw [HSN.out]; first | done | (congr 1 <;> simp <;> omega) | simp, HBA⟩
            case measure => simp [intOf] <;> omega
          · have e0 : (x1 == 1) = false := by simp [e1]
            have HS0 := Lib.hid (show gone (true && true) (fs.take (j + 1)) = g from by rw [HSN.out, e0]; rfl)
            clear HSN e1
            go_wp2_with fail
            go_roundw
            case rel => exact ⟨j + 1, by omega, by go_num, by rw [HS0.out], HBA⟩
            case measure => simp [intOf] <;> omega
        · obtain rfl : j = n := by omega
          have HTK := Lib.hid (show fs.take j = fs from List.take_of_length_le (by rw [HN.out]; exact Nat.le_refl _))
          rw [HTK.out]
          clear hgj
          generalize hGG : gone (true && true) fs = g at *
          have HGG := Lib.hid hGG
          clear hGG
          go_wp2_with fail
          go_ret
          exact ⟨ret_int (by rw [HGG.out]), HB.out⟩
/-- The points of every boat of a race. -/
def racePointsF (fs : List FinishT) (scheme : Int) : List Int := fs.map fun f => if f.2.1 = 0 then 5 * (2 * (placeF fs f).1 + (placeF fs f).2 - 1) else codePointsF fs f.2.1 scheme
theorem racePointsF_len (fs : List FinishT) (scheme : Int) : (racePointsF fs scheme).length = fs.length := by unfold racePointsF; simp
/-- With one fleet and no scheme, the points are those of the fleets. -/
theorem codePoints_pos {fs : List FinishT} {code scheme : Int} (h : fs.length ≤ 16) : 0 ≤ codePointsF fs code scheme ∧ codePointsF fs code scheme ≤ 170 := by
  unfold codePointsF
  have := gone_le (code != 1 && scheme == 1) fs
  split <;> omega
end Go.Proofs.Ytdldcjnidajmpaa

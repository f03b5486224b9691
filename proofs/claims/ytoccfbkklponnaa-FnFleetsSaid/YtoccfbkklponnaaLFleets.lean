/- The walk of FnFleets. -/
import Derived.Test.YtoccfbkklponnaaMg
import Derived.Test.YtoccfbkklponnaaWg
import Derived.Test.YtoccfbkklponnaaWe
import Derived.Test.YtoccfbkklponnaaWl
import Derived.Test.YtoccfbkklponnaaCo
namespace Go.Proofs.Ytoccfbkklponnaa
open Go.RowKit
set_option linter.unusedVariables false
set_option maxRecDepth 100000


theorem fnFleets_walk (a0 : Option Addr) (len0 cap0 : Nat) (z0 : List Int) (w : World) (v0 : IsRow .u8 w a0 len0 cap0 z0) :
    Calls Try.prog 9 #[.slice a0 len0 cap0] w fun e w' => e = .returned (.bool true) ∧ Below w.heap.size w w' := by
  have hle := v0.lenle
  by_cases hbig : 4096 < len0
  · have hd : decide (4096 < len0) = true := by simpa using hbig
    have HB := Lib.hid (big_any a0 len0 cap0 hle w)
    rw [hd] at HB
    clear hd v0
    go_enter Try.func9, Try.ntmps9
    go_wp2_with fail
    refine HB.out.mono ?_
    rintro e w' ⟨rfl, rfl⟩
    go_wp2_with fail
    go_ret
    exact ⟨rfl, Below.refl _ _⟩
  have hd : decide (4096 < len0) = false := by simpa using hbig
  have HB := Lib.hid (big_any a0 len0 cap0 hle w)
  rw [hd] at HB
  clear hd
  have hcode := code0_of v0 (by omega)
  generalize z0.take len0 = code at hcode
  clear v0
  have hdraw := fun W hb => snakeD_any w a0 len0 cap0 code hcode W hb
  generalize hxk : snakeD code = xk at *
  clear hxk
  obtain ⟨xs, k⟩ := xk
  have HD := Lib.hid hdraw; clear hdraw
  go_enter Try.func9, Try.ntmps9
  go_wp2_with fail
  refine HB.out.mono ?_
  rintro e w' ⟨rfl, rfl⟩
  go_wp2_with fail
  refine (HD.out _ (Below.refl _ _)).mono ?_
  rintro e w1 ⟨A1, n1, c1, rfl, o1, hn1, hb1⟩
  simp only at o1
  have BB1 : Below w.heap.size w w1 := hb1
  go_wp2_with fail
  refine (implSnake_any _ _ _ _ _ _ (own_rd o1)).mono ?_
  rintro e w2 ⟨A2, n2, c2, rfl, o2, hn2, hb2⟩
  have BB2 : Below w.heap.size w w2 := BB1.trans (hb2.mono BB1.size)
  clear o1
  go_wp2_with fail
  refine (HD.out _ BB2).mono ?_
  rintro e w3 ⟨A3, n3, c3, rfl, o3, hn3, hb3⟩
  simp only at o3
  have BB3 : Below w.heap.size w w3 := BB2.trans (hb3.mono BB2.size)
  replace o2 := own_below o2 hb3
  go_wp2_with fail
  refine (specSnake_any _ _ _ _ _ _ (own_rd o3)).mono ?_
  rintro e w4 ⟨A4, n4, c4, rfl, o4, hn4, hb4⟩
  have BB4 : Below w.heap.size w w4 := BB3.trans (hb4.mono BB3.size)
  replace o2 := own_below o2 hb4
  replace o3 := own_below o3 hb4
  go_wp2_with fail
  refine (likeInts_below _ _ _ _ _ _ _ _ _ (own_rd o2) (own_rd o4)).mono ?_
  rintro e w5 ⟨rfl, hb5⟩
  have BB5 : Below w.heap.size w w5 := BB4.trans (hb5.mono BB4.size)
  replace o3 := own_below o3 hb5
  replace o4 := own_below o4 hb5
  clear o2
  have hl3 : xs.length = n3 := own_len o3
  by_cases hz : orderCodeF xs k = 0
  · obtain ⟨kn, rfl, ht⟩ := turns_of hz
    have e4 : snakeF xs (kn : Int) = ((snakeF xs (kn : Int)).1, 0) := by unfold snakeF; rw [if_pos hz]
    rw [e4]
    generalize hw : (snakeF xs (kn : Int)).1 = want at *
    clear hw e4 hz
    obtain ⟨hfc, hfb, hcl, hcg⟩ := turns_sizes ht
    have hl4 : want.length = n4 := own_len o4
    have hk1 := ht.k1; have hk4 := ht.k4
    have hn416 : n4 ≤ 16 := by have := ht.n16; have := ht.len; omega
    have es : sizesF want (kn : Int) = (countF want (List.replicate kn 0), 0) := by unfold sizesF; rw [if_pos hfc, Int.toNat_natCast]
    have HT := Lib.hid ht; have HFC := Lib.hid hfc; have HFB := Lib.hid hfb; have HCG := Lib.hid hcg; have HEV := Lib.hid ht.even; have HL4 := Lib.hid hl4; have HL3 := Lib.hid hl3
    generalize hcs : countF want (List.replicate kn 0) = cs at *
    have HSZ := Lib.hid (fun W hr => implSizes_any A4 n4 c4 want (kn : Int) W hr)
    rw [es] at HSZ
    clear es hcs ht hfc hfb hcg hl4 hl3
    go_wp2_with fail
    refine (HSZ.out _ (own_rd o4)).mono ?_
    rintro e w6 ⟨A6, n6, c6, rfl, o6, hn6, hb6⟩
    simp only at o6
    obtain rfl : kn = n6 := by have h0 : cs.length = n6 := own_len o6; omega
    have BB6 : Below w.heap.size w w6 := BB5.trans (hb6.mono BB5.size)
    replace o3 := own_below o3 hb6
    replace o4 := own_below o4 hb6
    have O6 := Lib.hid o6; have O4 := Lib.hid o4; have O3 := Lib.hid o3; have BB := Lib.hid BB6
    clear o6 o4 o3 BB1 BB2 BB3 BB4 BB5 BB6 hb1 hb2 hb3 hb4 hb5 hb6
    go_wp2_with fail
    go_loopw [11, 12] (fun t i wr => ∃ f : Nat, f ≤ kn ∧ i = .int .i64 f ∧ t = .int .i64 (sumC want f : Nat) ∧ Below w6.heap.size w6 wr) (fun _ i _ => kn - (intOf i).toNat)
    case atStart => exact ⟨0, Nat.zero_le _, rfl, rfl, Below.refl _ _⟩
    case round =>
      obtain ⟨f, hf, rfl, rfl, hb⟩ := hrel
      have hsl := sumC_le want f
      have hsle : sumC want f ≤ 64 := by have h1 := HT.out.n16; have h2 := HT.out.len; have h3 := Nat.mul_le_mul (show f ≤ 4 by omega) (show want.length ≤ 16 by omega); omega
      by_cases hlt : f < kn
      · have hcf := HCG.out f hlt
        have hcnt : want.count (f : Int) ≤ 16 := by have h1 : want.count (f : Int) ≤ want.length := List.count_le_length; have h2 := HL4.out; omega
        have ef : fleetBoatsF want (kn : Int) (f : Int) = (boatsF (f : Int) 0 want, 0) := by
          unfold fleetBoatsF
          rw [HFC.out, if_pos rfl, if_pos]
          rw [Bool.and_eq_true, withinB_iff, withinB_iff]; omega
        have HFBo := Lib.hid (fun W hr => implBoats_any A4 n4 c4 want (kn : Int) (f : Int) W hr)
        rw [ef] at HFBo
        have hbl : (boatsF (f : Int) 0 want).length = want.count (f : Int) := boatsF_len _ _ _
        have HEVC := Lib.hid (fun g hg => HEV.out f g hlt hg); have HBL := Lib.hid hbl; have HCF := Lib.hid hcf
        have HBB := Lib.hid hb
        have hsn : sumC want (f + 1) = sumC want f + want.count (f : Int) := rfl
        have HSN := Lib.hid hsn
        clear ef hbl hcf hb hsn hsl
        generalize want.count (f : Int) = cf at *
        generalize sumC want f = sf at *
        go_wp2_with fail
        refine (HFBo.out _ (own_rd (own_below O4.out HBB.out))).mono ?_
        rintro e w7 ⟨A7, n7, c7, rfl, o7, _, hb7⟩
        simp only at o7
        obtain rfl : cf = n7 := by have h0 : (boatsF (f : Int) 0 want).length = n7 := own_len o7; have h1 := HBL.out; omega
        have H7 := Lib.hid (HBB.out.trans (hb7.mono HBB.out.size))
        have O67 := Lib.hid (own_below O6.out H7.out)
        clear o7 hb7
        go_wp2_with fail
        go_loopw [15] (fun i wr => ∃ g : Nat, g ≤ kn ∧ i = .int .i64 g ∧ Drawn w7 wr) (fun i _ => kn - (intOf i).toNat)
        case atStart => exact ⟨0, Nat.zero_le _, rfl, Drawn.refl _⟩
        case round =>
          obtain ⟨g, hg, rfl, hq⟩ := hrel
          by_cases hltg : g < kn
          · obtain ⟨b, o, x, rfl, hx, _, hcx⟩ := ((own_rd O67.out).drawn hq).int hlt
            obtain ⟨b', o', y, hb', hy, _, hcy⟩ := ((own_rd O67.out).drawn hq).int hltg
            obtain ⟨rfl, rfl⟩ : b = b' ∧ o = o' := by injection hb' with hb'; injection hb' with e1 e2; exact ⟨e1, e2⟩
            obtain rfl : x = (cf : Int) := by rw [HCF.out] at hx; injection hx with hx; exact hx.symm
            obtain rfl : y = (want.count (g : Int) : Nat) := by rw [HCG.out g hltg] at hy; injection hy with hy; exact hy.symm
            have hcg16 : want.count (g : Int) ≤ 16 := by have h1 : want.count (g : Int) ≤ want.length := List.count_le_length; have h2 := HL4.out; omega
            have hev : cf ≤ want.count (g : Int) + 1 := HEVC.out g hltg
            generalize want.count (g : Int) = cg at *
            have HS := Lib.hid (show IntKind.i64.wrap ((cf : Int) - cg) = (cf : Int) - cg from IntWalk.i64_in _ (by omega))
            have hdd : decide (1 < (cf : Int) - cg) = false := by simp; omega
            clear hx hy hb' hev
            go_wp2_with fail
            have hs := HS.out
            go_quiet (fail)
            clear hs
            go_wp2_with fail
            go_roundw
            case rel => exact ⟨g + 1, by omega, by go_num, hq.step _⟩
            case measure => simp [intOf]; omega
          · obtain rfl : g = kn := by omega
            obtain ⟨b, o, x, rfl, hx, _, hcx⟩ := ((own_rd O67.out).drawn hq).int hlt
            obtain rfl : x = (cf : Int) := by rw [HCF.out] at hx; injection hx with hx; exact hx.symm
            clear hx
            go_wp2_with fail
            go_roundw
            case rel => exact ⟨f + 1, by omega, by go_num, by rw [HSN.out]; go_num, H7.out.trans (hq.below.mono H7.out.size)⟩
            case measure => simp [intOf]; omega
      · obtain rfl : f = kn := by omega
        have hsum : sumC want f = n3 := by rw [sumC_all want f HT.out.mem, HT.out.len]; exact HL3.out
        have hisf : isFleetsB want (f : Int) = true := by
          unfold isFleetsB
          rw [HFB.out, Bool.and_true, withinB_iff]; omega
        have HIF := Lib.hid (fun W hr => implIsFleets_any A4 n4 c4 want (f : Int) W hr)
        rw [hisf] at HIF
        rw [hsum]
        clear hsl hsle hisf
        have HBB := Lib.hid hb; clear hb
        go_wp2_with fail
        refine (HIF.out _ (own_rd (own_below O4.out HBB.out))).mono ?_
        rintro e w8 ⟨rfl, rfl⟩
        go_wp2_with fail
        go_ret
        exact ⟨rfl, BB.out.trans (HBB.out.mono BB.out.size)⟩
  · have e4 : snakeF xs k = ([], orderCodeF xs k) := by unfold snakeF; rw [if_neg hz]
    rw [e4]
    generalize orderCodeF xs k = code' at *
    have hne : (code' != 0) = true := by simp [hz]
    clear hz e4
    go_wp2_with fail
    go_ret
    exact ⟨rfl, BB5⟩
end Go.Proofs.Ytoccfbkklponnaa

/- Walks: what FnFleetPoints draws. -/
import Derived.Test.YtdldcjnidajmpaaRy
import Derived.Test.YtdldcjnidajmpaaWib
namespace Go.Proofs.Ytdldcjnidajmpaa
open Go.RowKit
set_option linter.unusedVariables false
set_option maxRecDepth 100000

/-- A race, fleets and their number. -/
def RetFP (w : World) (D : List FinishT × List Int × Int) (e : Ending) (w' : World) : Prop :=
  ∃ A1 m1 c1 A2 m2 c2, e = .returned (.tuple #[.agg #[.slice A1 m1 c1], .slice A2 m2 c2, .int .i64 D.2.2]) ∧ w'.ownsRow w.heap.size 88 3 (.slice A1 m1 c1) m1 (fins D.1) ∧ w'.ownsRow w.heap.size 2 1 (.slice A2 m2 c2) m2 (ints D.2.1) ∧ m2 ≤ 17 ∧ Below w.heap.size w w'
/-- What stands in the last region. -/
structure QSt (w0 w W : World) (A : Option Addr) (n cap : Nat) (code : List Int) (g b0 b1 m c : Nat) (A' : Option Addr) (s : St) (fs : List FinishT) : Prop where
  bx : Box W b0 #[.slice none 0 0] 31
  br : Box W b1 #[.slice A' m c] 31
  ow : W.ownsRow w.heap.size 88 3 (.slice A' m c) m (fins fs)
  sx : Src w0 W A n cap code g s
  be : Below w.heap.size w W
  gl : w.heap.size < g
set_option maxHeartbeats 4000000 in
theorem drawFleetPoints_any (w0 : World) (A : Option Addr) (n cap : Nat) (code : List Int) (hcode : Code0 w0 A n code) (w : World) (hb : Below w0.heap.size w0 w) :
    Calls Try.prog 26 #[.slice A n cap] w (RetFP w (fleetPtsD code)) := by
  have HFR := Lib.hid (fun w' hb => from_any w0 A n cap code hcode w' hb)
  have HNX := Lib.hid (fun g s k hk w' h => next_any w0 A n cap code hcode g s k hk w' h)
  have HK := Lib.hid (fun g w' h => kD_any w0 A n cap code hcode g (fromF code) w' h)
  have hkb := kD_bd code (fromF code)
  unfold fleetPtsD
  generalize kD code (fromF code) = K at *
  obtain ⟨kk, s1⟩ := K
  have HBO := Lib.hid (fun g w' h => boatsD_any w0 A n cap code hcode g s1 w' h)
  have hbb := boatsD_bd code s1
  simp only at hkb ⊢
  generalize boatsD code s1 = B at *
  obtain ⟨nb, s2⟩ := B
  simp only at hbb ⊢
  obtain ⟨k0, k5⟩ := hkb
  obtain ⟨n0, n16⟩ := hbb
  obtain ⟨N, rfl⟩ := int_up nb n0
  rw [Int.toNat_natCast]
  have HAN := Lib.hid (fun g w' h => anyRaceD_any w0 A n cap code hcode g s2 N (by omega) w' h)
  have hrl := anyRaceD_len code N s2
  generalize anyRaceD code N s2 = R at *
  obtain ⟨fs, s3⟩ := R
  simp only at hrl ⊢
  have HN24 := Lib.hid (fun g w' h => HNX.out g s3 24 (by omega) w' h)
  have h24 := nextF_bd code s3 24 (by omega)
  generalize nextF code s3 24 = E at *
  obtain ⟨ev, s4⟩ := E
  simp only at h24 ⊢
  obtain ⟨e0, e23⟩ := h24
  obtain ⟨ev, rfl⟩ := int_up ev e0
  have en : ((N : Int) + (ev : Int) / 23).toNat = N + ev / 23 := by omega
  rw [en]
  clear en
  have HFL := Lib.hid (fun g w' h => fleetsD_any w0 A n cap code hcode g s4 (N + ev / 23) (by omega) kk k0 (by omega) w' h)
  have hfl := fleetsD_len code kk (N + ev / 23) s4
  generalize fleetsD code kk (N + ev / 23) s4 = F at *
  obtain ⟨list, s5⟩ := F
  simp only at hfl ⊢
  have HLL := Lib.hid hfl
  obtain ⟨wa, hwa, XR, hba, hsa⟩ := one_box w #[.slice none 0 0] 31
  have HBW := Lib.hid hb
  have HBA := Lib.hid hba
  have HSA := Lib.hid hsa
  have HXR := Lib.hid XR
  clear hfl hrl hb hba XR hsa hcode HNX
  go_enter Try.func26, Try.ntmps26
  go_wp2_with fail
  rw [← hwa]
  clear hwa
  go_wp2_with fail
  refine (HFR.out _ (HBW.out.trans (HBA.out.mono HBW.out.size))).mono ?_
  rintro e w1 ⟨g, rfl, hs1, hg1, hb1⟩
  have hgw : w.heap.size < g := by have := HSA.out; omega
  have HB1 := Lib.hid (HBA.out.trans (hb1.mono (by have := HSA.out; omega)))
  have HX1 := Lib.hid (HXR.out.below hb1)
  have HS1 := Lib.hid hs1
  clear hs1 hb1 HXR HBA HFR
  go_wp2_with fail
  refine (HK.out _ _ HS1.out).mono ?_
  rintro e w2 ⟨rfl, hs2, hc2⟩
  have HB2 := Lib.hid (below_chg HB1.out hc2 (by omega) HB1.out.size)
  have HX2 := Lib.hid (HX1.out.chg hc2 (by omega))
  have HS2 := Lib.hid hs2
  clear hs2 hc2 HB1 HX1 HS1 HK
  simp only
  go_wp2_with fail
  refine (HBO.out _ _ HS2.out).mono ?_
  rintro e w3 ⟨rfl, hs3, hc3⟩
  have HB3 := Lib.hid (below_chg HB2.out hc3 (by omega) HB2.out.size)
  have HX3 := Lib.hid (HX2.out.chg hc3 (by omega))
  have HS3 := Lib.hid hs3
  clear hs3 hc3 HB2 HX2 HS2 HBO
  simp only
  go_wp2_with fail
  refine (HAN.out _ _ HS3.out).mono ?_
  rintro e w4 ⟨A1, m1, c1, rfl, ho4, hs4, hc4⟩
  have HB4 := Lib.hid (below_chg HB3.out hc4 (by omega) HB3.out.size)
  have HX4 := Lib.hid (HX3.out.chg hc4 (by omega))
  have HS4 := Lib.hid hs4
  have HO4 := Lib.hid (own_base ho4 HB3.out.size)
  have hz3 := HB3.out.size
  have hg3 := HS3.out.lt
  have hg4 := hs4.lt
  have hz4 := HB4.out.size
  have HV4 := Lib.hid (fun b (h : (Value.slice A1 m1 c1).ownBlock = some b) => ho4.lt b h)
  have hz34 := hc4.size
  have hz03 : w.heap.size < w3.heap.size := HX3.out.lt
  clear hs4 hc4 ho4 HB3 HX3 HS3 HAN
  obtain ⟨b1, hb1⟩ : ∃ b, b = w4.heap.size := ⟨_, rfl⟩
  obtain ⟨w5, hw5, X5, hb5, hs5⟩ := one_box w4 #[.slice A1 m1 c1] 31
  have HQ := Lib.hid (show ∀ Z s, Chg g (g + 1) w5.drew Z → Src w0 Z A n cap code g s → QSt w0 w Z A n cap code g w.heap.size b1 m1 c1 A1 s fs ∧ Z.cell? ⟨b1, 0, none⟩ = some (.slice A1 m1 c1) ∧ Z.cell? ⟨w.heap.size, 0, none⟩ = some (.slice none 0 0) ∧ Z.frozen? ⟨w.heap.size, 0, none⟩ = false from fun Z s hc hs => by
    have hc' := (chg_drewN (Chg.refl g (g + 1) w5) 1).trans hc
    have hx := ((HX4.out.below hb5).chg hc' (by omega))
    have hy := X5.chg hc' (by omega)
    rw [← hb1] at hy
    exact ⟨⟨hx, hy, own_chg (own_below HO4.out hb5) hc' (fun b hb => by have := HV4.out b hb; omega), hs, below_chg (HB4.out.trans (hb5.mono HB4.out.size)) hc' (by omega) (by omega), by omega⟩, hy.c1, hx.c1, hx.fz⟩)
  have HS5 := Lib.hid (show Src w0 w5.drew A n cap code g s3 from (HS4.out.below hb5).drewN 1)
  obtain ⟨_, r1, r0, f0⟩ := HQ.out _ _ (Chg.refl _ _ _) HS5.out
  have HFLC := Lib.hid (show ∀ g w', Src w0 w' A n cap code g s4 → Calls Try.prog 80 #[.pointer (some ⟨g, 0, none⟩), .int .i64 (IntKind.i64.wrap ((N : Int) + IntKind.i64.wrap ((ev : Int) / 23))), .int .i64 kk] w' (RetO w0 w' A n cap code g (list, s5)) from fun g w' h => by
    have h2 := HFL.out g w' h
    rwa [show ((N + ev / 23 : Nat) : Int) = IntKind.i64.wrap ((N : Int) + IntKind.i64.wrap ((ev : Int) / 23)) from by rw [IntWalk.i64_in ((ev : Int) / 23) (by omega), IntWalk.i64_in _ (by omega)]; omega] at h2)
  have hq0 : 0 ≤ (ev : Int) / 23 := by omega
  have hq1 : (ev : Int) / 23 ≤ 1 := by omega
  have hxl : w.heap.size < b1 := by rw [hb1]; exact HX4.out.lt
  have hgb : g < b1 := by rw [hb1]; exact hg4
  clear X5 hb5 hs5 HX4 HO4 HB4 HS4 hz3 hz4 hz34 HFL
  go_wp2_with fail
  rw [← hw5, ← hb1]
  clear hw5 hb1
  go_region_with (first | (go_at_call 81; (refine (HN24.out _ _ HS5.out).mono ?_); (rintro e wq ⟨rfl, hsq, hcq⟩); (obtain ⟨hstq, r1q, r0q, f0q⟩ := HQ.out _ _ hcq hsq)) | (go_at_call 80; (refine (HFLC.out _ _ ‹Src w0 _ A n cap code g s4›).mono ?_); (rintro e wq2 ⟨A2, m2, c2, rfl, hol, hsl, hcl⟩); (obtain ⟨hstl, r1l, r0l, f0l⟩ := HQ.out _ _ (Chg.trans ‹Chg g (g + 1) w5.drew _› hcl) hsl)))
  all_goals go_wp2_with fail
  all_goals
    refine bodyPost_ret (v := .tuple #[.agg #[.slice A1 m1 c1], .slice A2 m2 c2, .int .i64 kk]) (by simp [results, Try.results26, go_sem, r0l]) rfl ?_
    have hzq := (‹QSt w0 w wq A n cap code g w.heap.size b1 m1 c1 A1 s4 fs›).be.size
    have hxq := (‹QSt w0 w wq A n cap code g w.heap.size b1 m1 c1 A1 s4 fs›).bx.lt
    have hput := put_chg (g := w.heap.size) [.slice A1 m1 c1] 0 (Chg.refl w.heap.size (w.heap.size + 1) wq2) (Nat.le_refl _) (by omega)
    exact ⟨_, _, _, _, _, _, rfl, own_chg hstl.ow hput (fun b hb => .inr (by have := HV4.out b hb; omega)), own_base (own_chg hol hput (fun b hb => .inr (by have := (hol.lt b hb).1; omega))) hzq, by have h1 := own_len hol; have h2 := HLL.out; omega, hstl.be.setCell (p := ⟨w.heap.size, 0, none⟩) (Nat.le_refl _) _⟩
end Go.Proofs.Ytdldcjnidajmpaa

/- Walks: points of a race in fleets, the program. -/
import Derived.Test.YtdldcjnidajmpaaFt
import Derived.Test.YtdldcjnidajmpaaFu
import Derived.Test.YtdldcjnidajmpaaFw
import Derived.BigRegion
namespace Go.Proofs.Ytdldcjnidajmpaa
open Go.RowKit
set_option linter.unusedVariables false
set_option maxRecDepth 100000

theorem countFv_len (xs out : List Int) : (countF xs out).length = out.length := by
  induction xs generalizing out with
  | nil => rfl
  | cons x r ih => simp [countF, ih]
theorem countF_le (xs : List Int) : ∀ (out : List Int), (∀ y ∈ out, 0 ≤ y ∧ y + xs.length ≤ 16) → ∀ y ∈ countF xs out, 0 ≤ y ∧ y ≤ 16 := by
  induction xs with
  | nil => intro out h y hy; have := h y hy; simp at this; omega
  | cons x r ih =>
    intro out h y hy
    unfold countF at hy
    refine ih _ ?_ y hy
    intro z hz
    simp only [List.length_cons] at h
    rcases List.mem_or_eq_of_mem_set hz with h1 | h1
    · have := h z h1; omega
    · by_cases hp : x.toNat < out.length
      · have hm := h _ (getD_mem (d := 0) hp)
        rw [IntWalk.wrap64_in _ (by omega)] at h1
        omega
      · rw [List.set_eq_of_length_le (by omega)] at hz
        have := h z hz
        omega
theorem sizes_le {xs : List Int} {k : Int} (h : fleetsB xs k = true) (kn : Nat) : ∀ y ∈ countF xs (List.replicate kn 0), y ≤ 16 := by
  intro y hy
  have := fleetsB_len h
  exact (countF_le xs _ (fun z hz => by obtain ⟨_, rfl⟩ := List.mem_replicate.1 hz; omega) y hy).2
theorem put_chg1 (w : World) (g i : Nat) (v : Value) : Chg g (g + 1) w (w.setCell ⟨g, i, none⟩ v) :=
  Chg.of_grown (row := some g) (grown_set ⟨rfl, rfl, rfl, Nat.le_refl _, fun _ _ _ => rfl⟩ i v) (fun k e => by injection e with e; omega)
theorem fin_getD {fs : List FinishT} {y : Nat} (h : y < fs.length) : fs[y]? = some (fs.getD y (0, 0, 0)) := by
  rw [List.getD_eq_getElem?_getD, List.getElem?_eq_getElem h]; rfl
set_option maxHeartbeats 8000000 in
theorem implFleetPoints_any (A : Option Addr) (n c : Nat) (fs : List FinishT) (B : Option Addr) (m d : Nat) (list : List Int) (k : Int) (w : World) (h : Rd w 3 A n (fins fs)) (hl : Rd w 1 B m (ints list)) :
    Calls Try.prog 19 #[.agg #[.slice A n c], .slice B m d, .int .i64 k] w (RetI w (fleetPointsL fs list k)) := by
  have HC := Lib.hid (fun w' (hb : Below w.heap.size w w') => fleetsCode_any B m d list k w' (hl.below hb))
  have HR := Lib.hid (fun w' (hb : Below w.heap.size w w') => implIsRace_any (m : Int) A n c fs w' (h.below hb))
  have HN := Lib.hid h.len_fin
  have HM := Lib.hid hl.len_int
  have hmle := hl.le
  have hnle := h.le
  obtain ⟨w1, hw1, X0, hb1, hs1⟩ := one_box w #[.slice A n c] 31
  by_cases hz : fleetsCodeF list k = 0
  rotate_left
  · have e1 : fleetPointsL fs list k = ([], fleetsCodeF list k) := by unfold fleetPointsL; rw [if_neg hz]
    rw [e1]; clear e1
    generalize fleetsCodeF list k = code at *
    have hne : (code != 0) = true := by simp [hz]
    clear hz
    go_enter Try.func19, Try.ntmps19
    go_wp2_with fail
    rw [← hw1]
    clear hw1
    refine (HC.out _ hb1).mono ?_
    rintro e w2 ⟨rfl, rfl⟩
    go_wp2_with fail
    go_ret2
    exact RetI.nil _ _ _ hb1
  obtain ⟨hk1, hk4, hfl⟩ := fleetsCode_ok hz
  have HOK := Lib.hid hfl
  have hlen := fleetsB_len hfl
  clear hfl
  rw [HM.out] at hlen
  by_cases hr : raceB (list.length : Int) fs = true
  rotate_left
  · have e1 : fleetPointsL fs list k = ([], 5) := by unfold fleetPointsL; rw [if_pos hz, if_neg hr]
    rw [e1]; clear e1
    rw [hz] at HC
    rw [← HM.out] at HR
    simp only [Bool.not_eq_true] at hr
    rw [hr] at HR
    clear hr hz
    rw [HM.out] at HR
    go_enter Try.func19, Try.ntmps19
    go_wp2_with fail
    rw [← hw1]
    clear hw1
    refine (HC.out _ hb1).mono ?_
    rintro e w2 ⟨rfl, rfl⟩
    have F0 := X0.l1
    go_wp2_with fail
    refine (HR.out _ hb1).mono ?_
    rintro e w2 ⟨rfl, hb2⟩
    have HB2 := Lib.hid (hb1.trans (hb2.mono hb1.size))
    clear hb1 hb2 X0 F0 hs1
    go_wp2_with fail
    go_ret2
    exact RetI.nil _ _ _ HB2.out
  obtain ⟨kn, rfl⟩ : ∃ kn : Nat, k = kn := ⟨k.toNat, by omega⟩
  have hkn : kn ≤ 4 := by omega
  have HSZ := Lib.hid (fun w' (hb : Below w.heap.size w w') => fleetSizes_any B m d kn list hkn HOK.out w' (hl.below hb))
  have HBT := Lib.hid (fun (fl : Int) w' (hb : Below w.heap.size w w') => fleetBoats_any B m d list fl (by omega) w' (hl.below hb))
  have HLL := Lib.hid (largest_le (sizes_le HOK.out kn))
  have HCL := Lib.hid (show (countF list (List.replicate kn 0)).length = kn from by rw [countFv_len]; simp)
  have e1 : fleetPointsL fs list kn = (pointsL (largestF (countF list (List.replicate kn 0))) fs list, 0) := by unfold fleetPointsL; rw [if_pos hz, if_pos hr]; simp
  rw [e1]; clear e1
  have OKR := Lib.hid (raceB_ok hr)
  rw [hz] at HC
  rw [← HM.out, hr, HM.out] at HR
  generalize countF list (List.replicate kn 0) = sizes at *
  have HEQ := Lib.hid (show fs.length = list.length from by have := OKR.out.len; omega)
  have HNM := Lib.hid (show n = m from by rw [← HN.out, ← HM.out]; exact HEQ.out)
  have HRD := Lib.hid (fun w' (hb : Below w.heap.size w w') => h.below hb)
  clear hz hr h hl
  have hmk := fun w => run_make_i64 m (by omega) w
  go_enter Try.func19, Try.ntmps19
  go_wp2_with fail
  rw [← hw1]
  clear hw1
  refine (HC.out _ hb1).mono ?_
  rintro e w2 ⟨rfl, rfl⟩
  have F0 := X0.l1
  go_wp2_with fail
  refine (HR.out _ hb1).mono ?_
  rintro e w2 ⟨rfl, hb2⟩
  have HB2 := Lib.hid (hb1.trans (hb2.mono hb1.size))
  have X2 := X0.below hb2
  have hs2 : w.heap.size < w2.heap.size := by have := hb2.size; omega
  clear hb1 hb2 X0 F0 hs1 HC HR
  have hown := own_made w2 w.heap.size 2 m (.int .i64 0) (by omega) (by omega)
  rw [← ints_replicate] at hown
  have hbo : Below w2.heap.size w2 (w2.alloc (.cells (madeCells #[.int .i64 0] m) 2)) := (Below.refl _ _).alloc (Nat.le_refl _) _
  have hso : (w2.alloc (.cells (madeCells #[.int .i64 0] m) 2)).heap.size = w2.heap.size + 1 := by simp
  go_wp2_with fail
  generalize w2.alloc (.cells (madeCells #[.int .i64 0] m) 2) = w3 at *
  have HB3 := Lib.hid (HB2.out.trans (hbo.mono HB2.out.size))
  have HO3 := Lib.hid hown
  have X3 := X2.below hbo
  have HS3 := Lib.hid hso
  clear hbo hso hown X2 hmk
  refine (HSZ.out _ HB3.out).mono ?_
  rintro e w4 ⟨Z, z, cz, rfl, hoz, hzz, hb4⟩
  have HZL := Lib.hid (show sizes.length = z from own_len hoz)
  have HZ := Lib.hid hoz
  have HB4 := Lib.hid (HB3.out.trans (hb4.mono HB3.out.size))
  have HO4 := Lib.hid (own_below HO3.out hb4)
  have X4 := X3.below hb4
  have HS4 := Lib.hid (show w2.heap.size < w4.heap.size from by have := hb4.size; have := HS3.out; omega)
  clear hoz hb4 HO3 X3 HS3 HSZ HB3 HB2
  go_wp2_with fail
  go_loopw [10, 40] (fun v i wr => ∃ j : Nat, j ≤ z ∧ i = .int .i64 j ∧ v = .int .i64 (largestF (sizes.take j)) ∧ wr = w4) (fun _ i _ => z - (intOf i).toNat)
  case atStart => exact ⟨0, Nat.zero_le _, rfl, by simp [largestF], rfl⟩
  case round =>
    obtain ⟨j, hj, rfl, rfl, hwr⟩ := hrel
    replace hwr := hwr.symm
    subst hwr
    by_cases hjz : j < z
    · obtain ⟨g, x, rfl, hg1, hg2, hx, hc, hf⟩ := own_int_at HZ.out hjz
      have HX := Lib.hid hx
      clear hx
      go_wp2_with fail
      go_roundw
      case rel => exact ⟨j + 1, by omega, by go_num, by rw [take_snoc_get HX.out, largest_snoc]; congr 1; split <;> omega, trivial⟩
      case measure => simp [intOf] <;> omega
    · obtain rfl : j = z := by omega
      have HL := Lib.hid (show largestF (sizes.take j) = largestF sizes from by rw [List.take_of_length_le (by rw [HZL.out]; exact Nat.le_refl _)])
      rw [HL.out]
      clear HL HZ
      have hLL := HLL.out
      generalize largestF sizes = L at *
      go_wp2_with fail
      clear HZL hj HCL
      go_loopw [49] (fun i wr => ∃ f : Nat, f ≤ kn ∧ i = .int .i64 f ∧ Hid (wr.ownsRow w.heap.size 2 1 (.slice (some ⟨w2.heap.size, 0, none⟩) m m) m (ints (partG L fs list f []))) ∧ Hid (Box wr w.heap.size #[.slice A n c] 31) ∧ Hid (Below w.heap.size w wr) ∧ Hid (w2.heap.size < wr.heap.size)) (fun i _ => kn - (intOf i).toNat)
      case atStart => exact ⟨0, Nat.zero_le _, rfl, Lib.hid (by rw [show ((0 : Nat) : Int) = 0 from rfl, partG_zero L fs (fun x hx => by obtain ⟨i, hi, he⟩ := List.mem_iff_getElem.1 hx; obtain ⟨q, hq, _⟩ := fleetsB_mem HOK.out (i := i) (x := x) (by rw [List.getElem?_eq_getElem hi, he]); omega), HM.out]; exact HO4.out), Lib.hid X4, HB4, HS4⟩
      case round =>
        clear HO4 X4 HB4 HS4
        obtain ⟨f, hf, rfl, HO, HX, HB, HS⟩ := hrel
        obtain ⟨w5, hw5⟩ : ∃ w5 : World, w5 = wr := ⟨_, rfl⟩
        subst hw5
        by_cases hfk : f < kn
        · obtain ⟨bs, hbs⟩ : ∃ bs, bs = boatsF f 0 list := ⟨_, rfl⟩
          have HBS := Lib.hid hbs.symm
          have hbt := HBT.out f _ HB.out
          rw [HBS.out] at hbt
          have hbl : bs.length ≤ 16 := by rw [hbs]; have := boatsF_len f list 0; have := HM.out; omega
          have hba : ∀ (t : Nat) (y : Int), bs[t]? = some y → ∃ q : Nat, y = (q : Int) ∧ q < m ∧ fs[q]? = some (fs.getD q (0, 0, 0)) ∧ ptF L fs list q = pointF L (ofFleet f fs list) (fs.getD q (0, 0, 0)) ∧ (ofFleet f fs list)[t]? = some (fs.getD q (0, 0, 0)) := by
            intro t y hy
            rw [hbs] at hy
            obtain ⟨q, rfl, h1, h2⟩ := boatsF_at hy
            rw [HM.out] at h1
            exact ⟨q, rfl, h1, fin_getD (by rw [HN.out, HNM.out]; exact h1), ptF_at h2, ofFleet_at HEQ.out hy⟩
          have hfe : bs.map (fun y => fs.getD y.toNat (0, 0, 0)) = ofFleet f fs list := by rw [hbs]; exact boats_fins f HEQ.out
          have hpn : partG L fs list f bs = partG L fs list (f + 1 : Nat) [] := by rw [hbs, partG_next]; rfl
          have HBA := Lib.hid hba
          have HFE := Lib.hid hfe
          have HPN := Lib.hid hpn
          have HBL := Lib.hid hbl
          clear hbs hba hfe hpn hbl
          generalize ofFleet f fs list = sl at *
          clear HBS
          go_wp2_with fail
          refine hbt.mono ?_
          rintro e w6 ⟨Bb, nb, cb, rfl, hob, hbz, hb6⟩
          have HNB := Lib.hid (show bs.length = nb from own_len hob)
          have HBS6 := Lib.hid hob
          have HB6 := Lib.hid (HB.out.trans (hb6.mono HB.out.size))
          have HO6 := Lib.hid (own_below HO.out hb6)
          have HX6 := Lib.hid (HX.out.below hb6)
          have HS6 := Lib.hid (Nat.lt_of_lt_of_le HS.out hb6.size); have HS5 := HS
          have HW6 := Lib.hid hb6.size
          have HSL := Lib.hid (show sl.length = nb from by rw [← HFE.out, List.length_map, HNB.out])
          have hnb : nb ≤ 16 := by rw [← HNB.out]; exact HBL.out
          have HCO := Lib.hid (HRD.out _ HB6.out)
          clear hob hb6 hbt HO HX HS HB HFE
          have hoe := own_empty w6 w6.heap.size 88 (Nat.le_refl _)
          have hbe : Below w6.heap.size w6 (w6.alloc (.cells #[] 88)) := (Below.refl _ _).alloc (Nat.le_refl _) _
          have hoe3 : (w6.alloc (.cells #[] 88)).ownsRow w6.heap.size 88 3 (.slice (some ⟨w6.heap.size, 0, none⟩) 0 0) 0 (fins (sl.take 0)) := by
            have := World.ownsRow_lit (base := w6.heap.size) (e := 88) (size := 3) w6 #[] 0 (Nat.le_refl _) (by unfold maxLen; omega) (by simp)
            simpa [fins] using this
          clear hoe
          go_wp2_with fail
          go_loopw [15, 58] (fun s i wr => ∃ (t c' : Nat) (A' : Option Addr), t ≤ nb ∧ i = .int .i64 t ∧ s = .slice A' t c' ∧ Hid (wr.ownsRow w6.heap.size 88 3 (.slice A' t c') t (fins (sl.take t))) ∧ Hid (Below w6.heap.size w6 wr)) (fun _ i _ => nb - (intOf i).toNat)
          case atStart => exact ⟨0, _, _, Nat.zero_le _, rfl, rfl, Lib.hid hoe3, Lib.hid hbe⟩
          case round =>
            clear hoe3 hbe
            obtain ⟨t, c', A', ht, rfl, rfl, HSW, HBW⟩ := hrel
            obtain ⟨w7, hw7⟩ : ∃ w7 : World, w7 = wr := ⟨_, rfl⟩
            subst hw7
            have HBS7 := Lib.hid (own_below HBS6.out HBW.out)
            have F0 := (HX6.out.below HBW.out).l1
            have hsw := HBW.out.size
            by_cases htn : t < nb
            · obtain ⟨g, y, rfl, hg1, hg2, hy, hyc, hyf⟩ := own_int_at HBS7.out htn
              obtain ⟨q, rfl, hqm, hqf, _, hqs⟩ := HBA.out t y hy
              obtain ⟨b, o, x0, x1, x2, hbo, hx, _, hc0, hc1, hc2⟩ := (HRD.out w7 (HB6.out.trans (HBW.out.mono HB6.out.size))).fin (k := q) (by rw [HNM.out]; exact hqm)
              subst hbo
              have hgd : fs.getD q (0, 0, 0) = (x0, x1, x2) := by rw [hx] at hqf; injection hqf with hqf; exact hqf.symm
              have HSN := Lib.hid (show sl.take (t + 1) = sl.take t ++ [(x0, x1, x2)] from by rw [← hgd]; exact take_snoc_get hqs)
              have hqn : q < n := by rw [HNM.out]; exact hqm
              clear hy hqf hqs hx hgd hqm
              go_wp2_with (at_builtin; refine app_fin (x0 := x0) (x1 := x1) (x2 := x2) _ rfl _ _ rfl rfl (own_below HSW.out ((Below.refl _ _).alloc (Nat.le_refl _) _)) rfl ?cC (by omega) ?cB ?_; rotate_left 2; intro g1 c1 wn hown1 hgr1 hg1' hgl1)
              · have HON := Lib.hid hown1
                have HBN := Lib.hid (show Below w6.heap.size w6 wn from (HBW.out.alloc hsw _).grown hgr1 (by simp; omega) (fun k hk => (HSW.out.lt k hk).1))
                clear hown1 hgr1 hg1'
                go_roundw
                case rel => exact ⟨t + 1, _, _, by omega, by go_num, rfl, Lib.hid (by rw [HSN.out]; exact HON.out), HBN⟩
                case measure => simp [intOf] <;> omega
              · exact Box.new _ _ _
              · simp; omega
            · obtain rfl : t = nb := by omega
              have HTK := Lib.hid (show sl.take t = sl from List.take_of_length_le (by rw [HSL.out]; exact Nat.le_refl _))
              rw [HTK.out] at HSW
              clear HTK
              have hrd := own_rd HSW.out
              go_wp2_with fail
              refine (placesOf_any _ _ _ sl hnb _ hrd).mono ?_
              rintro e w8 ⟨P1, p2, c1, P2, c2, rfl, hop, hos, hb8⟩
              clear hrd F0
              have hp1 : sl.length = p2 := by have := own_len hop; simpa using this
              have hpe : p2 = t := by rw [← hp1]; exact HSL.out
              subst hpe
              clear hp1
              have HB67 := Lib.hid (HBW.out.trans (hb8.mono hsw))
              have HB8 := Lib.hid (HB6.out.trans (HB67.out.mono HB6.out.size))
              have HBS8 := Lib.hid (own_below HBS6.out HB67.out)
              have HO8 := Lib.hid (own_below HO6.out HB67.out)
              have HX8 := Lib.hid (HX6.out.below HB67.out)
              have HSW8 := Lib.hid (own_below HSW.out hb8)
              have HP8 := Lib.hid hop
              have HQ8 := Lib.hid hos
              have HS8 := Lib.hid (show w2.heap.size < w8.heap.size from Nat.lt_of_lt_of_le HS6.out HB67.out.size)
              have HS56 := Lib.hid (show w2.heap.size < w5.heap.size from by have := HW6.out; have := HS5.out; omega)
              have HS57 := Lib.hid (show w2.heap.size < w7.heap.size from by have := HW6.out; have := HS5.out; omega)
              clear hop hos hb8 hsw HBS7 HSW HBW HBS6 HO6 HX6 HB67 HB6 HCO
              go_wp2_with fail
              go_loopw [78] (fun i wr => ∃ u : Nat, u ≤ p2 ∧ i = .int .i64 u ∧ Hid (wr.ownsRow w.heap.size 2 1 (.slice (some ⟨w2.heap.size, 0, none⟩) m m) m (ints (partG L fs list f (bs.take u)))) ∧ Hid (Chg w2.heap.size (w2.heap.size + 1) w8 wr)) (fun i _ => p2 - (intOf i).toNat)
              case atStart => exact ⟨0, Nat.zero_le _, rfl, HO8, Lib.hid (Chg.refl _ _ _)⟩
              case round =>
                clear HO8
                obtain ⟨u, hu, rfl, HO9, HC9⟩ := hrel
                obtain ⟨w9, hw9⟩ : ∃ w9 : World, w9 = wr := ⟨_, rfl⟩
                subst hw9
                by_cases hup : u < p2
                · have hbs9 := own_chg HBS8.out HC9.out (fun b hb => .inr (by have := (HBS8.out.lt b hb).1; have := HS56.out; omega))
                  have hsw9 := own_chg HSW8.out HC9.out (fun b hb => .inr (by have := (HSW8.out.lt b hb).1; have := HS6.out; omega))
                  have hp9 := own_chg HP8.out HC9.out (fun b hb => .inr (by have := (HP8.out.lt b hb).1; have := HS57.out; omega))
                  have hq9 := own_chg HQ8.out HC9.out (fun b hb => .inr (by have := (HQ8.out.lt b hb).1; have := HS57.out; omega))
                  obtain ⟨g1, y, rfl, hg11, hg12, hy, hyc, hyf⟩ := own_int_at hbs9 hup
                  obtain ⟨q, rfl, hqm, hqf, hqp, hqs⟩ := HBA.out u y hy
                  have HY := Lib.hid hy
                  obtain ⟨g2, x0, x1, x2, rfl, hg21, hg22, hx, _, hc0, hc1, hc2, hcf⟩ := own_fin_at hsw9 hup
                  have hgd : fs.getD q (0, 0, 0) = (x0, x1, x2) := by rw [hx] at hqs; injection hqs with hqs; exact hqs.symm
                  rw [hgd] at hqp
                  obtain ⟨g3, pl, rfl, hg31, hg32, hpl, hplc, hplf⟩ := own_int_at hp9 hup
                  obtain ⟨g4, sh, rfl, hg41, hg42, hsh, hshc, hshf⟩ := own_int_at hq9 hup
                  rw [List.getElem?_map, hx] at hpl hsh
                  injection hpl with hpl
                  injection hsh with hsh
                  obtain ⟨g5, zz, hg5, hg51, hg52, hzz, hzc, hzf⟩ := own_int_at HO9.out hqm
                  obtain rfl : w2.heap.size = g5 := by injection hg5 with hg5; injection hg5
                  have HPT := Lib.hid hqp
                  have HC8 := Lib.hid HC9.out.size
                  clear hg5 hy hqf hqs hqp hx hgd hzz hbs9 hsw9 hp9 hq9
                  have HSN := Lib.hid (show bs.take (u + 1) = bs.take u ++ [(q : Int)] from take_snoc_get HY.out)
                  by_cases e1 : x1 = 0
                  · subst e1
                    have hb1 := ltN_le x2 sl
                    have hb2 := eqN_le x2 sl
                    have hv : ptF L fs list q = 5 * (2 * (1 + (ltN x2 sl : Int)) + eqN x2 sl - 1) := by rw [HPT.out]; unfold pointF; rw [if_pos rfl]
                    rw [HSL.out] at hb1 hb2
                    simp only [placeF, if_pos] at hpl hsh
                    subst hpl
                    subst hsh
                    have HV := Lib.hid hv
                    clear hv
                    generalize ltN x2 sl = ln at *
                    generalize eqN x2 sl = en at *
                    go_wp2_with fail
                    go_region
                    go_wp2_with fail
                    go_roundw
                    case rel => exact ⟨u + 1, by omega, by go_num, Lib.hid (by rw [HSN.out, ← partG_set, HV.out]; exact own_drewN (own_set HO9.out _) 1), Lib.hid (HC9.out.trans ((put_chg1 _ _ _ _).trans (Chg.of_below (below_drewN (Below.refl _ _) 1))))⟩
                    case measure => simp [intOf] <;> omega
                  · have e0 : (x1 == 0) = false := by simp [e1]
                    clear hpl hsh hplc hshc
                    by_cases e9 : x1 = 9
                    · subst e9
                      have hv : ptF L fs list q = 0 := by rw [HPT.out]; rfl
                      have HV := Lib.hid hv
                      clear hv
                      go_wp2_with fail
                      go_roundw
                      case rel => exact ⟨u + 1, by omega, by go_num, Lib.hid (by rw [HSN.out, ← partG_skip HV.out]; exact HO9.out), HC9⟩
                      case measure => simp [intOf] <;> omega
                    · have e2 : (x1 != 9) = true := by simp [e9]
                      have hv : ptF L fs list q = 10 * (L + 1) := by rw [HPT.out]; unfold pointF; rw [if_neg e1, if_neg e9]
                      have HV := Lib.hid hv
                      clear hv
                      go_wp2_with fail
                      go_roundw
                      case rel => exact ⟨u + 1, by omega, by go_num, Lib.hid (by rw [HSN.out, ← partG_set, HV.out]; exact own_set HO9.out _), Lib.hid (HC9.out.trans (put_chg1 _ _ _ _))⟩
                      case measure => simp [intOf] <;> omega
                · obtain rfl : u = p2 := by omega
                  have HTB := Lib.hid (show bs.take u = bs from List.take_of_length_le (by rw [HNB.out]; exact Nat.le_refl _))
                  rw [HTB.out, HPN.out] at HO9
                  have HB9 := Lib.hid (below_chg HB8.out HC9.out (by omega) (by have := HS8.out; omega))
                  have HX9 := Lib.hid (HX8.out.chg HC9.out (by omega))
                  have HSS := Lib.hid (Nat.lt_of_lt_of_le HS8.out HC9.out.size)
                  go_wp2_with fail
                  go_roundw
                  case rel => exact ⟨f + 1, by omega, by go_num, HO9, HX9, HB9, HSS⟩
                  case measure => simp [intOf] <;> omega
        · obtain rfl : f = kn := by omega
          have HPE := Lib.hid (show partG L fs list f [] = pointsL L fs list from partG_end L fs (fun x hx => by obtain ⟨i, hi, he⟩ := List.mem_iff_getElem.1 hx; obtain ⟨q, hq, hq2⟩ := fleetsB_mem HOK.out (i := i) (x := x) (by rw [List.getElem?_eq_getElem hi, he]); omega))
          go_wp2_with fail
          go_ret2
          exact ⟨_, _, _, rfl, by rw [← HPE.out]; exact HO.out, by omega, HB.out⟩
end Go.Proofs.Ytdldcjnidajmpaa

/- Walks: histories (chapter 33), the spec. -/
import Derived.Test.YtnpldahkhaacnaaGreatDoorJa
namespace Go.Proofs.YtnpldahkhaacnaaGreatDoor
open Go.RowKit Go.Sort
set_option linter.unusedVariables false
set_option maxRecDepth 100000

theorem Rd.dropE {w : World} {b o n : Nat} {xs : List EntryT} (h : Rd w 7 (some ⟨b, o, none⟩) n (ents xs)) (k : Nat) (hk : k ≤ n) : Rd w 7 (some ⟨b, o + k * 7, none⟩) (n - k) (ents (xs.drop k)) := by
  have hl := h.len_ent
  have hle := h.le
  have he : ents xs = ents (xs.take k) ++ ents (xs.drop k) := by unfold ents; rw [← List.flatMap_append, List.take_append_drop]
  have ht : (ents (xs.take k)).length = k * 7 := by unfold ents; rw [flat_len entC_len, List.length_take, Nat.min_eq_left (by omega)]
  refine ⟨by unfold ents; rw [flat_len entC_len, List.length_drop, hl], by omega, fun hn => ⟨b, o + k * 7, rfl, fun i u hu => ?_⟩⟩
  obtain ⟨b', o', e, hc⟩ := h.pos (by omega)
  injection e with e
  injection e with e1 e2
  subst e1 e2
  have := hc (k * 7 + i) u (by rw [he, List.getElem?_append_right (by omega), ht, Nat.add_sub_cancel_left]; exact hu)
  rwa [← Nat.add_assoc] at this
theorem rd_zeroE (w : World) (A : Option Addr) (xs : List EntryT) (h : xs = []) : Rd w 7 A 0 (ents xs) := by
  subst h
  exact ⟨rfl, by omega, fun h => by omega⟩
set_option maxHeartbeats 8000000 in
theorem specHistory_any (b s race boat : Int) (A : Option Addr) (n c : Nat) (xs : List EntryT) (w : World) (hr : RegRd w A n c xs) (hlen : n ≤ 400) (hok : ∀ x ∈ xs, okE x) (hkey : xs.Pairwise fun x y => sameB x y = false) :
    Calls Tryz.prog 235 #[.agg #[.int .i64 b, .int .i64 s, .slice A n c], .int .i64 race, .int .i64 boat] w (RetEntryS w (histF xs race boat)) := by
  obtain ⟨h, hcp⟩ := hr
  have HN := Lib.hid h.len_ent
  obtain ⟨w1, hw1, X0, hb1, hs1⟩ := one_box w #[.int .i64 b, .int .i64 s, .slice A n c] 32
  have HB1 := Lib.hid hb1
  have HX1 := Lib.hid X0
  have HRD := Lib.hid (fun w' (hb : Below w1.heap.size w1 w') => (h.below hb1).below hb)
  have HOK := Lib.hid hok
  have HKEY := Lib.hid hkey
  clear h hb1 X0 hok hkey
  have hoe : (w1.alloc (.cells #[] 25)).ownsRow w1.heap.size 25 7 (.slice (some ⟨w1.heap.size, 0, none⟩) 0 0) 0 (ents []) := own_emptyE w1 w1.heap.size 25 7 (Nat.le_refl _)
  have hbe : Below w1.heap.size w1 (w1.alloc (.cells #[] 25)) := (Below.refl _ _).alloc (Nat.le_refl _) _
  go_enter Tryz.func235, Tryz.ntmps235
  have F0 := HX1.out.f3
  go_wp2_with fail
  rw [← hw1]
  clear hw1
  go_wp2_with fail
  go_loopw [7, 8] (fun s i wr => ∃ (k m c' g : Nat) (out : List EntryT), k ≤ n ∧ m ≤ k ∧ i = .int .i64 k ∧ s = .slice (some ⟨g, 0, none⟩) m c' ∧ Hid (Ins xs race boat k out) ∧ Hid (wr.ownsRow w1.heap.size 25 7 (.slice (some ⟨g, 0, none⟩) m c') m (ents out)) ∧ Hid (Below w1.heap.size w1 wr)) (fun _ i _ => n - (intOf i).toNat)
  case atStart => exact ⟨0, 0, _, _, [], Nat.zero_le _, Nat.zero_le _, rfl, rfl, Lib.hid (Ins.zero _ _ _), Lib.hid (by simpa only [hs1] using hoe), Lib.hid hbe⟩
  case round =>
    clear hoe hbe F0
    obtain ⟨k, m, c', g, out, hk, hmk, rfl, rfl, HI, HO, HB⟩ := hrel
    obtain ⟨wo, hwo⟩ : ∃ wo : World, wo = wr := ⟨_, rfl⟩
    subst hwo
    have F0 := (HX1.out.below HB.out).f3
    have hsw := HB.out.size
    have HLO := Lib.hid (own_len_flat entC_len (by decide) HO.out)
    have hmc := own_capE HO.out
    by_cases hlt : k < n
    · obtain ⟨b1, o1, y0, y1, y2, y3, y4, y5, y6, rfl, hx, hd, hc0, hc1, hc2, hc3, hc4, hc5, hc6⟩ := (HRD.out _ HB.out).ent hlt
      have HX := Lib.hid hx
      clear hx hd
      by_cases e0 : y0 = race
      rotate_left
      · have h0 : (y0 != race) = true := by simp [e0]
        have HIS := Lib.hid (HI.out.skip HX.out (by simp [E.race, E.boat, e0]))
        go_wp2_with fail
        go_roundw
        case rel => exact ⟨k + 1, m, _, _, out, by omega, by omega, by go_num, rfl, HIS, Lib.hid (own_below HO.out ((Below.refl _ _).alloc (Nat.le_refl _) _)), Lib.hid (HB.out.alloc hsw _)⟩
        case measure => simp [intOf] <;> omega
      · have h0 : (y0 != race) = false := by simp [e0]
        by_cases e1 : y1 = boat
        rotate_left
        · have h1 : (y1 != boat) = true := by simp [e1]
          have HIS := Lib.hid (HI.out.skip HX.out (by simp [E.race, E.boat, e1]))
          go_wp2_with fail
          go_roundw
          case rel => exact ⟨k + 1, m, _, _, out, by omega, by omega, by go_num, rfl, HIS, Lib.hid (own_below HO.out ((Below.refl _ _).alloc (Nat.le_refl _) _)), Lib.hid (HB.out.alloc hsw _)⟩
          case measure => simp [intOf] <;> omega
        · have h1 : (y1 != boat) = false := by simp [e1]
          have HE0 := Lib.hid e0
          have HE1 := Lib.hid e1
          clear e0 e1
          obtain ⟨wa, hwa, XA, hba, hsa⟩ := one_box wo #[.int .i64 y0, .int .i64 y1, .int .i64 y2, .int .i64 y3, .int .i64 y4, .int .i64 y5, .int .i64 y6] 25
          have HBA := Lib.hid (HB.out.trans (hba.mono hsw))
          have HOA := Lib.hid (own_below HO.out hba)
          have HXA := Lib.hid XA
          have HSA := Lib.hid (show w1.heap.size ≤ wa.heap.size ∧ wo.heap.size < wa.heap.size from by omega)
          clear hba XA
          go_wp2_with fail
          rw [← hwa]
          clear hwa F0 hc0 hc1 hc2 hc3 hc4 hc5 hc6 hsa
          go_loopw [10] (fun i wr => ∃ t : Nat, t ≤ m ∧ i = .int .i64 t ∧ Hid (∀ z ∈ out.drop t, y2 < E.rev z) ∧ Hid (Below wa.heap.size wa wr)) (fun i _ => (intOf i).toNat)
          case atStart => exact ⟨m, Nat.le_refl _, rfl, Lib.hid (by rw [List.drop_eq_nil_of_le (by rw [HLO.out]; exact Nat.le_refl _)]; intro z hz; cases hz), Lib.hid (Below.refl _ _)⟩
          case round =>
            obtain ⟨t, ht, rfl, HG, HBI⟩ := hrel
            obtain ⟨wi, hwi⟩ : ∃ wi : World, wi = wr := ⟨_, rfl⟩
            subst hwi
            have HXI := Lib.hid (HXA.out.below HBI.out)
            have HOI := Lib.hid (own_below HOA.out HBI.out)
            go_wp2_with fail
            by_cases ht0 : t = 0
            · have HLE := Lib.hid (show ∀ y, 0 < t → out[t - 1]? = some y → E.rev y ≤ y2 from fun y h0 => absurd h0 (by omega))
              have ht00 : decide (0 < t) = false := by simp [ht0]
              have HT0 := Lib.hid ht0
              clear ht0
              have kq0 := cell_regrown (HXI.out.cell (i := 2) rfl)
              refine wp_region_quiet_below (by kernel_rfl) (by kernel_rfl) ?_
              repeat (first | go_big_quiet_step ((fail)) | quiet_step ((fail)))
              refine wpQuiet_nil ?_
              intro _ hw'
              obtain ⟨⟨dq, osq⟩, hw''⟩ := hw'
              subst hw''
              obtain ⟨wq, hq0, hq⟩ : ∃ wnew, wnew = grow (redrawn wi dq) osq ∧ Below wi.heap.size wi wnew := ⟨_, rfl, below_regrown _ _ _⟩
              rw [← hq0]
              clear hq0 kq0
              have HBQ := Lib.hid (HBI.out.trans (hq.mono HBI.out.size))
              have HXQ := Lib.hid (HXI.out.below hq)
              have HOQ := Lib.hid (own_below HOI.out hq)
              clear hq HXI HOI
              by_cases hct : c' = t
              · have HMT := Lib.hid (show m = t by omega)
                have HRQ := Lib.hid (own_rd HOQ.out)
                have HIN := Lib.hid (HI.out.put HKEY.out HX.out HE0.out HE1.out (by rw [HLO.out]; exact ht) HG.out HLE.out)
                have hsq := HBQ.out.size
                have hsa := HSA.out
                have HSZ := Lib.hid (show w1.heap.size ≤ wq.heap.size from by omega)
                obtain ⟨we, hwe⟩ : ∃ we : World, we = wq.alloc (.cells #[] 25) := ⟨_, rfl⟩
                have hoe := own_emptyE wq wq.heap.size 25 7 (Nat.le_refl _)
                rw [← hwe] at hoe
                have hbe : Below wq.heap.size wq we := by rw [hwe]; exact (Below.refl _ _).alloc (Nat.le_refl _) _
                have hse : we.heap.size = wq.heap.size + 1 := by rw [hwe]; simp
                have HOE := Lib.hid hoe; have HBE := Lib.hid hbe; have HWE := Lib.hid hwe
                clear hoe hbe hwe
                have htc : t ≤ c' := by omega
                have hrt := (HRQ.out.takeE t ht).below HBE.out
                have hlq := cell_lt (HXQ.out.cell (i := 0) rfl)
                go_wp2_with (first | (rw [← HWE.out]; at_builtin; refine apps_ent _ rfl _ _ rfl (xs := []) (base := wq.heap.size) rfl HOE.out rfl hrt (by omega) (by omega) ?_; intro g3 c3 w3 ho3 hg3; simp only [Nat.zero_add, List.nil_append] at ho3 ⊢; have HB3 := Lib.hid (HBE.out.grown hg3 (by omega) (fun k hk => by injection hk with hk; omega)); have F1 := (HXQ.out.below HB3.out).f7) | (at_builtin; refine app_ent (x0 := y0) (x1 := y1) (x2 := y2) (x3 := y3) (x4 := y4) (x5 := y5) (x6 := y6) _ rfl _ _ rfl rfl (own_below ho3 ((Below.refl _ _).alloc (Nat.le_refl _) _)) rfl (by exact Box.new _ _ _) (by omega) (by have := HB3.out.size; simp; omega) ?_; intro g4 c4 w4 ho4 hg4 hw4 hl4; have HB4 := Lib.hid ((HB3.out.alloc HB3.out.size _).grown hg4 (by have := HB3.out.size; simp; omega) (fun k hk => (ho3.lt k hk).1)); have HR5 := Lib.hid (show Rd w4 7 (some ⟨g, 0, none⟩) (m - t) (ents (out.drop t)) from by rw [HMT.out, Nat.sub_self]; exact rd_zeroE _ _ _ (List.drop_eq_nil_of_le (by rw [HLO.out, HMT.out]; exact Nat.le_refl _)))) | (at_builtin; refine apps_ent _ rfl _ _ rfl (base := wq.heap.size) rfl ho4 rfl HR5.out (by omega) HB4.out.size ?_; intro g5 c5 w5 ho5 hg5))
                have HB5 := Lib.hid (HB4.out.grown hg5 HB4.out.size (fun k hk => (ho4.lt k hk).1))
                have HO5 := Lib.hid (own_base ho5 HSZ.out)
                have HBF := Lib.hid (HBA.out.trans ((HBQ.out.mono HSA.out.1).trans (HB5.out.mono HSZ.out)))
                clear ho3 hg3 ho4 hg4 hw4 hl4 F1 ho5 hg5
                rw [show t + 1 + (m - t) = m + 1 by omega] at HO5
                go_roundw
                case rel => exact ⟨k + 1, m + 1, _, _, _, by omega, by omega, by go_num, by rw [show t + 1 + (m - t) = m + 1 by omega], HIN, HO5, HBF⟩
                case measure => simp [intOf] <;> omega
              · have hct' : (c' = t) = False := by simp [hct]
                have HRQ := Lib.hid (own_rd HOQ.out)
                have HIN := Lib.hid (HI.out.put HKEY.out HX.out HE0.out HE1.out (by rw [HLO.out]; exact ht) HG.out HLE.out)
                have hsq := HBQ.out.size
                have hsa := HSA.out
                have HSZ := Lib.hid (show w1.heap.size ≤ wq.heap.size from by omega)
                obtain ⟨we, hwe⟩ : ∃ we : World, we = wq.alloc (.cells #[] 25) := ⟨_, rfl⟩
                have hoe := own_emptyE wq wq.heap.size 25 7 (Nat.le_refl _)
                rw [← hwe] at hoe
                have hbe : Below wq.heap.size wq we := by rw [hwe]; exact (Below.refl _ _).alloc (Nat.le_refl _) _
                have hse : we.heap.size = wq.heap.size + 1 := by rw [hwe]; simp
                have HOE := Lib.hid hoe; have HBE := Lib.hid hbe; have HWE := Lib.hid hwe
                clear hoe hbe hwe
                have htc : t ≤ c' := by omega
                have hrt := (HRQ.out.takeE t ht).below HBE.out
                have hlq := cell_lt (HXQ.out.cell (i := 0) rfl)
                go_wp2_with (first | (rw [← HWE.out]; at_builtin; refine apps_ent _ rfl _ _ rfl (xs := []) (base := wq.heap.size) rfl HOE.out rfl hrt (by omega) (by omega) ?_; intro g3 c3 w3 ho3 hg3; simp only [Nat.zero_add, List.nil_append] at ho3 ⊢; have HB3 := Lib.hid (HBE.out.grown hg3 (by omega) (fun k hk => by injection hk with hk; omega)); have F1 := (HXQ.out.below HB3.out).f7) | (at_builtin; refine app_ent (x0 := y0) (x1 := y1) (x2 := y2) (x3 := y3) (x4 := y4) (x5 := y5) (x6 := y6) _ rfl _ _ rfl rfl (own_below ho3 ((Below.refl _ _).alloc (Nat.le_refl _) _)) rfl (by exact Box.new _ _ _) (by omega) (by have := HB3.out.size; simp; omega) ?_; intro g4 c4 w4 ho4 hg4 hw4 hl4; have HB4 := Lib.hid ((HB3.out.alloc HB3.out.size _).grown hg4 (by have := HB3.out.size; simp; omega) (fun k hk => (ho3.lt k hk).1)); have HR5 := Lib.hid (show Rd w4 7 (some ⟨g, t * 7, none⟩) (m - t) (ents (out.drop t)) from by have := (HRQ.out.dropE t ht).below HB4.out; rwa [Nat.zero_add] at this)) | (at_builtin; refine apps_ent _ rfl _ _ rfl (base := wq.heap.size) rfl ho4 rfl HR5.out (by omega) HB4.out.size ?_; intro g5 c5 w5 ho5 hg5))
                have HB5 := Lib.hid (HB4.out.grown hg5 HB4.out.size (fun k hk => (ho4.lt k hk).1))
                have HO5 := Lib.hid (own_base ho5 HSZ.out)
                have HBF := Lib.hid (HBA.out.trans ((HBQ.out.mono HSA.out.1).trans (HB5.out.mono HSZ.out)))
                clear ho3 hg3 ho4 hg4 hw4 hl4 F1 ho5 hg5
                rw [show t + 1 + (m - t) = m + 1 by omega] at HO5
                go_roundw
                case rel => exact ⟨k + 1, m + 1, _, _, _, by omega, by omega, by go_num, by rw [show t + 1 + (m - t) = m + 1 by omega], HIN, HO5, HBF⟩
                case measure => simp [intOf] <;> omega
            · obtain ⟨j, rfl⟩ : ∃ j, t = j + 1 := ⟨t - 1, by omega⟩
              obtain ⟨g9, z0, z1, z2, z3, z4, z5, z6, hge, _, _, hzx, hzd, hz0, hz1, hz2, _⟩ := own_ent_at HOI.out (k := j) (by omega)
              injection hge with hge
              injection hge with hge
              subst hge
              have HZ := Lib.hid hzx
              have HZD := Lib.hid hzd
              clear hzx hzd hz0 hz1
              by_cases hzy : y2 < z2
              · have HG2 := Lib.hid (show ∀ z ∈ out.drop j, y2 < E.rev z from by
                  rw [HZD.out]; intro z hz
                  rcases List.mem_cons.1 hz with rfl | hz
                  · exact hzy
                  · exact HG.out z hz)
                have kq0 := cell_regrown (HXI.out.cell (i := 2) rfl)
                have kq1 := cell_regrown (hz2)
                refine wp_region_quiet_below (by kernel_rfl) (by kernel_rfl) ?_
                repeat (first | go_big_quiet_step ((fail)) | quiet_step ((fail)))
                refine wpQuiet_nil ?_
                intro _ hw'
                obtain ⟨⟨dq, osq⟩, hw''⟩ := hw'
                subst hw''
                obtain ⟨wq, hq0, hq⟩ : ∃ wnew, wnew = grow (redrawn wi dq) osq ∧ Below wi.heap.size wi wnew := ⟨_, rfl, below_regrown _ _ _⟩
                rw [← hq0]
                clear hq0 kq0 kq1
                have HBQ := Lib.hid (HBI.out.trans (hq.mono HBI.out.size))
                have HXQ := Lib.hid (HXI.out.below hq)
                have HOQ := Lib.hid (own_below HOI.out hq)
                clear hq HXI HOI
                clear hz2
                go_wp2_with fail
                go_roundw
                case rel => exact ⟨j, by omega, by go_num, HG2, HBQ⟩
                case measure => simp [intOf] <;> omega
              · have HLE := Lib.hid (show ∀ y, 0 < j + 1 → out[j + 1 - 1]? = some y → E.rev y ≤ y2 from fun y _ hy => by
                  rw [Nat.add_sub_cancel, HZ.out] at hy
                  injection hy with hy
                  rw [← hy]
                  exact Int.not_lt.1 hzy)
                have kq0 := cell_regrown (HXI.out.cell (i := 2) rfl)
                have kq1 := cell_regrown (hz2)
                refine wp_region_quiet_below (by kernel_rfl) (by kernel_rfl) ?_
                repeat (first | go_big_quiet_step ((fail)) | quiet_step ((fail)))
                refine wpQuiet_nil ?_
                intro _ hw'
                obtain ⟨⟨dq, osq⟩, hw''⟩ := hw'
                subst hw''
                obtain ⟨wq, hq0, hq⟩ : ∃ wnew, wnew = grow (redrawn wi dq) osq ∧ Below wi.heap.size wi wnew := ⟨_, rfl, below_regrown _ _ _⟩
                rw [← hq0]
                clear hq0 kq0 kq1
                have HBQ := Lib.hid (HBI.out.trans (hq.mono HBI.out.size))
                have HXQ := Lib.hid (HXI.out.below hq)
                have HOQ := Lib.hid (own_below HOI.out hq)
                clear hq HXI HOI
                clear hz2
                by_cases hct : c' = j + 1
                · have HMT := Lib.hid (show m = j + 1 by omega)
                  have HRQ := Lib.hid (own_rd HOQ.out)
                  have HIN := Lib.hid (HI.out.put HKEY.out HX.out HE0.out HE1.out (by rw [HLO.out]; exact ht) HG.out HLE.out)
                  have hsq := HBQ.out.size
                  have hsa := HSA.out
                  have HSZ := Lib.hid (show w1.heap.size ≤ wq.heap.size from by omega)
                  obtain ⟨we, hwe⟩ : ∃ we : World, we = wq.alloc (.cells #[] 25) := ⟨_, rfl⟩
                  have hoe := own_emptyE wq wq.heap.size 25 7 (Nat.le_refl _)
                  rw [← hwe] at hoe
                  have hbe : Below wq.heap.size wq we := by rw [hwe]; exact (Below.refl _ _).alloc (Nat.le_refl _) _
                  have hse : we.heap.size = wq.heap.size + 1 := by rw [hwe]; simp
                  have HOE := Lib.hid hoe; have HBE := Lib.hid hbe; have HWE := Lib.hid hwe
                  clear hoe hbe hwe
                  have htc : j + 1 ≤ c' := by omega
                  have hrt := (HRQ.out.takeE (j + 1) ht).below HBE.out
                  have hlq := cell_lt (HXQ.out.cell (i := 0) rfl)
                  go_wp2_with (first | (rw [← HWE.out]; at_builtin; refine apps_ent _ rfl _ _ rfl (xs := []) (base := wq.heap.size) rfl HOE.out rfl hrt (by omega) (by omega) ?_; intro g3 c3 w3 ho3 hg3; simp only [Nat.zero_add, List.nil_append] at ho3 ⊢; have HB3 := Lib.hid (HBE.out.grown hg3 (by omega) (fun k hk => by injection hk with hk; omega)); have F1 := (HXQ.out.below HB3.out).f7) | (at_builtin; refine app_ent (x0 := y0) (x1 := y1) (x2 := y2) (x3 := y3) (x4 := y4) (x5 := y5) (x6 := y6) _ rfl _ _ rfl rfl (own_below ho3 ((Below.refl _ _).alloc (Nat.le_refl _) _)) rfl (by exact Box.new _ _ _) (by omega) (by have := HB3.out.size; simp; omega) ?_; intro g4 c4 w4 ho4 hg4 hw4 hl4; have HB4 := Lib.hid ((HB3.out.alloc HB3.out.size _).grown hg4 (by have := HB3.out.size; simp; omega) (fun k hk => (ho3.lt k hk).1)); have HR5 := Lib.hid (show Rd w4 7 (some ⟨g, 0, none⟩) (m - (j + 1)) (ents (out.drop (j + 1))) from by rw [HMT.out, Nat.sub_self]; exact rd_zeroE _ _ _ (List.drop_eq_nil_of_le (by rw [HLO.out, HMT.out]; exact Nat.le_refl _)))) | (at_builtin; refine apps_ent _ rfl _ _ rfl (base := wq.heap.size) rfl ho4 rfl HR5.out (by omega) HB4.out.size ?_; intro g5 c5 w5 ho5 hg5))
                  have HB5 := Lib.hid (HB4.out.grown hg5 HB4.out.size (fun k hk => (ho4.lt k hk).1))
                  have HO5 := Lib.hid (own_base ho5 HSZ.out)
                  have HBF := Lib.hid (HBA.out.trans ((HBQ.out.mono HSA.out.1).trans (HB5.out.mono HSZ.out)))
                  clear ho3 hg3 ho4 hg4 hw4 hl4 F1 ho5 hg5
                  rw [show j + 1 + 1 + (m - (j + 1)) = m + 1 by omega] at HO5
                  go_roundw
                  case rel => exact ⟨k + 1, m + 1, _, _, _, by omega, by omega, by go_num, by rw [show j + 1 + 1 + (m - (j + 1)) = m + 1 by omega], HIN, HO5, HBF⟩
                  case measure => simp [intOf] <;> omega
                · have hct' : (c' = j + 1) = False := by simp [hct]
                  have HRQ := Lib.hid (own_rd HOQ.out)
                  have HIN := Lib.hid (HI.out.put HKEY.out HX.out HE0.out HE1.out (by rw [HLO.out]; exact ht) HG.out HLE.out)
                  have hsq := HBQ.out.size
                  have hsa := HSA.out
                  have HSZ := Lib.hid (show w1.heap.size ≤ wq.heap.size from by omega)
                  obtain ⟨we, hwe⟩ : ∃ we : World, we = wq.alloc (.cells #[] 25) := ⟨_, rfl⟩
                  have hoe := own_emptyE wq wq.heap.size 25 7 (Nat.le_refl _)
                  rw [← hwe] at hoe
                  have hbe : Below wq.heap.size wq we := by rw [hwe]; exact (Below.refl _ _).alloc (Nat.le_refl _) _
                  have hse : we.heap.size = wq.heap.size + 1 := by rw [hwe]; simp
                  have HOE := Lib.hid hoe; have HBE := Lib.hid hbe; have HWE := Lib.hid hwe
                  clear hoe hbe hwe
                  have htc : j + 1 ≤ c' := by omega
                  have hrt := (HRQ.out.takeE (j + 1) ht).below HBE.out
                  have hlq := cell_lt (HXQ.out.cell (i := 0) rfl)
                  go_wp2_with (first | (rw [← HWE.out]; at_builtin; refine apps_ent _ rfl _ _ rfl (xs := []) (base := wq.heap.size) rfl HOE.out rfl hrt (by omega) (by omega) ?_; intro g3 c3 w3 ho3 hg3; simp only [Nat.zero_add, List.nil_append] at ho3 ⊢; have HB3 := Lib.hid (HBE.out.grown hg3 (by omega) (fun k hk => by injection hk with hk; omega)); have F1 := (HXQ.out.below HB3.out).f7) | (at_builtin; refine app_ent (x0 := y0) (x1 := y1) (x2 := y2) (x3 := y3) (x4 := y4) (x5 := y5) (x6 := y6) _ rfl _ _ rfl rfl (own_below ho3 ((Below.refl _ _).alloc (Nat.le_refl _) _)) rfl (by exact Box.new _ _ _) (by omega) (by have := HB3.out.size; simp; omega) ?_; intro g4 c4 w4 ho4 hg4 hw4 hl4; have HB4 := Lib.hid ((HB3.out.alloc HB3.out.size _).grown hg4 (by have := HB3.out.size; simp; omega) (fun k hk => (ho3.lt k hk).1)); have HR5 := Lib.hid (show Rd w4 7 (some ⟨g, (j + 1) * 7, none⟩) (m - (j + 1)) (ents (out.drop (j + 1))) from by have := (HRQ.out.dropE (j + 1) ht).below HB4.out; rwa [Nat.zero_add] at this)) | (at_builtin; refine apps_ent _ rfl _ _ rfl (base := wq.heap.size) rfl ho4 rfl HR5.out (by omega) HB4.out.size ?_; intro g5 c5 w5 ho5 hg5))
                  have HB5 := Lib.hid (HB4.out.grown hg5 HB4.out.size (fun k hk => (ho4.lt k hk).1))
                  have HO5 := Lib.hid (own_base ho5 HSZ.out)
                  have HBF := Lib.hid (HBA.out.trans ((HBQ.out.mono HSA.out.1).trans (HB5.out.mono HSZ.out)))
                  clear ho3 hg3 ho4 hg4 hw4 hl4 F1 ho5 hg5
                  rw [show j + 1 + 1 + (m - (j + 1)) = m + 1 by omega] at HO5
                  go_roundw
                  case rel => exact ⟨k + 1, m + 1, _, _, _, by omega, by omega, by go_num, by rw [show j + 1 + 1 + (m - (j + 1)) = m + 1 by omega], HIN, HO5, HBF⟩
                  case measure => simp [intOf] <;> omega
    · obtain rfl : k = n := by omega
      have hy : out = histF xs race boat := Ins.done HKEY.out (by rw [HN.out]; exact HI.out)
      subst hy
      go_wp2_with fail
      go_ret
      exact ⟨_, _, _, rfl, own_base HO.out HB1.out.size, by omega, HB1.out.trans (HB.out.mono HB1.out.size)⟩
set_option maxHeartbeats 4000000 in
theorem specHistoryOf_any (b s race boat : Int) (A : Option Addr) (n c : Nat) (xs : List EntryT) (w : World) (hr : RegRd w A n c xs) :
    Calls Tryz.prog 171 #[.agg #[.int .i64 b, .int .i64 s, .slice A n c], .int .i64 race, .int .i64 boat] w (RetHist w (histL b s xs race boat) (histC b s xs race boat)) := by
  have HI := Lib.hid (fun w' (hb : Below w.heap.size w w') => specIsRegister_any b s A n c xs w' (hr.below hb))
  have HN := Lib.hid hr.1.len_ent
  have HR := Lib.hid hr
  obtain ⟨w1, hw1, X0, hb1, hs1⟩ := one_box w #[.int .i64 b, .int .i64 s, .slice A n c] 32
  have HB1 := Lib.hid hb1
  have HX1 := Lib.hid X0
  clear hb1 X0 hr
  have F0 := HX1.out.f3
  cases hg : regB b s xs with
  | false =>
    rw [hg] at HI
    have hL : histL b s xs race boat = [] := by unfold histL histC; rw [hg]; rfl
    have hC : histC b s xs race boat = 1 := by unfold histC; rw [hg]; rfl
    rw [hL, hC]
    clear hL hC hg
    go_enter Tryz.func171, Tryz.ntmps171
    go_wp2_with fail
    rw [← hw1]
    clear hw1
    refine (HI.out _ HB1.out).mono ?_
    rintro e w2 ⟨rfl, hb2⟩
    have HB2 := Lib.hid (HB1.out.trans (hb2.mono HB1.out.size))
    have F0 := (HX1.out.below hb2).f3
    clear hb2 HX1 HB1
    go_wp2_with fail
    go_ret2
    exact ⟨none, 0, 0, rfl, World.ownsRow_nil _ _ _ _, by omega, HB2.out⟩
  | true =>
    rw [hg] at HI
    have hOK := regB_ok hg
    have hb16 : 1 ≤ b ∧ b ≤ 16 := ⟨hOK.b1, hOK.b2⟩
    cases ha : withinB race 0 11 with
    | false =>
      have HA := Lib.hid (fun w => l01In_lit ha w)
      have HC := HA
      have hL : histL b s xs race boat = [] := by unfold histL histC; rw [hg, ha]; rfl
      have hC : histC b s xs race boat = 2 := by unfold histC; rw [hg, ha]; rfl
      rw [hL, hC]
      clear hL hC hg ha hOK
      go_enter Tryz.func171, Tryz.ntmps171
      go_wp2_with fail
      rw [← hw1]
      clear hw1
      refine (HI.out _ HB1.out).mono ?_
      rintro e w2 ⟨rfl, hb2⟩
      have HB2 := Lib.hid (HB1.out.trans (hb2.mono HB1.out.size))
      have F0 := (HX1.out.below hb2).f3
      clear hb2 HX1 HB1
      go_wp2_with (first | (go_at_call 34; (with_reducible refine (HA.out _).mono ?_); rintro e w' ⟨rfl, rfl⟩) | (go_at_call 34; (with_reducible refine (HC.out _).mono ?_); rintro e w' ⟨rfl, rfl⟩))
      go_ret2
      exact ⟨none, 0, 0, rfl, World.ownsRow_nil _ _ _ _, by omega, HB2.out⟩
    | true =>
      have HA := Lib.hid (fun w => l01In_lit ha w)
      cases hc : withinB boat 0 (b - 1) with
      | false =>
        have HC := Lib.hid (fun w => l01In_lit hc w)
        have hL : histL b s xs race boat = [] := by unfold histL histC; rw [hg, ha, hc]; rfl
        have hC : histC b s xs race boat = 2 := by unfold histC; rw [hg, ha, hc]; rfl
        rw [hL, hC]
        clear hL hC hg ha hc hOK
        go_enter Tryz.func171, Tryz.ntmps171
        go_wp2_with fail
        rw [← hw1]
        clear hw1
        refine (HI.out _ HB1.out).mono ?_
        rintro e w2 ⟨rfl, hb2⟩
        have HB2 := Lib.hid (HB1.out.trans (hb2.mono HB1.out.size))
        have F0 := (HX1.out.below hb2).f3
        clear hb2 HX1 HB1
        go_wp2_with (first | (go_at_call 34; (with_reducible refine (HA.out _).mono ?_); rintro e w' ⟨rfl, rfl⟩) | (go_at_call 34; (with_reducible refine (HC.out _).mono ?_); rintro e w' ⟨rfl, rfl⟩))
        go_ret2
        exact ⟨none, 0, 0, rfl, World.ownsRow_nil _ _ _ _, by omega, HB2.out⟩
      | true =>
        have HC := Lib.hid (fun w => l01In_lit hc w)
        have hL : histL b s xs race boat = histF xs race boat := by unfold histL histC; rw [hg, ha, hc]; rfl
        have hC : histC b s xs race boat = 0 := by unfold histC; rw [hg, ha, hc]; rfl
        rw [hL, hC]
        have HH := Lib.hid (fun w' (hb : Below w.heap.size w w') => specHistory_any b s race boat A n c xs w' (HR.out.below hb) (by have := hOK.len; rw [HN.out] at this; exact this) hOK.okE hOK.key)
        clear hL hC hg ha hc hOK
        go_enter Tryz.func171, Tryz.ntmps171
        go_wp2_with fail
        rw [← hw1]
        clear hw1
        refine (HI.out _ HB1.out).mono ?_
        rintro e w2 ⟨rfl, hb2⟩
        have HB2 := Lib.hid (HB1.out.trans (hb2.mono HB1.out.size))
        have F0 := (HX1.out.below hb2).f3
        clear hb2 HX1 HB1
        go_wp2_with (first | (go_at_call 34; (with_reducible refine (HA.out _).mono ?_); rintro e w' ⟨rfl, rfl⟩) | (go_at_call 34; (with_reducible refine (HC.out _).mono ?_); rintro e w' ⟨rfl, rfl⟩))
        refine (HH.out _ HB2.out).mono ?_
        rintro e w3 ⟨A3, n3, c3, rfl, ho3, hn3, hb3⟩
        have HO3 := Lib.hid ho3
        have HB3 := Lib.hid (HB2.out.trans (hb3.mono HB2.out.size))
        have HS2 := Lib.hid HB2.out.size
        clear ho3 hb3 F0
        go_wp2_with fail
        go_ret2
        exact ⟨_, _, _, rfl, own_base HO3.out HS2.out, hn3, HB3.out⟩
end Go.Proofs.YtnpldahkhaacnaaGreatDoor

/- Walks: the full order as the laws say it (chapter 31). -/
import Derived.Test.YtfkllgnenbbccaaWu2
namespace Go.Proofs.Ytfkllgnenbbccaa
open Go.RowKit
set_option linter.unusedVariables false
set_option maxRecDepth 100000

theorem specFull_any (A0 : Option Addr) (n0 c0 : Nat) (st : List Int) (A : Option Addr) (n c : Nat) (net : List Int) (factor : Int) (A' : Option Addr) (n' c' : Nat) (places : List Int) (w : World) (h0 : Rd w 1 A0 n0 (ints st)) (hcap : n0 ≤ c0) (h : Rd w 1 A n (ints net)) (h' : Rd w 1 A' n' (ints places)) :
    Calls Try.prog 32 #[.slice A0 n0 c0, .slice A n c, .int .i64 factor, .slice A' n' c'] w (RetI w (fullF st net factor places)) := by
  have HN := Lib.hid h.len_int
  have HN' := Lib.hid h'.len_int
  have HN0 := Lib.hid h0.len_int
  have hle0 := h0.le
  have hle1 := h.le
  have HB := Lib.hid (l31PlacesCode_any A n c net factor A' n' c' places 0 w h h')
  unfold fullF
  by_cases hz : placesCodeF net factor places 0 = 0
  · have hv := valid_of hz
    obtain ⟨h1, hpl, hp⟩ := placesCode_ok hz
    rw [if_pos hz]
    rw [HN.out] at hv
    have hnn : n' = n := HN'.out.symm.trans hv.pl
    subst hnn
    rw [hz] at HB
    clear hz
    rw [HN0.out, HN.out]
    have hn5 := hv.n5
    have hn1 := hv.n1
    by_cases hlen : n0 < n' ∨ 16 < n0
    · rw [if_pos hlen]
      by_cases hl1 : n0 < n'
      · have hd : decide (n0 < n') = true := by simp; omega
        clear hlen
        go_enter Try.func32, Try.ntmps32
        go_wp2_with fail
        refine HB.out.mono ?_
        rintro e w1 ⟨rfl, hb1⟩
        go_wp2_with fail
        go_ret2
        exact RetI.nil _ _ _ hb1
      · have hd : decide (n0 < n') = false := by simp; omega
        have hd2 : decide ((16 : Int) < (n0 : Int)) = true := by simp; omega
        clear hlen hl1
        go_enter Try.func32, Try.ntmps32
        go_wp2_with fail
        refine HB.out.mono ?_
        rintro e w1 ⟨rfl, hb1⟩
        go_wp2_with fail
        go_ret2
        exact RetI.nil _ _ _ hb1
    · rw [if_neg hlen]
      have hd : decide (n0 < n') = false := by simp; omega
      have hd2 : decide ((16 : Int) < (n0 : Int)) = false := by simp; omega
      have hge : n' ≤ n0 := by omega
      have h16 : n0 ≤ 16 := by omega
      clear hlen
      obtain ⟨b0, o0, rfl, _⟩ := h0.pos (show 0 < n0 by omega)
      have hdb : distinctB st = distF st n0 0 := by unfold distinctB; rw [HN0.out]
      rw [hdb]
      clear hdb
      have HFO := Lib.hid (fun W g1 g2 => l31Order_any A n' c net factor A' c' places hp W hv g1 g2)
      have hol : (orderF factor net places).length = n' := by rw [orderF_len, HN.out]
      have hom : ∀ x ∈ orderF factor net places, 0 ≤ x ∧ x < n' := fun x hx => by have := order_mem (hpl) hp x hx; have := HN.out; omega
      generalize orderF factor net places = od at *
      have HOL := Lib.hid hol; have HOM := Lib.hid hom
      clear hol hom
      generalize hres : (if distF st n0 0 then (od.map (fun k => st.getD k.toNat 0) ++ st.drop n', (0 : Int)) else ([], 5)) = res
      have HRES := Lib.hid hres
      clear hres hpl hp h1
      have HV := Lib.hid hv
      clear hv
      go_enter Try.func32, Try.ntmps32
      go_wp2_with fail
      refine HB.out.mono ?_
      rintro e w1 ⟨rfl, hb1⟩
      have HB1 := Lib.hid hb1
      go_wp2_with fail
      go_loopw [11] (fun i wr => ∃ k : Nat, k ≤ n0 ∧ i = .int .i64 k ∧ Hid (distF st (n0 - k) k = distF st n0 0) ∧ Drawn w1 wr) (fun i _ => n0 - (intOf i).toNat)
      case atStart => exact ⟨0, Nat.zero_le _, rfl, rfl, Drawn.refl _⟩
      case round =>
        obtain ⟨k, hk, rfl, HR, hq⟩ := hrel
        by_cases hlt : k < n0
        · have hrd := (h0.below HB1.out).drawn hq
          obtain ⟨b, o, x, hbo, hx, _, hcx⟩ := hrd.int hlt
          obtain ⟨rfl, rfl⟩ : b0 = b ∧ o0 = o := by injection hbo with e; injection e with e1 e2; exact ⟨e1, e2⟩
          have hst : distF st (n0 - k) k = if x ∈ st.take k then false else distF st (n0 - (k + 1)) (k + 1) := by
            rw [show n0 - k = (n0 - (k + 1)) + 1 from by omega, distF, List.getD_eq_getElem?_getD, hx]; rfl
          have HST := Lib.hid hst
          have HX := Lib.hid hx
          clear hst hbo hx hb1 hcx hrd
          go_wp2_with fail
          go_loopw [12] (fun i w3 => ∃ j : Nat, j ≤ k ∧ i = .int .i64 j ∧ Hid (x ∉ st.take j) ∧ Drawn w1 w3) (fun i _ => n0 - (intOf i).toNat)
          case atStart => exact ⟨0, Nat.zero_le _, rfl, by unfold Hid; simp, hq⟩
          case round =>
            clear hq
            obtain ⟨j, hj, rfl, HNM, hq⟩ := hrel
            by_cases hltj : j < k
            · have hrd := (h0.below HB1.out).drawn hq
              obtain ⟨b, o, x', hbo, hx', _, hcx⟩ := hrd.int hlt
              obtain ⟨rfl, rfl⟩ : b0 = b ∧ o0 = o := by injection hbo with e; injection e with e1 e2; exact ⟨e1, e2⟩
              obtain rfl : x' = x := by rw [HX.out] at hx'; injection hx' with e; exact e.symm
              obtain ⟨b, o, y, hbo', hy, _, hcy⟩ := hrd.int (show j < n0 by omega)
              obtain ⟨rfl, rfl⟩ : b0 = b ∧ o0 = o := by injection hbo' with e; injection e with e1 e2; exact ⟨e1, e2⟩
              have HY := Lib.hid hy
              clear hbo hbo' hx' hy hrd
              by_cases hxy : x' = y
              · subst hxy
                have hmem : x' ∈ st.take k := List.mem_of_getElem? (i := j) (by rw [List.getElem?_take, if_pos hltj]; exact HY.out)
                rw [if_pos hmem] at HST
                have HBQ := Lib.hid (HB1.out.trans ((hq.step 0).below.mono HB1.out.size))
                have HBD := Lib.hid (fun nq : Nat => HB1.out.trans ((hq.step nq).below.mono HB1.out.size))
                have hr0 : res = ([], 5) := by rw [← HRES.out, ← HR.out, HST.out]; rfl
                have HR0 := Lib.hid hr0
                clear hr0 hmem
                go_wp2_with fail
                go_quiet (fail)
                go_wp2_with fail
                go_ret2
                rw [HR0.out]
                exact RetI.nil _ _ _ (HBD.out _)
              · have hne : (x' == y) = false := by simpa using hxy
                have hnm : x' ∉ st.take (j + 1) := by
                  rw [take_snoc_get HY.out, List.mem_append]
                  rintro (h | h)
                  · exact HNM.out h
                  · simp at h; exact hxy h
                have HN2 := Lib.hid hnm
                clear hxy hnm
                go_wp2_with fail
                go_quiet (fail)
                go_wp2_with fail
                go_roundw
                case rel => exact ⟨j + 1, by omega, by go_num, HN2, hq.step _⟩
                case measure => simp [intOf]; omega
            · obtain rfl : j = k := by omega
              rw [if_neg HNM.out] at HST
              go_wp2_with fail
              go_roundw
              case rel => exact ⟨j + 1, by omega, by go_num, by unfold Hid; rw [← HR.out, HST.out], hq⟩
              case measure => simp [intOf]; omega
        · obtain rfl : k = n0 := by omega
          have hr0 : res = (od.map (fun k => st.getD k.toNat 0) ++ st.drop n', 0) := by
            rw [← HRES.out, ← HR.out, Nat.sub_self]; rfl
          have HR0 := Lib.hid hr0
          have HBQ := Lib.hid (HB1.out.trans (hq.below.mono HB1.out.size))
          clear hr0 hb1 hq HR HRES
          obtain ⟨wo, rfl⟩ : ∃ wo : World, wo = wr := ⟨_, rfl⟩
          have hsq := HBQ.out.size
          have hoe := own_empty wo wo.heap.size 2 (Nat.le_refl _)
          have hbe : Below wo.heap.size wo (wo.alloc (.cells #[] 2)) := (Below.refl _ _).alloc (Nat.le_refl _) _
          obtain ⟨wa, hwa⟩ : ∃ wa, wa = wo.alloc (.cells #[] 2) := ⟨_, rfl⟩
          rw [← hwa] at hoe hbe
          have HBA := Lib.hid (HBQ.out.trans (hbe.mono HBQ.out.size))
          have HBE := Lib.hid hbe
          have HOE := Lib.hid hoe
          have HWA := Lib.hid hwa
          clear hwa hoe hbe
          go_wp2_with fail
          rw [show wo.alloc (.cells #[] 2) = wa from HWA.out.symm]
          refine (HFO.out _ (h.below HBA.out) (h'.below HBA.out)).mono ?_
          rintro e w2 ⟨A2, n2, c2, rfl, ho2, _, hb2⟩
          obtain rfl : n' = n2 := by have h0 : od.length = n2 := own_len ho2; have := HOL.out; omega
          have HO := Lib.hid (own_below HOE.out hb2)
          have HB2 := Lib.hid (HBA.out.trans (hb2.mono HBA.out.size))
          have HO2 := Lib.hid ho2
          have hsz2 := hb2.size
          have hsza := HBE.out.size
          clear ho2 hb2
          go_wp2_with fail
          have hod := HO2.out.lt
          have HOD := Lib.hid hod
          clear hod
          have hsn : w.heap.size ≤ wo.heap.size := hsq
          go_loopw [13, 15] (fun v i w5 => ∃ (q cq gq : Nat), q ≤ n' ∧ i = .int .i64 q ∧ v = .slice (some ⟨gq, 0, none⟩) q cq ∧ w5.ownsRow wo.heap.size 2 1 (.slice (some ⟨gq, 0, none⟩) q cq) q (ints ((od.take q).map (fun k => st.getD k.toNat 0))) ∧ (gq = wo.heap.size ∨ w2.heap.size ≤ gq) ∧ Below w.heap.size w w5 ∧ w5.ownsRow wa.heap.size 2 1 (.slice A2 n' c2) n' (ints od) ∧ w2.heap.size ≤ w5.heap.size) (fun _ i _ => n' - (intOf i).toNat)
          case atStart => exact ⟨0, 0, _, Nat.zero_le _, rfl, rfl, HO.out, .inl rfl, HB2.out, HO2.out, Nat.le_refl _⟩
          case round =>
            clear HO HO2 HB2
            obtain ⟨q, cq, gq, hq, rfl, rfl, ho, hgq, hb5, hod, hs5⟩ := hrel
            have HGQ := Lib.hid hgq
            clear hgq
            by_cases hlt : q < n'
            · obtain ⟨b2, o2, kk, rfl, hkk, _, hckk⟩ := (own_rd hod).int hlt
              obtain ⟨hk0, hk1⟩ := HOM.out kk (List.mem_of_getElem? hkk)
              obtain ⟨kx, rfl⟩ := int_up kk hk0
              obtain ⟨b, o, x, hbo, hx, _, hcx⟩ := (h0.below hb5).int (show kx < k by omega)
              obtain ⟨rfl, rfl⟩ : b0 = b ∧ o0 = o := by injection hbo with e; injection e with e1 e2; exact ⟨e1, e2⟩
              have htk : (od.take (q + 1)).map (fun k => st.getD k.toNat 0) = (od.take q).map (fun k => st.getD k.toNat 0) ++ [x] := by
                rw [take_snoc_get hkk, List.map_append]
                simp only [List.map_cons, List.map_nil, Int.toNat_natCast]
                rw [List.getD_eq_getElem?_getD, hx]; rfl
              have HTK := Lib.hid htk
              have O := Lib.hid ho; have B5 := Lib.hid hb5; have D := Lib.hid hod
              clear hbo hx hkk htk ho hb5 hod
              go_wp2_with (at_builtin; refine app_i64w _ rfl _ _ rfl rfl (O.out.alloc _) rfl (cell_new1 _ _ _) (by omega) ?cB ?_; rotate_left; intro g1 c1 w6 hown1 hgr1 hg1)
              · have hrow := D.out.lt
                have hb6 := below_app B5.out B5.out.size hsn O.out hgr1
                have hgr := hgr1.size
                have hod6 : w6.ownsRow wa.heap.size 2 1 (.slice (some ⟨b2, o2, none⟩) n' c2) n' (ints od) := (D.out.alloc _).kept hgr1 (by
                  refine .inr (fun e => ?_)
                  have h9 := HOD.out gq e
                  have h8 := HGQ.out
                  have h7 := HWA.out
                  have h6 : wa.heap.size = wo.heap.size + 1 := by rw [h7]; simp
                  omega)
                have hg2 : g1 = wo.heap.size ∨ w2.heap.size ≤ g1 := by
                  rcases hg1 with e | e
                  · injection e with e; have := HGQ.out; simp only at e; omega
                  · simp at e; omega
                have hs6 : w2.heap.size ≤ w6.heap.size := by simp at hgr; omega
                go_roundw
                case rel => exact ⟨q + 1, _, _, by omega, by go_num, rfl, by rw [HTK.out]; exact hown1, hg2, hb6, hod6, hs6⟩
                case measure => simp [intOf]; omega
              · simp; omega
            · obtain rfl : q = n' := by omega
              rw [List.take_of_length_le (by rw [HOL.out]; omega)] at ho
              have hdr := Rd.drop (h0.below hb5) q
              have hbs := hb5.size
              have O := Lib.hid ho; have B5 := Lib.hid hb5; have DR := Lib.hid hdr
              clear ho hb5 hdr hod
              have hml : (od.map (fun k => st.getD k.toNat 0)).length = q := by rw [List.length_map]; exact HOL.out
              by_cases hcq : c0 = q
              · obtain rfl : k = q := by omega
                subst hcq
                go_wp2_with (at_builtin; refine app_src2 _ rfl _ _ rfl rfl O.out (ys := st.drop c0) rfl c0 (by omega) (od.map (fun k => st.getD k.toNat 0) ++ st.drop c0) rfl (by rw [List.length_drop, HN0.out]; omega) (fun j y hy => by rw [List.drop_eq_nil_of_le (by rw [HN0.out]; omega)] at hy; simp at hy) (by omega) (by omega) ?_; intro g4 c4 w6 ho6 hgr6)
                have hb6 : Below w.heap.size w w6 := B5.out.grown hgr6 (by omega) (fun q' e => by injection e with e; subst e; have := (O.out.lt gq rfl).1; show w.heap.size ≤ gq; omega)
                have O6 := Lib.hid (own_base ho6 hsn)
                clear ho6 hgr6
                go_wp2_with fail
                go_ret2
                rw [HR0.out]
                exact ⟨_, _, _, rfl, O6.out, by omega, hb6⟩
              · go_wp2_with (at_builtin; refine app_src2 _ rfl _ _ rfl rfl O.out (ys := st.drop q) rfl k (by omega) (od.map (fun k => st.getD k.toNat 0) ++ st.drop q) rfl (by rw [List.length_drop, HN0.out]) DR.out (by omega) (by omega) ?_; intro g4 c4 w6 ho6 hgr6)
                have hb6 : Below w.heap.size w w6 := B5.out.grown hgr6 (by omega) (fun q' e => by injection e with e; subst e; have := (O.out.lt gq rfl).1; show w.heap.size ≤ gq; omega)
                have O6 := Lib.hid (own_base ho6 hsn)
                clear ho6 hgr6
                go_wp2_with fail
                go_ret2
                rw [HR0.out]
                exact ⟨_, _, _, rfl, O6.out, by omega, hb6⟩
  · rw [if_neg hz]
    generalize placesCodeF net factor places 0 = code at *
    have hne : (code != 0) = true := by simp [hz]
    clear hz
    go_enter Try.func32, Try.ntmps32
    go_wp2_with fail
    refine HB.out.mono ?_
    rintro e w1 ⟨rfl, hb1⟩
    go_wp2_with fail
    go_ret2
    exact RetI.nil _ _ _ hb1
theorem cap_of {w : World} {base e n n' c : Nat} {A : Option Addr} {xs : List Value} (h : w.ownsRow base e 1 (.slice A n' c) n xs) : n' ≤ c := by
  have := own_cap h
  omega
end Go.Proofs.Ytfkllgnenbbccaa

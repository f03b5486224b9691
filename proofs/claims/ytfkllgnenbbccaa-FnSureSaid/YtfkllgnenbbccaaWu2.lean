/- Walks: the full order (chapter 31). -/
import Derived.Test.YtfkllgnenbbccaaMu
import Derived.Test.YtfkllgnenbbccaaWt3
import Derived.Test.YtfkllgnenbbccaaWz
namespace Go.Proofs.Ytfkllgnenbbccaa
open Go.RowKit
set_option linter.unusedVariables false
set_option maxRecDepth 100000

/-- Numbers are appended to an own row; the source is not nil. -/
theorem app_src2 {ops : Array Oper} {rest : List Oper} {o : Oper} {a : Act} {Q : Exit → Act → World → Prop} (w : World) (hgd : o.guard = none) (s x : Operand)
    (ho : o.op = .call { callee := .builtin .append, args := #[s, x], argTypes := #[22, 22] }) {base n c : Nat} {g0 : Addr} {xs : List Int}
    (hs : a.eval s = .slice (some g0) n c) (hown : w.ownsRow base 2 1 (.slice (some g0) n c) n (ints xs)) {ad : Addr} {m d : Nat} {ys : List Int} (hx : a.eval x = .slice (some ad) m d) (N' : Nat) (hN' : n + m = N') (zs : List Int) (hzs : xs ++ ys = zs) (hy : ys.length = m)
    (hc : ∀ (j : Nat) (y : Int), ys[j]? = some y → w.cell? (ad.add j) = some (.int .i64 y)) (hn : n + m ≤ 1099511627776) (hbase : base ≤ w.heap.size)
    (h : ∀ g1 c' w', w'.ownsRow base 2 1 (.slice (some ⟨g1, 0, none⟩) N' c') N' (ints zs) → w.grownBy w' (some g0.block) → wpList Try.prog ops Q rest (a.put o.dst (.slice (some ⟨g1, 0, none⟩) N' c')) w') :
    wpList Try.prog ops Q (o :: rest) a w := by
  subst hN' hzs
  obtain ⟨i, hi, hz, hs1, hb1⟩ := info_parts Try.info_i64
  refine wpList_append_own w hgd s x 22 ho base 2 i (.int .i64 0) 1 8 Try.underlying22 hi hz hs1 hb1 rfl (by decide) (.slice (some g0) n c) n (ints xs) hs hown ad m d (ints ys) hx (by rw [ints_length, hy, Nat.mul_one]) ?_ (ints_oneCell _ _) (by unfold maxLen; omega) (by omega) hbase ?_
  · intro j u hu
    unfold ints at hu
    rw [List.getElem?_map] at hu
    cases hj : ys[j]? with
    | none => rw [hj] at hu; cases hu
    | some y => rw [hj] at hu; injection hu with hu; subst hu; exact hc j y hj
  · intro v' w' h1 h2 h3
    rw [← ints_append] at h1
    rcases h1.2 with ⟨rfl, h0⟩ | ⟨g, cap, cur, rfl, _⟩
    · have := h3.1 rfl
      cases this.1
    · exact h _ _ w' h1 h2

theorem contains_any (A : Option Addr) (n c : Nat) (xs : List Int) (v : Int) (w : World) (h : Rd w 1 A n (ints xs)) :
    Calls Try.prog 56 #[.slice A n c, .int .i64 v] w fun e w' => e = .returned (.bool (decide (v ∈ xs))) ∧ Drawn w w' := by
  have HI := Lib.hid (index_any A n c xs v w h)
  have hb := indexF_bd v 0 xs
  have hm : decide (0 ≤ indexF v 0 xs) = decide (v ∈ xs) := by rw [decide_eq_decide]; exact indexF_mem v 0 xs
  rw [← hm]
  clear hm
  generalize indexF v 0 xs = r at *
  go_enter Try.func56, Try.ntmps56
  go_wp2_with fail
  refine HI.out.mono ?_
  rintro e w1 ⟨rfl, hq⟩
  go_wp2_with fail
  go_ret
  exact ⟨rfl, hq⟩

/-- The part before place k reads as the list's part. -/
theorem Rd.take {w : World} {b o n : Nat} {xs : List Int} (h : Rd w 1 (some ⟨b, o, none⟩) n (ints xs)) (k : Nat) (hk : k ≤ n) : Rd w 1 (some ⟨b, o, none⟩) k (ints (xs.take k)) := by
  have hl := h.len_int
  have hle := h.le
  refine ⟨by rw [ints_length, List.length_take]; omega, by omega, fun hn => ⟨b, o, rfl, fun i u hu => ?_⟩⟩
  obtain ⟨b', o', e, hc⟩ := h.pos (by omega)
  injection e with e
  injection e with e1 e2
  subst e1 e2
  refine hc i u ?_
  unfold ints at hu ⊢
  rw [List.getElem?_map, List.getElem?_take] at hu
  rw [List.getElem?_map]
  split at hu
  · exact hu
  · cases hu
theorem Rd.drop {w : World} {b o n : Nat} {xs : List Int} (h : Rd w 1 (some ⟨b, o, none⟩) n (ints xs)) (k : Nat) : ∀ (j : Nat) (y : Int), (xs.drop k)[j]? = some y → w.cell? ((⟨b, o + k, none⟩ : Addr).add j) = some (.int .i64 y) := by
  intro j y hy
  rw [List.getElem?_drop] at hy
  have hl := h.len_int
  have hlt := (List.getElem?_eq_some_iff.1 hy).1
  obtain ⟨b', o', e, hc⟩ := h.pos (by omega)
  injection e with e
  injection e with e1 e2
  subst e1 e2
  have e2 : (⟨b, o + k, none⟩ : Addr).add j = ⟨b, o + (k + j), none⟩ := by unfold Addr.add; split <;> simp_all [Nat.add_assoc]
  rw [e2]
  exact hc (k + j) _ (ints_get hy)

theorem own_cap {w : World} {base e n n' c : Nat} {A : Option Addr} {xs : List Value} (h : w.ownsRow base e 1 (.slice A n' c) n xs) : n' ≤ c ∨ n' = 0 := by
  rcases h.2 with ⟨hv, _⟩ | ⟨g, cap, cur, hv, hb, hg, hnc, _⟩
  · injection hv with _ h1 _; exact .inr h1
  · injection hv with _ h1 h2; subst h1 h2; exact .inl hnc
theorem implFull_any (A0 : Option Addr) (n0 c0 : Nat) (st : List Int) (A : Option Addr) (n c : Nat) (net : List Int) (factor : Int) (A' : Option Addr) (n' c' : Nat) (places : List Int) (w : World) (h0 : Rd w 1 A0 n0 (ints st)) (hcap : n0 ≤ c0) (h : Rd w 1 A n (ints net)) (h' : Rd w 1 A' n' (ints places)) :
    Calls Try.prog 33 #[.slice A0 n0 c0, .slice A n c, .int .i64 factor, .slice A' n' c'] w (RetI w (fullF st net factor places)) := by
  have HN := Lib.hid h.len_int
  have HN' := Lib.hid h'.len_int
  have HN0 := Lib.hid h0.len_int
  have hle0 := h0.le
  have hle1 := h.le
  have HB := Lib.hid (placesCode_any A n c net factor A' n' c' places 0 w h h')
  unfold fullF
  by_cases hz : placesCodeF net factor places 0 = 0
  · have hv := valid_of hz
    obtain ⟨h1, hpl, hp⟩ := placesCode_ok hz
    rw [if_pos hz]
    rw [HN.out] at hv
    have hnn : n' = n := HN'.out.symm.trans hv.pl
    subst hnn
    rw [hz] at HB
    clear hz
    rw [HN0.out, HN.out]
    have hn5 := hv.n5
    have hn1 := hv.n1
    by_cases hlen : n0 < n' ∨ 16 < n0
    · rw [if_pos hlen]
      by_cases hl1 : n0 < n'
      · have hd : decide (n0 < n') = true := by simp; omega
        clear hlen
        go_enter Try.func33, Try.ntmps33
        go_wp2_with fail
        refine HB.out.mono ?_
        rintro e w1 ⟨rfl, hb1⟩
        go_wp2_with fail
        go_ret2
        exact RetI.nil _ _ _ hb1
      · have hd : decide (n0 < n') = false := by simp; omega
        have hd2 : decide ((16 : Int) < (n0 : Int)) = true := by simp; omega
        clear hlen hl1
        go_enter Try.func33, Try.ntmps33
        go_wp2_with fail
        refine HB.out.mono ?_
        rintro e w1 ⟨rfl, hb1⟩
        go_wp2_with fail
        go_ret2
        exact RetI.nil _ _ _ hb1
    · rw [if_neg hlen]
      have hd : decide (n0 < n') = false := by simp; omega
      have hd2 : decide ((16 : Int) < (n0 : Int)) = false := by simp; omega
      have hge : n' ≤ n0 := by omega
      have h16 : n0 ≤ 16 := by omega
      clear hlen
      obtain ⟨b0, o0, rfl, _⟩ := h0.pos (show 0 < n0 by omega)
      have hdb : distinctB st = distF st n0 0 := by unfold distinctB; rw [HN0.out]
      rw [hdb]
      clear hdb
      have HFO := Lib.hid (fun W g1 g2 => finalOrder_any A n' c net factor A' c' places W hv g1 g2)
      have hol : (orderF factor net places).length = n' := by rw [orderF_len, HN.out]
      have hom : ∀ x ∈ orderF factor net places, 0 ≤ x ∧ x < n' := fun x hx => by have := order_mem (hpl) hp x hx; have := HN.out; omega
      generalize orderF factor net places = od at *
      have HOL := Lib.hid hol; have HOM := Lib.hid hom
      clear hol hom
      generalize hres : (if distF st n0 0 then (od.map (fun k => st.getD k.toNat 0) ++ st.drop n', (0 : Int)) else ([], 5)) = res
      have HRES := Lib.hid hres
      clear hres hpl hp h1
      have HV := Lib.hid hv
      clear hv
      go_enter Try.func33, Try.ntmps33
      go_wp2_with fail
      refine HB.out.mono ?_
      rintro e w1 ⟨rfl, hb1⟩
      have HB1 := Lib.hid hb1
      go_wp2_with fail
      go_loopw [11, 12, 35] (fun _ _ i wr => ∃ k : Nat, k ≤ n0 ∧ i = .int .i64 k ∧ Hid (distF st (n0 - k) k = distF st n0 0) ∧ Drawn w1 wr) (fun _ _ i _ => n0 - (intOf i).toNat)
      case atStart => exact ⟨0, Nat.zero_le _, rfl, rfl, Drawn.refl _⟩
      case round =>
        obtain ⟨k, hk, rfl, HR, hq⟩ := hrel
        by_cases hlt : k < n0
        · have hrd := (h0.below HB1.out).drawn hq
          obtain ⟨b, o, x, hbo, hx, _, hcx⟩ := hrd.int hlt
          obtain ⟨rfl, rfl⟩ : b0 = b ∧ o0 = o := by injection hbo with e; injection e with e1 e2; exact ⟨e1, e2⟩
          have hct := contains_any (some ⟨b0, o0, none⟩) k c0 (st.take k) x wr (Rd.take hrd k (by omega))
          have hst : distF st (n0 - k) k = if x ∈ st.take k then false else distF st (n0 - (k + 1)) (k + 1) := by
            rw [show n0 - k = (n0 - (k + 1)) + 1 from by omega, distF, List.getD_eq_getElem?_getD, hx]; rfl
          have HST := Lib.hid hst
          clear hst hbo hx hb1
          by_cases hmem : x ∈ st.take k
          · rw [if_pos hmem] at HST
            rw [decide_eq_true hmem] at hct
            have HCT := Lib.hid hct
            clear hct hmem
            go_wp2_with fail
            refine HCT.out.mono ?_
            rintro e w2 ⟨rfl, hq2⟩
            have HBQ := Lib.hid (HB1.out.trans ((hq.below.trans (hq2.below.mono hq.below.size)).mono HB1.out.size))
            have hr0 : res = ([], 5) := by rw [← HRES.out, ← HR.out, HST.out]; rfl
            have HR0 := Lib.hid hr0
            clear hr0
            go_wp2_with fail
            go_ret2
            rw [HR0.out]
            exact RetI.nil _ _ _ HBQ.out
          · rw [if_neg hmem] at HST
            rw [decide_eq_false hmem] at hct
            have HCT := Lib.hid hct
            clear hct hmem
            go_wp2_with fail
            refine HCT.out.mono ?_
            rintro e w2 ⟨rfl, hq2⟩
            have hq3 := drawn_trans hq hq2
            clear hq hq2
            go_wp2_with fail
            go_roundw
            case rel => exact ⟨k + 1, by omega, by go_num, by unfold Hid; rw [← HR.out, HST.out], hq3⟩
            case measure => simp [intOf]; omega
        · obtain rfl : k = n0 := by omega
          have hr0 : res = (od.map (fun k => st.getD k.toNat 0) ++ st.drop n', 0) := by
            rw [← HRES.out, ← HR.out, Nat.sub_self]; rfl
          have HR0 := Lib.hid hr0
          have HBQ := Lib.hid (HB1.out.trans (hq.below.mono HB1.out.size))
          clear hr0 hb1 hq HR HRES
          obtain ⟨wo, rfl⟩ : ∃ wo : World, wo = wr := ⟨_, rfl⟩
          have hsq := HBQ.out.size
          have hoe := own_empty wo wo.heap.size 2 (Nat.le_refl _)
          have hbe : Below wo.heap.size wo (wo.alloc (.cells #[] 2)) := (Below.refl _ _).alloc (Nat.le_refl _) _
          obtain ⟨wa, hwa⟩ : ∃ wa, wa = wo.alloc (.cells #[] 2) := ⟨_, rfl⟩
          rw [← hwa] at hoe hbe
          have HBA := Lib.hid (HBQ.out.trans (hbe.mono HBQ.out.size))
          have HBE := Lib.hid hbe
          have HOE := Lib.hid hoe
          have HWA := Lib.hid hwa
          clear hwa hoe hbe
          go_wp2_with fail
          rw [show wo.alloc (.cells #[] 2) = wa from HWA.out.symm]
          refine (HFO.out _ (h.below HBA.out) (h'.below HBA.out)).mono ?_
          rintro e w2 ⟨A2, n2, c2, rfl, ho2, _, hb2⟩
          obtain rfl : n' = n2 := by have h0 : od.length = n2 := own_len ho2; have := HOL.out; omega
          have HO := Lib.hid (own_below HOE.out hb2)
          have HB2 := Lib.hid (HBA.out.trans (hb2.mono HBA.out.size))
          have HO2 := Lib.hid ho2
          have hsz2 := hb2.size
          have hsza := HBE.out.size
          clear ho2 hb2
          go_wp2_with fail
          have hod := HO2.out.lt
          have HOD := Lib.hid hod
          clear hod
          have hsn : w.heap.size ≤ wo.heap.size := hsq
          go_loopw [13, 15, 52] (fun v _ i w5 => ∃ (q cq gq : Nat), q ≤ n' ∧ i = .int .i64 q ∧ v = .slice (some ⟨gq, 0, none⟩) q cq ∧ w5.ownsRow wo.heap.size 2 1 (.slice (some ⟨gq, 0, none⟩) q cq) q (ints ((od.take q).map (fun k => st.getD k.toNat 0))) ∧ (gq = wo.heap.size ∨ w2.heap.size ≤ gq) ∧ Below w.heap.size w w5 ∧ w5.ownsRow wa.heap.size 2 1 (.slice A2 n' c2) n' (ints od) ∧ w2.heap.size ≤ w5.heap.size) (fun _ _ i _ => n' - (intOf i).toNat)
          case atStart => exact ⟨0, 0, _, Nat.zero_le _, rfl, rfl, HO.out, .inl rfl, HB2.out, HO2.out, Nat.le_refl _⟩
          case round =>
            clear HO HO2 HB2
            obtain ⟨q, cq, gq, hq, rfl, rfl, ho, hgq, hb5, hod, hs5⟩ := hrel
            have HGQ := Lib.hid hgq
            clear hgq
            by_cases hlt : q < n'
            · obtain ⟨b2, o2, kk, rfl, hkk, _, hckk⟩ := (own_rd hod).int hlt
              obtain ⟨hk0, hk1⟩ := HOM.out kk (List.mem_of_getElem? hkk)
              obtain ⟨kx, rfl⟩ := int_up kk hk0
              obtain ⟨b, o, x, hbo, hx, _, hcx⟩ := (h0.below hb5).int (show kx < k by omega)
              obtain ⟨rfl, rfl⟩ : b0 = b ∧ o0 = o := by injection hbo with e; injection e with e1 e2; exact ⟨e1, e2⟩
              have htk : (od.take (q + 1)).map (fun k => st.getD k.toNat 0) = (od.take q).map (fun k => st.getD k.toNat 0) ++ [x] := by
                rw [take_snoc_get hkk, List.map_append]
                simp only [List.map_cons, List.map_nil, Int.toNat_natCast]
                rw [List.getD_eq_getElem?_getD, hx]; rfl
              have HTK := Lib.hid htk
              have O := Lib.hid ho; have B5 := Lib.hid hb5; have D := Lib.hid hod
              clear hbo hx hkk htk ho hb5 hod
              go_wp2_with (at_builtin; refine app_i64w _ rfl _ _ rfl rfl (O.out.alloc _) rfl (cell_new1 _ _ _) (by omega) ?cB ?_; rotate_left; intro g1 c1 w6 hown1 hgr1 hg1)
              · have hrow := D.out.lt
                have hb6 := below_app B5.out B5.out.size hsn O.out hgr1
                have hgr := hgr1.size
                have hod6 : w6.ownsRow wa.heap.size 2 1 (.slice (some ⟨b2, o2, none⟩) n' c2) n' (ints od) := (D.out.alloc _).kept hgr1 (by
                  refine .inr (fun e => ?_)
                  have h9 := HOD.out gq e
                  have h8 := HGQ.out
                  have h7 := HWA.out
                  have h6 : wa.heap.size = wo.heap.size + 1 := by rw [h7]; simp
                  omega)
                have hg2 : g1 = wo.heap.size ∨ w2.heap.size ≤ g1 := by
                  rcases hg1 with e | e
                  · injection e with e; have := HGQ.out; simp only at e; omega
                  · simp at e; omega
                have hs6 : w2.heap.size ≤ w6.heap.size := by simp at hgr; omega
                go_roundw
                case rel => exact ⟨q + 1, _, _, by omega, by go_num, rfl, by rw [HTK.out]; exact hown1, hg2, hb6, hod6, hs6⟩
                case measure => simp [intOf]; omega
              · simp; omega
            · obtain rfl : q = n' := by omega
              rw [List.take_of_length_le (by rw [HOL.out]; omega)] at ho
              have hdr := Rd.drop (h0.below hb5) q
              have hbs := hb5.size
              have O := Lib.hid ho; have B5 := Lib.hid hb5; have DR := Lib.hid hdr
              clear ho hb5 hdr hod
              have hml : (od.map (fun k => st.getD k.toNat 0)).length = q := by rw [List.length_map]; exact HOL.out
              by_cases hcq : c0 = q
              · obtain rfl : k = q := by omega
                subst hcq
                go_wp2_with (at_builtin; refine app_src2 _ rfl _ _ rfl rfl O.out (ys := st.drop c0) rfl c0 (by omega) (od.map (fun k => st.getD k.toNat 0) ++ st.drop c0) rfl (by rw [List.length_drop, HN0.out]; omega) (fun j y hy => by rw [List.drop_eq_nil_of_le (by rw [HN0.out]; omega)] at hy; simp at hy) (by omega) (by omega) ?_; intro g4 c4 w6 ho6 hgr6)
                have hb6 : Below w.heap.size w w6 := B5.out.grown hgr6 (by omega) (fun q' e => by injection e with e; subst e; have := (O.out.lt gq rfl).1; show w.heap.size ≤ gq; omega)
                have O6 := Lib.hid (own_base ho6 hsn)
                clear ho6 hgr6
                go_wp2_with fail
                go_ret2
                rw [HR0.out]
                exact ⟨_, _, _, rfl, O6.out, by omega, hb6⟩
              · go_wp2_with (at_builtin; refine app_src2 _ rfl _ _ rfl rfl O.out (ys := st.drop q) rfl k (by omega) (od.map (fun k => st.getD k.toNat 0) ++ st.drop q) rfl (by rw [List.length_drop, HN0.out]) DR.out (by omega) (by omega) ?_; intro g4 c4 w6 ho6 hgr6)
                have hb6 : Below w.heap.size w w6 := B5.out.grown hgr6 (by omega) (fun q' e => by injection e with e; subst e; have := (O.out.lt gq rfl).1; show w.heap.size ≤ gq; omega)
                have O6 := Lib.hid (own_base ho6 hsn)
                clear ho6 hgr6
                go_wp2_with fail
                go_ret2
                rw [HR0.out]
                exact ⟨_, _, _, rfl, O6.out, by omega, hb6⟩
  · rw [if_neg hz]
    generalize placesCodeF net factor places 0 = code at *
    have hne : (code != 0) = true := by simp [hz]
    clear hz
    go_enter Try.func33, Try.ntmps33
    go_wp2_with fail
    refine HB.out.mono ?_
    rintro e w1 ⟨rfl, hb1⟩
    go_wp2_with fail
    go_ret2
    exact RetI.nil _ _ _ hb1
end Go.Proofs.Ytfkllgnenbbccaa

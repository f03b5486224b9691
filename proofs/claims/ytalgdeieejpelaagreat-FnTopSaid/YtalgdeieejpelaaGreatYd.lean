/- Walks: the table of a register, both sides. -/
import Derived.Test.YtalgdeieejpelaaGreatYc
import Derived.Test.YtalgdeieejpelaaGreatJp
import Derived.Test.YtalgdeieejpelaaGreatRj
import Derived.Test.YtalgdeieejpelaaGreatZml
namespace Go.Proofs.YtalgdeieejpelaaGreat
open Go.RowKit Go.Sort
set_option linter.unusedVariables false
set_option maxRecDepth 100000

section
variable {ops : Array Oper} {rest : List Oper} {o : Oper} {a : Act} {Q : Exit → Act → World → Prop}
theorem app_red (w : World) (hgd : o.guard = none) (s x : Operand)
    (ho : o.op = .call { callee := .builtin .append, args := #[s, x], argTypes := #[105, 105] }) {base n c : Nat} {A : Option Addr} {xs : List RedT}
    (hs : a.eval s = .slice A n c) (hown : w.ownsRow base 109 4 (.slice A n c) n (reds xs)) {b : Nat} {x0 x1 x2 x3 : Int} (hx : a.eval x = .slice (some ⟨b, 0, none⟩) 1 1)
    (hc : w.heap[b]? = some (.cells #[.int .i64 x0, .int .i64 x1, .int .i64 x2, .int .i64 x3] 109 (0, 0))) (hn : n ≤ 1099511627776) (hbase : base ≤ w.heap.size)
    (h : ∀ g c' w', w'.ownsRow base 109 4 (.slice (some ⟨g, 0, none⟩) (n + 1) c') (n + 1) (reds (xs ++ [(x0, x1, x2, x3)])) → w.grownBy w' (Value.slice A n c).ownBlock → ((Value.slice A n c).ownBlock = some g ∨ g = w.heap.size) → g < w'.heap.size → wpList Tryz.prog ops Q rest (a.put o.dst (.slice (some ⟨g, 0, none⟩) (n + 1) c')) w') :
    wpList Tryz.prog ops Q (o :: rest) a w := by
  obtain ⟨i, hi, hz, hs1, hb1⟩ := info_parts Tryz.info_red
  have e : ∀ (ys : List RedT), reds ys ++ [.int .i64 x0, .int .i64 x1, .int .i64 x2, .int .i64 x3] = reds (ys ++ [(x0, x1, x2, x3)]) := fun ys => by unfold reds; rw [List.flatMap_append]; rfl
  exact wpList_append_lies w hgd s x 105 ho base 109 i (.agg #[.int .i64 0, .int .i64 0, .int .i64 0, .int .i64 0]) 4 32 Tryz.underlying105 hi hz hs1 hb1 rfl (by decide) (.slice A n c) n (reds xs) hs hown ⟨b, 0, none⟩ 1 1 [.int .i64 x0, .int .i64 x1, .int .i64 x2, .int .i64 x3] hx rfl (World.news_of_block (cs := #[.int .i64 x0, .int .i64 x1, .int .i64 x2, .int .i64 x3]) hc)
    (by intro u hu; simp at hu; rcases hu with rfl | rfl | rfl | rfl <;> rfl) (by decide) (by unfold maxLen; omega) (by omega) hbase _ rfl (by rw [e]; exact h)
end
theorem own_emptyR (w : World) (base e s : Nat) (hb : base ≤ w.heap.size) {z : Nat} (hz : z = w.heap.size) : (w.alloc (.cells #[] e)).ownsRow base e s (.slice (some ⟨z, 0, none⟩) 0 0) 0 [] := by
  subst hz; exact own_emptyE w base e s hb
/-- What an entry of a valid register brings. -/
theorem cur_facts {b s : Int} {xs : List EntryT} (h : RegOk b s xs) {x : EntryT} (hx : x ∈ currF b xs) : 0 ≤ E.boat x ∧ E.boat x < b ∧ (E.kind x = 0 ∨ E.kind x = 1 ∨ E.kind x = 2 ∨ E.kind x = 3) := by
  obtain ⟨hm, _, _, h3, h4⟩ := currF_mem hx
  refine ⟨h3, h4, ?_⟩
  have he := (h.ent x hm).1
  unfold entB at he
  rw [Bool.and_eq_true] at he
  have he2 := he.2
  by_cases hk : E.kind x = 0
  · exact .inl hk
  · rw [if_neg hk, Bool.and_eq_true] at he2
    have hr := he2.2
    unfold isRedB at hr
    by_cases h3 : E.kind x = 3
    · exact .inr (.inr (.inr h3))
    · rw [if_neg h3, Bool.and_eq_true] at hr
      have := withinB_iff.1 hr.1
      right; omega
theorem keep_pt {t : Tb} {x : EntryT} (h0 : E.kind x ≠ 0) : keepB t x = (redPtF t (redE x)).2 := by
  unfold keepB redPtF redE
  have h1 : (E.kind x == 0) = false := by simp [h0]
  simp only
  by_cases h3 : E.kind x = 3
  · rw [if_pos h3, h1, h3]; rfl
  · have h3b : (E.kind x == 3) = false := by simp [h3]
    rw [if_neg h3, h1, h3b]; rfl
theorem keep_av {t : Tb} {x : EntryT} (h0 : E.kind x ≠ 0) : keepB t x = ((avgF t (E.race x) (E.boat x) (E.kind x)).2 || (E.kind x == 3)) := by
  unfold keepB
  have h1 : (E.kind x == 0) = false := by simp [h0]
  rw [h1, Bool.or_comm]; rfl
set_option maxHeartbeats 4000000 in
theorem implRegTab_any (b s : Int) (A : Option Addr) (n c : Nat) (xs : List EntryT) (hok : RegOk b s xs) (w : World) (hr : RegRd w A n c xs) :
    Calls Tryz.prog 43 #[.agg #[.int .i64 b, .int .i64 s, .slice A n c]] w (RetT w (tabR b s xs)) := by
  have hlen : n ≤ 400 := by have := hok.len; have := hr.1.len_ent; omega
  have hs : s = 0 ∨ s = 1 := by have := hok.s0; have := hok.s1; omega
  have HSE := Lib.hid (fun w' (hb : Below w.heap.size w w') => implSeries_any b s A n c xs w' (hr.below hb) hlen hok.okE hok.key hok.b1 hok.b2)
  have HCU := Lib.hid (fun w' (hb : Below w.heap.size w w') => implCurrent_any b s A n c xs w' (hr.below hb) hlen hok.okE hok.key hok.b1 hok.b2)
  have HTB := Lib.hid (show ∀ A n c W, RdRaces W A n (serF b xs) → Calls Tryz.prog 63 #[.agg #[.int .i64 b, .int .i64 s, .slice A n c]] W (RetT W (tab0 b s xs)) from fun A n c W h => implTableOf_any b s A n c (serF b xs) hok.b1 hok.b2 hs (serF_good b xs) (serF_race hok) W h)
  have hto := tab0_ok hok
  have hro := reds_ok hok
  have hcf := fun x (hx : x ∈ currF b xs) => cur_facts hok hx
  have hbt : (tab0 b s xs).boats = b := rfl
  unfold tabR
  generalize tab0 b s xs = t at *
  generalize currF b xs = L at *
  rw [← hbt] at hcf
  have HCF := Lib.hid hcf
  have HAP := Lib.hid (fun P n c C m d A l cl W h hl => applyRedress_any P n c C m d t A l cl (redsOf t L) hto hro W h hl)
  have HRP := Lib.hid (fun P n c C m d x0 (bt : Nat) x2 x3 hk (hb : (bt : Int) < t.boats) W h => redressPoints_any P n c C m d t x0 bt x2 x3 hk hto hb W h)
  obtain ⟨w1, hw1, X0, X1, hb1, hs1⟩ := two_boxes w #[.int .i64 b, .int .i64 s, .slice A n c] #[.int .i64 0, .slice none 0 0, .slice none 0 0] 31 53
  have HB1 := Lib.hid hb1
  have HX0 := Lib.hid X0; have HX1 := Lib.hid X1
  have hz1 : w.heap.size + 1 < w1.heap.size := by omega
  have F0 := X0.f3
  clear hb1 X0 X1 hs1 hr hto hro hcf hok hbt
  go_enter Tryz.func43, Tryz.ntmps43
  go_wp2_with fail
  rw [← hw1]
  clear hw1
  refine (HSE.out _ HB1.out).mono ?_
  rintro e w2 ⟨A2, n2, c2, vs2, rfl, ho2, _, hb2⟩
  have HB2 := Lib.hid (HB1.out.trans (hb2.mono HB1.out.size))
  have HO2 := Lib.hid ho2.rd
  replace HX0 := Lib.hid (HX0.out.below hb2); replace HX1 := Lib.hid (HX1.out.below hb2)
  have hz2 := hb2.size
  clear hb2 ho2 HSE F0
  go_wp2_with fail
  refine (HTB.out A2 n2 c2 w2 HO2.out).mono ?_
  rintro e w3 ⟨P, n3, c3, vs3, C, m3, d3, us3, rfl, ho3, _, hb3⟩
  have HB3 := Lib.hid (HB2.out.trans (hb3.mono HB2.out.size))
  have HO3 := Lib.hid ho3.rd
  replace HX0 := Lib.hid (HX0.out.below hb3); replace HX1 := Lib.hid (HX1.out.below hb3)
  have hz3 := hb3.size
  clear hb3 ho3 HTB HO2
  obtain ⟨we, hwe, hbe, hse⟩ := alloc_new w3 #[] 109
  have hol := own_emptyR w3 w3.heap.size 109 4 (Nat.le_refl _) rfl
  rw [← hwe] at hol
  obtain ⟨w4, hw4, XT, hb4, hs4⟩ := one_box we #[.int .i64 t.boats, .slice P n3 c3, .slice C m3 d3] 53
  have HBE := Lib.hid (hbe.trans (hb4.mono hbe.size))
  have hol := own_below hol hb4
  have F0 := (HX0.out.below HBE.out).f3
  have hz4 := HBE.out.size
  have hse' : we.heap.size = w3.heap.size + 1 := hse
  have HXT := Lib.hid XT
  clear hbe hb4 XT
  simp only
  rw [hw4, hwe] at F0
  go_wp2_with fail
  rw [← hwe]
  (try rw [← hse'])
  rw [← hw4]
  clear hwe hw4
  refine (HCU.out _ (HB3.out.trans (HBE.out.mono HB3.out.size))).mono ?_
  rintro e w5 ⟨A5, n5, c5, rfl, ho5, hn5, hb5⟩
  have hbl := own_below hol hb5
  have HBR := Lib.hid (HBE.out.trans (hb5.mono HBE.out.size))
  replace HXT := Lib.hid (HXT.out.below hb5)
  have HE5 := Lib.hid ho5
  clear hb5 ho5 hol HBE F0 HCU
  have tb : ∃ tb, tb = we.heap.size := ⟨_, rfl⟩
  obtain ⟨tb, htb⟩ := tb
  rw [← htb] at HXT
  (try rw [← htb])
  have htbw : w3.heap.size < tb := by omega
  have HZ := Lib.hid htb
  clear htb hse' hse hs4
  have HL0 := Lib.hid hbl
  clear hbl
  have HLN := Lib.hid (own_len_flat entC_len (by decide) HE5.out)
  (try go_wp2_with fail)
  go_loopw [4, 17] (fun v i wr => ∃ (k m' c' : Nat) (A' : Option Addr), k ≤ n5 ∧ m' ≤ k ∧ i = .int .i64 k ∧ v = .slice A' m' c' ∧ Hid (wr.ownsRow w3.heap.size 109 4 (.slice A' m' c') m' (reds (redsOf t (L.take k)))) ∧ Hid (wr.ownsRow w3.heap.size 50 7 (.slice A5 n5 c5) n5 (ents L)) ∧ Hid (Box wr tb #[.int .i64 t.boats, .slice P n3 c3, .slice C m3 d3] 53) ∧ Hid (Below w3.heap.size w3 wr)) (fun _ i _ => n5 - (intOf i).toNat)
  case atStart => exact ⟨0, 0, 0, _, Nat.zero_le _, Nat.le_refl _, rfl, rfl, HL0, Lib.hid (own_base HE5.out (by omega)), HXT, HBR⟩
  case round =>
    clear HL0 HE5 HXT HBR
    obtain ⟨k, m', c', A', hk, hm, rfl, rfl, HO, HE, HT, HB⟩ := hrel
    obtain ⟨wo, hwo⟩ : ∃ wo : World, wo = wr := ⟨_, rfl⟩
    subst hwo
    have hso := HB.out.size
    by_cases hlt : k < n5
    · obtain ⟨g5, x0, x1, x2, x3, x4, x5, x6, rfl, hg5, hg5l, hx, _, c0, c1, c2_, c3_, c4, c5_, c6, _⟩ := own_ent_at HE.out hlt
      have hmem := List.mem_of_getElem? hx
      obtain ⟨hb0, hb1, hkd⟩ := HCF.out _ hmem
      simp only [E.boat, E.kind] at hb0 hb1 hkd
      obtain ⟨bt, rfl⟩ := int_up x1 hb0
      have HSN := Lib.hid (show redsOf t (L.take (k + 1)) = if keepB t (x0, (bt : Int), x2, x3, x4, x5, x6) = true then redsOf t (L.take k) ++ [(x0, (bt : Int), x5, x6)] else redsOf t (L.take k) from by rw [take_snoc_get hx]; exact redsOf_snoc _ _ _)
      clear hx hmem hb0
      obtain ⟨wa, hwa, XE, XX, hba, hsa⟩ := two_boxes wo #[.int .i64 x0, .int .i64 (bt : Int), .int .i64 x2, .int .i64 x3, .int .i64 x4, .int .i64 x5, .int .i64 x6] #[.int .i64 x0, .int .i64 (bt : Int), .int .i64 x5, .int .i64 x6] 50 109
      have HOA := Lib.hid (own_below HO.out hba); have HEA := Lib.hid (own_below HE.out hba); have HTA := Lib.hid (HT.out.below hba); have HBA := Lib.hid (HB.out.trans (hba.mono hso))
      have HXX := Lib.hid XX
      have FX := XX.f4
      clear hba XE XX
      by_cases e5 : x5 = 0
      · subst e5
        have HKB := Lib.hid (show keepB t (x0, (bt : Int), x2, x3, x4, 0, x6) = false from rfl)
        go_wp2_with fail
        rw [← hwa]
        clear hwa
        (try go_wp2_with fail)
        go_roundw
        case rel => exact ⟨k + 1, m', c', A', by omega, by omega, by go_num, rfl, Lib.hid (by rw [HSN.out, HKB.out, if_neg (by decide)]; exact HOA.out), HEA, HTA, HBA⟩
        case measure => simp [intOf] <;> omega
      · have e5b : (x5 == 0) = false := by simp [e5]
        have HKP := Lib.hid (show keepB t (x0, (bt : Int), x2, x3, x4, x5, x6) = (redPtF t (x0, (bt : Int), x5, x6)).2 from keep_pt (t := t) (x := (x0, (bt : Int), x2, x3, x4, x5, x6)) e5)
        have hk123 : x5 = 1 ∨ x5 = 2 ∨ x5 = 3 := by omega
        have FT := HTA.out.f3
        rw [hwa] at FT
        have HRD := Lib.hid (HO3.out.below HBA.out)
        go_wp2_with fail
        rw [← hwa]
        clear hwa c0 c1 c2_ c3_ c4 c5_ c6
        (try go_wp2_with fail)
        refine (HRP.out P n3 c3 C m3 d3 x0 bt x5 x6 hk123 hb1 wa HRD.out).mono ?_
        rintro e wq ⟨rfl, hbq⟩
        have HOQ := Lib.hid (own_below HOA.out hbq); have HEQ := Lib.hid (own_below HEA.out hbq)
        have HTQ := Lib.hid (HTA.out.below hbq)
        have HBQ := Lib.hid (HBA.out.trans (hbq.mono HBA.out.size))
        have hsq := HBQ.out.size
        have FX := (HXX.out.below hbq).f4
        clear hbq FT HRD
        simp only
        rw [HKP.out] at HSN
        cases hkp : (redPtF t (x0, (bt : Int), x5, x6)).2 with
        | false =>
          rw [hkp] at HSN
          have HS2 := Lib.hid (show redsOf t (L.take (k + 1)) = redsOf t (L.take k) from by have := HSN.out; simpa using this)
          clear hkp HKP HSN
          go_wp2_with fail
          go_roundw
          case rel => exact ⟨k + 1, m', c', A', by omega, by omega, by go_num, rfl, Lib.hid (by rw [HS2.out]; exact HOQ.out), HEQ, HTQ, HBQ⟩
          case measure => simp [intOf] <;> omega
        | true =>
          rw [hkp] at HSN
          have HS2 := Lib.hid (show redsOf t (L.take (k + 1)) = redsOf t (L.take k) ++ [(x0, (bt : Int), x5, x6)] from by have := HSN.out; simpa using this)
          clear hkp HKP HSN
          go_wp2_with (at_builtin; refine app_red (x0 := x0) (x1 := (bt : Int)) (x2 := x5) (x3 := x6) _ rfl _ _ rfl rfl (own_below HOQ.out ((Below.refl _ _).alloc (Nat.le_refl _) _)) rfl (heap_alloc_new _ _) (by omega) ?cB1 ?_; rotate_left; intro g9 c9 w9 hown9 hgr9 _ _)
          · have HON := Lib.hid hown9
            have hba9 : Below wq.heap.size wq (wq.alloc (.cells #[.int .i64 x0, .int .i64 (bt : Int), .int .i64 x5, .int .i64 x6] 109)) := (Below.refl _ _).alloc (Nat.le_refl _) _
            have HOW := Lib.hid (own_below HOQ.out hba9)
            have HTN := Lib.hid ((HTQ.out.below hba9).grown hgr9 (own_box_ne HOW.out (HTQ.out.below hba9) (by decide)))
            have HEN := Lib.hid ((own_below HEQ.out hba9).kept hgr9 (by
              rcases hb : (Value.slice (some ⟨g5, 0, none⟩) n5 c5).ownBlock with _ | q
              · exact .inl rfl
              · exact .inr (fun he => own_type_ne HOW.out (own_below HEQ.out hba9) (by decide) q he.symm hb)))
            have HBN := Lib.hid ((HBQ.out.alloc hsq _).grown hgr9 (by simp; omega) (fun q hq => (HOQ.out.lt q hq).1))
            clear hown9 hgr9
            go_roundw
            case rel => exact ⟨k + 1, m' + 1, _, _, by omega, by omega, by go_num, rfl, Lib.hid (by rw [HS2.out]; exact HON.out), HEN, HTN, HBN⟩
            case measure => simp [intOf] <;> omega
          · first | omega | (simp; omega)
    · obtain rfl : k = n5 := by omega
      have ho := HO.out
      rw [List.take_of_length_le (by rw [HLN.out]; exact Nat.le_refl _)] at ho
      have HAQ := Lib.hid (HAP.out P n3 c3 C m3 d3 A' m' c' wo (HO3.out.below HB.out) (own_rd ho))
      have FT := HT.out.f3
      have F1 := HX1.out.below HB.out
      have HBO := Lib.hid (HB3.out.trans (HB.out.mono HB3.out.size))
      clear ho HO HE
      go_wp2_with fail
      refine HAQ.out.mono ?_
      rintro e w9 ⟨P9, n9, c9, vs9, C9, m9, d9, us9, rfl, ho9, hsum9, hb9⟩
      have F9 := (F1.below hb9).f3
      have HB9 := Lib.hid (HBO.out.trans (hb9.mono HBO.out.size))
      have hs9 := HBO.out.size
      have hs99 := hb9.size
      clear hb9 FT F1 HAQ
      simp only at ho9 hsum9 ⊢
      go_wp2_with fail
      refine bodyPost_ret (v := .agg #[.int .i64 (applyF t (redsOf t L)).boats, .slice P9 n9 c9, .slice C9 m9 d9]) (by simp [results, Tryz.results43, go_sem, F9]) rfl ?_
      have hch := put_chg (g := w.heap.size + 1) [.int .i64 (applyF t (redsOf t L)).boats, .slice P9 n9 c9, .slice C9 m9 d9] 0 (Chg.refl (w.heap.size + 1) (w.heap.size + 1 + 1) w9) (by omega) (by omega)
      have hso9 := (ho9.chg hch ho9.in_ (.inr (by omega))).base' (show w.heap.size ≤ wo.heap.size by omega)
      exact ⟨P9, n9, c9, vs9, C9, m9, d9, us9, rfl, hso9, hsum9, below_chg HB9.out hch (by omega) (by have := HB9.out.size; omega)⟩
set_option maxHeartbeats 4000000 in
theorem specRegTab_any (b s : Int) (A : Option Addr) (n c : Nat) (xs : List EntryT) (hok : RegOk b s xs) (w : World) (hr : RegRd w A n c xs) :
    Calls Tryz.prog 38 #[.agg #[.int .i64 b, .int .i64 s, .slice A n c]] w (RetT w (tabR b s xs)) := by
  have hlen : n ≤ 400 := by have := hok.len; have := hr.1.len_ent; omega
  have hs : s = 0 ∨ s = 1 := by have := hok.s0; have := hok.s1; omega
  have HSE := Lib.hid (fun w' (hb : Below w.heap.size w w') => specSeries_any b s A n c xs w' (hr.below hb) hlen hok.okE hok.key hok.b1 hok.b2)
  have HCU := Lib.hid (fun w' (hb : Below w.heap.size w w') => specCurrent_any b s A n c xs w' (hr.below hb) hlen hok.okE hok.key hok.b1 hok.b2)
  have HTB := Lib.hid (show ∀ A n c W, RdRaces W A n (serF b xs) → Calls Tryz.prog 68 #[.agg #[.int .i64 b, .int .i64 s, .slice A n c]] W (RetTC W (tab0 b s xs, 0)) from fun A n c W h => specTableOf_any b s A n c (serF b xs) hok.b1 hok.b2 hs (serF_good b xs) (serF_race hok) W h)
  have hto := tab0_ok hok
  have hro := reds_ok hok
  have hcf := fun x (hx : x ∈ currF b xs) => cur_facts hok hx
  have hbt : (tab0 b s xs).boats = b := rfl
  unfold tabR
  generalize tab0 b s xs = t at *
  generalize currF b xs = L at *
  rw [← hbt] at hcf
  have HCF := Lib.hid hcf
  have HAP := Lib.hid (fun P n c C m d A l cl W h hl => l29Apply_any P n c C m d t A l cl (redsOf t L) hto hro W h hl)
  have HRP := Lib.hid (fun P n c C m d x0 (bt : Nat) x2 (hb : (bt : Int) < t.boats) W h => specAvg_any P n c C m d t x0 bt x2 hto hb W h)
  obtain ⟨w1, hw1, X0, X1, hb1, hs1⟩ := two_boxes w #[.int .i64 b, .int .i64 s, .slice A n c] #[.int .i64 0, .slice none 0 0, .slice none 0 0] 31 53
  have HB1 := Lib.hid hb1
  have HX0 := Lib.hid X0; have HX1 := Lib.hid X1
  have hz1 : w.heap.size + 1 < w1.heap.size := by omega
  have F0 := X0.f3
  clear hb1 X0 X1 hs1 hr hto hro hcf hok hbt
  go_enter Tryz.func38, Tryz.ntmps38
  go_wp2_with fail
  rw [← hw1]
  clear hw1
  refine (HSE.out _ HB1.out).mono ?_
  rintro e w2 ⟨A2, n2, c2, vs2, rfl, ho2, _, hb2⟩
  have HB2 := Lib.hid (HB1.out.trans (hb2.mono HB1.out.size))
  have HO2 := Lib.hid ho2.rd
  replace HX0 := Lib.hid (HX0.out.below hb2); replace HX1 := Lib.hid (HX1.out.below hb2)
  have hz2 := hb2.size
  clear hb2 ho2 HSE F0
  go_wp2_with fail
  refine (HTB.out A2 n2 c2 w2 HO2.out).mono ?_
  rintro e w3 ⟨P, n3, c3, vs3, C, m3, d3, us3, rfl, ho3, _, hb3⟩
  have HB3 := Lib.hid (HB2.out.trans (hb3.mono HB2.out.size))
  have HO3 := Lib.hid ho3.rd
  replace HX0 := Lib.hid (HX0.out.below hb3); replace HX1 := Lib.hid (HX1.out.below hb3)
  have hz3 := hb3.size
  clear hb3 ho3 HTB HO2
  obtain ⟨w4, hw4, XT, hb4, hs4⟩ := one_box w3 #[.int .i64 t.boats, .slice P n3 c3, .slice C m3 d3] 53
  have HBE := Lib.hid hb4
  have F0 := (HX0.out.below HBE.out).f3
  have hz4 := HBE.out.size
  have HXT := Lib.hid XT
  clear hb4 XT
  simp only
  rw [hw4] at F0
  go_wp2_with fail
  rw [← hw4]
  clear hw4
  refine (HCU.out _ (HB3.out.trans (HBE.out.mono HB3.out.size))).mono ?_
  rintro e wc ⟨A5, n5, c5, rfl, ho5, hn5, hb5⟩
  have HBC := Lib.hid (HBE.out.trans (hb5.mono HBE.out.size))
  replace HXT := Lib.hid (HXT.out.below hb5)
  have hzc := HBC.out.size
  obtain ⟨w5, hw5, hb6, hs6⟩ := alloc_new wc #[] 109
  have hol := own_emptyR wc w3.heap.size 109 4 hzc rfl
  rw [← hw5] at hol
  have HBR := Lib.hid (HBC.out.trans (hb6.mono HBC.out.size))
  replace HXT := Lib.hid (HXT.out.below hb6)
  have HE5 := Lib.hid (own_below ho5 hb6)
  clear hb5 ho5 hb6 HBE F0 HCU
  go_wp2_with fail
  rw [← hw5]
  clear hw5
  obtain ⟨tb, htb⟩ : ∃ tb, tb = w3.heap.size := ⟨_, rfl⟩
  rw [← htb] at HXT
  rw [← htb]
  have htbw : w3.heap.size ≤ tb := by omega
  have HZ := Lib.hid htb
  clear htb hs6 hs4
  have HL0 := Lib.hid hol
  clear hol
  have HLN := Lib.hid (own_len_flat entC_len (by decide) HE5.out)
  (try go_wp2_with fail)
  go_loopw [6, 7] (fun v i wr => ∃ (k m' c' : Nat) (A' : Option Addr), k ≤ n5 ∧ m' ≤ k ∧ i = .int .i64 k ∧ v = .slice A' m' c' ∧ Hid (wr.ownsRow w3.heap.size 109 4 (.slice A' m' c') m' (reds (redsOf t (L.take k)))) ∧ Hid (wr.ownsRow w3.heap.size 50 7 (.slice A5 n5 c5) n5 (ents L)) ∧ Hid (Box wr tb #[.int .i64 t.boats, .slice P n3 c3, .slice C m3 d3] 53) ∧ Hid (Below w3.heap.size w3 wr)) (fun _ i _ => n5 - (intOf i).toNat)
  case atStart => exact ⟨0, 0, 0, _, Nat.zero_le _, Nat.le_refl _, rfl, rfl, HL0, Lib.hid (own_base HE5.out (by omega)), HXT, HBR⟩
  case round =>
    clear HL0 HE5 HXT HBR
    obtain ⟨k, m', c', A', hk, hm, rfl, rfl, HO, HE, HT, HB⟩ := hrel
    obtain ⟨wo, hwo⟩ : ∃ wo : World, wo = wr := ⟨_, rfl⟩
    subst hwo
    have hso := HB.out.size
    by_cases hlt : k < n5
    · obtain ⟨g5, x0, x1, x2, x3, x4, x5, x6, rfl, hg5, hg5l, hx, _, c0, c1, c2_, c3_, c4, c5_, c6, _⟩ := own_ent_at HE.out hlt
      have hmem := List.mem_of_getElem? hx
      obtain ⟨hb0, hb1, hkd⟩ := HCF.out _ hmem
      simp only [E.boat, E.kind] at hb0 hb1 hkd
      obtain ⟨bt, rfl⟩ := int_up x1 hb0
      have HSN := Lib.hid (show redsOf t (L.take (k + 1)) = if keepB t (x0, (bt : Int), x2, x3, x4, x5, x6) = true then redsOf t (L.take k) ++ [(x0, (bt : Int), x5, x6)] else redsOf t (L.take k) from by rw [take_snoc_get hx]; exact redsOf_snoc _ _ _)
      clear hx hmem hb0
      obtain ⟨wa, hwa, XE, hba, hsa⟩ := one_box wo #[.int .i64 x0, .int .i64 (bt : Int), .int .i64 x2, .int .i64 x3, .int .i64 x4, .int .i64 x5, .int .i64 x6] 50
      have HOA := Lib.hid (own_below HO.out hba); have HEA := Lib.hid (own_below HE.out hba); have HTA := Lib.hid (HT.out.below hba); have HBA := Lib.hid (HB.out.trans (hba.mono hso))
      have HXX := Lib.hid XE
      have FX := XE.f7
      clear hba XE
      by_cases e5 : x5 = 0
      · subst e5
        have HKB := Lib.hid (show keepB t (x0, (bt : Int), x2, x3, x4, 0, x6) = false from rfl)
        go_wp2_with fail
        rw [← hwa]
        clear hwa
        (try go_wp2_with fail)
        go_roundw
        case rel => exact ⟨k + 1, m', c', A', by omega, by omega, by go_num, rfl, Lib.hid (by rw [HSN.out, HKB.out, if_neg (by decide)]; exact HOA.out), HEA, HTA, HBA⟩
        case measure => simp [intOf] <;> omega
      · have e5b : (x5 == 0) = false := by simp [e5]
        have HKP := Lib.hid (show keepB t (x0, (bt : Int), x2, x3, x4, x5, x6) = ((avgF t x0 (bt : Int) x5).2 || (x5 == 3)) from keep_av (t := t) (x := (x0, (bt : Int), x2, x3, x4, x5, x6)) e5)
        have hk123 : x5 = 1 ∨ x5 = 2 ∨ x5 = 3 := by omega
        have FT := HTA.out.f3
        rw [hwa] at FT
        have HRD := Lib.hid (HO3.out.below HBA.out)
        go_wp2_with fail
        rw [← hwa]
        clear hwa c0 c1 c2_ c3_ c4 c5_ c6
        (try go_wp2_with fail)
        refine (HRP.out P n3 c3 C m3 d3 x0 bt x5 hb1 wa HRD.out).mono ?_
        rintro e wq ⟨rfl, hbq⟩
        have HOQ := Lib.hid (own_below HOA.out hbq); have HEQ := Lib.hid (own_below HEA.out hbq)
        have HTQ := Lib.hid (HTA.out.below hbq)
        have HBQ := Lib.hid (HBA.out.trans (hbq.mono HBA.out.size))
        have hsq := HBQ.out.size
        have FX := (HXX.out.below hbq).f7
        clear hbq FT HRD
        simp only
        rw [HKP.out] at HSN
        cases hkp : (avgF t x0 (bt : Int) x5).2 with
        | true =>
          rw [hkp] at HSN
          have HS2 := Lib.hid (show redsOf t (L.take (k + 1)) = redsOf t (L.take k) ++ [(x0, (bt : Int), x5, x6)] from by have := HSN.out; simpa using this)
          clear hkp HKP HSN
          go_wp2_with (at_builtin; refine app_red (x0 := x0) (x1 := (bt : Int)) (x2 := x5) (x3 := x6) _ rfl _ _ rfl rfl (own_below HOQ.out ((Below.refl _ _).alloc (Nat.le_refl _) _)) rfl (heap_alloc_new _ _) (by omega) ?cB1 ?_; rotate_left; intro g9 c9 w9 hown9 hgr9 _ _)
          · have HON := Lib.hid hown9
            have hba9 : Below wq.heap.size wq (wq.alloc (.cells #[.int .i64 x0, .int .i64 (bt : Int), .int .i64 x5, .int .i64 x6] 109)) := (Below.refl _ _).alloc (Nat.le_refl _) _
            have HOW := Lib.hid (own_below HOQ.out hba9)
            have HTN := Lib.hid ((HTQ.out.below hba9).grown hgr9 (own_box_ne HOW.out (HTQ.out.below hba9) (by decide)))
            have HEN := Lib.hid ((own_below HEQ.out hba9).kept hgr9 (by
              rcases hb : (Value.slice (some ⟨g5, 0, none⟩) n5 c5).ownBlock with _ | q
              · exact .inl rfl
              · exact .inr (fun he => own_type_ne HOW.out (own_below HEQ.out hba9) (by decide) q he.symm hb)))
            have HBN := Lib.hid ((HBQ.out.alloc hsq _).grown hgr9 (by simp; omega) (fun q hq => (HOQ.out.lt q hq).1))
            clear hown9 hgr9
            go_roundw
            case rel => exact ⟨k + 1, m' + 1, _, _, by omega, by omega, by go_num, rfl, Lib.hid (by rw [HS2.out]; exact HON.out), HEN, HTN, HBN⟩
            case measure => simp [intOf] <;> omega
          · first | omega | (simp; omega)
        | false =>
          rw [hkp] at HSN
          by_cases e3 : x5 = 3
          · subst e3
            have HS2 := Lib.hid (show redsOf t (L.take (k + 1)) = redsOf t (L.take k) ++ [(x0, (bt : Int), 3, x6)] from by have := HSN.out; simpa using this)
            clear hkp HKP HSN
            go_wp2_with (at_builtin; refine app_red (x0 := x0) (x1 := (bt : Int)) (x2 := 3) (x3 := x6) _ rfl _ _ rfl rfl (own_below HOQ.out ((Below.refl _ _).alloc (Nat.le_refl _) _)) rfl (heap_alloc_new _ _) (by omega) ?cB2 ?_; rotate_left; intro g9 c9 w9 hown9 hgr9 _ _)
            · have HON := Lib.hid hown9
              have hba9 : Below wq.heap.size wq (wq.alloc (.cells #[.int .i64 x0, .int .i64 (bt : Int), .int .i64 3, .int .i64 x6] 109)) := (Below.refl _ _).alloc (Nat.le_refl _) _
              have HOW := Lib.hid (own_below HOQ.out hba9)
              have HTN := Lib.hid ((HTQ.out.below hba9).grown hgr9 (own_box_ne HOW.out (HTQ.out.below hba9) (by decide)))
              have HEN := Lib.hid ((own_below HEQ.out hba9).kept hgr9 (by
                rcases hb : (Value.slice (some ⟨g5, 0, none⟩) n5 c5).ownBlock with _ | q
                · exact .inl rfl
                · exact .inr (fun he => own_type_ne HOW.out (own_below HEQ.out hba9) (by decide) q he.symm hb)))
              have HBN := Lib.hid ((HBQ.out.alloc hsq _).grown hgr9 (by simp; omega) (fun q hq => (HOQ.out.lt q hq).1))
              clear hown9 hgr9
              go_roundw
              case rel => exact ⟨k + 1, m' + 1, _, _, by omega, by omega, by go_num, rfl, Lib.hid (by rw [HS2.out]; exact HON.out), HEN, HTN, HBN⟩
              case measure => simp [intOf] <;> omega
            · first | omega | (simp; omega)
          · have e3b : (x5 == 3) = false := by simp [e3]
            rw [e3b] at HSN
            have HS2 := Lib.hid (show redsOf t (L.take (k + 1)) = redsOf t (L.take k) from by have := HSN.out; simpa using this)
            clear hkp HKP HSN
            go_wp2_with fail
            go_roundw
            case rel => exact ⟨k + 1, m', c', A', by omega, by omega, by go_num, rfl, Lib.hid (by rw [HS2.out]; exact HOQ.out), HEQ, HTQ, HBQ⟩
            case measure => simp [intOf] <;> omega
    · obtain rfl : k = n5 := by omega
      have ho := HO.out
      rw [List.take_of_length_le (by rw [HLN.out]; exact Nat.le_refl _)] at ho
      have HAQ := Lib.hid (HAP.out P n3 c3 C m3 d3 A' m' c' wo (HO3.out.below HB.out) (own_rd ho))
      have FT := HT.out.f3
      have F1 := HX1.out.below HB.out
      have HBO := Lib.hid (HB3.out.trans (HB.out.mono HB3.out.size))
      clear ho HO HE
      go_wp2_with fail
      refine HAQ.out.mono ?_
      rintro e w9 ⟨P9, n9, c9, vs9, C9, m9, d9, us9, rfl, ho9, hsum9, hb9⟩
      have F9 := (F1.below hb9).f3
      have HB9 := Lib.hid (HBO.out.trans (hb9.mono HBO.out.size))
      have hs9 := HBO.out.size
      have hs99 := hb9.size
      clear hb9 FT F1 HAQ
      simp only at ho9 hsum9 ⊢
      go_wp2_with fail
      refine bodyPost_ret (v := .agg #[.int .i64 (applyF t (redsOf t L)).boats, .slice P9 n9 c9, .slice C9 m9 d9]) (by simp [results, Tryz.results38, go_sem, F9]) rfl ?_
      have hch := put_chg (g := w.heap.size + 1) [.int .i64 (applyF t (redsOf t L)).boats, .slice P9 n9 c9, .slice C9 m9 d9] 0 (Chg.refl (w.heap.size + 1) (w.heap.size + 1 + 1) w9) (by omega) (by omega)
      have hso9 := (ho9.chg hch ho9.in_ (.inr (by omega))).base' (show w.heap.size ≤ wo.heap.size by omega)
      exact ⟨P9, n9, c9, vs9, C9, m9, d9, us9, rfl, hso9, hsum9, below_chg HB9.out hch (by omega) (by have := HB9.out.size; omega)⟩
end Go.Proofs.YtalgdeieejpelaaGreat

/- Walks: discards, counted points of the program (chapter 27). -/
import Derived.Test.YtalgdeieejpelaaGreatDoorZmd
import Derived.Test.YtalgdeieejpelaaGreatDoorZmc
namespace Go.Proofs.YtalgdeieejpelaaGreatDoor
open Go.RowKit Go.Sort
set_option linter.unusedVariables false
set_option maxRecDepth 100000

set_option maxHeartbeats 2000000 in
theorem discards1_any (P : Option Addr) (n c : Nat) (C : Option Addr) (m d : Nat) (t : Tb) (ok : TabOk t) (bt : Nat) (hbt : (bt : Int) < t.boats) (w : World) (h : RdT w P n C m t) (b1 b2 : Nat) (X1 : Box w b1 #[.int .i64 t.boats, .slice P n c, .slice C m d] 33) (X2 : Box w b2 #[.int .i64 bt] 2)
    (i j : Int) (hi0 : 0 ≤ i) (hi1 : i < n) (hj0 : 0 ≤ j) (hj1 : j < n) :
    Calls Tryz.prog 123 #[.int .i64 i, .int .i64 j, .pointer (some ⟨b1, 0, none⟩), .pointer (some ⟨b2, 0, none⟩)] w fun e w' => e = .returned (.int .i64 (atI (colOf t.pts bt) j - atI (colOf t.pts bt) i)) ∧ Below w.heap.size w w' := by
  obtain ⟨ni, rfl⟩ := int_up i hi0
  obtain ⟨nj, rfl⟩ := int_up j hj0
  obtain ⟨b, o, A', c', p, b', o', A2, c2, q, x, y, b3, o3, b4, o4, rfl, rfl, hd, hd', hc, hc', rfl, rfl, hbp, hbq, hp16, hq16, hx, hy, hx0, hx1, hxc, hyc⟩ := tab_row h ok (k := ni) (by omega) hbt
  obtain ⟨e, u, B', f', r, e', u', B2, f2, s, x', y', e3, u3, e4, u4, hP, hC, hd2, hd2', hc2, hc2', rfl, rfl, hbr, hbs, hr16, hs16, hx', hy', hx0', hx1', hxc', hyc'⟩ := tab_row h ok (k := nj) (by omega) hbt
  injection hP with hP
  injection hP with e1 e2
  subst e1 e2
  rw [col_at hd hx, col_at hd2 hx']
  have HS := Lib.hid (show IntKind.i64.wrap (x' - x) = x' - x from IntWalk.i64_in _ (by omega))
  have HS2 := Lib.hid (show wrap64 (x' - x) = x' - x from IntWalk.wrap64_in _ (by omega))
  have FX := X1.f3
  have FY := X2.cell (i := 0) rfl
  have hin : ni < n := by omega
  have hjn : nj < n := by omega
  clear hd hd' hd2 hd2' hx hy hx' hy' hC h X1 X2 hc' hc2' hyc hyc' ok
  go_enter Tryz.func123, Tryz.ntmps123
  go_wp2_with fail
  have hs := HS.out
  go_quiet (fail)
  clear hs
  go_wp2_with fail
  go_ret
  exact ⟨ret_int (by first | rfl | rw [HS2.out] | rw [HS.out]), ((Drawn.refl _).step _).below⟩
theorem takeOk_len (K : List Int) : ∀ (l : List Int) (left : Nat), (takeOk K left l).length ≤ left := by
  intro l left
  rw [takeOk_eq]
  exact List.length_take_le _ _
set_option maxHeartbeats 8000000 in
theorem implDiscards_any (P : Option Addr) (n c : Nat) (C : Option Addr) (m d : Nat) (t : Tb) (ok : TabOk t) (A : Option Addr) (l cl : Nat) (rule : List Int) (hrule : rule.length ≤ 3) (bt : Nat) (hbt : (bt : Int) < t.boats) (w : World) (h : RdT w P n C m t) (hl : Rd w 1 A l (ints rule)) :
    Calls Tryz.prog 102 #[.agg #[.int .i64 t.boats, .slice P n c, .slice C m d], .slice A l cl, .int .i64 bt] w (RetG w (insSort ltI (goneL (colOf t.pts bt) (colOf t.cds bt) (leN t.pts.length rule)))) := by
  have hn12 : n ≤ 12 := by have := ok.many; have := h.pts.len; omega
  have hpl := h.pts.len
  obtain rfl : n = m := by have := h.cds.len; have := ok.same; omega
  obtain ⟨wa, hwa, XT, XB, hba, hsa⟩ := two_boxes w #[.int .i64 t.boats, .slice P n c, .slice C n d] #[.int .i64 bt] 33 2
  have HWA := Lib.hid hwa
  have HCN := Lib.hid (fun w' hb => implCount_any A l cl rule n w' (hl.below (w' := w') hb))
  have hle := leN_le (n : Int) rule
  have hgl : (goneL (colOf t.pts bt) (colOf t.cds bt) (leN t.pts.length rule)) = takeOk (colOf t.cds bt) (leN (n : Int) rule) (insSort (moreL (colOf t.pts bt)) (idx n)) := by
    unfold goneL worst
    rw [takeOk_eq, colOf_len, hpl]
  rw [hgl]
  generalize leN (n : Int) rule = L0 at *
  have hcl : (colOf t.pts bt).length = n := by rw [colOf_len, hpl]
  have HD1 := Lib.hid (fun W hW => discards1_any P n c C n d t ok bt hbt W (h.below (w' := W) hW) w.heap.size (w.heap.size + 1))
  have hol := insSort_length (moreL (colOf t.pts bt)) (idx n)
  rw [idx_length] at hol
  have hom : ∀ x ∈ insSort (moreL (colOf t.pts bt)) (idx n), 0 ≤ x ∧ x < n := fun x hx => idx_mem.1 ((insSort_perm _ _).mem_iff.1 hx)
  have HSO := Lib.hid (fun wz hc => sortedIndicesD_any n (by omega) (some ⟨w.heap.size, 0, none⟩) (some ⟨w.heap.size + 1, 0, none⟩) (fun a b => atI (colOf t.pts bt) b - atI (colOf t.pts bt) a) (moreL (colOf t.pts bt)) (fun a b => rfl) wz hc)
  obtain ⟨O, hO⟩ : ∃ O, O = insSort (moreL (colOf t.pts bt)) (idx n) := ⟨_, rfl⟩
  rw [← hO] at HSO hol hom ⊢
  have HOL := Lib.hid hol
  have HOM := Lib.hid hom
  have HXT := Lib.hid XT
  have HXB := Lib.hid XB
  have HBA := Lib.hid hba
  have HT := Lib.hid h
  have HOK := Lib.hid ok
  have HBT := Lib.hid hbt
  have hL3 : L0 ≤ 3 := by omega
  obtain ⟨wb, hwb⟩ : ∃ wb, wb = wa.alloc (.cells #[] 2) := ⟨_, rfl⟩
  have hoe := own_empty wa wa.heap.size 2 (Nat.le_refl _)
  rw [← hwb, hsa] at hoe
  have hbb : Below wa.heap.size wa wb := by rw [hwb]; exact (Below.refl _ _).alloc (Nat.le_refl _) _
  have hsb : wb.heap.size = wa.heap.size + 1 := by rw [hwb]; simp
  have HWB := Lib.hid hwb
  have HBB := Lib.hid (hba.trans (hbb.mono hba.size))
  have HXT1 := Lib.hid (XT.below hbb)
  have HXB1 := Lib.hid (XB.below hbb)
  have HOE := Lib.hid hoe
  have FX := XT.f3
  have HSA := Lib.hid hsa
  have HSB := Lib.hid hsb
  clear hwa XT XB hba hwb hbb hoe hle hgl hcl hol hom hO h hl ok hbt hsa hsb hpl hrule
  go_enter Tryz.func102, Tryz.ntmps102
  go_wp2_with fail
  rw [← HWA.out]
  clear HWA
  go_wp2_with fail
  rw [← HWB.out]
  clear HWB FX
  have FX := HXT1.out.f3
  go_wp2_with fail
  refine (HCN.out _ HBB.out).mono ?_
  rintro e w1 ⟨rfl, rfl⟩
  go_wp2_with fail
  refine (HSO.out _ ?hc).mono ?_
  case hc =>
    intro W hW a b ha0 ha1 hb0 hb1
    exact HD1.out W (HBB.out.trans (hW.mono HBB.out.size)) (HXT1.out.below hW) (HXB1.out.below hW) a b ha0 ha1 hb0 hb1
  rintro e w2 ⟨AO, no, co, rfl, ho2, hno, hb2⟩
  have hno2 : no = n := by have := own_len ho2; have := HOL.out; omega
  subst hno2
  have HO2 := Lib.hid ho2
  have HB2 := Lib.hid (HBB.out.trans (hb2.mono HBB.out.size))
  have HXT2 := Lib.hid (HXT1.out.below hb2)
  have HXB2 := Lib.hid (HXB1.out.below hb2)
  have HOE2 := Lib.hid (own_below HOE.out hb2)
  have HC2 := Lib.hid (Chg.refl (w.heap.size + 1 + 1) (w.heap.size + 1 + 1 + 1) w2)
  have hsz2 : w.heap.size + 1 + 1 + 1 ≤ w2.heap.size := by have := hb2.size; have := HSB.out; have := HSA.out; omega
  have HSZ := Lib.hid (show w.heap.size + 1 + 1 + 1 ≤ wb.heap.size from by have := HSB.out; have := HSA.out; omega)
  have HG0 := Lib.hid (show takeOk (colOf t.cds bt) L0 O = [] ++ takeOk (colOf t.cds bt) L0 (O.drop 0) from by simp)
  have HL0 := Lib.hid (takeOk_len (colOf t.cds bt) O L0)
  obtain ⟨D, hD⟩ : ∃ D, D = takeOk (colOf t.cds bt) L0 O := ⟨_, rfl⟩
  rw [← hD] at HG0 HL0
  have HDD := Lib.hid hD
  clear ho2 hb2 HXT1 HXB1 HOE HSO HCN HD1 FX hno HBB hD HXT HXB HSB HSA
  go_wp2_with fail
  go_loopw [7, 8, 23] (fun v q i wr => ∃ (k L g' c' : Nat) (out : List Int), k ≤ no ∧ L ≤ L0 ∧ i = .int .i64 k ∧ q = .int .i64 L ∧ v = .slice (some ⟨g', 0, none⟩) out.length c' ∧ (g' = w.heap.size + 1 + 1 ∨ w2.heap.size ≤ g') ∧ Hid (D = out ++ takeOk (colOf t.cds bt) L (O.drop k)) ∧ Hid (wr.ownsRow (w.heap.size + 1 + 1) 2 1 (.slice (some ⟨g', 0, none⟩) out.length c') out.length (ints out)) ∧ Hid (Chg (w.heap.size + 1 + 1) (w.heap.size + 1 + 1 + 1) w2 wr)) (fun _ _ i _ => no - (intOf i).toNat)
  case atStart => exact ⟨0, L0, _, 0, [], Nat.zero_le _, Nat.le_refl _, rfl, rfl, rfl, .inl rfl, HG0, HOE2, HC2⟩
  case round =>
    clear HOE2 HC2 HG0
    obtain ⟨k, L, g', c', out, hk, hLL, rfl, rfl, rfl, hg', HI, HO, HC⟩ := hrel
    obtain ⟨wo, hwo⟩ : ∃ wo : World, wo = wr := ⟨_, rfl⟩
    subst hwo
    have HG := Lib.hid hg'
    clear hg'
    have HBo := Lib.hid (below_chg HB2.out HC.out (by omega) (by omega))
    have hout : out.length ≤ 3 := by have := HL0.out; have := congrArg List.length HI.out; rw [List.length_append] at this; omega
    by_cases hlt : k < no
    · have hkd : decide ((k : Int) < (no : Int)) = true := by simpa using hlt
      have hord := own_chg HO2.out HC.out (fun b hb => .inr (by have := (HO2.out.lt b hb).1; have := HSZ.out; omega))
      obtain ⟨b, o, x, rfl, hx, hd, hc⟩ := (own_rd hord).int hlt
      obtain ⟨hx0, hx1⟩ := HOM.out x (List.mem_of_getElem? hx)
      obtain ⟨xn, rfl⟩ := int_up x hx0
      have hi := HI.out
      rw [hd, takeOk] at hi
      have HI1 := Lib.hid hi
      clear hi HI hx hd hord
      have FX := (HXT2.out.chg HC.out (.inl (by omega))).f3
      have FY := (HXB2.out.chg HC.out (.inl (by omega))).cell (i := 0) rfl
      rcases Nat.eq_zero_or_pos L with hL0 | hL0
      · subst hL0
        have hI2 := HI1.out
        rw [if_neg (by simp)] at hI2
        have HI2 := Lib.hid hI2
        clear hI2 HI1
        go_wp2_with fail
        go_quiet (fail)
        go_wp2_with fail
        go_roundw
        case rel => exact ⟨k + 1, 0, g', c', out, by omega, by omega, by go_num, rfl, rfl, HG.out, HI2, Lib.hid ((Drawn.refl _).own HO.out), Lib.hid (chg_dN HC.out _)⟩
        case measure => simp [intOf] <;> omega
      · have hLd : decide ((0 : Int) < (L : Int)) = true := by simp; omega
        have hLn : decide (0 < L) = true := by simp; omega
        obtain ⟨bq, oq, A', cq, p, b', o', A2, c2, q, x, y, b3, o3, b4, o4, hP, rfl, hd, hd', hcr, hcr', hA', rfl, hbp, hbq, hp16, hq16, hx, hy, hx0', hx1', hxc, hyc⟩ := tab_row (HT.out.below HBo.out) HOK.out (k := xn) (by omega) HBT.out
        have HY := Lib.hid (show atI (colOf t.cds (bt : Int)) (xn : Int) = y from col_at hd' hy)
        clear hP hd hd' hcr hA' hx hy hxc hx0' hx1'
        by_cases h7 : y = 7
        · have h7a : (y != 7) = false := by simp [h7]
          have hI2 := HI1.out
          rw [if_neg (by unfold okC; rw [HY.out]; simp [h7])] at hI2
          have HI2 := Lib.hid hI2
          clear hI2 HI1 HY h7
          go_wp2_with fail
          go_quiet (fail)
          go_wp2_with fail
          go_roundw
          case rel => exact ⟨k + 1, L, g', c', out, by omega, by omega, by go_num, rfl, rfl, HG.out, HI2, Lib.hid ((Drawn.refl _).own HO.out), Lib.hid (chg_dN HC.out _)⟩
          case measure => simp [intOf] <;> omega
        · have h7a : (y != 7) = true := by simp [h7]
          have hI2 := HI1.out
          rw [if_pos (by unfold okC; rw [HY.out]; simp [h7]; omega)] at hI2
          have HI2 := Lib.hid (show D = (out ++ [(xn : Int)]) ++ takeOk (colOf t.cds (bt : Int)) (L - 1) (O.drop (k + 1)) from by rw [hI2]; simp)
          have hout2 : out.length + 1 ≤ 4 := by omega
          clear hI2 HI1 HY h7
          go_wp2_with fail
          go_quiet (fail)
          obtain ⟨wq, hwq, hqd⟩ : ∃ wq, wq = wo.drewN nq ∧ Below wo.heap.size wo wq := ⟨_, rfl, below_drewN (Below.refl _ _) _⟩
          have hqs := hqd.size
          have HOq := Lib.hid (own_below HO.out hqd)
          have HCq := Lib.hid (chg_bel HC.out hqd)
          rw [← hwq]
          have hcs := HCq.out.size
          clear hwq hqd FX FY HO HC hyc hcr' hc
          go_wp2_with (at_builtin; refine app_num (y := (xn : Int)) _ rfl _ _ rfl rfl (own_below HOq.out ((Below.refl _ _).alloc (Nat.le_refl _) _)) rfl (heap_alloc_new _ _) (by omega) ?cBa ?_; rotate_left; intro g9 c9 w9 hown9 hgr9 hor9 hlt9)
          · have HC9 := Lib.hid (chg_grow1 (chg_bel HCq.out ((Below.refl _ _).alloc (Nat.le_refl _) _)) hgr9 rfl HG.out)
            have HO9 := Lib.hid (show w9.ownsRow (w.heap.size + 1 + 1) 2 1 (.slice (some ⟨g9, 0, none⟩) (out ++ [(xn : Int)]).length c9) (out ++ [(xn : Int)]).length (ints (out ++ [(xn : Int)])) from by rw [List.length_append]; exact hown9)
            have HG9 := Lib.hid (show g9 = w.heap.size + 1 + 1 ∨ w2.heap.size ≤ g9 from by
              rcases hor9 with e | e
              · have e2 : g' = g9 := by simpa [Value.ownBlock] using e
                rw [← e2]; exact HG.out
              · rw [e]
                have h1 := HCq.out.size
                simp
                omega)
            clear hown9 hgr9 hor9
            go_roundw
            case rel => exact ⟨k + 1, L - 1, g9, c9, out ++ [(xn : Int)], by omega, by omega, by go_num, by go_num, by rw [List.length_append]; rfl, HG9.out, HI2, HO9, HC9⟩
            case measure => simp [intOf] <;> omega
          · first | omega | (simp; omega)
    · obtain rfl : k = no := by omega
      have hi := HI.out
      rw [List.drop_eq_nil_of_le (by rw [HOL.out]; exact Nat.le_refl _)] at hi
      have hDo : D = out := by rw [hi, takeOk, List.append_nil]
      have HD := Lib.hid hDo
      have hgw : w.heap.size ≤ g' := by have := (HO.out.lt g' rfl).1; omega
      have HS := Lib.hid (sortFew_any g' c' out.length (w.heap.size + 1 + 1) out wo (by omega) HO.out)
      have hwz : w.heap.size ≤ wo.heap.size := HBo.out.size
      clear hi hDo HI HO HC
      have hkd : decide ((k : Int) < (k : Int)) = false := by simp
      go_wp2_with fail
      refine HS.out.mono ?_
      rintro e w3 ⟨rfl, ho3, hc3⟩
      have HB3 := Lib.hid (below_chg HBo.out hc3 hgw hwz)
      have HO3 := Lib.hid (own_base ho3 (show w.heap.size ≤ w.heap.size + 1 + 1 by omega))
      clear ho3 hc3 HS
      go_wp2_with fail
      go_ret
      exact ⟨g', out.length, c', rfl, by rw [← HDD.out, HD.out]; exact HO3.out, by omega, HB3.out⟩
/-- The points that are counted, race by race. -/
def cntGo (gone : List Int) : Nat → List Int → List Int
  | _, [] => []
  | k, p :: P => (if (k : Int) ∈ gone then [] else [p]) ++ cntGo gone (k + 1) P
theorem cntGo_eq (P : List Int) (gone : List Int) : cntGo gone 0 P = cntP P gone := by
  have key : ∀ (m k : Nat), k + m = P.length → cntGo gone k (P.drop k) = (((List.range' k m).map fun (i : Nat) => (i : Int)).filter fun k => !decide (k ∈ gone)).map (atI P) := by
    intro m
    induction m with
    | zero =>
      intro k hk
      rw [List.drop_eq_nil_of_le (by omega : P.length ≤ k)]
      rfl
    | succ m ih =>
      intro k hk
      have hkP : k < P.length := by omega
      rw [List.drop_eq_getElem_cons hkP, cntGo, ih (k + 1) (by omega), List.range'_succ, List.map_cons, List.filter_cons]
      have ha : atI P (k : Int) = P[k] := by
        unfold atI
        rw [Int.toNat_natCast, List.getD_eq_getElem?_getD, List.getElem?_eq_getElem hkP]
        rfl
      by_cases hg : (k : Int) ∈ gone
      · simp [hg]
      · simp [hg, ha]
  have := key P.length 0 (by omega)
  rw [List.drop_zero] at this
  rw [this]
  unfold cntP idx
  rw [List.range_eq_range']
theorem cntGo_len (gone : List Int) : ∀ (P : List Int) (k : Nat), (cntGo gone k P).length ≤ P.length := by
  intro P
  induction P with
  | nil => intro k; simp [cntGo]
  | cons p P ih =>
    intro k
    have := ih (k + 1)
    rw [cntGo, List.length_append, List.length_cons]
    split <;> simp <;> omega
theorem cntP_perm (P : List Int) {g g' : List Int} (h : g.Perm g') : cntP P g = cntP P g' := by
  unfold cntP
  simp only [h.mem_iff]
theorem col_drop {rows : List (List Int)} {k bt : Nat} {p : List Int} {x : Int} (hd : rows.drop k = p :: rows.drop (k + 1)) (hx : p.getD bt 0 = x) : (colOf rows (bt : Int)).drop k = x :: (colOf rows (bt : Int)).drop (k + 1) := by
  unfold colOf
  rw [← List.map_drop, hd, List.map_cons, List.map_drop]
  unfold atI
  rw [Int.toNat_natCast, hx]
set_option maxHeartbeats 8000000 in
theorem implCounted_any (P : Option Addr) (n c : Nat) (C : Option Addr) (m d : Nat) (t : Tb) (ok : TabOk t) (A : Option Addr) (l cl : Nat) (rule : List Int) (hrule : rule.length ≤ 3) (bt : Nat) (hbt : (bt : Int) < t.boats) (w : World) (h : RdT w P n C m t) (hl : Rd w 1 A l (ints rule)) :
    Calls Tryz.prog 80 #[.agg #[.int .i64 t.boats, .slice P n c, .slice C m d], .slice A l cl, .int .i64 bt] w (RetG w (cntT t rule bt)) := by
  have hn12 : n ≤ 12 := by have := ok.many; have := h.pts.len; omega
  have hpl := h.pts.len
  obtain rfl : n = m := by have := h.cds.len; have := ok.same; omega
  obtain ⟨wa, hwa, XT, hba, hsa⟩ := one_box w #[.int .i64 t.boats, .slice P n c, .slice C n d] 33
  have HWA := Lib.hid hwa
  obtain ⟨wb, hwb⟩ : ∃ wb, wb = wa.alloc (.cells #[] 2) := ⟨_, rfl⟩
  have hoe := own_empty wa wa.heap.size 2 (Nat.le_refl _)
  rw [← hwb, hsa] at hoe
  have hbb : Below wa.heap.size wa wb := by rw [hwb]; exact (Below.refl _ _).alloc (Nat.le_refl _) _
  have hsb : wb.heap.size = wa.heap.size + 1 := by rw [hwb]; simp
  have HWB := Lib.hid hwb
  have HBB := Lib.hid (hba.trans (hbb.mono hba.size))
  have HXT1 := Lib.hid (XT.below hbb)
  have HOE := Lib.hid hoe
  have HSZ := Lib.hid (show w.heap.size + 1 + 1 ≤ wb.heap.size from by omega)
  have HDI := Lib.hid (fun w' (hb : Below w.heap.size w w') => implDiscards_any P n c C n d t ok A l cl rule hrule bt hbt w' (h.below hb) (hl.below hb))
  have hcl : (colOf t.pts bt).length = n := by rw [colOf_len, hpl]
  have hgn : cntT t rule bt = cntGo (insSort ltI (goneL (colOf t.pts bt) (colOf t.cds bt) (leN t.pts.length rule))) 0 (colOf t.pts bt) := by
    unfold cntT
    rw [cntGo_eq, cntP_perm _ (insSort_perm ltI _)]
  rw [hgn]
  generalize insSort ltI (goneL (colOf t.pts bt) (colOf t.cds bt) (leN t.pts.length rule)) = G at *
  have HCL := Lib.hid hcl
  have HT := Lib.hid h
  have HOK := Lib.hid ok
  have HBT := Lib.hid hbt
  have FX := XT.f3
  have hd0 := cntGo_len G (colOf t.pts bt) 0
  obtain ⟨D, hD⟩ : ∃ D, D = cntGo G 0 (colOf t.pts bt) := ⟨_, rfl⟩
  have hD12 : D.length ≤ 12 := by rw [hD]; omega
  have HD0 := Lib.hid (show D = [] ++ cntGo G 0 ((colOf t.pts bt).drop 0) from by rw [hD]; simp)
  have HDD := Lib.hid hD
  clear hwa hba hwb hbb hoe hsa hsb h hl ok hbt XT hpl hcl hgn hd0 hD hrule
  go_enter Tryz.func80, Tryz.ntmps80
  go_wp2_with fail
  rw [← HWA.out]
  clear HWA
  go_wp2_with fail
  rw [← HWB.out]
  clear HWB FX
  have FX := HXT1.out.f3
  go_wp2_with fail
  refine (HDI.out _ HBB.out).mono ?_
  rintro e w2 ⟨gg, gn, gc, rfl, ho2, hno, hb2⟩
  have HG2 := Lib.hid ho2
  have HB2 := Lib.hid (HBB.out.trans (hb2.mono HBB.out.size))
  have HXT2 := Lib.hid (HXT1.out.below hb2)
  have HOE2 := Lib.hid (own_below HOE.out hb2)
  have HC2 := Lib.hid (Chg.refl (w.heap.size + 1) (w.heap.size + 1 + 1) w2)
  have hsz2 : w.heap.size + 1 + 1 ≤ w2.heap.size := by have := hb2.size; have := HSZ.out; omega
  clear ho2 hb2 HXT1 HOE HDI FX hno HBB
  have FX := HXT2.out.f3
  go_wp2_with fail
  clear FX
  go_loopw [7, 18] (fun v i wr => ∃ (k g' c' : Nat) (out : List Int), k ≤ n ∧ i = .int .i64 k ∧ v = .slice (some ⟨g', 0, none⟩) out.length c' ∧ (g' = w.heap.size + 1 ∨ w2.heap.size ≤ g') ∧ Hid (D = out ++ cntGo G k ((colOf t.pts bt).drop k)) ∧ Hid (wr.ownsRow (w.heap.size + 1) 2 1 (.slice (some ⟨g', 0, none⟩) out.length c') out.length (ints out)) ∧ Hid (Chg (w.heap.size + 1) (w.heap.size + 1 + 1) w2 wr)) (fun _ i _ => n - (intOf i).toNat)
  case atStart => exact ⟨0, _, 0, [], Nat.zero_le _, rfl, rfl, .inl rfl, HD0, HOE2, HC2⟩
  case round =>
    clear HOE2 HC2 HD0
    obtain ⟨k, g', c', out, hk, rfl, rfl, hg', HI, HO, HC⟩ := hrel
    obtain ⟨wo, hwo⟩ : ∃ wo : World, wo = wr := ⟨_, rfl⟩
    subst hwo
    have HG := Lib.hid hg'
    clear hg'
    have HBo := Lib.hid (below_chg HB2.out HC.out (by omega) (by omega))
    have hout : out.length ≤ 12 := by have := hD12; have := congrArg List.length HI.out; rw [List.length_append] at this; omega
    by_cases hlt : k < n
    · have hkd : decide ((k : Int) < (n : Int)) = true := by simpa using hlt
      have hgr := own_chg HG2.out HC.out (fun b hb => .inr (by have := (HG2.out.lt b hb).1; have := HSZ.out; omega))
      have HCT := Lib.hid (contains_any (some ⟨gg, 0, none⟩) gn gc G (k : Int) wo (own_rd hgr))
      obtain ⟨bq, oq, A', cq, p, b', o', A2, c2, q, x, y, b3, o3, b4, o4, rfl, hC', hd, hd', hcr, hcr', rfl, hA2, hbp, hbq, hp16, hq16, hx, hy, hx0', hx1', hxc, hyc⟩ := tab_row (HT.out.below HBo.out) HOK.out (k := k) hlt HBT.out
      have hi := HI.out
      rw [col_drop hd hx, cntGo] at hi
      have HI1 := Lib.hid hi
      clear hi HI hgr hd hd' hx hy hC' hA2 hcr' hyc hx0' hx1' hbq hq16
      have FX := (HXT2.out.chg HC.out (.inl (by omega))).f3
      by_cases hin : (k : Int) ∈ G
      · rw [decide_eq_true hin] at HCT
        have hI2 := HI1.out
        rw [if_pos hin, List.nil_append] at hI2
        have HI2 := Lib.hid hI2
        clear hI2 HI1 hin
        go_wp2_with fail
        refine HCT.out.mono ?_
        rintro e w3 ⟨rfl, hq⟩
        have HO3 := Lib.hid (own_below HO.out hq.below)
        have HC3 := Lib.hid (chg_bel HC.out hq.below)
        clear hq HO HC HCT FX hcr hxc
        go_wp2_with fail
        go_roundw
        case rel => exact ⟨k + 1, g', c', out, by omega, by go_num, rfl, HG.out, HI2, HO3, HC3⟩
        case measure => simp [intOf] <;> omega
      · rw [decide_eq_false hin] at HCT
        have hI2 := HI1.out
        rw [if_neg hin] at hI2
        have HI2 := Lib.hid (show D = (out ++ [x]) ++ cntGo G (k + 1) ((colOf t.pts (bt : Int)).drop (k + 1)) from by rw [hI2]; simp)
        clear hI2 HI1 hin
        go_wp2_with fail
        refine HCT.out.mono ?_
        rintro e w3 ⟨rfl, hq⟩
        have HO3 := Lib.hid (own_below HO.out hq.below)
        have HC3 := Lib.hid (chg_bel HC.out hq.below)
        have hs3 := hq.below.size
        have hcr3 := (hq.below.cell (p := ⟨bq, oq + k, none⟩) (cell_lt hcr)).trans hcr
        have hxc3 := (hq.below.cell (p := ⟨b3, o3 + bt, none⟩) (cell_lt hxc)).trans hxc
        have FX3 := (HXT2.out.chg HC3.out (.inl (by omega))).f3
        have hcs := HC3.out.size
        clear hq HO HC HCT FX hcr hxc
        go_wp2_with (at_builtin; refine app_num (y := x) _ rfl _ _ rfl rfl (own_below HO3.out ((Below.refl _ _).alloc (Nat.le_refl _) _)) rfl (heap_alloc_new _ _) (by omega) ?cBb ?_; rotate_left; intro g9 c9 w9 hown9 hgr9 hor9 hlt9)
        · have HC9 := Lib.hid (chg_grow1 (chg_bel HC3.out ((Below.refl _ _).alloc (Nat.le_refl _) _)) hgr9 rfl HG.out)
          have HO9 := Lib.hid (show w9.ownsRow (w.heap.size + 1) 2 1 (.slice (some ⟨g9, 0, none⟩) (out ++ [x]).length c9) (out ++ [x]).length (ints (out ++ [x])) from by rw [List.length_append]; exact hown9)
          have HG9 := Lib.hid (show g9 = w.heap.size + 1 ∨ w2.heap.size ≤ g9 from by
            rcases hor9 with e | e
            · have e2 : g' = g9 := by simpa [Value.ownBlock] using e
              rw [← e2]; exact HG.out
            · rw [e]
              have h1 := HC3.out.size
              simp
              omega)
          clear hown9 hgr9 hor9
          go_roundw
          case rel => exact ⟨k + 1, g9, c9, out ++ [x], by omega, by go_num, by rw [List.length_append]; rfl, HG9.out, HI2, HO9, HC9⟩
          case measure => simp [intOf] <;> omega
        · first | omega | (simp; omega)
    · obtain rfl : k = n := by omega
      have hi := HI.out
      rw [List.drop_eq_nil_of_le (by rw [HCL.out]; exact Nat.le_refl _)] at hi
      have hDo : D = out := by rw [hi, cntGo, List.append_nil]
      have HD := Lib.hid hDo
      have HO3 := Lib.hid (own_base HO.out (show w.heap.size ≤ w.heap.size + 1 by omega))
      clear hi hDo HI HO
      have hkd : decide ((k : Int) < (k : Int)) = false := by simp
      go_wp2_with fail
      go_ret
      exact ⟨g', out.length, c', rfl, by rw [← HDD.out, HD.out]; exact HO3.out, by omega, HBo.out⟩
set_option maxHeartbeats 4000000 in
theorem implNet_any (P : Option Addr) (n c : Nat) (C : Option Addr) (m d : Nat) (t : Tb) (ok : TabOk t) (A : Option Addr) (l cl : Nat) (rule : List Int) (hrule : rule.length ≤ 3) (bt : Nat) (hbt : (bt : Int) < t.boats) (w : World) (h : RdT w P n C m t) (hl : Rd w 1 A l (ints rule)) :
    Calls Tryz.prog 59 #[.agg #[.int .i64 t.boats, .slice P n c, .slice C m d], .slice A l cl, .int .i64 bt] w fun e w' => e = .returned (.int .i64 (netT t rule bt)) ∧ Below w.heap.size w w' := by
  obtain ⟨wa, hwa, XT, hba, hsa⟩ := one_box w #[.int .i64 t.boats, .slice P n c, .slice C m d] 33
  have HWA := Lib.hid hwa
  have HBA := Lib.hid hba
  have HCO := Lib.hid (implCounted_any P n c C m d t ok A l cl rule hrule bt hbt wa (h.below hba) (hl.below hba))
  have hbd : ∀ x ∈ cntT t rule bt, 0 ≤ x ∧ x ≤ 10000 := fun x hx => cntT_bd ok hx
  have hln := cntT_len ok rule bt
  have hnt : netT t rule bt = sumI (cntT t rule bt) := rfl
  rw [hnt]
  generalize cntT t rule bt = X at *
  have HBD := Lib.hid hbd
  have FX := XT.f3
  clear hwa hba hsa h hl ok hbt XT hnt hbd hrule
  go_enter Tryz.func59, Tryz.ntmps59
  go_wp2_with fail
  rw [← HWA.out]
  clear HWA
  go_wp2_with fail
  refine HCO.out.mono ?_
  rintro e w2 ⟨gg, gn, gc, rfl, ho2, hno, hb2⟩
  have HB2 := Lib.hid (HBA.out.trans (hb2.mono HBA.out.size))
  have HL := Lib.hid (own_len ho2)
  have hgn : gn ≤ 12 := by have := HL.out; omega
  have hr2 := own_rd ho2
  clear ho2 hb2 FX HCO hno HBA
  go_wp2_with fail
  have HS0 := Lib.hid (show sumI X = 0 + sumI (X.drop 0) from by simp)
  go_loop [7, 15] (fun v i => ∃ (k : Nat) (S : Int), k ≤ gn ∧ i = .int .i64 k ∧ v = .int .i64 S ∧ 0 ≤ S ∧ S ≤ 10000 * k ∧ Hid (sumI X = S + sumI (X.drop k))) (fun _ i => gn - (intOf i).toNat)
  case atStart => exact ⟨0, 0, Nat.zero_le _, rfl, rfl, by omega, by omega, HS0⟩
  case round =>
    clear HS0
    obtain ⟨k, S, hk, rfl, rfl, hS0, hS1, HI⟩ := hrel
    by_cases hlt : k < gn
    · have hkd : decide ((k : Int) < (gn : Int)) = true := by simpa using hlt
      obtain ⟨b, o, x, e1, hx, hd, hc⟩ := hr2.int hlt
      injection e1 with e1
      injection e1 with e1 e2
      subst e1 e2
      obtain ⟨hx0, hx1⟩ := HBD.out x (List.mem_of_getElem? hx)
      simp only [Nat.zero_add] at hc
      have hi := HI.out
      rw [hd, sumI] at hi
      have HI2 := Lib.hid (show sumI X = (S + x) + sumI (X.drop (k + 1)) from by omega)
      clear hi HI hx hd
      go_wp2_with fail
      go_round
      case rel => exact ⟨k + 1, S + x, by omega, by go_num, by go_num, by omega, by omega, HI2⟩
      case measure => simp [intOf] <;> omega
    · obtain rfl : k = gn := by omega
      have hkd : decide ((k : Int) < (k : Int)) = false := by simp
      have hi := HI.out
      rw [List.drop_eq_nil_of_le (by rw [HL.out]; exact Nat.le_refl _), sumI] at hi
      have HI2 := Lib.hid hi
      clear hi HI
      go_wp2_with fail
      go_ret
      exact ⟨ret_int (by rw [HI2.out]; omega), HB2.out⟩
set_option maxHeartbeats 4000000 in
theorem implSorted_any (P : Option Addr) (n c : Nat) (C : Option Addr) (m d : Nat) (t : Tb) (ok : TabOk t) (A : Option Addr) (l cl : Nat) (rule : List Int) (hrule : rule.length ≤ 3) (bt : Nat) (hbt : (bt : Int) < t.boats) (w : World) (h : RdT w P n C m t) (hl : Rd w 1 A l (ints rule)) :
    Calls Tryz.prog 61 #[.agg #[.int .i64 t.boats, .slice P n c, .slice C m d], .slice A l cl, .int .i64 bt] w (RetG w (srtT t rule bt)) := by
  obtain ⟨wa, hwa, XT, hba, hsa⟩ := one_box w #[.int .i64 t.boats, .slice P n c, .slice C m d] 33
  have HWA := Lib.hid hwa
  have HBA := Lib.hid hba
  have HCO := Lib.hid (implCounted_any P n c C m d t ok A l cl rule hrule bt hbt wa (h.below hba) (hl.below hba))
  have hln := cntT_len ok rule bt
  have hnt : srtT t rule bt = insSort ltI (cntT t rule bt) := rfl
  rw [hnt]
  generalize cntT t rule bt = X at *
  have FX := XT.f3
  clear hwa hba hsa h hl ok hbt XT hnt hrule
  go_enter Tryz.func61, Tryz.ntmps61
  go_wp2_with fail
  rw [← HWA.out]
  clear HWA
  go_wp2_with fail
  refine HCO.out.mono ?_
  rintro e w2 ⟨gg, gn, gc, rfl, ho2, hno, hb2⟩
  have HB2 := Lib.hid (HBA.out.trans (hb2.mono HBA.out.size))
  have HL := Lib.hid (own_len ho2)
  have hgn : gn ≤ 12 := by have := HL.out; omega
  have HS := Lib.hid (sortFew_any gg gc gn _ X w2 hgn ho2)
  have hwg : w.heap.size ≤ gg := by have := (ho2.lt gg rfl).1; have := HBA.out.size; omega
  have hwa2 := HBA.out.size
  clear ho2 hb2 FX HCO hno HBA
  go_wp2_with fail
  refine HS.out.mono ?_
  rintro e w3 ⟨rfl, ho3, hc3⟩
  have HB3 := Lib.hid (below_chg HB2.out hc3 hwg HB2.out.size)
  have HO3 := Lib.hid (own_base ho3 hwa2)
  clear ho3 hc3 HS
  go_wp2_with fail
  go_ret
  exact ⟨gg, gn, gc, rfl, HO3.out, by omega, HB3.out⟩
end Go.Proofs.YtalgdeieejpelaaGreatDoor

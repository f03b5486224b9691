/- Walks: comparing boats, of the program (chapter 28). -/
import Derived.Test.YtalgdeieejpelaaGreatDoorZg
import Derived.Test.YtalgdeieejpelaaGreatDoorZmd
import Derived.StillTailTactics
import Derived.Shelf.RegionOpen
namespace Go.Proofs.YtalgdeieejpelaaGreatDoor
open Go.RowKit Go.Shelf Go.Sort
set_option linter.unusedVariables false
set_option maxRecDepth 100000
attribute [local go_sem] Oper.semAt_some

theorem bodyPostM_ret {F : Fence} {n : Nat} {P : Program} {fn : Func} {R : Ending → World → Prop} {a : Act} {w : World} {v : Value}
    (hr : (results fn a.tmps).run P w = .ok v w) (hd : a.defers = []) (hR : R (.returned v) w) : bodyPostM F n P fn R .ret a w := by
  show LeavesInM F n P fn a.tmps R a.defers .returning w
  rw [hd]
  exact ⟨v, hr, hR⟩
theorem last_none {P Q : List Int} : ∀ n, (∀ j : Nat, j < n → atI P j = atI Q j) → lastGoR P Q n = (0, -1) := by
  intro n
  induction n with
  | zero => intro _; rfl
  | succ n ih => intro h; rw [lastGoR_succ, if_pos (h n (by omega))]; exact ih (fun j hj => h j (by omega))
theorem last_at {P Q : List Int} {j : Nat} (hne : atI P j ≠ atI Q j) : ∀ n, j < n → (∀ i : Nat, j < i → i < n → atI P i = atI Q i) → lastGoR P Q n = (atI P j - atI Q j, (j : Int)) := by
  intro n
  induction n with
  | zero => intro h; omega
  | succ n ih =>
    intro hj h
    rw [lastGoR_succ]
    by_cases e : j = n
    · subst e; rw [if_neg hne]
    · rw [if_pos (h n (by omega) (by omega))]
      exact ih (by omega) (fun i h1 h2 => h i h1 (by omega))
/-- Same points at a place. -/
def SameP (CA CB : List Int) {len : Nat} (x : Pl len) : Prop := atI CA (x.1 : Int) = atI CB (x.1 : Int)
theorem below_r3 {n b1 b2 b3 : Nat} {w w' : World} (h : Below n w w') (h1 : n ≤ b1) (h2 : n ≤ b2) (h3 : n ≤ b3) (v1 v2 v3 : Value) : Below n w (((w'.setCell ⟨b1, 0, none⟩ v1).setCell ⟨b2, 0, none⟩ v2).setCell ⟨b3, 0, none⟩ v3) :=
  ((h.setCell (p := ⟨b1, 0, none⟩) h1 v1).setCell (p := ⟨b2, 0, none⟩) h2 v2).setCell (p := ⟨b3, 0, none⟩) h3 v3
theorem keeps_drew (B : Nat) (W : World) : KeepsFrom B W W.drew := ⟨Nat.le_refl _, fun k o _ hk _ => hk⟩
theorem keeps3 (W : World) (b1 b2 b3 : Nat) (v1 v2 v3 : Value) {D : Nat} {o : Obj} (h : W.heap[D]? = some o) (ho : o.isCells = false) : (((W.setCell ⟨b1, 0, none⟩ v1).setCell ⟨b2, 0, none⟩ v2).setCell ⟨b3, 0, none⟩ v3).heap[D]? = some o :=
  (KeepsOthers.setCell _ _ _).same D _ ((KeepsOthers.setCell _ _ _).same D _ ((KeepsOthers.setCell _ _ _).same D _ h ho) ho) ho
set_option linter.unusedSimpArgs false in
theorem cells3 {W : World} {b1 b2 b3 : Nat} {v1 v2 v3 u1 u2 u3 : Value} (h1 : W.cell? ⟨b1, 0, none⟩ = some u1) (h2 : W.cell? ⟨b2, 0, none⟩ = some u2) (h3 : W.cell? ⟨b3, 0, none⟩ = some u3) (n12 : b1 ≠ b2) (n13 : b1 ≠ b3) (n23 : b2 ≠ b3) :
    (((W.setCell ⟨b1, 0, none⟩ v1).setCell ⟨b2, 0, none⟩ v2).setCell ⟨b3, 0, none⟩ v3).cell? ⟨b1, 0, none⟩ = some v1 ∧ (((W.setCell ⟨b1, 0, none⟩ v1).setCell ⟨b2, 0, none⟩ v2).setCell ⟨b3, 0, none⟩ v3).cell? ⟨b2, 0, none⟩ = some v2 ∧ (((W.setCell ⟨b1, 0, none⟩ v1).setCell ⟨b2, 0, none⟩ v2).setCell ⟨b3, 0, none⟩ v3).cell? ⟨b3, 0, none⟩ = some v3 := by
  have m12 : b2 ≠ b1 := Ne.symm n12
  have m13 : b3 ≠ b1 := Ne.symm n13
  have m23 : b3 ≠ b2 := Ne.symm n23
  simp [go_sem, h1, h2, h3, m12, m13, m23, n12, n13, n23]
theorem cells3_kept {W : World} {p1 p2 p3 : Addr} {v1 v2 v3 : Value} {D : Nat} (h : W.cell? p1 = some v1 ∧ W.cell? p2 = some v2 ∧ W.cell? p3 = some v3) (hK : W.heap[D]? = some (Obj.deferred (some []))) :
    (W.putObj D (.deferred none)).cell? p1 = some v1 ∧ (W.putObj D (.deferred none)).cell? p2 = some v2 ∧ (W.putObj D (.deferred none)).cell? p3 = some v3 :=
  ⟨cell_kept h.1 (grownBy_putObj' _ D (.deferred none)) (fun r e => by cases e; exact ⟨_, hK, rfl⟩), cell_kept h.2.1 (grownBy_putObj' _ D (.deferred none)) (fun r e => by cases e; exact ⟨_, hK, rfl⟩), cell_kept h.2.2 (grownBy_putObj' _ D (.deferred none)) (fun r e => by cases e; exact ⟨_, hK, rfl⟩)⟩
set_option maxHeartbeats 16000000 in
theorem implCmp_any (P : Option Addr) (n c : Nat) (C : Option Addr) (m d : Nat) (t : Tb) (ok : TabOk t) (A : Option Addr) (l cl : Nat) (rule : List Int) (hrule : rule.length ≤ 3) (a b : Nat) (ha : (a : Int) < t.boats) (hb : (b : Int) < t.boats) (w : World) (h : RdT w P n C m t) (hl : Rd w 1 A l (ints rule)) :
    Calls Tryz.prog 47 #[.agg #[.int .i64 t.boats, .slice P n c, .slice C m d], .slice A l cl, .int .i64 a, .int .i64 b] w (RetC w (cmpT t rule a b)) := by
  have hn12 : n ≤ 12 := by have := ok.many; have := h.pts.len; omega
  have hpl := h.pts.len
  obtain rfl : n = m := by have := h.cds.len; have := ok.same; omega
  obtain ⟨wa, hwa, XT, XA, XB, hba, hsa⟩ := three_boxes w #[.int .i64 t.boats, .slice P n c, .slice C n d] #[.int .i64 a] #[.int .i64 b] 33 2 2
  obtain ⟨wb, hwb, X1, X2, X3, hbb, hsb⟩ := three_boxes wa #[.int .i64 0] #[.int .i64 0] #[.int .i64 0] 2 2 2
  rw [hsa] at X1 X2 X3
  have HWA := Lib.hid hwa
  have HWB := Lib.hid hwb
  have HXT := Lib.hid (XT.below hbb)
  have HXA := Lib.hid (XA.below hbb)
  have HXB := Lib.hid (XB.below hbb)
  have HX1 := Lib.hid X1
  have HX2 := Lib.hid X2
  have HX3 := Lib.hid X3
  have HBB := Lib.hid (hba.trans (hbb.mono hba.size))
  have HNA := Lib.hid (fun dq os => implNet_any P n c C n d t ok A l cl rule hrule a ha (grow (redrawn wb dq) os) (h.below (HBB.out.trans ((below_regrown wb dq os).mono HBB.out.size))) (hl.below (HBB.out.trans ((below_regrown wb dq os).mono HBB.out.size))))
  have HNB := Lib.hid (fun dq os => implNet_any P n c C n d t ok A l cl rule hrule b hb (grow (redrawn wb dq) os) (h.below (HBB.out.trans ((below_regrown wb dq os).mono HBB.out.size))) (hl.below (HBB.out.trans ((below_regrown wb dq os).mono HBB.out.size))))
  have HSA := Lib.hid (fun w' (hb' : Below w.heap.size w w') => implSorted_any P n c C n d t ok A l cl rule hrule a ha w' (h.below hb') (hl.below hb'))
  have HSB := Lib.hid (fun w' (hb' : Below w.heap.size w w') => implSorted_any P n c C n d t ok A l cl rule hrule b hb w' (h.below hb') (hl.below hb'))
  have HBX := Lib.hid (show ∀ x ∈ srtT t rule a, 0 ≤ x ∧ x ≤ 10000 from fun x hx => cntT_bd ok (srtT_mem.1 hx))
  have HBY := Lib.hid (show ∀ x ∈ srtT t rule b, 0 ≤ x ∧ x ≤ 10000 from fun x hx => cntT_bd ok (srtT_mem.1 hx))
  have hlx := cntT_len ok rule a
  have hly := cntT_len ok rule b
  have hnab := netT_bd ok rule a
  have hnbb := netT_bd ok rule b
  have HLA := Lib.hid (srtT_len t rule a)
  have HLB := Lib.hid (srtT_len t rule b)
  have HN1 := Lib.hid (fun h => cmp_net (t := t) (rule := rule) (a := a) (b := b) h)
  have HN2 := Lib.hid (fun d h h2 hd => cmp_best (t := t) (rule := rule) (a := a) (b := b) (d := d) h h2 hd)
  have HN3 := Lib.hid (fun d k h h2 h3 hd => cmp_last (t := t) (rule := rule) (a := a) (b := b) (d := d) (k := k) h h2 h3 hd)
  have HN4 := Lib.hid (fun k h h2 h3 => cmp_none (t := t) (rule := rule) (a := a) (b := b) (k := k) h h2 h3)
  rw [hpl] at HN3 HN4
  have HT := Lib.hid h
  have HOK := Lib.hid ok
  have HAT := Lib.hid ha
  have HBT := Lib.hid hb
  generalize cmpT t rule a b = R at *
  generalize srtT t rule a = X at *
  generalize srtT t rule b = Y at *
  generalize netT t rule a = NA at *
  generalize netT t rule b = NB at *
  have HW1 := Lib.hid (show IntKind.i64.wrap (NA - NB) = NA - NB from IntWalk.i64_in _ (by omega))
  have hsz1 : w.heap.size + 1 + 1 + 1 + 1 + 1 + 1 ≤ wb.heap.size := by omega
  clear hwa hwb hba hbb XT XA XB X1 X2 X3 h hl ok ha hb hpl hrule hsa hsb
  refine (callsIn_wide (n := 3)).1 ?_
  refine callsIn_of_wp_marks Tryz.func47 rfl trivial ?_ rfl
  simp only [Tryz.ntmps47, List.size_toArray, List.length_cons, List.length_nil, Nat.reduceAdd, Nat.reduceSub, Array.replicate_succ, Array.replicate_zero, List.push_toArray, List.append_toArray, List.nil_append, List.cons_append]
  refine wpIn_wide.2 ?_
  go_wp2_with fail
  rw [← HWA.out]
  rw [← HWB.out]
  clear HWA HWB
  have hw1 := HW1.out
  have kq0 := cell_regrown (HXT.out.cell (i := 0) rfl)
  have kq1 := cell_regrown (HXT.out.cell (i := 1) rfl)
  have kq2 := cell_regrown (HXT.out.cell (i := 2) rfl)
  have kq3 := cell_regrown (HXA.out.cell (i := 0) rfl)
  have kq4 := cell_regrown (HXB.out.cell (i := 0) rfl)
  refine wp_region_quiet_below (by kernel_rfl) (by kernel_rfl) ?_
  repeat (first | go_big_quiet_step ((first | (go_at_call 59; (with_reducible exact Calls.regrown_of (HNA.out _ _))) | (go_at_call 59; (with_reducible exact Calls.regrown_of (HNB.out _ _))))) | quiet_step ((first | (go_at_call 59; (with_reducible exact Calls.regrown_of (HNA.out _ _))) | (go_at_call 59; (with_reducible exact Calls.regrown_of (HNB.out _ _))))))
  refine wpQuiet_nil ?_
  intro _ hw'
  obtain ⟨⟨dq, osq⟩, hw''⟩ := hw'
  subst hw''
  obtain ⟨wq, hq0, hq⟩ : ∃ wnew, wnew = grow (redrawn wb dq) osq ∧ Below wb.heap.size wb wnew := ⟨_, rfl, below_regrown _ _ _⟩
  rw [← hq0]
  clear hq0 kq0 kq1 kq2 kq3 kq4
  clear hw1
  have HBQ := Lib.hid (HBB.out.trans (hq.mono HBB.out.size))
  have hszq := hq.size
  replace HXT := Lib.hid (HXT.out.below hq)
  replace HXA := Lib.hid (HXA.out.below hq)
  replace HXB := Lib.hid (HXB.out.below hq)
  replace HX1 := Lib.hid (HX1.out.below hq)
  replace HX2 := Lib.hid (HX2.out.below hq)
  replace HX3 := Lib.hid (HX3.out.below hq)
  clear hq HNA HNB
  by_cases hne : NA = NB
  rotate_left
  · have hnb : ((NA - NB) != 0) = true := by simp; omega
    have HR := Lib.hid (HN1.out hne)
    have F1 := HX1.out.cell (i := 0) rfl
    have F2 := HX2.out.cell (i := 0) rfl
    have F3 := HX3.out.cell (i := 0) rfl
    have G1 : wq.frozen? ⟨w.heap.size + 1 + 1 + 1, 0, none⟩ = false := HX1.out.fz
    have G2 : wq.frozen? ⟨w.heap.size + 1 + 1 + 1 + 1, 0, none⟩ = false := HX2.out.fz
    have G3 : wq.frozen? ⟨w.heap.size + 1 + 1 + 1 + 1 + 1, 0, none⟩ = false := HX3.out.fz
    clear hne
    go_wp2_with fail
    refine (signZ_any _ _).mono ?_
    rintro e w5 ⟨rfl, rfl⟩
    go_wp2_with fail
    refine bodyPostM_ret (v := .tuple #[.int .i64 (sgnZ (NA - NB)), .int .i64 1, .int .i64 0]) (by simp [results, Tryz.results47, go_sem, F1, F2, F3]) rfl ?_
    exact ⟨by rw [HR.out], below_r3 HBQ.out (by omega) (by omega) (by omega) _ _ _⟩
  have hnb : ((NA - NB) != 0) = false := by simp; omega
  have HNE := Lib.hid hne
  have HSR := Lib.hid (show ∀ w1, Below wq.heap.size wq w1 → (w1.cell? ⟨w.heap.size, 0, none⟩ = some (.int .i64 t.boats) ∧ w1.cell? ⟨w.heap.size, 1, none⟩ = some (.slice P n c) ∧ w1.cell? ⟨w.heap.size, 2, none⟩ = some (.slice C n d) ∧ w1.cell? ⟨w.heap.size + 1, 0, none⟩ = some (.int .i64 a) ∧ w1.cell? ⟨w.heap.size + 1 + 1, 0, none⟩ = some (.int .i64 b)) from fun w1 hb => ⟨(HXT.out.below hb).cell (i := 0) rfl, (HXT.out.below hb).cell (i := 1) rfl, (HXT.out.below hb).cell (i := 2) rfl, (HXA.out.below hb).cell (i := 0) rfl, (HXB.out.below hb).cell (i := 0) rfl⟩)
  have HSA2 := Lib.hid (fun w' (hb' : Below wq.heap.size wq w') => HSA.out w' (HBQ.out.trans (hb'.mono HBQ.out.size)))
  have HSB2 := Lib.hid (fun w' (hb' : Below wq.heap.size wq w') => HSB.out w' (HBQ.out.trans (hb'.mono HBQ.out.size)))
  clear hne HN1 HSA HSB
  go_wp2_with fail
  clear hnb
  obtain ⟨S, hSE, hSI⟩ : ∃ S : World → Prop, (∀ w1, S w1 → Below wq.heap.size wq w1) ∧ (∀ w1, Below wq.heap.size wq w1 → S w1) := ⟨fun w1 => Below wq.heap.size wq w1, fun _ h => h, fun _ h => h⟩
  have HSE := Lib.hid hSE; have HSI := Lib.hid hSI
  clear hSE hSI
  refine wp_norm ?_
  refine wp_region_T2 (n := 10) S (fun j => false) (by kernel_rfl) rfl ?_
  intro ops HOPS
  have hS := HSI.out _ (below_drewN' _ wq 1)
  refine wpAnyT_take 0 (.agg #[.int .i64 t.boats, .slice P n c, .slice C n d]) (by rw [HOPS.out]; rfl) (by rw [HOPS.out]; kernel_rfl) (by exact fun _ _ _ h => h) (by rfl) (fun w1 hS => by obtain ⟨s1, s2, s3, s4, s5⟩ := HSR.out _ (HSE.out _ hS); go_simp) hS ?_
  go_simp
  refine wpAnyT_take 1 (.slice A l cl) (by rw [HOPS.out]; rfl) (by rw [HOPS.out]; kernel_rfl) (by exact fun _ _ _ h => h) (by rfl) (fun w1 hS => by go_simp) hS ?_
  go_simp
  refine wpAnyT_take 2 (.int .i64 (a : Int)) (by rw [HOPS.out]; rfl) (by rw [HOPS.out]; kernel_rfl) (by exact fun _ _ _ h => h) (by rfl) (fun w1 hS => by obtain ⟨s1, s2, s3, s4, s5⟩ := HSR.out _ (HSE.out _ hS); go_simp) hS ?_
  go_simp
  refine wpAnyT_take 4 (.agg #[.int .i64 t.boats, .slice P n c, .slice C n d]) (by rw [HOPS.out]; rfl) (by rw [HOPS.out]; kernel_rfl) (by exact fun _ _ _ h => h) (by rfl) (fun w1 hS => by obtain ⟨s1, s2, s3, s4, s5⟩ := HSR.out _ (HSE.out _ hS); go_simp) hS ?_
  go_simp
  refine wpAnyT_take 5 (.slice A l cl) (by rw [HOPS.out]; rfl) (by rw [HOPS.out]; kernel_rfl) (by exact fun _ _ _ h => h) (by rfl) (fun w1 hS => by go_simp) hS ?_
  go_simp
  refine wpAnyT_take 6 (.int .i64 (b : Int)) (by rw [HOPS.out]; rfl) (by rw [HOPS.out]; kernel_rfl) (by exact fun _ _ _ h => h) (by rfl) (fun w1 hS => by obtain ⟨s1, s2, s3, s4, s5⟩ := HSR.out _ (HSE.out _ hS); go_simp) hS ?_
  go_simp
  refine wpAnyT_one 3 (by rw [HOPS.out]; rfl) (by rw [HOPS.out]; kernel_rfl) ?_
  intro K' hK
  have HK := Lib.hid hK
  clear hK
  go_simp
  go_at_call 61
  refine (HSA2.out _ (below_drewN' _ wq 1)).mono ?_
  rintro e wr1 ⟨g1, n1, c1, rfl, ho1, hno1, hb1⟩
  have HBr1 := Lib.hid (show Below wq.heap.size wq wr1 from (below_drewN' wq.heap.size wq 1).trans hb1)
  refine HK.out _ _ (.inr (HSI.out _ HBr1.out)) ?_
  clear HK
  go_simp
  refine wpAnyT_one 7 (by rw [HOPS.out]; rfl) (by rw [HOPS.out]; kernel_rfl) ?_
  intro K' hK
  have HK := Lib.hid hK
  clear hK
  go_simp
  go_at_call 61
  refine (HSB2.out _ (HBr1.out)).mono ?_
  rintro e wr2 ⟨g2, n2, c2, rfl, ho2, hno2, hb2⟩
  have HBr2 := Lib.hid (show Below wq.heap.size wq wr2 from HBr1.out.trans (hb2.mono HBr1.out.size))
  refine HK.out _ _ (.inr (HSI.out _ HBr2.out)) ?_
  clear HK
  go_simp
  refine wpAnyT_take 8 (.slice (some ⟨g1, 0, none⟩) n1 c1) (by rw [HOPS.out]; rfl) (by rw [HOPS.out]; kernel_rfl) (by exact fun _ _ _ h => h) (by rfl) (fun w1 hS => by go_simp) (HSI.out _ HBr2.out) ?_
  go_simp
  refine wpAnyT_take 9 (.slice (some ⟨g2, 0, none⟩) n2 c2) (by rw [HOPS.out]; rfl) (by rw [HOPS.out]; kernel_rfl) (by exact fun _ _ _ h => h) (by rfl) (fun w1 hS => by go_simp) (HSI.out _ HBr2.out) ?_
  go_simp
  refine wpAnyT_done (by rw [HOPS.out]; kernel_rfl) ?_ _
  simp only [NormQ]
  have HRX := Lib.hid (own_rd (own_below ho1 hb2))
  have HRY := Lib.hid (own_rd ho2)
  have HLX := Lib.hid HRX.out.len_int
  have HLY := Lib.hid HRY.out.len_int
  have hn1 : n1 ≤ 12 := by have := HLX.out; have := HLA.out; omega
  have hn2 : n2 ≤ 12 := by have := HLY.out; have := HLB.out; omega
  have HBW := Lib.hid (HBQ.out.trans (HBr2.out.mono HBQ.out.size))
  have hszr := HBr2.out.size
  have HL0 := Lib.hid (show lexC X Y = lexC (X.drop 0) (Y.drop 0) from by rw [List.drop_zero, List.drop_zero])
  clear ho1 ho2 hb1 hb2 hno1 hno2 HSA2 HSB2 HSR HSE HSI hS HOPS hlx hly HLA HLB HW1
  rcases Nat.lt_or_ge n2 n1 with hmin | hmin
  · have hmn : min (n1 : Int) (n2 : Int) = (n2 : Int) := by omega
    go_wp2_with fail
    go_loopw [43] (fun i wr => ∃ k : Nat, k ≤ n2 ∧ i = .int .i64 k ∧ Hid (lexC X Y = lexC (X.drop k) (Y.drop k)) ∧ Hid (Drawn wr2 wr)) (fun i _ => n2 - (intOf i).toNat)
    case atStart => exact ⟨0, Nat.zero_le _, rfl, HL0, Lib.hid (Drawn.refl _)⟩
    case round =>
      clear HL0
      obtain ⟨k, hkq, rfl, HI, HQ⟩ := hrel
      obtain ⟨wo, hwo⟩ : ∃ wo : World, wo = wr := ⟨_, rfl⟩
      subst hwo
      have HBd := Lib.hid (HBr2.out.trans (HQ.out.below.mono hszr))
      by_cases hlt : k < n2
      · have hkd : decide ((k : Int) < (n2 : Int)) = true := by simpa using hlt
        obtain ⟨b1, o1, x, e1, hx, hd, hcx⟩ := (HRX.out.drawn HQ.out).int (k := k) (by omega)
        obtain ⟨b2, o2, y, e2, hy, hd2, hcy⟩ := (HRY.out.drawn HQ.out).int (k := k) (by omega)
        injection e1 with e1
        injection e1 with q1 q2
        subst q1 q2
        injection e2 with e2
        injection e2 with q1 q2
        subst q1 q2
        simp only [Nat.zero_add] at hcx hcy
        obtain ⟨hx0, hx1⟩ := HBX.out x (List.mem_of_getElem? hx)
        obtain ⟨hy0, hy1⟩ := HBY.out y (List.mem_of_getElem? hy)
        have hi := HI.out
        rw [hd, hd2, lexC_cons] at hi
        have HI1 := Lib.hid hi
        have hk1 : k < n1 := by omega
        have hk2 : k < n2 := by omega
        clear hi HI hd hd2 hx hy
        by_cases hxy : x = y
        · have hne2 : (x != y) = false := by simp [hxy]
          have hi := HI1.out
          rw [if_pos hxy] at hi
          have HI2 := Lib.hid hi
          clear hi HI1 hxy
          go_wp2_with fail
          go_quiet (fail)
          go_wp2_with fail
          go_roundw
          case rel => exact ⟨k + 1, by omega, by go_num, HI2, Lib.hid (HQ.out.step _)⟩
          case measure => simp [intOf] <;> omega
        · have hne2 : (x != y) = true := by simp [hxy]
          have hi := HI1.out
          rw [if_neg hxy] at hi
          have HR := Lib.hid (HN2.out (x - y) HNE.out hi (by omega))
          have HWS := Lib.hid (show IntKind.i64.wrap (x - y) = x - y from IntWalk.i64_in _ (by omega))
          clear hi HI1 hxy HN2 HN3 HN4
          go_wp2_with fail
          go_quiet (fail)
          obtain ⟨wz, hwz, hqd⟩ : ∃ wz, wz = wo.drewN nq ∧ Below wo.heap.size wo wz := ⟨_, rfl, below_drewN' _ _ _⟩
          rw [← hwz]
          have hcx' := (hqd.cell (p := ⟨g1, k, none⟩) (cell_lt hcx)).trans hcx
          have hcy' := (hqd.cell (p := ⟨g2, k, none⟩) (cell_lt hcy)).trans hcy
          have HBZ := HBd.out.trans (hqd.mono HBd.out.size)
          have HB9 := Lib.hid (HBQ.out.trans (HBZ.mono HBQ.out.size))
          have F1 := (HX1.out.below HBZ).cell (i := 0) rfl
          have F2 := (HX2.out.below HBZ).cell (i := 0) rfl
          have F3 := (HX3.out.below HBZ).cell (i := 0) rfl
          have G1 : wz.frozen? ⟨w.heap.size + 1 + 1 + 1, 0, none⟩ = false := (HX1.out.below HBZ).fz
          have G2 : wz.frozen? ⟨w.heap.size + 1 + 1 + 1 + 1, 0, none⟩ = false := (HX2.out.below HBZ).fz
          have G3 : wz.frozen? ⟨w.heap.size + 1 + 1 + 1 + 1 + 1, 0, none⟩ = false := (HX3.out.below HBZ).fz
          clear hwz hqd hcx hcy HBZ
          have hws := HWS.out
          go_wp2_with fail
          go_still_tail 9, (by kernel_rfl)
          clear hws
          go_wp2_with fail
          refine (signZ_any _ _).mono ?_
          rintro e w5 ⟨rfl, rfl⟩
          go_wp2_with fail
          refine bodyPostM_ret (v := .tuple #[.int .i64 (sgnZ (x - y)), .int .i64 2, .int .i64 0]) (by simp [results, Tryz.results47, go_sem, F1, F2, F3]) rfl ?_
          exact ⟨by rw [HR.out], below_r3 HB9.out.drew (by omega) (by omega) (by omega) _ _ _⟩
      · obtain rfl : k = n2 := by omega
        have hz : lexC X Y = 0 := by rw [HI.out, show Y.drop k = [] from List.drop_eq_nil_of_le (by rw [HLY.out]; exact Nat.le_refl _), lexC_nil2]
        have HZ := Lib.hid hz
        have HBW2 := Lib.hid (HBQ.out.trans (HBd.out.mono HBQ.out.size))
        have FX := (HXT.out.below HBd.out).f3
        have hkd : decide ((k : Int) < (k : Int)) = false := by simp
        clear hz HI HN2 hlt
        go_wp2_with fail
        refine (callsIn_wide.1 (backward_in Fence.wide 2 trivial rfl P n c wo)).mono ?_
        rintro e w6 ⟨rfl, hw6⟩
        obtain ⟨hbw6, hcw6, hsw6⟩ : Below wo.heap.size wo w6 ∧ w6.cell? ⟨wo.heap.size, 0, none⟩ = some (.slice P n c) ∧ w6.heap.size = wo.heap.size + 1 := by
          rw [hw6]
          exact ⟨(Below.refl _ _).alloc (Nat.le_refl _) _, cell_new1 _ _ _, by simp⟩
        clear hw6 FX
        go_wp2_with fail
        have HB6 := Lib.hid (HBW2.out.trans (hbw6.mono HBW2.out.size))
        have HBq6 := Lib.hid (HBd.out.trans (hbw6.mono HBd.out.size))
        have HC6 := Lib.hid hcw6
        have HS6 := Lib.hid hsw6
        have hrv : ∃ rv : Nat → Value, (∀ b o, P = some ⟨b, o, none⟩ → ∀ j, j < n → b < w6.heap.size ∧ w6.cell? ⟨b, o + j, none⟩ = some (rv j)) := by
          refine ⟨fun j => match P with | some ad => (w6.cell? ⟨ad.block, ad.off + j, none⟩).getD undef | none => undef, ?_⟩
          rintro b0 o0 rfl j hj
          obtain ⟨b', o', A', c', p, e, -, -, hcell, -⟩ := ((HT.out.below HB6.out).pts).row hj
          injection e with e
          injection e with e1 e2
          subst e1 e2
          refine ⟨cell_lt hcell, ?_⟩
          show _ = some ((w6.cell? ⟨b0, o0 + j, none⟩).getD undef)
          rw [hcell]
          rfl
        obtain ⟨rv, hrv⟩ := hrv
        have HRV := Lib.hid hrv
        have hPA : 0 < n → ∃ b o, P = some ⟨b, o, none⟩ := fun h0 => by
          obtain ⟨b', o', A', c', p, e, -⟩ := ((HT.out.below HB6.out).pts).row h0
          exact ⟨b', o', e⟩
        have hsq := backward_stops Fence.wide 2 trivial rfl (by omega) wo.heap.size w6.heap.size P n c (by omega) rv w6 (by omega) (Nat.le_refl _) HC6.out HRV.out hPA
        clear hbw6 hcw6 hrv hPA
        obtain ⟨CA, hCA⟩ : ∃ CA, CA = colOf t.pts (a : Int) := ⟨_, rfl⟩
        obtain ⟨CB, hCB⟩ : ∃ CB, CB = colOf t.pts (b : Int) := ⟨_, rfl⟩
        have HCA := Lib.hid hCA
        have HCB := Lib.hid hCB
        rw [← hCA, ← hCB] at HN3 HN4
        clear hCA hCB
        refine (wpIn_wide (n := 3)).1 ?_
        refine wpIn_rangeFunc_ownG rfl (by omega) (gf := 82) (lb := #[.pointer (some ⟨wo.heap.size, 0, none⟩)]) rfl trivial (enters_of Tryz.func82 (by kernel_rfl) rfl)
          hsq belowK_t (belowK_b (Nat.le_refl _)) (Below.refl _ _) (fun _ => rfl)
          (fun pre W => (∀ y ∈ pre, SameP CA CB y) ∧ Below w6.heap.size w6 W)
          (fun c pre W => (c = .ret ∧ ∃ ini last, pre = ini ++ [last] ∧ (∀ y ∈ ini, SameP CA CB y) ∧ ¬ SameP CA CB last ∧ W.cell? ⟨w.heap.size + 1 + 1 + 1, 0, none⟩ = some (.int .i64 (sgnZ (atI CA (last.1 : Int) - atI CB (last.1 : Int)))) ∧ W.cell? ⟨w.heap.size + 1 + 1 + 1 + 1, 0, none⟩ = some (.int .i64 3) ∧ W.cell? ⟨w.heap.size + 1 + 1 + 1 + 1 + 1, 0, none⟩ = some (.int .i64 (last.1 : Int))) ∧ Below w.heap.size w W)
          (OwnFrom.and (Own.from (fun s A B row hs hg hr => hs) _) (ownFrom_below (Nat.le_refl _) (Nat.le_refl _)))
          (fun c => OwnFrom.and (Own.from (fun s A B row hs hg hr => by obtain ⟨hc, ini, last, e1, e2, e3, e4, e5, e6⟩ := hs; exact ⟨hc, ini, last, e1, e2, e3, cell_kept e4 hg hr, cell_kept e5 hg hr, cell_kept e6 hg hr⟩) _) (ownFrom_below (Nat.le_refl _) HB6.out.size))
          ⟨by simp, Below.refl _ _⟩
          (fun x => { tmps := #[.agg #[.int .i64 t.boats, .slice P n c, .slice C n d], .slice A l cl, .int .i64 ↑a, .int .i64 ↑b, .pointer (some ⟨w.heap.size, 0, none⟩), undef, .pointer (some ⟨w.heap.size + 1, 0, none⟩), .pointer (some ⟨w.heap.size + 1 + 1, 0, none⟩), .pointer (some ⟨w.heap.size + 1 + 1 + 1, 0, none⟩), .pointer (some ⟨w.heap.size + 1 + 1 + 1 + 1, 0, none⟩), .pointer (some ⟨w.heap.size + 1 + 1 + 1 + 1 + 1, 0, none⟩), .int .i64 (NA - NB), .slice (some ⟨g1, 0, none⟩) n1 c1, .slice (some ⟨g2, 0, none⟩) k c2, u14, .int .i64 (x.1 : Int), rv x.1, .agg #[.int .i64 t.boats, .slice P n c, .slice C n d], .slice A l cl, .int .i64 ↑a, .int .i64 NA, .agg #[.int .i64 t.boats, .slice P n c, .slice C n d], .slice A l cl, .int .i64 ↑b, .int .i64 NB, .int .i64 (NA - NB), .int .i64 (NA - NB), .bool false, undef, undef, .agg #[.int .i64 t.boats, .slice P n c, .slice C n d], .slice A l cl, .int .i64 ↑a, .slice (some ⟨g1, 0, none⟩) n1 c1, .agg #[.int .i64 t.boats, .slice P n c, .slice C n d], .slice A l cl, .int .i64 ↑b, .slice (some ⟨g2, 0, none⟩) k c2, .slice (some ⟨g1, 0, none⟩) n1 c1, .int .i64 ↑n1, .slice (some ⟨g2, 0, none⟩) k c2, .int .i64 ↑k, .int .i64 ↑k, .int .i64 ↑k, .bool false, u45, u46, u47, u48, u49, u50, u51, u52, u53, u54, u55, u56, u57, u58, u59, u60, u61, u62, u63, u64, u65, .pointer (some ⟨w.heap.size, 1, none⟩), .slice P n c, .func (.func 82) #[] #[.pointer (some ⟨wo.heap.size, 0, none⟩)], .int .i64 (x.1 : Int), rv x.1, undef, undef, undef, undef, undef, undef, undef, undef, undef, undef, undef, undef, undef, undef, undef, undef, undef, undef, undef, undef], defers := [] }) ?assign ?body ?done ?stop
        case assign =>
          intro l x W K hK
          simp only [encP]
          gi_wp2
          exact hK
        case body =>
          rintro l pre x W ⟨hall, hB⟩ hlt
          have hBw := HB6.out.trans (hB.mono HB6.out.size)
          have hBqW := HBq6.out.trans (hB.mono HBq6.out.size)
          obtain ⟨bp, op, A', c', p, b', o', A2, c2', q, px, py, b3, o3, b4, o4, rfl, rfl, hd, hd', hc, hc', rfl, rfl, hbp, hbq, hp16, hq16, hx, hy, hx0, hx1, hxc, hyc⟩ := tab_row (HT.out.below hBw) HOK.out (k := x.1) x.2 HAT.out
          obtain ⟨e, u, B', f', r, e', u', B2, f2, s, px', py', e3, u3, e4, u4, hP, hC, hd2, hd2', hc2, hc2', hB', rfl, hbr, hbs, hr16, hs16, hx', hy', hx0', hx1', hxc', hyc'⟩ := tab_row (HT.out.below hBw) HOK.out (k := x.1) x.2 HBT.out
          injection hP with hP
          injection hP with e1' e2'
          subst e1' e2'
          rw [hc] at hc2
          injection hc2 with hc2
          injection hc2 with q1 q2 q3
          subst hB'
          injection q1 with q1
          injection q1 with q4 q5
          subst q4 q5
          have HPX := Lib.hid (show atI CA (x.1 : Int) = px from by rw [HCA.out]; exact col_at hd hx)
          have HPX' := Lib.hid (show atI CB (x.1 : Int) = px' from by rw [HCB.out]; exact col_at hd2 hx')
          have hbr' : b < p.length := by omega
          have hrvx : rv x.1 = .slice (some ⟨b3, o3, none⟩) p.length c' := by
            obtain ⟨h1, h2⟩ := HRV.out bp op rfl x.1 x.2
            have h3 := (hB.cell (p := ⟨bp, op + x.1, none⟩) h1).trans h2
            rw [hc] at h3
            injection h3 with h3
            exact h3.symm
          have FA := (HXA.out.below hBqW).cell (i := 0) rfl
          have FB := (HXB.out.below hBqW).cell (i := 0) rfl
          have HALL := Lib.hid hall
          have HBB2 := Lib.hid hB
          have HBw2 := Lib.hid hBw
          simp only [hrvx]
          have hmx : Tryz.prog.follows .mixedOrders = true := by kernel_rfl
          have hd1 : 1 ≤ 3 - 1 - 1 := by omega
          clear hd hd' hd2 hd2' hx hy hx' hy' hC hc' hc2' hyc hyc' q2 q3 hbq hbs hq16 hs16 hall hc hrvx hsq
          have F1 := (HX1.out.below hBqW).cell (i := 0) rfl
          have F2 := (HX2.out.below hBqW).cell (i := 0) rfl
          have F3 := (HX3.out.below hBqW).cell (i := 0) rfl
          have HSW := Lib.hid (And.intro FA (And.intro FB (And.intro hxc hxc')))
          obtain ⟨S, hSE, hSI⟩ : ∃ S : World → Prop, (∀ w1, S w1 → (w1.cell? ⟨w.heap.size + 1, 0, none⟩ = some (.int .i64 a) ∧ w1.cell? ⟨w.heap.size + 1 + 1, 0, none⟩ = some (.int .i64 b) ∧ w1.cell? ⟨b3, o3 + a, none⟩ = some (.int .i64 px) ∧ w1.cell? ⟨b3, o3 + b, none⟩ = some (.int .i64 px'))) ∧ S W.drew := by
            refine ⟨fun w1 => w1 = W.drew, ?_, rfl⟩
            rintro w1 e
            subst e
            obtain ⟨q1, q2, q3, q4⟩ := HSW.out
            exact ⟨((below_drewN' _ _ 1).cell (cell_lt q1)).trans q1, ((below_drewN' _ _ 1).cell (cell_lt q2)).trans q2, ((below_drewN' _ _ 1).cell (cell_lt q3)).trans q3, ((below_drewN' _ _ 1).cell (cell_lt q4)).trans q4⟩
          have HSE := Lib.hid hSE
          have HSI := Lib.hid hSI
          clear hSE hSI
          clear FA FB hxc hxc'
          by_cases hxy : px = px'
          · have hne2 : (px != px') = false := by simp [hxy]
            have HSM := Lib.hid (show SameP CA CB x from by unfold SameP; rw [HPX.out, HPX'.out, hxy])
            clear hxy hB hBw hBqW F1 F2 F3
            gi_wp2
            refine wpIn_round_T2 (n := 9) S (fun j => false) hmx rfl (by kernel_rfl) ?_
            intro ops HOPS
            have hS := HSI.out
            refine wpAnyT_take 0 (.slice (some ⟨b3, o3, none⟩) p.length c') (by rw [HOPS.out]; rfl) (by rw [HOPS.out]; kernel_rfl) (by exact fun _ _ _ h => h) (by rfl) (fun w1 hS => by go_simp) hS ?_
            go_simp
            refine wpAnyT_take 1 (.int .i64 (a : Int)) (by rw [HOPS.out]; rfl) (by rw [HOPS.out]; kernel_rfl) (by exact fun _ _ _ h => h) (by rfl) (fun w1 hS => by obtain ⟨s1, s2, s3, s4⟩ := HSE.out _ hS; go_simp) hS ?_
            go_simp
            refine wpAnyT_take 2 (.pointer (some ⟨b3, o3 + a, none⟩)) (by rw [HOPS.out]; rfl) (by rw [HOPS.out]; kernel_rfl) (by exact fun _ _ _ h => h) (by rfl) (fun w1 hS => by go_simp) hS ?_
            go_simp
            refine wpAnyT_take 3 (.int .i64 px) (by rw [HOPS.out]; rfl) (by rw [HOPS.out]; kernel_rfl) (by exact fun _ _ _ h => h) (by rfl) (fun w1 hS => by obtain ⟨s1, s2, s3, s4⟩ := HSE.out _ hS; go_simp) hS ?_
            go_simp
            refine wpAnyT_take 4 (.slice (some ⟨b3, o3, none⟩) p.length c') (by rw [HOPS.out]; rfl) (by rw [HOPS.out]; kernel_rfl) (by exact fun _ _ _ h => h) (by rfl) (fun w1 hS => by go_simp) hS ?_
            go_simp
            refine wpAnyT_take 5 (.int .i64 (b : Int)) (by rw [HOPS.out]; rfl) (by rw [HOPS.out]; kernel_rfl) (by exact fun _ _ _ h => h) (by rfl) (fun w1 hS => by obtain ⟨s1, s2, s3, s4⟩ := HSE.out _ hS; go_simp) hS ?_
            go_simp
            refine wpAnyT_take 6 (.pointer (some ⟨b3, o3 + b, none⟩)) (by rw [HOPS.out]; rfl) (by rw [HOPS.out]; kernel_rfl) (by exact fun _ _ _ h => h) (by rfl) (fun w1 hS => by go_simp) hS ?_
            go_simp
            refine wpAnyT_take 7 (.int .i64 px') (by rw [HOPS.out]; rfl) (by rw [HOPS.out]; kernel_rfl) (by exact fun _ _ _ h => h) (by rfl) (fun w1 hS => by obtain ⟨s1, s2, s3, s4⟩ := HSE.out _ hS; go_simp) hS ?_
            go_simp
            refine wpAnyT_take 8 (.bool (px != px')) (by rw [HOPS.out]; rfl) (by rw [HOPS.out]; kernel_rfl) (by exact fun _ _ _ h => h) (by rfl) (fun w1 hS => by go_simp) hS ?_
            go_simp
            refine wpAnyT_done (by rw [HOPS.out]; kernel_rfl) ?_ _
            simp only [NormQ]
            gi_wp2
            exact ⟨keeps_drew _ _, below_drewN' _ W 1, fun y hy => (List.mem_append.1 hy).elim (HALL.out y) (fun e => by rw [List.mem_singleton.1 e]; exact HSM.out), HBB2.out.trans (below_drewN' _ W 1)⟩
          · have hne2 : (px != px') = true := by simp [hxy]
            have HSM := Lib.hid (show ¬ SameP CA CB x from by unfold SameP; rw [HPX.out, HPX'.out]; exact hxy)
            have HWS := Lib.hid (show IntKind.i64.wrap (px - px') = px - px' from IntWalk.i64_in _ (by omega))
            have G1 : W.frozen? ⟨w.heap.size + 1 + 1 + 1, 0, none⟩ = false := (HX1.out.below hBqW).fz
            have G2 : W.frozen? ⟨w.heap.size + 1 + 1 + 1 + 1, 0, none⟩ = false := (HX2.out.below hBqW).fz
            have G3 : W.frozen? ⟨w.heap.size + 1 + 1 + 1 + 1 + 1, 0, none⟩ = false := (HX3.out.below hBqW).fz
            have HF := Lib.hid (And.intro F1 (And.intro F2 F3))
            have HG := Lib.hid (And.intro G1 (And.intro G2 G3))
            clear hxy hB hBw hBqW F1 F2 F3 G1 G2 G3
            gi_wp2
            refine wpIn_round_T2 (n := 9) S (fun j => false) hmx rfl (by kernel_rfl) ?_
            intro ops HOPS
            have hS := HSI.out
            refine wpAnyT_take 0 (.slice (some ⟨b3, o3, none⟩) p.length c') (by rw [HOPS.out]; rfl) (by rw [HOPS.out]; kernel_rfl) (by exact fun _ _ _ h => h) (by rfl) (fun w1 hS => by go_simp) hS ?_
            go_simp
            refine wpAnyT_take 1 (.int .i64 (a : Int)) (by rw [HOPS.out]; rfl) (by rw [HOPS.out]; kernel_rfl) (by exact fun _ _ _ h => h) (by rfl) (fun w1 hS => by obtain ⟨s1, s2, s3, s4⟩ := HSE.out _ hS; go_simp) hS ?_
            go_simp
            refine wpAnyT_take 2 (.pointer (some ⟨b3, o3 + a, none⟩)) (by rw [HOPS.out]; rfl) (by rw [HOPS.out]; kernel_rfl) (by exact fun _ _ _ h => h) (by rfl) (fun w1 hS => by go_simp) hS ?_
            go_simp
            refine wpAnyT_take 3 (.int .i64 px) (by rw [HOPS.out]; rfl) (by rw [HOPS.out]; kernel_rfl) (by exact fun _ _ _ h => h) (by rfl) (fun w1 hS => by obtain ⟨s1, s2, s3, s4⟩ := HSE.out _ hS; go_simp) hS ?_
            go_simp
            refine wpAnyT_take 4 (.slice (some ⟨b3, o3, none⟩) p.length c') (by rw [HOPS.out]; rfl) (by rw [HOPS.out]; kernel_rfl) (by exact fun _ _ _ h => h) (by rfl) (fun w1 hS => by go_simp) hS ?_
            go_simp
            refine wpAnyT_take 5 (.int .i64 (b : Int)) (by rw [HOPS.out]; rfl) (by rw [HOPS.out]; kernel_rfl) (by exact fun _ _ _ h => h) (by rfl) (fun w1 hS => by obtain ⟨s1, s2, s3, s4⟩ := HSE.out _ hS; go_simp) hS ?_
            go_simp
            refine wpAnyT_take 6 (.pointer (some ⟨b3, o3 + b, none⟩)) (by rw [HOPS.out]; rfl) (by rw [HOPS.out]; kernel_rfl) (by exact fun _ _ _ h => h) (by rfl) (fun w1 hS => by go_simp) hS ?_
            go_simp
            refine wpAnyT_take 7 (.int .i64 px') (by rw [HOPS.out]; rfl) (by rw [HOPS.out]; kernel_rfl) (by exact fun _ _ _ h => h) (by rfl) (fun w1 hS => by obtain ⟨s1, s2, s3, s4⟩ := HSE.out _ hS; go_simp) hS ?_
            go_simp
            refine wpAnyT_take 8 (.bool (px != px')) (by rw [HOPS.out]; rfl) (by rw [HOPS.out]; kernel_rfl) (by exact fun _ _ _ h => h) (by rfl) (fun w1 hS => by go_simp) hS ?_
            go_simp
            refine wpAnyT_done (by rw [HOPS.out]; kernel_rfl) ?_ _
            simp only [NormQ]
            clear HOPS hS HSE HSI S ops
            obtain ⟨S, hSE, hSI⟩ : ∃ S : World → Prop, (∀ w1, S w1 → (w1.cell? ⟨w.heap.size + 1, 0, none⟩ = some (.int .i64 a) ∧ w1.cell? ⟨w.heap.size + 1 + 1, 0, none⟩ = some (.int .i64 b) ∧ w1.cell? ⟨b3, o3 + a, none⟩ = some (.int .i64 px) ∧ w1.cell? ⟨b3, o3 + b, none⟩ = some (.int .i64 px'))) ∧ S W.drew.drew := by
              refine ⟨fun w1 => w1 = W.drew.drew, ?_, rfl⟩
              rintro w1 e
              subst e
              obtain ⟨q1, q2, q3, q4⟩ := HSW.out
              exact ⟨((below_drewN' _ _ 2).cell (cell_lt q1)).trans q1, ((below_drewN' _ _ 2).cell (cell_lt q2)).trans q2, ((below_drewN' _ _ 2).cell (cell_lt q3)).trans q3, ((below_drewN' _ _ 2).cell (cell_lt q4)).trans q4⟩
            have HSE := Lib.hid hSE
            have HSI := Lib.hid hSI
            clear hSE hSI
            gi_wp2
            refine wpIn_round_T2 (n := 14) (fun _ => True) (fun _ => false) hmx rfl (by kernel_rfl) ?_
            intro ops HOPS
            have hS := HSI.out
            have hws := HWS.out
            refine wpAnyT_take 10 (.int .i64 (x.1 : Int)) (by rw [HOPS.out]; rfl) (by rw [HOPS.out]; kernel_rfl) (by exact fun _ _ _ h => h) (by rfl) (fun w1 hS => by go_simp) trivial ?_
            go_simp
            refine wpAnyT_weaken (S := S) (late := fun j => j == 11 || j == 12 || j == 13) _ _ _ _ ?_
            refine wpAnyT_take 0 (.slice (some ⟨b3, o3, none⟩) p.length c') (by rw [HOPS.out]; rfl) (by rw [HOPS.out]; kernel_rfl) (by exact fun _ _ _ h => h) (by rfl) (fun w1 hS => by go_simp) hS ?_
            go_simp
            refine wpAnyT_take 1 (.int .i64 (a : Int)) (by rw [HOPS.out]; rfl) (by rw [HOPS.out]; kernel_rfl) (by exact fun _ _ _ h => h) (by rfl) (fun w1 hS => by obtain ⟨s1, s2, s3, s4⟩ := HSE.out _ hS; go_simp) hS ?_
            go_simp
            refine wpAnyT_take 2 (.pointer (some ⟨b3, o3 + a, none⟩)) (by rw [HOPS.out]; rfl) (by rw [HOPS.out]; kernel_rfl) (by exact fun _ _ _ h => h) (by rfl) (fun w1 hS => by go_simp) hS ?_
            go_simp
            refine wpAnyT_take 3 (.int .i64 px) (by rw [HOPS.out]; rfl) (by rw [HOPS.out]; kernel_rfl) (by exact fun _ _ _ h => h) (by rfl) (fun w1 hS => by obtain ⟨s1, s2, s3, s4⟩ := HSE.out _ hS; go_simp) hS ?_
            go_simp
            refine wpAnyT_take 4 (.slice (some ⟨b3, o3, none⟩) p.length c') (by rw [HOPS.out]; rfl) (by rw [HOPS.out]; kernel_rfl) (by exact fun _ _ _ h => h) (by rfl) (fun w1 hS => by go_simp) hS ?_
            go_simp
            refine wpAnyT_take 5 (.int .i64 (b : Int)) (by rw [HOPS.out]; rfl) (by rw [HOPS.out]; kernel_rfl) (by exact fun _ _ _ h => h) (by rfl) (fun w1 hS => by obtain ⟨s1, s2, s3, s4⟩ := HSE.out _ hS; go_simp) hS ?_
            go_simp
            refine wpAnyT_take 6 (.pointer (some ⟨b3, o3 + b, none⟩)) (by rw [HOPS.out]; rfl) (by rw [HOPS.out]; kernel_rfl) (by exact fun _ _ _ h => h) (by rfl) (fun w1 hS => by go_simp) hS ?_
            go_simp
            refine wpAnyT_take 7 (.int .i64 px') (by rw [HOPS.out]; rfl) (by rw [HOPS.out]; kernel_rfl) (by exact fun _ _ _ h => h) (by rfl) (fun w1 hS => by obtain ⟨s1, s2, s3, s4⟩ := HSE.out _ hS; go_simp) hS ?_
            go_simp
            refine wpAnyT_take 8 (.int .i64 (px - px')) (by rw [HOPS.out]; rfl) (by rw [HOPS.out]; kernel_rfl) (by exact fun _ _ _ h => h) (by rfl) (fun w1 hS => by go_simp) hS ?_
            go_simp
            refine wpAnyT_one 9 (by rw [HOPS.out]; rfl) (by rw [HOPS.out]; kernel_rfl) ?_
            intro K' hK
            have HK := Lib.hid hK
            clear hK
            go_simp
            go_at_call 60
            refine (signZ_any _ _).mono ?_
            rintro e w5 ⟨rfl, rfl⟩
            refine HK.out _ _ (.inr hS) ?_
            clear HK
            go_simp
            obtain ⟨F1, F2, F3⟩ := HF.out
            obtain ⟨G1, G2, G3⟩ := HG.out
            refine wpAnyT_one 11 (by rw [HOPS.out]; rfl) (by rw [HOPS.out]; kernel_rfl) ?_
            intro K' hK
            have HK := Lib.hid hK
            clear hK
            go_simp
            refine HK.out _ _ (.inl rfl) ?_
            clear HK
            go_simp
            refine wpAnyT_one 12 (by rw [HOPS.out]; rfl) (by rw [HOPS.out]; kernel_rfl) ?_
            intro K' hK
            have HK := Lib.hid hK
            clear hK
            go_simp
            refine HK.out _ _ (.inl rfl) ?_
            clear HK
            go_simp
            refine wpAnyT_one 13 (by rw [HOPS.out]; rfl) (by rw [HOPS.out]; kernel_rfl) ?_
            intro K' hK
            have HK := Lib.hid hK
            clear hK
            go_simp
            refine HK.out _ _ (.inl rfl) ?_
            clear HK
            go_simp
            refine wpAnyT_done (by rw [HOPS.out]; kernel_rfl) ?_ _
            simp only [NormQ]
            gi_wp2
            obtain ⟨k1, k2, k3⟩ := HF.out
            obtain ⟨k1, k2, k3⟩ := cells3 (v1 := .int .i64 (sgnZ (px - px'))) (v2 := .int .i64 3) (v3 := .int .i64 (x.1 : Int)) k1 k2 k3 (by omega) (by omega) (by omega)
            exact ⟨(((keeps_drew _ _).trans (keeps_drew _ _)).trans ((KeepsOthers.setCell _ _ _).from _)).trans (((KeepsOthers.setCell _ _ _).from _).trans ((KeepsOthers.setCell _ _ _).from _)),
              ⟨rfl, pre, x, rfl, HALL.out, HSM.out, by rw [HPX.out, HPX'.out]; simpa [go_sem] using k1, by simpa [go_sem] using k2, by simpa [go_sem] using k3⟩,
              below_r3 (HBw2.out.trans (below_drewN' _ W 2)) (by omega) (by omega) (by omega) _ _ _⟩
        case done =>
          rintro D ys W hD hys ⟨hne, hB⟩ hK
          have hBqW := HBq6.out.trans (hB.mono HBq6.out.size)
          have hBw := Lib.hid (HB6.out.trans (hB.mono HB6.out.size))
          have F1 := (HX1.out.below hBqW).cell (i := 0) rfl
          have F2 := (HX2.out.below hBqW).cell (i := 0) rfl
          have F3 := (HX3.out.below hBqW).cell (i := 0) rfl
          have G1 : W.frozen? ⟨w.heap.size + 1 + 1 + 1, 0, none⟩ = false := (HX1.out.below hBqW).fz
          have G2 : W.frozen? ⟨w.heap.size + 1 + 1 + 1 + 1, 0, none⟩ = false := (HX2.out.below hBqW).fz
          have G3 : W.frozen? ⟨w.heap.size + 1 + 1 + 1 + 1 + 1, 0, none⟩ = false := (HX3.out.below hBqW).fz
          have hall : ∀ j : Nat, j < n → atI CA j = atI CB j := fun j hj => by
            have hm : j ∈ ys.map (·.1) := by rw [hys]; exact revN_mem.2 ⟨n - 1 - j, by omega, by omega⟩
            obtain ⟨y, hy, e⟩ := List.mem_map.1 hm
            rw [← e]
            exact hne y hy
          have HR := Lib.hid (HN4.out (-1) HNE.out HZ.out (last_none n hall))
          have HKD := Lib.hid hK
          have HDD := Lib.hid hD
          have HFC := Lib.hid (cells3 (v1 := .int .i64 0) (v2 := .int .i64 0) (v3 := .int .i64 0) F1 F2 F3 (by omega) (by omega) (by omega))
          clear hall hys hne hB hBqW hK hD hsq
          go_wp2_with fail
          have hK' := keeps3 W (w.heap.size + 1 + 1 + 1) (w.heap.size + 1 + 1 + 1 + 1) (w.heap.size + 1 + 1 + 1 + 1 + 1) (.int .i64 0) (.int .i64 0) (.int .i64 0) HKD.out rfl
          refine ⟨by simp, .inl ⟨_, _, rfl, run_takeDeferred hK', ?_⟩⟩
          obtain ⟨k1, k2, k3⟩ := cells3_kept HFC.out hK'
          refine ⟨.tuple #[.int .i64 0, .int .i64 0, .int .i64 0], ?_, by rw [HR.out], (below_r3 hBw.out (by omega) (by omega) (by omega) _ _ _).trans (belowK_b (w := w) (Nat.le_refl _) _ D _ _ (by have := HDD.out; have := HB6.out.size; omega) hK' rfl rfl)⟩
          simp [results, Tryz.results47, go_sem, k1, k2, k3]
        case stop =>
          rintro D cc pre W hD ⟨k', hk', hmap⟩ ⟨⟨rfl, ini, last, rfl, e2, e3, c1', c2', c3'⟩, hB⟩ hK
          rw [List.map_append, revN_succ] at hmap
          obtain ⟨m1, m2⟩ := List.append_inj' hmap rfl
          have hl1 : last.1 = n - 1 - k' := by simpa using m2
          have HR := Lib.hid (HN3.out _ _ HNE.out HZ.out (last_at (P := CA) (Q := CB) (j := last.1) e3 n last.2 (fun i h1 h2 => by
            have hm : i ∈ ini.map (·.1) := by rw [m1]; exact revN_mem.2 ⟨n - 1 - i, by omega, by omega⟩
            obtain ⟨y, hy, e⟩ := List.mem_map.1 hm
            rw [← e]
            exact e2 y hy)) (by have := e3; unfold SameP at this; omega))
          have HKD := Lib.hid hK
          have HDD := Lib.hid hD
          have HBW3 := Lib.hid hB
          have HFC := Lib.hid (And.intro c1' (And.intro c2' c3'))
          clear hmap m1 m2 hl1 e2 e3 c1' c2' c3' hB hK hD hsq
          gi_wp2
          refine ⟨by simp, .inl ⟨_, _, rfl, run_takeDeferred HKD.out, ?_⟩⟩
          obtain ⟨k1, k2, k3⟩ := cells3_kept HFC.out HKD.out
          refine ⟨.tuple #[.int .i64 (sgnZ (atI CA (last.1 : Int) - atI CB (last.1 : Int))), .int .i64 3, .int .i64 (last.1 : Int)], ?_, by rw [HR.out], HBW3.out.trans (belowK_b (w := w) (Nat.le_refl _) W D _ _ (by have := HDD.out; have := HB6.out.size; omega) HKD.out rfl rfl)⟩
          simp [results, Tryz.results47, go_sem, k1, k2, k3]
  · have hmn : min (n1 : Int) (n2 : Int) = (n1 : Int) := by omega
    go_wp2_with fail
    go_loopw [43] (fun i wr => ∃ k : Nat, k ≤ n1 ∧ i = .int .i64 k ∧ Hid (lexC X Y = lexC (X.drop k) (Y.drop k)) ∧ Hid (Drawn wr2 wr)) (fun i _ => n1 - (intOf i).toNat)
    case atStart => exact ⟨0, Nat.zero_le _, rfl, HL0, Lib.hid (Drawn.refl _)⟩
    case round =>
      clear HL0
      obtain ⟨k, hkq, rfl, HI, HQ⟩ := hrel
      obtain ⟨wo, hwo⟩ : ∃ wo : World, wo = wr := ⟨_, rfl⟩
      subst hwo
      have HBd := Lib.hid (HBr2.out.trans (HQ.out.below.mono hszr))
      by_cases hlt : k < n1
      · have hkd : decide ((k : Int) < (n1 : Int)) = true := by simpa using hlt
        obtain ⟨b1, o1, x, e1, hx, hd, hcx⟩ := (HRX.out.drawn HQ.out).int (k := k) (by omega)
        obtain ⟨b2, o2, y, e2, hy, hd2, hcy⟩ := (HRY.out.drawn HQ.out).int (k := k) (by omega)
        injection e1 with e1
        injection e1 with q1 q2
        subst q1 q2
        injection e2 with e2
        injection e2 with q1 q2
        subst q1 q2
        simp only [Nat.zero_add] at hcx hcy
        obtain ⟨hx0, hx1⟩ := HBX.out x (List.mem_of_getElem? hx)
        obtain ⟨hy0, hy1⟩ := HBY.out y (List.mem_of_getElem? hy)
        have hi := HI.out
        rw [hd, hd2, lexC_cons] at hi
        have HI1 := Lib.hid hi
        have hk1 : k < n1 := by omega
        have hk2 : k < n2 := by omega
        clear hi HI hd hd2 hx hy
        by_cases hxy : x = y
        · have hne2 : (x != y) = false := by simp [hxy]
          have hi := HI1.out
          rw [if_pos hxy] at hi
          have HI2 := Lib.hid hi
          clear hi HI1 hxy
          go_wp2_with fail
          go_quiet (fail)
          go_wp2_with fail
          go_roundw
          case rel => exact ⟨k + 1, by omega, by go_num, HI2, Lib.hid (HQ.out.step _)⟩
          case measure => simp [intOf] <;> omega
        · have hne2 : (x != y) = true := by simp [hxy]
          have hi := HI1.out
          rw [if_neg hxy] at hi
          have HR := Lib.hid (HN2.out (x - y) HNE.out hi (by omega))
          have HWS := Lib.hid (show IntKind.i64.wrap (x - y) = x - y from IntWalk.i64_in _ (by omega))
          clear hi HI1 hxy HN2 HN3 HN4
          go_wp2_with fail
          go_quiet (fail)
          obtain ⟨wz, hwz, hqd⟩ : ∃ wz, wz = wo.drewN nq ∧ Below wo.heap.size wo wz := ⟨_, rfl, below_drewN' _ _ _⟩
          rw [← hwz]
          have hcx' := (hqd.cell (p := ⟨g1, k, none⟩) (cell_lt hcx)).trans hcx
          have hcy' := (hqd.cell (p := ⟨g2, k, none⟩) (cell_lt hcy)).trans hcy
          have HBZ := HBd.out.trans (hqd.mono HBd.out.size)
          have HB9 := Lib.hid (HBQ.out.trans (HBZ.mono HBQ.out.size))
          have F1 := (HX1.out.below HBZ).cell (i := 0) rfl
          have F2 := (HX2.out.below HBZ).cell (i := 0) rfl
          have F3 := (HX3.out.below HBZ).cell (i := 0) rfl
          have G1 : wz.frozen? ⟨w.heap.size + 1 + 1 + 1, 0, none⟩ = false := (HX1.out.below HBZ).fz
          have G2 : wz.frozen? ⟨w.heap.size + 1 + 1 + 1 + 1, 0, none⟩ = false := (HX2.out.below HBZ).fz
          have G3 : wz.frozen? ⟨w.heap.size + 1 + 1 + 1 + 1 + 1, 0, none⟩ = false := (HX3.out.below HBZ).fz
          clear hwz hqd hcx hcy HBZ
          have hws := HWS.out
          go_wp2_with fail
          go_still_tail 9, (by kernel_rfl)
          clear hws
          go_wp2_with fail
          refine (signZ_any _ _).mono ?_
          rintro e w5 ⟨rfl, rfl⟩
          go_wp2_with fail
          refine bodyPostM_ret (v := .tuple #[.int .i64 (sgnZ (x - y)), .int .i64 2, .int .i64 0]) (by simp [results, Tryz.results47, go_sem, F1, F2, F3]) rfl ?_
          exact ⟨by rw [HR.out], below_r3 HB9.out.drew (by omega) (by omega) (by omega) _ _ _⟩
      · obtain rfl : k = n1 := by omega
        have hz : lexC X Y = 0 := by rw [HI.out, show X.drop k = [] from List.drop_eq_nil_of_le (by rw [HLX.out]; exact Nat.le_refl _), lexC_nil]
        have HZ := Lib.hid hz
        have HBW2 := Lib.hid (HBQ.out.trans (HBd.out.mono HBQ.out.size))
        have FX := (HXT.out.below HBd.out).f3
        have hkd : decide ((k : Int) < (k : Int)) = false := by simp
        clear hz HI HN2 hlt
        go_wp2_with fail
        refine (callsIn_wide.1 (backward_in Fence.wide 2 trivial rfl P n c wo)).mono ?_
        rintro e w6 ⟨rfl, hw6⟩
        obtain ⟨hbw6, hcw6, hsw6⟩ : Below wo.heap.size wo w6 ∧ w6.cell? ⟨wo.heap.size, 0, none⟩ = some (.slice P n c) ∧ w6.heap.size = wo.heap.size + 1 := by
          rw [hw6]
          exact ⟨(Below.refl _ _).alloc (Nat.le_refl _) _, cell_new1 _ _ _, by simp⟩
        clear hw6 FX
        go_wp2_with fail
        have HB6 := Lib.hid (HBW2.out.trans (hbw6.mono HBW2.out.size))
        have HBq6 := Lib.hid (HBd.out.trans (hbw6.mono HBd.out.size))
        have HC6 := Lib.hid hcw6
        have HS6 := Lib.hid hsw6
        have hrv : ∃ rv : Nat → Value, (∀ b o, P = some ⟨b, o, none⟩ → ∀ j, j < n → b < w6.heap.size ∧ w6.cell? ⟨b, o + j, none⟩ = some (rv j)) := by
          refine ⟨fun j => match P with | some ad => (w6.cell? ⟨ad.block, ad.off + j, none⟩).getD undef | none => undef, ?_⟩
          rintro b0 o0 rfl j hj
          obtain ⟨b', o', A', c', p, e, -, -, hcell, -⟩ := ((HT.out.below HB6.out).pts).row hj
          injection e with e
          injection e with e1 e2
          subst e1 e2
          refine ⟨cell_lt hcell, ?_⟩
          show _ = some ((w6.cell? ⟨b0, o0 + j, none⟩).getD undef)
          rw [hcell]
          rfl
        obtain ⟨rv, hrv⟩ := hrv
        have HRV := Lib.hid hrv
        have hPA : 0 < n → ∃ b o, P = some ⟨b, o, none⟩ := fun h0 => by
          obtain ⟨b', o', A', c', p, e, -⟩ := ((HT.out.below HB6.out).pts).row h0
          exact ⟨b', o', e⟩
        have hsq := backward_stops Fence.wide 2 trivial rfl (by omega) wo.heap.size w6.heap.size P n c (by omega) rv w6 (by omega) (Nat.le_refl _) HC6.out HRV.out hPA
        clear hbw6 hcw6 hrv hPA
        obtain ⟨CA, hCA⟩ : ∃ CA, CA = colOf t.pts (a : Int) := ⟨_, rfl⟩
        obtain ⟨CB, hCB⟩ : ∃ CB, CB = colOf t.pts (b : Int) := ⟨_, rfl⟩
        have HCA := Lib.hid hCA
        have HCB := Lib.hid hCB
        rw [← hCA, ← hCB] at HN3 HN4
        clear hCA hCB
        refine (wpIn_wide (n := 3)).1 ?_
        refine wpIn_rangeFunc_ownG rfl (by omega) (gf := 82) (lb := #[.pointer (some ⟨wo.heap.size, 0, none⟩)]) rfl trivial (enters_of Tryz.func82 (by kernel_rfl) rfl)
          hsq belowK_t (belowK_b (Nat.le_refl _)) (Below.refl _ _) (fun _ => rfl)
          (fun pre W => (∀ y ∈ pre, SameP CA CB y) ∧ Below w6.heap.size w6 W)
          (fun c pre W => (c = .ret ∧ ∃ ini last, pre = ini ++ [last] ∧ (∀ y ∈ ini, SameP CA CB y) ∧ ¬ SameP CA CB last ∧ W.cell? ⟨w.heap.size + 1 + 1 + 1, 0, none⟩ = some (.int .i64 (sgnZ (atI CA (last.1 : Int) - atI CB (last.1 : Int)))) ∧ W.cell? ⟨w.heap.size + 1 + 1 + 1 + 1, 0, none⟩ = some (.int .i64 3) ∧ W.cell? ⟨w.heap.size + 1 + 1 + 1 + 1 + 1, 0, none⟩ = some (.int .i64 (last.1 : Int))) ∧ Below w.heap.size w W)
          (OwnFrom.and (Own.from (fun s A B row hs hg hr => hs) _) (ownFrom_below (Nat.le_refl _) (Nat.le_refl _)))
          (fun c => OwnFrom.and (Own.from (fun s A B row hs hg hr => by obtain ⟨hc, ini, last, e1, e2, e3, e4, e5, e6⟩ := hs; exact ⟨hc, ini, last, e1, e2, e3, cell_kept e4 hg hr, cell_kept e5 hg hr, cell_kept e6 hg hr⟩) _) (ownFrom_below (Nat.le_refl _) HB6.out.size))
          ⟨by simp, Below.refl _ _⟩
          (fun x => { tmps := #[.agg #[.int .i64 t.boats, .slice P n c, .slice C n d], .slice A l cl, .int .i64 ↑a, .int .i64 ↑b, .pointer (some ⟨w.heap.size, 0, none⟩), undef, .pointer (some ⟨w.heap.size + 1, 0, none⟩), .pointer (some ⟨w.heap.size + 1 + 1, 0, none⟩), .pointer (some ⟨w.heap.size + 1 + 1 + 1, 0, none⟩), .pointer (some ⟨w.heap.size + 1 + 1 + 1 + 1, 0, none⟩), .pointer (some ⟨w.heap.size + 1 + 1 + 1 + 1 + 1, 0, none⟩), .int .i64 (NA - NB), .slice (some ⟨g1, 0, none⟩) k c1, .slice (some ⟨g2, 0, none⟩) n2 c2, u14, .int .i64 (x.1 : Int), rv x.1, .agg #[.int .i64 t.boats, .slice P n c, .slice C n d], .slice A l cl, .int .i64 ↑a, .int .i64 NA, .agg #[.int .i64 t.boats, .slice P n c, .slice C n d], .slice A l cl, .int .i64 ↑b, .int .i64 NB, .int .i64 (NA - NB), .int .i64 (NA - NB), .bool false, undef, undef, .agg #[.int .i64 t.boats, .slice P n c, .slice C n d], .slice A l cl, .int .i64 ↑a, .slice (some ⟨g1, 0, none⟩) k c1, .agg #[.int .i64 t.boats, .slice P n c, .slice C n d], .slice A l cl, .int .i64 ↑b, .slice (some ⟨g2, 0, none⟩) n2 c2, .slice (some ⟨g1, 0, none⟩) k c1, .int .i64 ↑k, .slice (some ⟨g2, 0, none⟩) n2 c2, .int .i64 ↑n2, .int .i64 ↑k, .int .i64 ↑k, .bool false, u45, u46, u47, u48, u49, u50, u51, u52, u53, u54, u55, u56, u57, u58, u59, u60, u61, u62, u63, u64, u65, .pointer (some ⟨w.heap.size, 1, none⟩), .slice P n c, .func (.func 82) #[] #[.pointer (some ⟨wo.heap.size, 0, none⟩)], .int .i64 (x.1 : Int), rv x.1, undef, undef, undef, undef, undef, undef, undef, undef, undef, undef, undef, undef, undef, undef, undef, undef, undef, undef, undef, undef], defers := [] }) ?assign ?body ?done ?stop
        case assign =>
          intro l x W K hK
          simp only [encP]
          gi_wp2
          exact hK
        case body =>
          rintro l pre x W ⟨hall, hB⟩ hlt
          have hBw := HB6.out.trans (hB.mono HB6.out.size)
          have hBqW := HBq6.out.trans (hB.mono HBq6.out.size)
          obtain ⟨bp, op, A', c', p, b', o', A2, c2', q, px, py, b3, o3, b4, o4, rfl, rfl, hd, hd', hc, hc', rfl, rfl, hbp, hbq, hp16, hq16, hx, hy, hx0, hx1, hxc, hyc⟩ := tab_row (HT.out.below hBw) HOK.out (k := x.1) x.2 HAT.out
          obtain ⟨e, u, B', f', r, e', u', B2, f2, s, px', py', e3, u3, e4, u4, hP, hC, hd2, hd2', hc2, hc2', hB', rfl, hbr, hbs, hr16, hs16, hx', hy', hx0', hx1', hxc', hyc'⟩ := tab_row (HT.out.below hBw) HOK.out (k := x.1) x.2 HBT.out
          injection hP with hP
          injection hP with e1' e2'
          subst e1' e2'
          rw [hc] at hc2
          injection hc2 with hc2
          injection hc2 with q1 q2 q3
          subst hB'
          injection q1 with q1
          injection q1 with q4 q5
          subst q4 q5
          have HPX := Lib.hid (show atI CA (x.1 : Int) = px from by rw [HCA.out]; exact col_at hd hx)
          have HPX' := Lib.hid (show atI CB (x.1 : Int) = px' from by rw [HCB.out]; exact col_at hd2 hx')
          have hbr' : b < p.length := by omega
          have hrvx : rv x.1 = .slice (some ⟨b3, o3, none⟩) p.length c' := by
            obtain ⟨h1, h2⟩ := HRV.out bp op rfl x.1 x.2
            have h3 := (hB.cell (p := ⟨bp, op + x.1, none⟩) h1).trans h2
            rw [hc] at h3
            injection h3 with h3
            exact h3.symm
          have FA := (HXA.out.below hBqW).cell (i := 0) rfl
          have FB := (HXB.out.below hBqW).cell (i := 0) rfl
          have HALL := Lib.hid hall
          have HBB2 := Lib.hid hB
          have HBw2 := Lib.hid hBw
          simp only [hrvx]
          have hmx : Tryz.prog.follows .mixedOrders = true := by kernel_rfl
          have hd1 : 1 ≤ 3 - 1 - 1 := by omega
          clear hd hd' hd2 hd2' hx hy hx' hy' hC hc' hc2' hyc hyc' q2 q3 hbq hbs hq16 hs16 hall hc hrvx hsq
          have F1 := (HX1.out.below hBqW).cell (i := 0) rfl
          have F2 := (HX2.out.below hBqW).cell (i := 0) rfl
          have F3 := (HX3.out.below hBqW).cell (i := 0) rfl
          have HSW := Lib.hid (And.intro FA (And.intro FB (And.intro hxc hxc')))
          obtain ⟨S, hSE, hSI⟩ : ∃ S : World → Prop, (∀ w1, S w1 → (w1.cell? ⟨w.heap.size + 1, 0, none⟩ = some (.int .i64 a) ∧ w1.cell? ⟨w.heap.size + 1 + 1, 0, none⟩ = some (.int .i64 b) ∧ w1.cell? ⟨b3, o3 + a, none⟩ = some (.int .i64 px) ∧ w1.cell? ⟨b3, o3 + b, none⟩ = some (.int .i64 px'))) ∧ S W.drew := by
            refine ⟨fun w1 => w1 = W.drew, ?_, rfl⟩
            rintro w1 e
            subst e
            obtain ⟨q1, q2, q3, q4⟩ := HSW.out
            exact ⟨((below_drewN' _ _ 1).cell (cell_lt q1)).trans q1, ((below_drewN' _ _ 1).cell (cell_lt q2)).trans q2, ((below_drewN' _ _ 1).cell (cell_lt q3)).trans q3, ((below_drewN' _ _ 1).cell (cell_lt q4)).trans q4⟩
          have HSE := Lib.hid hSE
          have HSI := Lib.hid hSI
          clear hSE hSI
          clear FA FB hxc hxc'
          by_cases hxy : px = px'
          · have hne2 : (px != px') = false := by simp [hxy]
            have HSM := Lib.hid (show SameP CA CB x from by unfold SameP; rw [HPX.out, HPX'.out, hxy])
            clear hxy hB hBw hBqW F1 F2 F3
            gi_wp2
            refine wpIn_round_T2 (n := 9) S (fun j => false) hmx rfl (by kernel_rfl) ?_
            intro ops HOPS
            have hS := HSI.out
            refine wpAnyT_take 0 (.slice (some ⟨b3, o3, none⟩) p.length c') (by rw [HOPS.out]; rfl) (by rw [HOPS.out]; kernel_rfl) (by exact fun _ _ _ h => h) (by rfl) (fun w1 hS => by go_simp) hS ?_
            go_simp
            refine wpAnyT_take 1 (.int .i64 (a : Int)) (by rw [HOPS.out]; rfl) (by rw [HOPS.out]; kernel_rfl) (by exact fun _ _ _ h => h) (by rfl) (fun w1 hS => by obtain ⟨s1, s2, s3, s4⟩ := HSE.out _ hS; go_simp) hS ?_
            go_simp
            refine wpAnyT_take 2 (.pointer (some ⟨b3, o3 + a, none⟩)) (by rw [HOPS.out]; rfl) (by rw [HOPS.out]; kernel_rfl) (by exact fun _ _ _ h => h) (by rfl) (fun w1 hS => by go_simp) hS ?_
            go_simp
            refine wpAnyT_take 3 (.int .i64 px) (by rw [HOPS.out]; rfl) (by rw [HOPS.out]; kernel_rfl) (by exact fun _ _ _ h => h) (by rfl) (fun w1 hS => by obtain ⟨s1, s2, s3, s4⟩ := HSE.out _ hS; go_simp) hS ?_
            go_simp
            refine wpAnyT_take 4 (.slice (some ⟨b3, o3, none⟩) p.length c') (by rw [HOPS.out]; rfl) (by rw [HOPS.out]; kernel_rfl) (by exact fun _ _ _ h => h) (by rfl) (fun w1 hS => by go_simp) hS ?_
            go_simp
            refine wpAnyT_take 5 (.int .i64 (b : Int)) (by rw [HOPS.out]; rfl) (by rw [HOPS.out]; kernel_rfl) (by exact fun _ _ _ h => h) (by rfl) (fun w1 hS => by obtain ⟨s1, s2, s3, s4⟩ := HSE.out _ hS; go_simp) hS ?_
            go_simp
            refine wpAnyT_take 6 (.pointer (some ⟨b3, o3 + b, none⟩)) (by rw [HOPS.out]; rfl) (by rw [HOPS.out]; kernel_rfl) (by exact fun _ _ _ h => h) (by rfl) (fun w1 hS => by go_simp) hS ?_
            go_simp
            refine wpAnyT_take 7 (.int .i64 px') (by rw [HOPS.out]; rfl) (by rw [HOPS.out]; kernel_rfl) (by exact fun _ _ _ h => h) (by rfl) (fun w1 hS => by obtain ⟨s1, s2, s3, s4⟩ := HSE.out _ hS; go_simp) hS ?_
            go_simp
            refine wpAnyT_take 8 (.bool (px != px')) (by rw [HOPS.out]; rfl) (by rw [HOPS.out]; kernel_rfl) (by exact fun _ _ _ h => h) (by rfl) (fun w1 hS => by go_simp) hS ?_
            go_simp
            refine wpAnyT_done (by rw [HOPS.out]; kernel_rfl) ?_ _
            simp only [NormQ]
            gi_wp2
            exact ⟨keeps_drew _ _, below_drewN' _ W 1, fun y hy => (List.mem_append.1 hy).elim (HALL.out y) (fun e => by rw [List.mem_singleton.1 e]; exact HSM.out), HBB2.out.trans (below_drewN' _ W 1)⟩
          · have hne2 : (px != px') = true := by simp [hxy]
            have HSM := Lib.hid (show ¬ SameP CA CB x from by unfold SameP; rw [HPX.out, HPX'.out]; exact hxy)
            have HWS := Lib.hid (show IntKind.i64.wrap (px - px') = px - px' from IntWalk.i64_in _ (by omega))
            have G1 : W.frozen? ⟨w.heap.size + 1 + 1 + 1, 0, none⟩ = false := (HX1.out.below hBqW).fz
            have G2 : W.frozen? ⟨w.heap.size + 1 + 1 + 1 + 1, 0, none⟩ = false := (HX2.out.below hBqW).fz
            have G3 : W.frozen? ⟨w.heap.size + 1 + 1 + 1 + 1 + 1, 0, none⟩ = false := (HX3.out.below hBqW).fz
            have HF := Lib.hid (And.intro F1 (And.intro F2 F3))
            have HG := Lib.hid (And.intro G1 (And.intro G2 G3))
            clear hxy hB hBw hBqW F1 F2 F3 G1 G2 G3
            gi_wp2
            refine wpIn_round_T2 (n := 9) S (fun j => false) hmx rfl (by kernel_rfl) ?_
            intro ops HOPS
            have hS := HSI.out
            refine wpAnyT_take 0 (.slice (some ⟨b3, o3, none⟩) p.length c') (by rw [HOPS.out]; rfl) (by rw [HOPS.out]; kernel_rfl) (by exact fun _ _ _ h => h) (by rfl) (fun w1 hS => by go_simp) hS ?_
            go_simp
            refine wpAnyT_take 1 (.int .i64 (a : Int)) (by rw [HOPS.out]; rfl) (by rw [HOPS.out]; kernel_rfl) (by exact fun _ _ _ h => h) (by rfl) (fun w1 hS => by obtain ⟨s1, s2, s3, s4⟩ := HSE.out _ hS; go_simp) hS ?_
            go_simp
            refine wpAnyT_take 2 (.pointer (some ⟨b3, o3 + a, none⟩)) (by rw [HOPS.out]; rfl) (by rw [HOPS.out]; kernel_rfl) (by exact fun _ _ _ h => h) (by rfl) (fun w1 hS => by go_simp) hS ?_
            go_simp
            refine wpAnyT_take 3 (.int .i64 px) (by rw [HOPS.out]; rfl) (by rw [HOPS.out]; kernel_rfl) (by exact fun _ _ _ h => h) (by rfl) (fun w1 hS => by obtain ⟨s1, s2, s3, s4⟩ := HSE.out _ hS; go_simp) hS ?_
            go_simp
            refine wpAnyT_take 4 (.slice (some ⟨b3, o3, none⟩) p.length c') (by rw [HOPS.out]; rfl) (by rw [HOPS.out]; kernel_rfl) (by exact fun _ _ _ h => h) (by rfl) (fun w1 hS => by go_simp) hS ?_
            go_simp
            refine wpAnyT_take 5 (.int .i64 (b : Int)) (by rw [HOPS.out]; rfl) (by rw [HOPS.out]; kernel_rfl) (by exact fun _ _ _ h => h) (by rfl) (fun w1 hS => by obtain ⟨s1, s2, s3, s4⟩ := HSE.out _ hS; go_simp) hS ?_
            go_simp
            refine wpAnyT_take 6 (.pointer (some ⟨b3, o3 + b, none⟩)) (by rw [HOPS.out]; rfl) (by rw [HOPS.out]; kernel_rfl) (by exact fun _ _ _ h => h) (by rfl) (fun w1 hS => by go_simp) hS ?_
            go_simp
            refine wpAnyT_take 7 (.int .i64 px') (by rw [HOPS.out]; rfl) (by rw [HOPS.out]; kernel_rfl) (by exact fun _ _ _ h => h) (by rfl) (fun w1 hS => by obtain ⟨s1, s2, s3, s4⟩ := HSE.out _ hS; go_simp) hS ?_
            go_simp
            refine wpAnyT_take 8 (.bool (px != px')) (by rw [HOPS.out]; rfl) (by rw [HOPS.out]; kernel_rfl) (by exact fun _ _ _ h => h) (by rfl) (fun w1 hS => by go_simp) hS ?_
            go_simp
            refine wpAnyT_done (by rw [HOPS.out]; kernel_rfl) ?_ _
            simp only [NormQ]
            clear HOPS hS HSE HSI S ops
            obtain ⟨S, hSE, hSI⟩ : ∃ S : World → Prop, (∀ w1, S w1 → (w1.cell? ⟨w.heap.size + 1, 0, none⟩ = some (.int .i64 a) ∧ w1.cell? ⟨w.heap.size + 1 + 1, 0, none⟩ = some (.int .i64 b) ∧ w1.cell? ⟨b3, o3 + a, none⟩ = some (.int .i64 px) ∧ w1.cell? ⟨b3, o3 + b, none⟩ = some (.int .i64 px'))) ∧ S W.drew.drew := by
              refine ⟨fun w1 => w1 = W.drew.drew, ?_, rfl⟩
              rintro w1 e
              subst e
              obtain ⟨q1, q2, q3, q4⟩ := HSW.out
              exact ⟨((below_drewN' _ _ 2).cell (cell_lt q1)).trans q1, ((below_drewN' _ _ 2).cell (cell_lt q2)).trans q2, ((below_drewN' _ _ 2).cell (cell_lt q3)).trans q3, ((below_drewN' _ _ 2).cell (cell_lt q4)).trans q4⟩
            have HSE := Lib.hid hSE
            have HSI := Lib.hid hSI
            clear hSE hSI
            gi_wp2
            refine wpIn_round_T2 (n := 14) (fun _ => True) (fun _ => false) hmx rfl (by kernel_rfl) ?_
            intro ops HOPS
            have hS := HSI.out
            have hws := HWS.out
            refine wpAnyT_take 10 (.int .i64 (x.1 : Int)) (by rw [HOPS.out]; rfl) (by rw [HOPS.out]; kernel_rfl) (by exact fun _ _ _ h => h) (by rfl) (fun w1 hS => by go_simp) trivial ?_
            go_simp
            refine wpAnyT_weaken (S := S) (late := fun j => j == 11 || j == 12 || j == 13) _ _ _ _ ?_
            refine wpAnyT_take 0 (.slice (some ⟨b3, o3, none⟩) p.length c') (by rw [HOPS.out]; rfl) (by rw [HOPS.out]; kernel_rfl) (by exact fun _ _ _ h => h) (by rfl) (fun w1 hS => by go_simp) hS ?_
            go_simp
            refine wpAnyT_take 1 (.int .i64 (a : Int)) (by rw [HOPS.out]; rfl) (by rw [HOPS.out]; kernel_rfl) (by exact fun _ _ _ h => h) (by rfl) (fun w1 hS => by obtain ⟨s1, s2, s3, s4⟩ := HSE.out _ hS; go_simp) hS ?_
            go_simp
            refine wpAnyT_take 2 (.pointer (some ⟨b3, o3 + a, none⟩)) (by rw [HOPS.out]; rfl) (by rw [HOPS.out]; kernel_rfl) (by exact fun _ _ _ h => h) (by rfl) (fun w1 hS => by go_simp) hS ?_
            go_simp
            refine wpAnyT_take 3 (.int .i64 px) (by rw [HOPS.out]; rfl) (by rw [HOPS.out]; kernel_rfl) (by exact fun _ _ _ h => h) (by rfl) (fun w1 hS => by obtain ⟨s1, s2, s3, s4⟩ := HSE.out _ hS; go_simp) hS ?_
            go_simp
            refine wpAnyT_take 4 (.slice (some ⟨b3, o3, none⟩) p.length c') (by rw [HOPS.out]; rfl) (by rw [HOPS.out]; kernel_rfl) (by exact fun _ _ _ h => h) (by rfl) (fun w1 hS => by go_simp) hS ?_
            go_simp
            refine wpAnyT_take 5 (.int .i64 (b : Int)) (by rw [HOPS.out]; rfl) (by rw [HOPS.out]; kernel_rfl) (by exact fun _ _ _ h => h) (by rfl) (fun w1 hS => by obtain ⟨s1, s2, s3, s4⟩ := HSE.out _ hS; go_simp) hS ?_
            go_simp
            refine wpAnyT_take 6 (.pointer (some ⟨b3, o3 + b, none⟩)) (by rw [HOPS.out]; rfl) (by rw [HOPS.out]; kernel_rfl) (by exact fun _ _ _ h => h) (by rfl) (fun w1 hS => by go_simp) hS ?_
            go_simp
            refine wpAnyT_take 7 (.int .i64 px') (by rw [HOPS.out]; rfl) (by rw [HOPS.out]; kernel_rfl) (by exact fun _ _ _ h => h) (by rfl) (fun w1 hS => by obtain ⟨s1, s2, s3, s4⟩ := HSE.out _ hS; go_simp) hS ?_
            go_simp
            refine wpAnyT_take 8 (.int .i64 (px - px')) (by rw [HOPS.out]; rfl) (by rw [HOPS.out]; kernel_rfl) (by exact fun _ _ _ h => h) (by rfl) (fun w1 hS => by go_simp) hS ?_
            go_simp
            refine wpAnyT_one 9 (by rw [HOPS.out]; rfl) (by rw [HOPS.out]; kernel_rfl) ?_
            intro K' hK
            have HK := Lib.hid hK
            clear hK
            go_simp
            go_at_call 60
            refine (signZ_any _ _).mono ?_
            rintro e w5 ⟨rfl, rfl⟩
            refine HK.out _ _ (.inr hS) ?_
            clear HK
            go_simp
            obtain ⟨F1, F2, F3⟩ := HF.out
            obtain ⟨G1, G2, G3⟩ := HG.out
            refine wpAnyT_one 11 (by rw [HOPS.out]; rfl) (by rw [HOPS.out]; kernel_rfl) ?_
            intro K' hK
            have HK := Lib.hid hK
            clear hK
            go_simp
            refine HK.out _ _ (.inl rfl) ?_
            clear HK
            go_simp
            refine wpAnyT_one 12 (by rw [HOPS.out]; rfl) (by rw [HOPS.out]; kernel_rfl) ?_
            intro K' hK
            have HK := Lib.hid hK
            clear hK
            go_simp
            refine HK.out _ _ (.inl rfl) ?_
            clear HK
            go_simp
            refine wpAnyT_one 13 (by rw [HOPS.out]; rfl) (by rw [HOPS.out]; kernel_rfl) ?_
            intro K' hK
            have HK := Lib.hid hK
            clear hK
            go_simp
            refine HK.out _ _ (.inl rfl) ?_
            clear HK
            go_simp
            refine wpAnyT_done (by rw [HOPS.out]; kernel_rfl) ?_ _
            simp only [NormQ]
            gi_wp2
            obtain ⟨k1, k2, k3⟩ := HF.out
            obtain ⟨k1, k2, k3⟩ := cells3 (v1 := .int .i64 (sgnZ (px - px'))) (v2 := .int .i64 3) (v3 := .int .i64 (x.1 : Int)) k1 k2 k3 (by omega) (by omega) (by omega)
            exact ⟨(((keeps_drew _ _).trans (keeps_drew _ _)).trans ((KeepsOthers.setCell _ _ _).from _)).trans (((KeepsOthers.setCell _ _ _).from _).trans ((KeepsOthers.setCell _ _ _).from _)),
              ⟨rfl, pre, x, rfl, HALL.out, HSM.out, by rw [HPX.out, HPX'.out]; simpa [go_sem] using k1, by simpa [go_sem] using k2, by simpa [go_sem] using k3⟩,
              below_r3 (HBw2.out.trans (below_drewN' _ W 2)) (by omega) (by omega) (by omega) _ _ _⟩
        case done =>
          rintro D ys W hD hys ⟨hne, hB⟩ hK
          have hBqW := HBq6.out.trans (hB.mono HBq6.out.size)
          have hBw := Lib.hid (HB6.out.trans (hB.mono HB6.out.size))
          have F1 := (HX1.out.below hBqW).cell (i := 0) rfl
          have F2 := (HX2.out.below hBqW).cell (i := 0) rfl
          have F3 := (HX3.out.below hBqW).cell (i := 0) rfl
          have G1 : W.frozen? ⟨w.heap.size + 1 + 1 + 1, 0, none⟩ = false := (HX1.out.below hBqW).fz
          have G2 : W.frozen? ⟨w.heap.size + 1 + 1 + 1 + 1, 0, none⟩ = false := (HX2.out.below hBqW).fz
          have G3 : W.frozen? ⟨w.heap.size + 1 + 1 + 1 + 1 + 1, 0, none⟩ = false := (HX3.out.below hBqW).fz
          have hall : ∀ j : Nat, j < n → atI CA j = atI CB j := fun j hj => by
            have hm : j ∈ ys.map (·.1) := by rw [hys]; exact revN_mem.2 ⟨n - 1 - j, by omega, by omega⟩
            obtain ⟨y, hy, e⟩ := List.mem_map.1 hm
            rw [← e]
            exact hne y hy
          have HR := Lib.hid (HN4.out (-1) HNE.out HZ.out (last_none n hall))
          have HKD := Lib.hid hK
          have HDD := Lib.hid hD
          have HFC := Lib.hid (cells3 (v1 := .int .i64 0) (v2 := .int .i64 0) (v3 := .int .i64 0) F1 F2 F3 (by omega) (by omega) (by omega))
          clear hall hys hne hB hBqW hK hD hsq
          go_wp2_with fail
          have hK' := keeps3 W (w.heap.size + 1 + 1 + 1) (w.heap.size + 1 + 1 + 1 + 1) (w.heap.size + 1 + 1 + 1 + 1 + 1) (.int .i64 0) (.int .i64 0) (.int .i64 0) HKD.out rfl
          refine ⟨by simp, .inl ⟨_, _, rfl, run_takeDeferred hK', ?_⟩⟩
          obtain ⟨k1, k2, k3⟩ := cells3_kept HFC.out hK'
          refine ⟨.tuple #[.int .i64 0, .int .i64 0, .int .i64 0], ?_, by rw [HR.out], (below_r3 hBw.out (by omega) (by omega) (by omega) _ _ _).trans (belowK_b (w := w) (Nat.le_refl _) _ D _ _ (by have := HDD.out; have := HB6.out.size; omega) hK' rfl rfl)⟩
          simp [results, Tryz.results47, go_sem, k1, k2, k3]
        case stop =>
          rintro D cc pre W hD ⟨k', hk', hmap⟩ ⟨⟨rfl, ini, last, rfl, e2, e3, c1', c2', c3'⟩, hB⟩ hK
          rw [List.map_append, revN_succ] at hmap
          obtain ⟨m1, m2⟩ := List.append_inj' hmap rfl
          have hl1 : last.1 = n - 1 - k' := by simpa using m2
          have HR := Lib.hid (HN3.out _ _ HNE.out HZ.out (last_at (P := CA) (Q := CB) (j := last.1) e3 n last.2 (fun i h1 h2 => by
            have hm : i ∈ ini.map (·.1) := by rw [m1]; exact revN_mem.2 ⟨n - 1 - i, by omega, by omega⟩
            obtain ⟨y, hy, e⟩ := List.mem_map.1 hm
            rw [← e]
            exact e2 y hy)) (by have := e3; unfold SameP at this; omega))
          have HKD := Lib.hid hK
          have HDD := Lib.hid hD
          have HBW3 := Lib.hid hB
          have HFC := Lib.hid (And.intro c1' (And.intro c2' c3'))
          clear hmap m1 m2 hl1 e2 e3 c1' c2' c3' hB hK hD hsq
          gi_wp2
          refine ⟨by simp, .inl ⟨_, _, rfl, run_takeDeferred HKD.out, ?_⟩⟩
          obtain ⟨k1, k2, k3⟩ := cells3_kept HFC.out HKD.out
          refine ⟨.tuple #[.int .i64 (sgnZ (atI CA (last.1 : Int) - atI CB (last.1 : Int))), .int .i64 3, .int .i64 (last.1 : Int)], ?_, by rw [HR.out], HBW3.out.trans (belowK_b (w := w) (Nat.le_refl _) W D _ _ (by have := HDD.out; have := HB6.out.size; omega) HKD.out rfl rfl)⟩
          simp [results, Tryz.results47, go_sem, k1, k2, k3]
end Go.Proofs.YtalgdeieejpelaaGreatDoor

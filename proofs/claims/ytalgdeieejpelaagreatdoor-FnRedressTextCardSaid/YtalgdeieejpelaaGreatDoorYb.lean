/- Walks: points of a race, both sides. -/
import Derived.Test.YtalgdeieejpelaaGreatDoorFt
import Derived.Test.YtalgdeieejpelaaGreatDoorZmg
import Derived.Test.YtalgdeieejpelaaGreatDoorZmi
import Derived.Test.YtalgdeieejpelaaGreatDoorZmd
import Derived.Test.YtalgdeieejpelaaGreatDoorZma
import Derived.IntWalk
namespace Go.Proofs.YtalgdeieejpelaaGreatDoor
open Go.RowKit Go.Sort
set_option linter.unusedVariables false
set_option maxRecDepth 100000

/-- A cell's fact in a world behind. -/
theorem cell_bel0 {w w' : World} {b i : Nat} {v : Value} (h : w.cell? ⟨b, i, none⟩ = some v) (k : Below w.heap.size w w') : w'.cell? ⟨b, i, none⟩ = some v := Keeps.below k _ _ h
/-- A new row of numbers. -/
def RetL (w : World) (l : List Int) (e : Ending) (w' : World) : Prop :=
  ∃ g c, e = .returned (.slice (some ⟨g, 0, none⟩) l.length c) ∧ w'.ownsRow w.heap.size 2 1 (.slice (some ⟨g, 0, none⟩) l.length c) l.length (ints l) ∧ w.heap.size ≤ g ∧ Below w.heap.size w w'
section
variable {ops : Array Oper} {rest : List Oper} {o : Oper} {a : Act} {K : Act → World → Prop} {Q : Exit → Act → World → Prop} {E : Prop}
theorem step_i64 (w : World) (hgd : o.guard = none) (s x : Operand)
    (ho : o.op = .call { callee := .builtin .append, args := #[s, x], argTypes := #[35, 35] }) {base n c : Nat} {A : Option Addr} {xs : List Int}
    (hs : a.eval s = .slice A n c) (hown : w.ownsRow base 2 1 (.slice A n c) n (ints xs)) {ad : Addr} {x0 : Int} (hx : a.eval x = .slice (some ad) 1 1)
    (hc : w.cell? ad = some (.int .i64 x0)) (hn : n ≤ 1099511627776) (hbase : base ≤ w.heap.size)
    (h : ∀ g c' w', w'.ownsRow base 2 1 (.slice (some ⟨g, 0, none⟩) (n + 1) c') (n + 1) (ints (xs ++ [x0])) → w.grownBy w' (Value.slice A n c).ownBlock → K (a.put o.dst (.slice (some ⟨g, 0, none⟩) (n + 1) c')) w') :
    if Region.wanted o (yielded ops a.tmps) = true then Oper.wp Tryz.prog o a w K Q else E := by
  obtain ⟨i, hi, hz, hs1, hb1⟩ := info_parts Tryz.info_i64
  exact step_append_lies w hgd s x 35 ho base 2 i (.int .i64 0) 1 8 Tryz.underlying35 hi hz hs1 hb1 rfl (by decide) (.slice A n c) n (ints xs) hs hown ad 1 1 [.int .i64 x0] hx rfl (one_news hc)
    (by intro u hu; simp at hu; subst hu; rfl) (by decide) (by unfold maxLen; omega) (by omega) hbase _ rfl (by rw [show ints xs ++ [.int .i64 x0] = ints (xs ++ [x0]) from (by unfold ints; simp)]; exact fun g c' w' h1 h2 _ _ => h g c' w' h1 h2)
end
def cpF (s : Int) (fs : List FinishT) (code : Int) : Int := if code = 9 then 0 else if code = 1 ∨ s = 0 then 10 * ((fs.length : Int) + 1) else 10 * ((cameN fs : Int) + 1)
/-- How many did not come. -/
def dncN (fs : List FinishT) : Nat := (fs.filter fun g => g.2.1 == 1).length
theorem came_dnc (fs : List FinishT) : cameN fs + dncN fs = fs.length := by
  unfold cameN dncN
  induction fs with
  | nil => rfl
  | cons f r ih => simp only [List.filter_cons]; cases f.2.1 == 1 <;> simp <;> omega
theorem dncN_snoc (fs : List FinishT) (g : FinishT) : dncN (fs ++ [g]) = dncN fs + (if g.2.1 = 1 then 1 else 0) := by
  unfold dncN
  rw [List.filter_append, List.length_append, List.filter_cons]
  by_cases h : g.2.1 = 1 <;> simp [h]
theorem dncN_take (fs : List FinishT) (k : Nat) : dncN (fs.take k) ≤ k := Nat.le_trans (List.length_filter_le _ _) (by simp; omega)
theorem ofFleet_zero : ∀ fs : List FinishT, ofFleet 0 fs (List.replicate fs.length 0) = fs := by
  intro fs
  induction fs with
  | nil => rfl
  | cons f r ih => simp only [List.length_cons, List.replicate_succ, ofFleet, if_true, ih]
theorem mix_next (s : Int) {fs : List FinishT} {k : Nat} {f : FinishT} (hf : fs[k]? = some f) : (rowP s fs).take (k + 1) ++ List.replicate (fs.length - (k + 1)) 0 = ((rowP s fs).take k ++ List.replicate (fs.length - k) 0).set k (ptS s fs f) := by
  have hk : k < fs.length := (List.getElem?_eq_some_iff.1 hf).1
  have h1 : (rowP s fs)[k]? = some (ptS s fs f) := by unfold rowP; rw [List.getElem?_map, hf]; rfl
  exact (copy_stepG 0 (rowP s fs) fs.length k (ptS s fs f) (by simp [rowP]) h1 hk).symm
set_option maxHeartbeats 2000000 in
theorem l26Points_any (A : Option Addr) (n c : Nat) (fs : List FinishT) (s : Int) (hn : n ≤ 16) (hn0 : 0 < n) (w : World) (h : Rd w 3 A n (fins fs)) :
    Calls Tryz.prog 101 #[.agg #[.slice A n c], .int .i64 s] w (RetL w (rowP s fs)) := by
  have HN := Lib.hid h.len_fin
  have HRD := Lib.hid (fun w' (hb : Below w.heap.size w w') => h.below hb)
  have HRL := Lib.hid (show (rowP s fs).length = n from by unfold rowP; rw [List.length_map]; exact h.len_fin)
  clear h
  obtain ⟨wa, hwa, XA, hba, hsa⟩ := one_box w #[.slice A n c] 107
  have HBA := Lib.hid hba
  have HXA := Lib.hid XA
  have FX := XA.l1
  clear hba XA
  go_enter Tryz.func101, Tryz.ntmps101
  go_wp2_with fail
  rw [← hwa]
  clear hwa
  go_wp2_with fail
  clear FX
  go_loopw [6, 7] (fun v i wr => ∃ (k : Nat), k ≤ n ∧ i = .int .i64 k ∧ v = .int .i64 (cameN (fs.take k) : Nat) ∧ Hid (Below wa.heap.size wa wr)) (fun _ i _ => n - (intOf i).toNat)
  case atStart => exact ⟨0, Nat.zero_le _, rfl, rfl, Lib.hid (Below.refl _ _)⟩
  case round =>
    obtain ⟨k, hk, rfl, rfl, HB⟩ := hrel
    obtain ⟨wo, hwo⟩ : ∃ wo : World, wo = wr := ⟨_, rfl⟩
    subst hwo
    have HBo := Lib.hid (HBA.out.trans (HB.out.mono HBA.out.size))
    have FX := (HXA.out.below HB.out).l1
    have hck : cameN (fs.take k) ≤ 16 := Nat.le_trans (cameN_le _) (by simp; have := HN.out; omega)
    by_cases hlt : k < n
    · obtain ⟨b, o, x0, x1, x2, rfl, hx, _, hc0, hc1, hc2⟩ := (HRD.out _ HBo.out).fin hlt
      have HSN := Lib.hid (show cameN (fs.take (k + 1)) = cameN (fs.take k) + (if x1 = 1 then 0 else 1) from by
        rw [take_snoc_get hx]
        unfold cameN
        rw [List.filter_append, List.length_append, List.filter_cons]
        by_cases h : x1 = 1 <;> simp [h])
      clear hx
      generalize cameN (fs.take k) = q at *
      by_cases e1 : x1 = 1
      · subst e1
        go_wp2_with fail
        go_roundw
        case rel => exact ⟨k + 1, by omega, by go_num, by rw [HSN.out, if_pos rfl]; rfl, HB⟩
        case measure => simp [intOf] <;> omega
      · have h1 : (x1 != 1) = true := by simp [e1]
        have HQ := Lib.hid (show cameN (fs.take (k + 1)) = q + 1 from by rw [HSN.out, if_neg e1])
        clear e1 HSN
        go_wp2_with fail
        go_roundw
        case rel => exact ⟨k + 1, by omega, by go_num, by rw [HQ.out]; go_num, HB⟩
        case measure => simp [intOf] <;> omega
    · obtain rfl : k = n := by omega
      rw [List.take_of_length_le (by rw [HN.out]; omega)] at hck ⊢
      have HQ0 := Lib.hid (show cameN fs ≤ 16 from hck)
      have hmk := fun w => run_make_i64 k (by omega) w
      obtain ⟨w1, hw1⟩ : ∃ w1, w1 = wo.alloc (.cells (madeCells #[.int .i64 0] k) 2) := ⟨_, rfl⟩
      have ho1 := own_made wo wo.heap.size 2 k (.int .i64 0) (Nat.le_refl _) (by omega)
      rw [← ints_replicate, ← hw1] at ho1
      have hb1 : Below wo.heap.size wo w1 := by rw [hw1]; exact (Below.refl _ _).alloc (Nat.le_refl _) _
      obtain ⟨w2, hw2⟩ : ∃ w2, w2 = w1.alloc (.cells (madeCells #[.int .i64 0] k) 2) := ⟨_, rfl⟩
      have ho2 := own_made w1 w1.heap.size 2 k (.int .i64 0) (Nat.le_refl _) (by omega)
      rw [← ints_replicate, ← hw2] at ho2
      have hb2 : Below w1.heap.size w1 w2 := by rw [hw2]; exact (Below.refl _ _).alloc (Nat.le_refl _) _
      have hs1 : w1.heap.size = wo.heap.size + 1 := by rw [hw1]; simp
      have hs2 : w2.heap.size = w1.heap.size + 1 := by rw [hw2]; simp
      have HO1 := Lib.hid (own_below ho1 hb2); have HO2 := Lib.hid ho2
      have HB2 := Lib.hid (hb1.trans (hb2.mono hb1.size))
      clear ho1 ho2 hb1 hb2
      generalize hcm : cameN fs = cm at *
      have HCM := Lib.hid hcm
      clear hcm hck
      go_wp2_with fail
      rw [← hw1, ← hw2]
      clear hmk hw1 hw2
      go_wp2_with fail
      clear FX
      obtain ⟨g2, hg2⟩ : ∃ g, g = wo.heap.size + 1 := ⟨_, rfl⟩
      rw [hs1, ← hg2] at HO2
      obtain ⟨g1, hg1⟩ : ∃ g, g = wo.heap.size := ⟨_, rfl⟩
      rw [← hg2, ← hg1]
      rw [← hg1] at HO1
      have HXo := Lib.hid (HXA.out.below HB.out)
      have HO2b := Lib.hid (own_base HO2.out (show wo.heap.size ≤ g2 by omega))
      have HG1 := Lib.hid hg1
      have hgz : g1 < g2 := by omega
      have hgw : wo.heap.size ≤ g1 := by omega
      clear hg1 hg2 hs1 hs2
      have HRO := Lib.hid (fun w' (hb : Below wo.heap.size wo w') => HRD.out w' (HBo.out.trans (hb.mono HBo.out.size)))
      have HFZ := Lib.hid (ofFleet_zero fs)
      rw [HN.out] at HFZ
      go_loopw [10] (fun i wr => ∃ (k2 : Nat), k2 ≤ k ∧ i = .int .i64 k2 ∧ Hid (wr.ownsRow wo.heap.size 2 1 (.slice (some ⟨g1, 0, none⟩) k k) k (ints ((rowP s fs).take k2 ++ List.replicate (k - k2) 0))) ∧ Hid (wr.ownsRow wo.heap.size 2 1 (.slice (some ⟨g2, 0, none⟩) k k) k (ints (List.replicate k 0))) ∧ Hid (Below wo.heap.size wo wr)) (fun i _ => k - (intOf i).toNat)
      case atStart => exact ⟨0, Nat.zero_le _, rfl, Lib.hid (by have h := HO1.out; rw [← HG1.out]; simpa using h), HO2b, HB2⟩
      case round =>
        clear HO1 HO2 HO2b HB2
        obtain ⟨k2, hk2, rfl, HP, HS, HB9⟩ := hrel
        obtain ⟨wp, hwp⟩ : ∃ wp : World, wp = wr := ⟨_, rfl⟩
        subst hwp
        have hsp := HB9.out.size
        have FX := (HXo.out.below HB9.out).l1
        by_cases hlt : k2 < k
        · obtain ⟨b, o, x0, x1, x2, rfl, hx, _, hc0, hc1, hc2⟩ := (HRO.out _ HB9.out).fin hlt
          have HNX := Lib.hid (mix_next s hx)
          rw [HN.out] at HNX
          have HX := Lib.hid hx
          have HZR := Lib.hid (show ((rowP s fs).take k2 ++ List.replicate (k - k2) 0)[k2]? = some 0 from by
            have hrl := HRL.out; rw [List.getElem?_append_right (by rw [List.length_take]; omega), List.getElem?_replicate, if_pos (by rw [List.length_take]; omega)])
          obtain ⟨gx, z, hgx, hgb, hgl, _, hzc, hzf⟩ := own_int_at HP.out hlt
          obtain rfl : g1 = gx := by injection hgx with e; injection e
          clear hx hgx
          by_cases e0 : x1 = 0
          · subst e0
            have HPL := Lib.hid (fun w' (hb : Below wo.heap.size wo w') (hr : Rd w' 1 (some ⟨g2, 0, none⟩) k (ints (List.replicate k 0))) => l26Place_any (some ⟨b, o, none⟩) k c fs (some ⟨g2, 0, none⟩) k k (List.replicate k 0) k2 x0 0 x2 0 w' (HRO.out w' hb) hr HX.out (by rw [List.getElem?_replicate, if_pos hlt]) rfl hn)
            rw [HFZ.out] at HPL
            have h1 := ltN_le x2 fs
            have h2 := eqN_le x2 fs
            have HV := Lib.hid (show ptS s fs (x0, 0, x2) = 5 * (2 * (1 + (ltN x2 fs : Int)) + (eqN x2 fs : Int) - 1) from rfl)
            have hfl := HN.out
            generalize ltN x2 fs = p at *
            generalize eqN x2 fs = q at *
            obtain ⟨v, hv⟩ : ∃ v, v = 5 * (2 * (1 + (p : Int)) + (q : Int) - 1) := ⟨_, rfl⟩
            rw [← hv] at HV
            have HWR := Lib.hid (show IntKind.i64.wrap (5 * IntKind.i64.wrap (IntKind.i64.wrap (IntKind.i64.wrap (2 * (1 + (p : Int))) + (q : Int)) - 1)) = v from by rw [IntWalk.i64_in (2 * (1 + (p : Int))) (by omega), IntWalk.i64_in (2 * (1 + (p : Int)) + (q : Int)) (by omega), IntWalk.i64_in (2 * (1 + (p : Int)) + (q : Int) - 1) (by omega), IntWalk.i64_in _ (by omega)]; exact hv.symm)
            have HVE := Lib.hid hv
            have hp16 : p ≤ 16 := by omega
            have hq16 : q ≤ 16 := by omega
            clear hv hfl
            go_wp2_with fail
            refine (HPL.out _ HB9.out (own_rd HS.out)).mono ?_
            rintro e w5 ⟨rfl, hb5⟩
            have HB5 := Lib.hid (HB9.out.trans (hb5.mono hsp))
            have HP5 := Lib.hid (own_below HP.out hb5); have HS5 := Lib.hid (own_below HS.out hb5)
            have hs5 := hb5.size
            clear hb5 HPL hzc hzf FX hc0 hc1 hc2
            obtain ⟨gx, z, hgx, _, hgl5, _, hzc, hzf⟩ := own_int_at HP5.out hlt
            obtain rfl : g1 = gx := by injection hgx with e; injection e
            clear hgx
            go_wp2_with fail
            rw [show (5 * (2 * (1 + (p : Int)) + (q : Int) - 1)) = v from HVE.out.symm]
            have HON := Lib.hid (own_set (k := k2) HP5.out v)
            have HBN := Lib.hid (HB5.out.setCell (p := ⟨g1, k2, none⟩) (show wo.heap.size ≤ g1 by omega) (.int .i64 v))
            have HSN := Lib.hid (own_chg HS5.out (put_chg (g := g1) [.int .i64 v] k2 (Chg.refl g1 (g1 + 1) w5) (Nat.le_refl _) (by omega)) (fun b hb => by (have h9 : g2 = b := (by simpa [Value.ownBlock] using hb)); omega))
            go_roundw
            case rel => exact ⟨k2 + 1, by omega, by go_num, Lib.hid (by rw [HNX.out, HV.out]; exact HON.out), HSN, HBN⟩
            case measure => simp [intOf] <;> omega
          · have e0b : (x1 == 0) = false := by simp [e0]
            by_cases e9 : x1 = 9
            · subst e9
              have HV := Lib.hid (show ptS s fs (x0, 9, x2) = 0 from rfl)
              go_wp2_with fail
              go_roundw
              case rel => exact ⟨k2 + 1, by omega, by go_num, Lib.hid (by rw [HNX.out, HV.out, set_same HZR.out]; exact HP.out), HS, HB9⟩
              case measure => simp [intOf] <;> omega
            · have e9b : (x1 == 9) = false := by simp [e9]
              by_cases e1 : x1 = 1 ∨ s = 0
              · have e1b : (if (x1 == 1) = true then true else (s == 0)) = true := by rcases e1 with rfl | rfl <;> simp
                obtain ⟨v, hv⟩ : ∃ v, v = 10 * ((k : Int) + 1) := ⟨_, rfl⟩
                have HV := Lib.hid (show ptS s fs (x0, x1, x2) = v from by unfold ptS; rw [if_neg e0, if_neg e9, if_pos e1, HN.out, hv])
                have HVE := Lib.hid hv
                clear hv
                rcases (Classical.em (x1 = 1)) with e2 | e2
                · subst e2
                  go_wp2_with fail
                  rw [show (10 * ((k : Int) + 1)) = v from HVE.out.symm]
                  have HON := Lib.hid (own_set (k := k2) HP.out v)
                  have HBN := Lib.hid (HB9.out.setCell (p := ⟨g1, k2, none⟩) (show wo.heap.size ≤ g1 by omega) (.int .i64 v))
                  have HSN := Lib.hid (own_chg HS.out (put_chg (g := g1) [.int .i64 v] k2 (Chg.refl g1 (g1 + 1) wp) (Nat.le_refl _) (by omega)) (fun b hb => by (have h9 : g2 = b := (by simpa [Value.ownBlock] using hb)); omega))
                  go_roundw
                  case rel => exact ⟨k2 + 1, by omega, by go_num, Lib.hid (by rw [HNX.out, HV.out]; exact HON.out), HSN, HBN⟩
                  case measure => simp [intOf] <;> omega
                · have e2b : (x1 == 1) = false := by simp [e2]
                  obtain rfl : s = 0 := e1.resolve_left e2
                  go_wp2_with fail
                  rw [show (10 * ((k : Int) + 1)) = v from HVE.out.symm]
                  have HON := Lib.hid (own_set (k := k2) HP.out v)
                  have HBN := Lib.hid (HB9.out.setCell (p := ⟨g1, k2, none⟩) (show wo.heap.size ≤ g1 by omega) (.int .i64 v))
                  have HSN := Lib.hid (own_chg HS.out (put_chg (g := g1) [.int .i64 v] k2 (Chg.refl g1 (g1 + 1) wp) (Nat.le_refl _) (by omega)) (fun b hb => by (have h9 : g2 = b := (by simpa [Value.ownBlock] using hb)); omega))
                  go_roundw
                  case rel => exact ⟨k2 + 1, by omega, by go_num, Lib.hid (by rw [HNX.out, HV.out]; exact HON.out), HSN, HBN⟩
                  case measure => simp [intOf] <;> omega
              · have e2b : (x1 == 1) = false := by simp; intro e; exact e1 (.inl e)
                have e3b : (s == 0) = false := by simp; intro e; exact e1 (.inr e)
                obtain ⟨v, hv⟩ : ∃ v, v = 10 * ((cm : Int) + 1) := ⟨_, rfl⟩
                have HV := Lib.hid (show ptS s fs (x0, x1, x2) = v from by unfold ptS; rw [if_neg e0, if_neg e9, if_neg e1, HCM.out, hv])
                have HVE := Lib.hid hv
                have hcm16 := HQ0.out
                clear hv
                go_wp2_with fail
                rw [show (10 * ((cm : Int) + 1)) = v from HVE.out.symm]
                have HON := Lib.hid (own_set (k := k2) HP.out v)
                have HBN := Lib.hid (HB9.out.setCell (p := ⟨g1, k2, none⟩) (show wo.heap.size ≤ g1 by omega) (.int .i64 v))
                have HSN := Lib.hid (own_chg HS.out (put_chg (g := g1) [.int .i64 v] k2 (Chg.refl g1 (g1 + 1) wp) (Nat.le_refl _) (by omega)) (fun b hb => by (have h9 : g2 = b := (by simpa [Value.ownBlock] using hb)); omega))
                go_roundw
                case rel => exact ⟨k2 + 1, by omega, by go_num, Lib.hid (by rw [HNX.out, HV.out]; exact HON.out), HSN, HBN⟩
                case measure => simp [intOf] <;> omega
        · obtain rfl : k2 = k := by omega
          have ho := HP.out
          rw [Nat.sub_self, List.take_of_length_le (by rw [HRL.out]; exact Nat.le_refl _)] at ho
          simp only [List.replicate_zero, List.append_nil] at ho
          have HOZ := Lib.hid ho
          have HBF := Lib.hid (HBo.out.trans (HB9.out.mono HBo.out.size))
          have hwo0 := HBo.out.size
          clear ho
          go_wp2_with fail
          go_ret
          refine ⟨g1, k2, ?_, ?_, by omega, HBF.out⟩
          · rw [HRL.out]; rfl
          · rw [HRL.out]; exact own_base HOZ.out hwo0
end Go.Proofs.YtalgdeieejpelaaGreatDoor

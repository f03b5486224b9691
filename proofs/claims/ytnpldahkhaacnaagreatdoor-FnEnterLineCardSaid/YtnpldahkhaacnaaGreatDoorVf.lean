/- Walks: the console's line enter (chapter 34). -/
import Derived.Test.YtnpldahkhaacnaaGreatDoorVe
namespace Go.Proofs.YtnpldahkhaacnaaGreatDoor
open Go.RowKit Go.Sort
set_option linter.unusedVariables false
set_option maxRecDepth 100000

set_option maxHeartbeats 16000000 in
theorem exec_enter (d : Nat) (r b c t : Int) (hv : ValidE r b c t) (w : World) (hd : Box w d (deskC true 16 0 none 0 0) 61) (HL : ∀ w', Below w.heap.size w w' → Libs w') :
    Calls Tryz.prog 71 #[.pointer (some ⟨d, 0, none⟩), .string (str (enterS r b c t))] w fun e w' => ∃ (s : List UInt8) (A' : Option Addr) (c' : Nat), e = .returned (.string (str s)) ∧ Box w' d (deskC true 16 0 A' 1 c') 61 ∧ w'.ownsRow w.heap.size 25 7 (.slice A' 1 c') 1 (ents [(r, b, 1, c, t, 0, 0)]) ∧ Chg d (d + 1) w w' := by
  have HW := Lib.hid (wordsOfC_any (str (enterS r b c t)) (by rw [str_size]; have := enter_len (r := r) (b := b) (c := c) (t := t); omega) w (HL w (Below.refl _ _)).max)
  have hwl : ∀ x ∈ enterT r b c t, x.length ≤ 2097152 := fun x hx => by
    have h1 := word_len (enterS r b c t) x (by rw [words_valid hv]; exact List.mem_cons_of_mem _ hx)
    have := enter_len (r := r) (b := b) (c := c) (t := t)
    omega
  have htl : 3 ≤ (enterT r b c t).length ∧ (enterT r b c t).length ≤ 4 := by unfold enterT; split <;> simp
  rw [str_list, words_valid hv] at HW
  have HV := Lib.hid hv
  have HLL := Lib.hid HL
  have HD := Lib.hid hd
  have hdl := hd.lt
  have HWL := Lib.hid hwl
  generalize hTL : enterT r b c t = tl at *
  have HTL := Lib.hid hTL
  generalize str (enterS r b c t) = line at *
  clear HL hd hwl hTL hv
  have hw_start : ((str enterWord).toList == [115, 116, 97, 114, 116]) = false := (str_lit enterWord [115, 116, 97, 114, 116]).trans (by decide)
  have hw_correct : ((str enterWord).toList == [99, 111, 114, 114, 101, 99, 116]) = false := (str_lit enterWord [99, 111, 114, 114, 101, 99, 116]).trans (by decide)
  have hw_enter : ((str enterWord).toList == [101, 110, 116, 101, 114]) = true := (str_lit enterWord [101, 110, 116, 101, 114]).trans (by decide)
  go_enter Tryz.func71, Tryz.ntmps71
  go_wp2_with fail
  refine HW.out.mono ?_
  rintro e w1 ⟨A, n, cc, rfl, hr, hb, hnc⟩
  have hn : n = tl.length + 1 := by have := hr.len; rw [strs_len, List.length_cons] at this; omega
  obtain ⟨bb, oo, rfl, hc⟩ := hr.pos (by omega)
  have hc0 : w1.cell? ⟨bb, oo, none⟩ = some (.string (str enterWord)) := by have h := hc 0 _ rfl; simp only [Nat.add_zero] at h; exact h
  have HB1 := Lib.hid hb
  have HD1 := Lib.hid (HD.out.below hb)
  have HR1 := Lib.hid (hr.dropS 1 (by omega))
  have hc1 : cc ≠ 1 := by omega
  have hcd : decide (1 < cc) = true := decide_eq_true (by omega)
  have hcd2 : 1 < cc := by omega
  have hn1 : 1 ≤ n := by omega
  have hn0 : 0 < n := by omega
  have hnb : n ≤ 5 := by omega
  clear hb hr hc HW HD
  have HSH := Lib.hid (fun A' h => implReadEnter_any A' (n - 1) (cc - 1) tl w1 h (by omega) (by omega) HWL.out (fun w2 h2 => HLL.out _ (HB1.out.trans (h2.mono HB1.out.size))))
  clear hn
  go_wp2_with fail
  refine (HSH.out _ HR1.out).mono ?_
  rintro e w2 ⟨r1, b1, c1, t1, ok, rfl, hxp, hb2⟩
  obtain ⟨rfl, rfl, rfl, rfl, rfl⟩ := xp_enter hxp HV.out HTL.out.symm
  have HD2 := Lib.hid (HD1.out.below hb2)
  have HB2 := Lib.hid (HB1.out.trans (hb2.mono HB1.out.size))
  clear hb2 hxp HR1 HSH HD1 hc0
  obtain ⟨w3, hw3, X3, hb3, hs3⟩ := one_box w2 #[.int .i64 r1, .int .i64 b1, .int .i64 0, .int .i64 c1, .int .i64 t1, .int .i64 0, .int .i64 0] 25
  have HW3 := Lib.hid hw3
  have HX3 := Lib.hid X3
  have HD3 := Lib.hid (HD2.out.below hb3)
  have HB3 := Lib.hid (HB2.out.trans (hb3.mono HB2.out.size))
  clear X3 hb3 hw3 HD2
  have FD := HD3.out
  unfold deskC at FD
  have FD := FD.f5
  rw [HW3.out] at FD
  go_wp2_with fail
  rw [← HW3.out]
  clear HW3 FD
  obtain ⟨hcc, hcb, hcs, hcl⟩ := cor_first HV.out
  have HCO := Lib.hid (fun W => implCorrectEntry_any 16 0 none 0 0 [] r1 b1 0 c1 t1 0 0 W ⟨⟨rfl, by omega, fun h => by omega⟩, Nat.le_refl _⟩)
  rw [hcc, hcb, hcs, hcl] at HCO
  clear hcc hcb hcs hcl
  obtain ⟨S, hSE, hSI⟩ : ∃ S : World → Prop, (∀ x9, S x9 → (x9.cell? ⟨d, 1, none⟩ = some (.int .i64 16) ∧ x9.cell? ⟨d, 2, none⟩ = some (.int .i64 0) ∧ x9.cell? ⟨d, 3, none⟩ = some (.slice none 0 0) ∧ x9.cell? ⟨w2.heap.size, 0, none⟩ = some (.int .i64 r1) ∧ x9.cell? ⟨w2.heap.size, 1, none⟩ = some (.int .i64 b1) ∧ x9.cell? ⟨w2.heap.size, 2, none⟩ = some (.int .i64 0) ∧ x9.cell? ⟨w2.heap.size, 3, none⟩ = some (.int .i64 c1) ∧ x9.cell? ⟨w2.heap.size, 4, none⟩ = some (.int .i64 t1) ∧ x9.cell? ⟨w2.heap.size, 5, none⟩ = some (.int .i64 0) ∧ x9.cell? ⟨w2.heap.size, 6, none⟩ = some (.int .i64 0))) ∧ (∀ x9, Below w3.heap.size w3 x9 → S x9) := ⟨fun x9 => Below w3.heap.size w3 x9, fun x9 hb => ⟨(HD3.out.below hb).cell (i := 1) rfl, (HD3.out.below hb).cell (i := 2) rfl, (HD3.out.below hb).cell (i := 3) rfl, (HX3.out.below hb).cell (i := 0) rfl, (HX3.out.below hb).cell (i := 1) rfl, (HX3.out.below hb).cell (i := 2) rfl, (HX3.out.below hb).cell (i := 3) rfl, (HX3.out.below hb).cell (i := 4) rfl, (HX3.out.below hb).cell (i := 5) rfl, (HX3.out.below hb).cell (i := 6) rfl⟩, fun _ h => h⟩
  have HSE := Lib.hid hSE; have HSB := Lib.hid hSI
  clear hSE hSI
  refine wp_region_T2 (n := 12) S (fun _ => false) (by kernel_rfl) rfl ?_
  intro ops HOPS
  obtain ⟨wd, hwd, hbd⟩ : ∃ wd : World, wd = w3.drew ∧ Below w3.heap.size w3 wd := ⟨_, rfl, below_drewN' _ w3 1⟩
  rw [← hwd]
  clear hwd
  have hS := HSB.out _ hbd
  refine wpAnyT_take 0 (.pointer (some ⟨d, 0, none⟩)) (by rw [HOPS.out]; rfl) (by rw [HOPS.out]; kernel_rfl) (by exact fun _ _ _ h => h) (by rfl) (fun w1 hS => by go_simp) hS ?_
  go_simp
  refine wpAnyT_take 4 (.agg #[.int .i64 r1, .int .i64 b1, .int .i64 0, .int .i64 c1, .int .i64 t1, .int .i64 0, .int .i64 0]) (by rw [HOPS.out]; rfl) (by rw [HOPS.out]; kernel_rfl) (by exact fun _ _ _ h => h) (by rfl) (fun w1 hS => by obtain ⟨u1, u2, u3, t0, t1_, t2, t3, t4, t5, t6⟩ := HSE.out _ hS; go_simp) hS ?_
  go_simp
  refine wpAnyT_take 1 (.pointer (some ⟨d, 0, none⟩)) (by rw [HOPS.out]; rfl) (by rw [HOPS.out]; kernel_rfl) (by exact fun _ _ _ h => h) (by rfl) (fun w1 hS => by go_simp) hS ?_
  go_simp
  refine wpAnyT_take 2 (.pointer (some ⟨d, 1, none⟩)) (by rw [HOPS.out]; rfl) (by rw [HOPS.out]; kernel_rfl) (by exact fun _ _ _ h => h) (by rfl) (fun w1 hS => by go_simp) hS ?_
  go_simp
  refine wpAnyT_take 3 (.agg #[.int .i64 16, .int .i64 0, .slice none 0 0]) (by rw [HOPS.out]; rfl) (by rw [HOPS.out]; kernel_rfl) (by exact fun _ _ _ h => h) (by rfl) (fun w1 hS => by obtain ⟨u1, u2, u3, t0, t1_, t2, t3, t4, t5, t6⟩ := HSE.out _ hS; go_simp) hS ?_
  go_simp
  have HBD := Lib.hid hbd
  clear hbd
  refine wpAnyT_two 5 9 (by rw [HOPS.out]; rfl) (by rw [HOPS.out]; rfl) (by rw [HOPS.out]; kernel_rfl) ?_ ?_
  · skip
    intro K' hK
    have HK := Lib.hid hK
    clear hK
    go_simp
    go_at_call 104
    refine (HCO.out _).mono ?_
    rintro e wq ⟨A5, n5, c5, rfl, ho5, -, hb5⟩
    have hn5 : n5 = 1 := by have := own_len_flat entC_len (by decide) ho5; simpa using this.symm
    subst hn5
    have HO5 := Lib.hid ho5
    have hbq := HBD.out.trans (hb5.mono HBD.out.size)
    clear ho5
    refine HK.out _ _ (.inr (HSB.out _ hbq)) ?_
    clear HK
    have hS := HSB.out _ hbq
    go_simp
    refine wpAnyT_take 6 (.tuple #[.agg #[.int .i64 16, .int .i64 0, .slice A5 1 c5], .int .i64 0]) (by rw [HOPS.out]; rfl) (by rw [HOPS.out]; kernel_rfl) (by exact fun _ _ _ h => h) (by rfl) (fun w1 hS => by go_simp) hS ?_
    go_simp
    refine wpAnyT_take 7 (.agg #[.int .i64 16, .int .i64 0, .slice A5 1 c5]) (by rw [HOPS.out]; rfl) (by rw [HOPS.out]; kernel_rfl) (by exact fun _ _ _ h => h) (by rfl) (fun w1 hS => by go_simp) hS ?_
    go_simp
    refine wpAnyT_take 8 (.int .i64 0) (by rw [HOPS.out]; rfl) (by rw [HOPS.out]; kernel_rfl) (by exact fun _ _ _ h => h) (by rfl) (fun w1 hS => by go_simp) hS ?_
    go_simp
    refine wpAnyT_one 9 (by rw [HOPS.out]; rfl) (by rw [HOPS.out]; kernel_rfl) ?_
    intro K' hK
    have HK := Lib.hid hK
    clear hK
    go_simp
    refine HK.out _ _ (.inr (HSB.out _ (hbq.alloc hbq.size _))) ?_
    clear HK
    obtain ⟨wa, hwa, XA, hba, hsa⟩ := one_box wq #[.int .i64 0, .int .i64 0, .slice none 0 0] 32
    rw [← hwa]
    clear hwa
    have hbq0 := hbq
    have hbA := hbq.trans (hba.mono hbq.size)
    have OA := own_below HO5.out hba
    have hS := HSB.out _ hbA
    go_simp
    have FZ := (XA).f3
    have hnb : w3.heap.size ≤ wq.heap.size := (hbq0.size)
    refine wpAnyT_one 10 (by rw [HOPS.out]; rfl) (by rw [HOPS.out]; kernel_rfl) ?_
    intro K' hK
    have HK := Lib.hid hK
    clear hK
    go_simp
    refine HK.out _ _ (.inr (HSB.out _ (((hbA.setCell (p := ⟨wq.heap.size, 0, none⟩) hnb _).setCell (p := ⟨wq.heap.size, 1, none⟩) hnb _).setCell (p := ⟨wq.heap.size, 2, none⟩) hnb _))) ?_
    clear HK
    have hS := HSB.out _ (((hbA.setCell (p := ⟨wq.heap.size, 0, none⟩) hnb (.int .i64 16)).setCell (p := ⟨wq.heap.size, 1, none⟩) hnb (.int .i64 0)).setCell (p := ⟨wq.heap.size, 2, none⟩) hnb (.slice A5 1 c5))
    go_simp
    refine wpAnyT_take 11 (.int .i64 0) (by rw [HOPS.out]; rfl) (by rw [HOPS.out]; kernel_rfl) (by exact fun _ _ _ h => h) (by rfl) (fun w1 hS => by go_simp) hS ?_
    go_simp
    refine wpAnyT_done (by rw [HOPS.out]; kernel_rfl) ?_ _
    obtain ⟨wF, hwF⟩ : ∃ wF : World, wF = (((wa.setCell ⟨wq.heap.size, 0, none⟩ (.int .i64 16)).setCell ⟨wq.heap.size, 1, none⟩ (.int .i64 0)).setCell ⟨wq.heap.size, 2, none⟩ (.slice A5 1 c5)) := ⟨_, rfl⟩
    have hbF : Below w3.heap.size w3 wF := by rw [hwF]; exact (((hbA.setCell (p := ⟨wq.heap.size, 0, none⟩) hnb _).setCell (p := ⟨wq.heap.size, 1, none⟩) hnb _).setCell (p := ⟨wq.heap.size, 2, none⟩) hnb _)
    have XN : Box wF (wq.heap.size) #[.int .i64 16, .int .i64 0, .slice A5 1 c5] 32 := by rw [hwF]; have := (((XA).set 0 (.int .i64 16)).set 1 (.int .i64 0)).set 2 (.slice A5 1 c5); simpa using this
    have OF : wF.ownsRow w3.heap.size 25 7 (.slice A5 1 c5) 1 (ents [(r1, b1, 1, c1, t1, 0, 0)]) := by rw [hwF]; exact (own_chg (own_base (OA) (by have := HBD.out.size; omega)) (lo := wq.heap.size) (hi := wq.heap.size + 1) (show Chg (wq.heap.size) (wq.heap.size + 1) wa _ from by (repeat refine chg_set ?_ (Nat.le_refl _) (by omega) _); exact Chg.refl _ _ _) (fun b hb => .inl (by have := (HO5.out.lt b hb).2; omega)))
    rw [← hwF]
    clear hwF FZ
    have DF := HD3.out.below hbF
    have hzF := hbF.size
    have hz3 := HB3.out.size
    have Fn := XN.f3
    have FD := DF
    unfold deskC at FD
    have FD := FD.f5
    have HWF := Lib.hid (Chg.trans (Chg.of_below (lo := d) (hi := d + 1) HB3.out) (Chg.of_below hbF))
    clear hS XN hbF
    go_wp2_with fail
    clear Fn FD
    refine (answer_ok _ _).mono ?_
    rintro e w' ⟨rfl, rfl⟩
    go_wp2_with fail
    go_ret
    refine ⟨[111, 107], A5, c5, rfl, ?_, ?_, ?_⟩
    · have := ((DF.set 1 (.int .i64 16)).set 2 (.int .i64 0)).set 3 (.slice A5 1 c5)
      simpa [deskC] using this
    · exact own_base (own_chg OF (lo := d) (hi := d + 1) (show Chg d (d + 1) wF _ from by (repeat refine chg_set ?_ (Nat.le_refl _) (by omega) _); exact Chg.refl _ _ _) (fun q hq => .inr (by have := (OF.lt q hq).1; omega))) (by omega)
    · (repeat refine chg_set ?_ (Nat.le_refl _) (by omega) _); exact HWF.out
  · skip
    intro K' hK
    have HK := Lib.hid hK
    clear hK
    go_simp
    refine HK.out _ _ (.inr (HSB.out _ (HBD.out.alloc HBD.out.size _))) ?_
    clear HK
    obtain ⟨wa, hwa, XA, hba, hsa⟩ := one_box wd #[.int .i64 0, .int .i64 0, .slice none 0 0] 32
    rw [← hwa]
    clear hwa
    have hbA := HBD.out.trans (hba.mono HBD.out.size)
    have HXA := Lib.hid XA
    have hS := HSB.out _ hbA
    clear XA
    go_simp
    refine wpAnyT_one 5 (by rw [HOPS.out]; rfl) (by rw [HOPS.out]; kernel_rfl) ?_
    intro K' hK
    have HK := Lib.hid hK
    clear hK
    go_simp
    go_at_call 104
    refine (HCO.out _).mono ?_
    rintro e wq ⟨A5, n5, c5, rfl, ho5, -, hb5⟩
    have hn5 : n5 = 1 := by have := own_len_flat entC_len (by decide) ho5; simpa using this.symm
    subst hn5
    have HO5 := Lib.hid ho5
    have hbq := hbA.trans (hb5.mono hbA.size)
    clear ho5
    have XAq := HXA.out.below hb5
    refine HK.out _ _ (.inr (HSB.out _ hbq)) ?_
    clear HK
    have hS := HSB.out _ hbq
    go_simp
    refine wpAnyT_take 6 (.tuple #[.agg #[.int .i64 16, .int .i64 0, .slice A5 1 c5], .int .i64 0]) (by rw [HOPS.out]; rfl) (by rw [HOPS.out]; kernel_rfl) (by exact fun _ _ _ h => h) (by rfl) (fun w1 hS => by go_simp) hS ?_
    go_simp
    refine wpAnyT_take 7 (.agg #[.int .i64 16, .int .i64 0, .slice A5 1 c5]) (by rw [HOPS.out]; rfl) (by rw [HOPS.out]; kernel_rfl) (by exact fun _ _ _ h => h) (by rfl) (fun w1 hS => by go_simp) hS ?_
    go_simp
    refine wpAnyT_take 8 (.int .i64 0) (by rw [HOPS.out]; rfl) (by rw [HOPS.out]; kernel_rfl) (by exact fun _ _ _ h => h) (by rfl) (fun w1 hS => by go_simp) hS ?_
    go_simp
    have FZ := (XAq).f3
    have hnb : w3.heap.size ≤ wd.heap.size := by have := HBD.out.size; omega
    refine wpAnyT_one 10 (by rw [HOPS.out]; rfl) (by rw [HOPS.out]; kernel_rfl) ?_
    intro K' hK
    have HK := Lib.hid hK
    clear hK
    go_simp
    refine HK.out _ _ (.inr (HSB.out _ (((hbq.setCell (p := ⟨wd.heap.size, 0, none⟩) hnb _).setCell (p := ⟨wd.heap.size, 1, none⟩) hnb _).setCell (p := ⟨wd.heap.size, 2, none⟩) hnb _))) ?_
    clear HK
    have hS := HSB.out _ (((hbq.setCell (p := ⟨wd.heap.size, 0, none⟩) hnb (.int .i64 16)).setCell (p := ⟨wd.heap.size, 1, none⟩) hnb (.int .i64 0)).setCell (p := ⟨wd.heap.size, 2, none⟩) hnb (.slice A5 1 c5))
    go_simp
    refine wpAnyT_take 11 (.int .i64 0) (by rw [HOPS.out]; rfl) (by rw [HOPS.out]; kernel_rfl) (by exact fun _ _ _ h => h) (by rfl) (fun w1 hS => by go_simp) hS ?_
    go_simp
    refine wpAnyT_done (by rw [HOPS.out]; kernel_rfl) ?_ _
    obtain ⟨wF, hwF⟩ : ∃ wF : World, wF = (((wq.setCell ⟨wd.heap.size, 0, none⟩ (.int .i64 16)).setCell ⟨wd.heap.size, 1, none⟩ (.int .i64 0)).setCell ⟨wd.heap.size, 2, none⟩ (.slice A5 1 c5)) := ⟨_, rfl⟩
    have hbF : Below w3.heap.size w3 wF := by rw [hwF]; exact (((hbq.setCell (p := ⟨wd.heap.size, 0, none⟩) hnb _).setCell (p := ⟨wd.heap.size, 1, none⟩) hnb _).setCell (p := ⟨wd.heap.size, 2, none⟩) hnb _)
    have XN : Box wF (wd.heap.size) #[.int .i64 16, .int .i64 0, .slice A5 1 c5] 32 := by rw [hwF]; have := (((XAq).set 0 (.int .i64 16)).set 1 (.int .i64 0)).set 2 (.slice A5 1 c5); simpa using this
    have OF : wF.ownsRow w3.heap.size 25 7 (.slice A5 1 c5) 1 (ents [(r1, b1, 1, c1, t1, 0, 0)]) := by rw [hwF]; exact (own_chg (own_base (HO5.out) (by have := HBD.out.size; omega)) (lo := wd.heap.size) (hi := wd.heap.size + 1) (show Chg (wd.heap.size) (wd.heap.size + 1) wq _ from by (repeat refine chg_set ?_ (Nat.le_refl _) (by omega) _); exact Chg.refl _ _ _) (fun b hb => .inr (by have := (HO5.out.lt b hb).1; omega)))
    rw [← hwF]
    clear hwF FZ
    have DF := HD3.out.below hbF
    have hzF := hbF.size
    have hz3 := HB3.out.size
    have Fn := XN.f3
    have FD := DF
    unfold deskC at FD
    have FD := FD.f5
    have HWF := Lib.hid (Chg.trans (Chg.of_below (lo := d) (hi := d + 1) HB3.out) (Chg.of_below hbF))
    clear hS XN hbF
    go_wp2_with fail
    clear Fn FD
    refine (answer_ok _ _).mono ?_
    rintro e w' ⟨rfl, rfl⟩
    go_wp2_with fail
    go_ret
    refine ⟨[111, 107], A5, c5, rfl, ?_, ?_, ?_⟩
    · have := ((DF.set 1 (.int .i64 16)).set 2 (.int .i64 0)).set 3 (.slice A5 1 c5)
      simpa [deskC] using this
    · exact own_base (own_chg OF (lo := d) (hi := d + 1) (show Chg d (d + 1) wF _ from by (repeat refine chg_set ?_ (Nat.le_refl _) (by omega) _); exact Chg.refl _ _ _) (fun q hq => .inr (by have := (OF.lt q hq).1; omega))) (by omega)
    · (repeat refine chg_set ?_ (Nat.le_refl _) (by omega) _); exact HWF.out
end Go.Proofs.YtnpldahkhaacnaaGreatDoor

/- Walks: tables are copied (chapter 29). -/
import Derived.Test.YtalgdeieejpelaaGreatDoorZmd
import Derived.Test.YtalgdeieejpelaaGreatDoorZma
namespace Go.Proofs.YtalgdeieejpelaaGreatDoor
open Go.RowKit Go.Sort
set_option linter.unusedVariables false
set_option maxRecDepth 100000

/-- The second column behind the first one's push. -/
theorem cds5 {wr w5 : World} {base n c d ga ca g1 c1 : Nat} {A C : Option Addr} {vs us : List Value} {t : Tb} {p : List Int} (h : OwnT wr base A n c vs C n d us t) (h1 : Pushed wr w5 base A n c vs t.pts ga ca g1 c1 p) : OwnRows w5 base 35 2 C n d us t.cds :=
  h.cds.grown (w' := w5) (r := (Value.slice A n c).ownBlock) ⟨h1.frame.1, h1.frame.2.1, h1.frame.2.2, h1.size, fun k hk hn => h1.keep k hk (fun e => hn e.symm)⟩ (fun b hb e => h.apO b e hb) (fun v hv b hb e => by
    obtain ⟨m, zs, ho⟩ := h.cds.row_ty hv
    exact own_type_ne h.pts.outer ho (by decide) b e hb)
theorem tab_sum {t : Tb} (ok : TabOk t) : sumLen t.pts ≤ 1099511627776 ∧ sumLen t.cds ≤ 1099511627776 := by
  have hm := ok.many
  have hs := ok.same
  have hb := ok.b2
  have hp : ∀ x ∈ t.pts, x.length ≤ 16 := fun x hx => by
    obtain ⟨k, hk⟩ := List.mem_iff_getElem?.1 hx
    obtain ⟨q, hq, _⟩ := drop_cons (xs := t.cds) (k := k) (by have := (List.getElem?_eq_some_iff.1 hk).1; omega)
    have := (ok.row k x q hk hq).1.1; omega
  have hc : ∀ x ∈ t.cds, x.length ≤ 16 := fun x hx => by
    obtain ⟨k, hk⟩ := List.mem_iff_getElem?.1 hx
    obtain ⟨q, hq, _⟩ := drop_cons (xs := t.pts) (k := k) (by have := (List.getElem?_eq_some_iff.1 hk).1; omega)
    have := (ok.row k q x hq hk).2.1; omega
  have h1 := sumLen_le hp
  have h2 := sumLen_le hc
  omega
set_option maxHeartbeats 4000000 in
theorem copyTable_any (P : Option Addr) (n c : Nat) (C : Option Addr) (m d : Nat) (t : Tb) (ok : TabOk t) (w : World) (h : RdT w P n C m t) :
    Calls Tryz.prog 48 #[.agg #[.int .i64 t.boats, .slice P n c, .slice C m d]] w (RetT w t) := by
  have hn := h.pts.le
  have hn12 : n ≤ 12 := by have := ok.many; have := h.pts.len; omega
  have hnm : n = m := by have := ok.same; have := h.pts.len; have := h.cds.len; omega
  subst hnm
  have HOK := Lib.hid ok
  have HLP := Lib.hid h.pts.len
  have HLC := Lib.hid h.cds.len
  have hb16 := ok.b2
  have hb01 := ok.b1
  clear ok
  go_enter Tryz.func48, Tryz.ntmps48
  go_wp2_with fail
  obtain ⟨w3, hw3, X0, X1, X2, hb3, hs3⟩ := three_boxes w #[.int .i64 t.boats, .slice P n c, .slice C n d] #[.int .i64 0, .slice none 0 0, .slice none 0 0] #[.int .i64 t.boats, .slice none 0 0, .slice none 0 0] 33 33 33
  rw [← hw3]
  have HHS3 := Lib.hid hs3
  clear hw3
  have hsz3 : w.heap.size + 1 + 1 < w3.heap.size := by omega
  have HT := Lib.hid (fun w' (hb : Below w.heap.size w w') => h.below hb)
  have HB3 := Lib.hid hb3
  clear h hb3 hs3
  have F0 := X0.f3
  have F2 := X2.f3
  go_loopw [11] (fun i wr => ∃ (k : Nat) (A' : Option Addr) (c' : Nat) (vs : List Value) (A2 : Option Addr) (c2 : Nat) (us : List Value), k ≤ n ∧ i = .int .i64 k ∧ Hid (OwnT wr w3.heap.size A' k c' vs A2 k c2 us ⟨t.boats, t.pts.take k, t.cds.take k⟩) ∧ Hid (Box wr (w.heap.size + 1 + 1) #[.int .i64 t.boats, .slice A' k c', .slice A2 k c2] 33) ∧ Hid (Below (w.heap.size + 1 + 1) w3 wr)) (fun i _ => n - (intOf i).toNat)
  case atStart => exact ⟨0, none, 0, [], none, 0, [], Nat.zero_le _, rfl, Lib.hid ⟨OwnRows.nil _ _ _ _, OwnRows.nil _ _ _ _, fun g h => by simp [Value.ownBlock] at h, fun v hv => by cases hv⟩, Lib.hid X2, Lib.hid (Below.refl _ _)⟩
  case round =>
    obtain ⟨k, A', c', vs, A2, c2, us, hk, rfl, HOW, X2', HBW⟩ := hrel
    have HBW0 := Lib.hid (HB3.out.trans (HBW.out.mono (by omega)))
    have hs3r := HBW.out.size
    clear F0 F2
    have F0 := (X0.kept HBW.out (by omega)).f3
    have F2 := X2'.out.f3
    by_cases hlt : k < n
    · have hok := HOK.out
      obtain ⟨b, o, A5, c5, p, hPe, hp, hd, hc5, hrd⟩ := (HT.out w (Below.refl _ _)).pts.row hlt
      obtain ⟨b', o', A6, c6, q, hCe, hq, hd', hc6, hrd'⟩ := (HT.out w (Below.refl _ _)).cds.row hlt
      obtain ⟨⟨r1, _⟩, r3, _⟩ := hok.row k p q hp hq
      obtain ⟨b3, o3, x, rfl, _⟩ := hrd.int (k := 0) (by omega)
      obtain ⟨b4, o4, y, rfl, _⟩ := hrd'.int (k := 0) (by omega)
      have hpl : 0 < p.length ∧ p.length ≤ 16 := by omega
      have hql : 0 < q.length ∧ q.length ≤ 16 := by omega
      have HRP := Lib.hid r1; have HRQ := Lib.hid r3
      clear r1 r3 hok
      have HP := Lib.hid hp; have HQ := Lib.hid hq
      clear hp hq hd hd'
      subst hPe hCe
      have HKW := Lib.hid (show ∀ w', Below w3.heap.size wr w' → Below w.heap.size w w' from fun w' hb => HBW0.out.trans (hb.mono (by omega)))
      have HRDP := Lib.hid (show ∀ w', Below w3.heap.size wr w' → Rd w' 1 (some ⟨b3, o3, none⟩) p.length (ints p) from fun w' hb => hrd.below (HKW.out w' hb))
      have HRDQ := Lib.hid (show ∀ w', Below w3.heap.size wr w' → Rd w' 1 (some ⟨b4, o4, none⟩) q.length (ints q) from fun w' hb => hrd'.below (HKW.out w' hb))
      have HCL1 := Lib.hid (fun w' (hb : Below w3.heap.size wr w') => clone_any b3 o3 c5 p w' ((show Rd w' 1 (some ⟨b3, o3, none⟩) p.length (ints p) from HRDP.out w' hb)) hpl.1 (by omega))
      have HCL2 := Lib.hid (fun w' (hb : Below w3.heap.size wr w') => clone_any b4 o4 c6 q w' ((show Rd w' 1 (some ⟨b4, o4, none⟩) q.length (ints q) from HRDQ.out w' hb)) hql.1 (by omega))
      have HSR := Lib.hid (show ∀ w1, Below w3.heap.size wr w1 → (w1.cell? ⟨w.heap.size, 1, none⟩ = some (.slice (some ⟨b, o, none⟩) n c) ∧ w1.cell? ⟨w.heap.size, 2, none⟩ = some (.slice (some ⟨b', o', none⟩) n d) ∧ w1.cell? ⟨w.heap.size + 1 + 1, 1, none⟩ = some (.slice A' k c') ∧ w1.cell? ⟨w.heap.size + 1 + 1, 2, none⟩ = some (.slice A2 k c2) ∧ w1.cell? ⟨b, o + k, none⟩ = some (.slice (some ⟨b3, o3, none⟩) p.length c5) ∧ w1.cell? ⟨b', o' + k, none⟩ = some (.slice (some ⟨b4, o4, none⟩) q.length c6) ∧ Below w3.heap.size wr w1) from fun w1 hb => ⟨(hb.cell (p := ⟨w.heap.size, 1, none⟩) (show w.heap.size < _ by omega)).trans F0.2.1, (hb.cell (p := ⟨w.heap.size, 2, none⟩) (show w.heap.size < _ by omega)).trans F0.2.2.1, (hb.cell (p := ⟨w.heap.size + 1 + 1, 1, none⟩) (show w.heap.size + 1 + 1 < _ by omega)).trans F2.2.1, (hb.cell (p := ⟨w.heap.size + 1 + 1, 2, none⟩) (show w.heap.size + 1 + 1 < _ by omega)).trans F2.2.2.1, ((HKW.out _ hb).cell (p := ⟨b, o + k, none⟩) (cell_lt hc5)).trans hc5, ((HKW.out _ hb).cell (p := ⟨b', o' + k, none⟩) (cell_lt hc6)).trans hc6, hb⟩)
      have hf3 : wr.frozen? ⟨w.heap.size + 1 + 1, 1, none⟩ = false := X2'.out.fz
      have hf4 : wr.frozen? ⟨w.heap.size + 1 + 1, 2, none⟩ = false := X2'.out.fz
      clear hrd hrd'
      go_wp2_with fail
      obtain ⟨S, hSE, hSI⟩ : ∃ S : World → Prop, (∀ w1, S w1 → Below w3.heap.size wr w1) ∧ (∀ w1, Below w3.heap.size wr w1 → S w1) := ⟨fun w1 => Below w3.heap.size wr w1, fun _ h => h, fun _ h => h⟩
      have HSE := Lib.hid hSE; have HSI := Lib.hid hSI
      clear hSE hSI
      refine wp_region_T2 (n := 24) S (fun j => decide (21 ≤ j)) (by kernel_rfl) rfl ?_
      intro ops HOPS
      have hS := HSI.out _ (below_drewN' _ wr 1)
      refine wpAnyT_take 0 (.pointer (some ⟨w.heap.size + 1 + 1, 1, none⟩)) (by rw [HOPS.out]; rfl) (by rw [HOPS.out]; kernel_rfl) (by exact fun _ _ _ h => h) (by rfl) (fun w1 hS => by go_simp) hS ?_
      go_simp
      refine wpAnyT_take 1 (.slice A' k c') (by rw [HOPS.out]; rfl) (by rw [HOPS.out]; kernel_rfl) (by exact fun _ _ _ h => h) (by rfl) (fun w1 hS => by obtain ⟨s1, s2, s3, s4, s5, s6, _⟩ := HSR.out _ (HSE.out _ hS); go_simp) hS ?_
      go_simp
      refine wpAnyT_take 2 (.pointer (some ⟨w.heap.size, 1, none⟩)) (by rw [HOPS.out]; rfl) (by rw [HOPS.out]; kernel_rfl) (by exact fun _ _ _ h => h) (by rfl) (fun w1 hS => by go_simp) hS ?_
      go_simp
      refine wpAnyT_take 3 (.slice (some ⟨b, o, none⟩) n c) (by rw [HOPS.out]; rfl) (by rw [HOPS.out]; kernel_rfl) (by exact fun _ _ _ h => h) (by rfl) (fun w1 hS => by obtain ⟨s1, s2, s3, s4, s5, s6, _⟩ := HSR.out _ (HSE.out _ hS); go_simp) hS ?_
      go_simp
      refine wpAnyT_take 4 (.int .i64 (k : Int)) (by rw [HOPS.out]; rfl) (by rw [HOPS.out]; kernel_rfl) (by exact fun _ _ _ h => h) (by rfl) (fun w1 hS => by go_simp) hS ?_
      go_simp
      refine wpAnyT_take 5 (.pointer (some ⟨b, o + k, none⟩)) (by rw [HOPS.out]; rfl) (by rw [HOPS.out]; kernel_rfl) (by exact fun _ _ _ h => h) (by rfl) (fun w1 hS => by go_simp) hS ?_
      go_simp
      refine wpAnyT_take 6 (.slice (some ⟨b3, o3, none⟩) p.length c5) (by rw [HOPS.out]; rfl) (by rw [HOPS.out]; kernel_rfl) (by exact fun _ _ _ h => h) (by rfl) (fun w1 hS => by obtain ⟨s1, s2, s3, s4, s5, s6, _⟩ := HSR.out _ (HSE.out _ hS); go_simp) hS ?_
      go_simp
      refine wpAnyT_take 10 (.pointer (some ⟨w.heap.size + 1 + 1, 2, none⟩)) (by rw [HOPS.out]; rfl) (by rw [HOPS.out]; kernel_rfl) (by exact fun _ _ _ h => h) (by rfl) (fun w1 hS => by go_simp) hS ?_
      go_simp
      refine wpAnyT_take 11 (.slice A2 k c2) (by rw [HOPS.out]; rfl) (by rw [HOPS.out]; kernel_rfl) (by exact fun _ _ _ h => h) (by rfl) (fun w1 hS => by obtain ⟨s1, s2, s3, s4, s5, s6, _⟩ := HSR.out _ (HSE.out _ hS); go_simp) hS ?_
      go_simp
      refine wpAnyT_take 12 (.pointer (some ⟨w.heap.size, 2, none⟩)) (by rw [HOPS.out]; rfl) (by rw [HOPS.out]; kernel_rfl) (by exact fun _ _ _ h => h) (by rfl) (fun w1 hS => by go_simp) hS ?_
      go_simp
      refine wpAnyT_take 13 (.slice (some ⟨b', o', none⟩) n d) (by rw [HOPS.out]; rfl) (by rw [HOPS.out]; kernel_rfl) (by exact fun _ _ _ h => h) (by rfl) (fun w1 hS => by obtain ⟨s1, s2, s3, s4, s5, s6, _⟩ := HSR.out _ (HSE.out _ hS); go_simp) hS ?_
      go_simp
      refine wpAnyT_take 14 (.int .i64 (k : Int)) (by rw [HOPS.out]; rfl) (by rw [HOPS.out]; kernel_rfl) (by exact fun _ _ _ h => h) (by rfl) (fun w1 hS => by go_simp) hS ?_
      go_simp
      refine wpAnyT_take 15 (.pointer (some ⟨b', o' + k, none⟩)) (by rw [HOPS.out]; rfl) (by rw [HOPS.out]; kernel_rfl) (by exact fun _ _ _ h => h) (by rfl) (fun w1 hS => by go_simp) hS ?_
      go_simp
      refine wpAnyT_take 16 (.slice (some ⟨b4, o4, none⟩) q.length c6) (by rw [HOPS.out]; rfl) (by rw [HOPS.out]; kernel_rfl) (by exact fun _ _ _ h => h) (by rfl) (fun w1 hS => by obtain ⟨s1, s2, s3, s4, s5, s6, _⟩ := HSR.out _ (HSE.out _ hS); go_simp) hS ?_
      go_simp
      refine wpAnyT_one 7 (by rw [HOPS.out]; rfl) (by rw [HOPS.out]; kernel_rfl) ?_
      intro K' hK
      have HK := Lib.hid hK
      clear hK
      go_simp
      go_at_call 63
      refine (HCL1.out _ (below_drewN' _ wr 1)).mono ?_
      rintro e wq1 ⟨g1, cg1, rfl, og1, hgl1, hbq1⟩
      have HBq1 : Below w3.heap.size wr wq1 := ((below_drewN' wr.heap.size wr 1).trans hbq1).mono hs3r
      refine HK.out _ _ (.inr (HSI.out _ HBq1)) ?_
      clear HK
      go_simp
      refine wpAnyT_one 8 (by rw [HOPS.out]; rfl) (by rw [HOPS.out]; kernel_rfl) ?_
      intro K' hK
      have HK := Lib.hid hK
      clear hK
      go_simp
      refine HK.out _ _ (.inr (HSI.out _ (Below.alloc HBq1 (Nat.le_trans hs3r HBq1.size) _))) ?_
      clear HK
      go_simp
      refine wpAnyT_one 9 (by rw [HOPS.out]; rfl) (by rw [HOPS.out]; kernel_rfl) ?_
      intro K' hK
      have HK := Lib.hid hK
      clear hK
      refine step_row (A := A') (n := k) (c := c') (vs := vs) (base := w3.heap.size) _ rfl _ _ rfl rfl (own_below (own_below HOW.out.pts.outer ((below_drewN' _ _ 1).trans hbq1)) ((Below.refl _ _).alloc (Nat.le_refl _) _)) rfl (cell_top _ _ _ (by simp) rfl) (by omega) (by have := HBq1.size; simp; omega) ?_
      intro ga ca w5 hoa hga hla hlta
      have hP1 := push_row HOW.out.pts hs3r ((below_drewN' _ _ 1).trans hbq1) og1 hgl1 hs3r hga hoa hla
      have HBq5 := hP1.below HOW.out.pts hs3r
      have HP1 := Lib.hid hP1
      clear hP1 hga hla hoa hlta og1 hgl1 hbq1
      refine HK.out _ _ (.inr (HSI.out _ HBq5)) ?_
      clear HK
      go_simp
      refine wpAnyT_take 20 (.pointer (some ⟨w.heap.size + 1 + 1, 1, none⟩)) (by rw [HOPS.out]; rfl) (by rw [HOPS.out]; kernel_rfl) (by exact fun _ _ _ h => h) (by rfl) (fun w1 hS => by go_simp) (HSI.out _ HBq5) ?_
      go_simp
      refine wpAnyT_one 17 (by rw [HOPS.out]; rfl) (by rw [HOPS.out]; kernel_rfl) ?_
      intro K' hK
      have HK := Lib.hid hK
      clear hK
      go_simp
      go_at_call 63
      refine (HCL2.out _ (HBq5.mono (by omega))).mono ?_
      rintro e wq2 ⟨g2, cg2, rfl, og2, hgl2, hbq2⟩
      have HBq2 : Below w3.heap.size wr wq2 := HBq5.trans (hbq2.mono (Nat.le_trans hs3r HBq5.size))
      refine HK.out _ _ (.inr (HSI.out _ HBq2)) ?_
      clear HK
      go_simp
      refine wpAnyT_one 18 (by rw [HOPS.out]; rfl) (by rw [HOPS.out]; kernel_rfl) ?_
      intro K' hK
      have HK := Lib.hid hK
      clear hK
      go_simp
      refine HK.out _ _ (.inr (HSI.out _ (Below.alloc HBq2 (Nat.le_trans hs3r HBq2.size) _))) ?_
      clear HK
      go_simp
      refine wpAnyT_one 19 (by rw [HOPS.out]; rfl) (by rw [HOPS.out]; kernel_rfl) ?_
      intro K' hK
      have HK := Lib.hid hK
      clear hK
      refine step_row (A := A2) (n := k) (c := c2) (vs := us) (base := w3.heap.size) _ rfl _ _ rfl rfl (own_below (own_below (cds5 HOW.out HP1.out).outer hbq2) ((Below.refl _ _).alloc (Nat.le_refl _) _)) rfl (cell_top _ _ _ (by simp) rfl) (by omega) (by have := HBq2.size; simp; omega) ?_
      intro gb cb w9 hob hgb hlb hltb
      have hP2 := push_row (cds5 HOW.out HP1.out) (Nat.le_trans hs3r HBq5.size) hbq2 og2 hgl2 (Nat.le_trans hs3r HBq5.size) hgb hob hlb
      have HBq9 := HBq5.trans (hP2.below (cds5 HOW.out HP1.out) (Nat.le_trans hs3r HBq5.size))
      have HP2 := Lib.hid hP2
      clear hP2 hgb hlb hob hltb og2 hgl2 hbq2
      have hf9a : w9.frozen? ⟨w.heap.size + 1 + 1, 1, none⟩ = false := (HBq9.frozen (p := ⟨w.heap.size + 1 + 1, 1, none⟩) hsz3).trans hf3
      have hf9b : w9.frozen? ⟨w.heap.size + 1 + 1, 2, none⟩ = false := (HBq9.frozen (p := ⟨w.heap.size + 1 + 1, 2, none⟩) hsz3).trans hf4
      have co1 := (HBq9.cell (p := ⟨w.heap.size + 1 + 1, 1, none⟩) hsz3).trans F2.2.1
      have co2 := (HBq9.cell (p := ⟨w.heap.size + 1 + 1, 2, none⟩) hsz3).trans F2.2.2.1
      refine HK.out _ _ (.inr (HSI.out _ HBq9)) ?_
      clear HK
      go_simp
      refine wpAnyT_one 21 (by rw [HOPS.out]; rfl) (by rw [HOPS.out]; kernel_rfl) ?_
      intro K' hK
      have HK := Lib.hid hK
      clear hK
      go_simp
      refine HK.out _ _ (.inl (by decide)) ?_
      clear HK
      go_simp
      refine wpAnyT_one 22 (by rw [HOPS.out]; rfl) (by rw [HOPS.out]; kernel_rfl) ?_
      intro K' hK
      have HK := Lib.hid hK
      clear hK
      go_simp
      refine HK.out _ _ (.inl (by decide)) ?_
      clear HK
      go_simp
      refine wpAnyT_one 23 (by rw [HOPS.out]; rfl) (by rw [HOPS.out]; kernel_rfl) ?_
      intro K' hK
      have HK := Lib.hid hK
      clear hK
      go_simp
      refine HK.out _ _ (.inl (by decide)) ?_
      clear HK
      go_simp
      refine wpAnyT_done (by rw [HOPS.out]; kernel_rfl) ?_ _
      go_wp2_with fail
      have hbw9 := HBq9.size
      have HO9 := Lib.hid (push_two HOW.out hs3r HP1.out (fun _ => HP2.out))
      have HX9 := Lib.hid (((X2'.out.kept HBq9 hsz3).set 1 (.slice (some ⟨ga, 0, none⟩) (k + 1) ca)).set 2 (.slice (some ⟨gb, 0, none⟩) (k + 1) cb))
      have HS9 := Lib.hid (((HBW.out.trans (HBq9.mono (by omega))).setCell (p := ⟨w.heap.size + 1 + 1, 1, none⟩) (Nat.le_refl _) (.slice (some ⟨ga, 0, none⟩) (k + 1) ca)).setCell (p := ⟨w.heap.size + 1 + 1, 2, none⟩) (Nat.le_refl _) (.slice (some ⟨gb, 0, none⟩) (k + 1) cb))
      go_roundw
      case rel => exact ⟨k + 1, _, _, _, _, _, _, by omega, by go_num, Lib.hid (by rw [take_snoc_get HP.out, take_snoc_get HQ.out]; exact (HO9.out.setU hsz3).setU hsz3), HX9, HS9⟩
      case measure => simp [intOf] <;> omega
    · obtain rfl : k = n := by omega
      have hf1 : wr.frozen? ⟨w.heap.size + 1, 0, none⟩ = false ∧ wr.frozen? ⟨w.heap.size + 1, 1, none⟩ = false ∧ wr.frozen? ⟨w.heap.size + 1, 2, none⟩ = false := ⟨(X1.kept HBW.out (by omega)).fz, (X1.kept HBW.out (by omega)).fz, (X1.kept HBW.out (by omega)).fz⟩
      have F1 := (X1.kept HBW.out (by omega)).f3
      go_wp2_with fail
      refine bodyPost_ret (v := .agg #[.int .i64 t.boats, .slice A' k c', .slice A2 k c2]) (by simp [results, Tryz.results48, go_sem, F1]) rfl ?_
      have hch := put_chg (g := w.heap.size + 1) [.int .i64 t.boats, .slice A' k c', .slice A2 k c2] 0 (Chg.refl (w.heap.size + 1) (w.heap.size + 1 + 1) wr) (by omega) (by omega)
      have hso := (HOW.out.chg hch HOW.out.in_ (.inr (by omega))).base' (show w.heap.size ≤ w3.heap.size by omega)
      rw [List.take_of_length_le (by rw [HLP.out]; exact Nat.le_refl _), List.take_of_length_le (by rw [HLC.out]; exact Nat.le_refl _)] at hso
      exact ⟨A', k, c', vs, A2, k, c2, us, rfl, hso, tab_sum HOK.out, below_chg HBW0.out hch (by omega) (by have := HBW0.out.size; omega)⟩
end Go.Proofs.YtalgdeieejpelaaGreatDoor

/- Walks: redress is applied (chapter 29), the reference. -/
import Derived.Test.YtalgdeieejpelaaGreatDoorZme
namespace Go.Proofs.YtalgdeieejpelaaGreatDoor
open Go.RowKit Go.Sort
set_option linter.unusedVariables false
set_option maxRecDepth 100000

/-- A store into a box of another type. -/
theorem OwnRows.boxSet {w : World} {base n c b i : Nat} {A : Option Addr} {vs : List Value} {rows : List (List Int)} {bs : Array Value} {T : TypeId} (h : OwnRows w base 35 2 A n c vs rows) (hb : Box w b bs T) (h1 : 35 ≠ T) (h2 : 2 ≠ T) (v : Value) :
    OwnRows (w.setCell ⟨b, i, none⟩ v) base 35 2 A n c vs rows :=
  h.grown (grown_set (World.grownBy.refl w (some b)) i v) (fun g hg e => own_box_ne h.outer hb h1 (by rw [hg, e])) (fun u hu g hg e => by
    obtain ⟨m, zs, ho⟩ := h.row_ty hu
    exact own_box_ne ho hb h2 (by rw [hg, e]))
theorem OwnT.boxSet {w : World} {base n c m d b i : Nat} {P C : Option Addr} {vs us : List Value} {t : Tb} {bs : Array Value} {T : TypeId} (h : OwnT w base P n c vs C m d us t) (hb : Box w b bs T) (h1 : 35 ≠ T) (h2 : 2 ≠ T) (v : Value) : OwnT (w.setCell ⟨b, i, none⟩ v) base P n c vs C m d us t :=
  ⟨h.pts.boxSet hb h1 h2 v, h.cds.boxSet hb h1 h2 v, h.apO, h.apR⟩
theorem alloc_new (w : World) (cs : Array Value) (T : TypeId) : ∃ w', w' = w.alloc (.cells cs T) ∧ Below w.heap.size w w' ∧ w'.heap.size = w.heap.size + 1 := ⟨_, rfl, (Below.refl _ _).alloc (Nat.le_refl _) _, by simp⟩
/-- What stands in the midst of a region. -/
structure Mid (wr rel : World) (base bo : Nat) (bs : Array Value) (T : TypeId) (W : World) : Prop where
  bel : Below rel.heap.size rel W
  all : Below base wr W
  box : Box W bo bs T
  le : base ≤ rel.heap.size
theorem Mid.below {wr rel W W' : World} {base bo : Nat} {bs : Array Value} {T : TypeId} (h : Mid wr rel base bo bs T W) (k : Below W.heap.size W W') : Mid wr rel base bo bs T W' :=
  ⟨h.bel.trans (k.mono h.bel.size), h.all.trans (k.mono (Nat.le_trans h.le h.bel.size)), h.box.below k, h.le⟩
theorem cell_bel {w w' : World} {b i : Nat} {v : Value} (h : w.cell? ⟨b, i, none⟩ = some v) (k : Below w.heap.size w w') : w'.cell? ⟨b, i, none⟩ = some v := (k.cell (p := ⟨b, i, none⟩) (cell_lt h)).trans h
set_option maxHeartbeats 16000000 in
theorem l29Apply_any (P : Option Addr) (n c : Nat) (C : Option Addr) (m d : Nat) (t : Tb) (A : Option Addr) (l cl : Nat) (xs : List RedT) (ok : TabOk t) (hx : redsB t xs = true) (w : World) (h : RdT w P n C m t) (hl : Rd w 4 A l (reds xs)) :
    Calls Tryz.prog 37 #[.agg #[.int .i64 t.boats, .slice P n c, .slice C m d], .slice A l cl] w (RetT w (applyF t xs)) := by
  have hn := h.pts.le
  have hll := hl.le
  have hn12 : n ≤ 12 := by have := ok.many; have := h.pts.len; omega
  have hnm : n = m := by have := ok.same; have := h.pts.len; have := h.cds.len; omega
  subst hnm
  have hb16 := ok.b2
  have hb01 := ok.b1
  have HOK := Lib.hid ok
  have HLP := Lib.hid h.pts.len
  have HLC := Lib.hid h.cds.len
  have HLX := Lib.hid hl.len_red
  have HRO := Lib.hid (fun k x (e : xs[k]? = some x) => redB_redOk (reds_at (show redsGo t none xs = true from hx) k x e))
  have HT := Lib.hid (fun w' (hb : Below w.heap.size w w') => h.below hb)
  have HL := Lib.hid (fun w' (hb : Below w.heap.size w w') => hl.below hb)
  clear ok hx h hl
  go_enter Tryz.func37, Tryz.ntmps37
  go_wp2_with fail
  obtain ⟨w2, hw2, X0, X1, hb2, hs2⟩ := two_boxes w #[.int .i64 t.boats, .slice P n c, .slice C n d] #[.int .i64 0, .slice none 0 0, .slice none 0 0] 33 33
  rw [← hw2]
  clear hw2
  obtain ⟨we, hwe, hbe, hse⟩ := alloc_new w2 #[] 35
  rw [← hwe]
  obtain ⟨wf, hwf, hbf, hsf⟩ := alloc_new we #[] 35
  rw [← hwf]
  obtain ⟨w3, hw3, X2, hb3, hs3⟩ := one_box wf #[.int .i64 t.boats, .slice (some ⟨w.heap.size + 1 + 1, 0, none⟩) 0 0, .slice (some ⟨w.heap.size + 1 + 1 + 1, 0, none⟩) 0 0] 33
  rw [← hw3]
  have O1 : OwnRows we w2.heap.size 35 2 (some ⟨w.heap.size + 1 + 1, 0, none⟩) 0 0 [] [] := by
    have h1 : ∀ x, x = w2.heap.size → OwnRows we w2.heap.size 35 2 (some ⟨x, 0, none⟩) 0 0 [] [] := by
      rintro _ rfl; rw [hwe]; exact OwnRows.empty w2 w2.heap.size _ _ (Nat.le_refl _)
    exact h1 _ hs2.symm
  have O2 : OwnRows wf w2.heap.size 35 2 (some ⟨w.heap.size + 1 + 1 + 1, 0, none⟩) 0 0 [] [] := by
    have h1 : ∀ x, x = we.heap.size → OwnRows wf w2.heap.size 35 2 (some ⟨x, 0, none⟩) 0 0 [] [] := by
      rintro _ rfl; rw [hwf]; exact OwnRows.empty we w2.heap.size _ _ (by omega)
    exact h1 _ (by omega)
  obtain ⟨bo, hbo⟩ : ∃ bo, bo = w.heap.size + 1 + 1 + 1 + 1 := ⟨_, rfl⟩
  rw [show wf.heap.size = bo from by omega] at X2
  rw [← hbo]
  have hbo2 : w2.heap.size ≤ bo := by omega
  have HOI := Lib.hid (show OwnT w3 w2.heap.size _ 0 0 [] _ 0 0 [] ⟨t.boats, t.pts.take 0, t.cds.take 0⟩ from ⟨((O1.below hbf).below hb3), (O2.below hb3), fun g hg hg' => by simp [Value.ownBlock] at hg hg'; omega, fun v hv => by cases hv⟩)
  have HX2 := Lib.hid X2
  have HB23 := Lib.hid ((hbe.trans (hbf.mono (by omega))).trans (hb3.mono (by omega)))
  have HB2 := Lib.hid hb2
  have hsz2 : w.heap.size + 1 < w2.heap.size := by omega
  clear hwe hwf hw3 O1 O2 hbe hbf hb3 hse hsf hs3 hbo hs2 hb2 X2
  have F0 := (X0.below HB23.out).f3
  go_loopw [6] (fun i wr => ∃ (k : Nat) (A' : Option Addr) (c' : Nat) (vs : List Value) (A2 : Option Addr) (c2 : Nat) (us : List Value), k ≤ n ∧ i = .int .i64 k ∧ Hid (OwnT wr w2.heap.size A' k c' vs A2 k c2 us ⟨t.boats, t.pts.take k, t.cds.take k⟩) ∧ Hid (Box wr bo #[.int .i64 t.boats, .slice A' k c', .slice A2 k c2] 33) ∧ Hid (Below w2.heap.size w2 wr)) (fun i _ => n - (intOf i).toNat)
  case atStart => exact ⟨0, _, _, _, _, _, _, Nat.zero_le _, rfl, HOI, HX2, HB23⟩
  case round =>
    clear F0 HOI HX2 HB23
    obtain ⟨k, A', c', vs, A2, c2, us, hk, rfl, HOW, X2', HBW⟩ := hrel
    have HBW0 := Lib.hid (HB2.out.trans (HBW.out.mono (by omega)))
    have hs2r := HBW.out.size
    have F0 := (X0.kept HBW.out (by omega)).f3
    have F2 := X2'.out.f3
    by_cases hlt : k < n
    · have hok := HOK.out
      obtain ⟨b, o, A5, c5, p, hPe, hp, hd, hc5, hrd⟩ := (HT.out w (Below.refl _ _)).pts.row hlt
      obtain ⟨b', o', A6, c6, q, hCe, hq, hd', hc6, hrd'⟩ := (HT.out w (Below.refl _ _)).cds.row hlt
      obtain ⟨⟨r1, _⟩, r3, _⟩ := hok.row k p q hp hq
      obtain ⟨b3, o3, x, rfl, _⟩ := hrd.int (k := 0) (by omega)
      obtain ⟨b4, o4, y, rfl, _⟩ := hrd'.int (k := 0) (by omega)
      have hpl : 0 < p.length ∧ p.length ≤ 16 := by omega
      have hql : 0 < q.length ∧ q.length ≤ 16 := by omega
      clear r1 r3 hok
      have HP := Lib.hid hp; have HQ := Lib.hid hq
      clear hp hq hd hd'
      subst hPe hCe
      have HKW := Lib.hid (show ∀ w', Below w2.heap.size wr w' → Below w.heap.size w w' from fun w' hb => HBW0.out.trans (hb.mono (by omega)))
      have HRDP := Lib.hid (show ∀ w', Below w2.heap.size wr w' → Rd w' 1 (some ⟨b3, o3, none⟩) p.length (ints p) from fun w' hb => hrd.below (HKW.out w' hb))
      have HRDQ := Lib.hid (show ∀ w', Below w2.heap.size wr w' → Rd w' 1 (some ⟨b4, o4, none⟩) q.length (ints q) from fun w' hb => hrd'.below (HKW.out w' hb))
      have HSR := Lib.hid (show ∀ w1, Below w2.heap.size wr w1 → Box w1 bo #[.int .i64 t.boats, .slice A' k c', .slice A2 k c2] 33 → (w1.cell? ⟨w.heap.size, 0, none⟩ = some (.int .i64 t.boats) ∧ w1.cell? ⟨w.heap.size, 1, none⟩ = some (.slice (some ⟨b, o, none⟩) n c) ∧ w1.cell? ⟨w.heap.size, 2, none⟩ = some (.slice (some ⟨b', o', none⟩) n d) ∧ w1.cell? ⟨bo, 1, none⟩ = some (.slice A' k c') ∧ w1.cell? ⟨bo, 2, none⟩ = some (.slice A2 k c2) ∧ w1.cell? ⟨b, o + k, none⟩ = some (.slice (some ⟨b3, o3, none⟩) p.length c5) ∧ w1.cell? ⟨b', o' + k, none⟩ = some (.slice (some ⟨b4, o4, none⟩) q.length c6)) from fun w1 hb hx => ⟨(hb.cell (p := ⟨w.heap.size, 0, none⟩) (show w.heap.size < _ by omega)).trans F0.1, (hb.cell (p := ⟨w.heap.size, 1, none⟩) (show w.heap.size < _ by omega)).trans F0.2.1, (hb.cell (p := ⟨w.heap.size, 2, none⟩) (show w.heap.size < _ by omega)).trans F0.2.2.1, hx.cell rfl, hx.cell rfl, ((HKW.out _ hb).cell (p := ⟨b, o + k, none⟩) (cell_lt hc5)).trans hc5, ((HKW.out _ hb).cell (p := ⟨b', o' + k, none⟩) (cell_lt hc6)).trans hc6⟩)
      clear hrd hrd' hc5 hc6
      go_wp2_with fail
      clear F0 F2
      obtain ⟨S, hSE, hSI⟩ : ∃ S : World → Prop, (∀ w1, S w1 → w1.cell? ⟨w.heap.size, 0, none⟩ = some (.int .i64 t.boats) ∧ w1.cell? ⟨w.heap.size, 1, none⟩ = some (.slice (some ⟨b, o, none⟩) n c) ∧ w1.cell? ⟨w.heap.size, 2, none⟩ = some (.slice (some ⟨b', o', none⟩) n d) ∧ w1.cell? ⟨bo, 1, none⟩ = some (.slice A' k c') ∧ w1.cell? ⟨bo, 2, none⟩ = some (.slice A2 k c2) ∧ w1.cell? ⟨b, o + k, none⟩ = some (.slice (some ⟨b3, o3, none⟩) p.length c5) ∧ w1.cell? ⟨b', o' + k, none⟩ = some (.slice (some ⟨b4, o4, none⟩) q.length c6)) ∧ (∀ w1, Below w2.heap.size wr w1 → Box w1 bo #[.int .i64 t.boats, .slice A' k c', .slice A2 k c2] 33 → S w1) := ⟨fun w1 => w1.cell? ⟨w.heap.size, 0, none⟩ = some (.int .i64 t.boats) ∧ w1.cell? ⟨w.heap.size, 1, none⟩ = some (.slice (some ⟨b, o, none⟩) n c) ∧ w1.cell? ⟨w.heap.size, 2, none⟩ = some (.slice (some ⟨b', o', none⟩) n d) ∧ w1.cell? ⟨bo, 1, none⟩ = some (.slice A' k c') ∧ w1.cell? ⟨bo, 2, none⟩ = some (.slice A2 k c2) ∧ w1.cell? ⟨b, o + k, none⟩ = some (.slice (some ⟨b3, o3, none⟩) p.length c5) ∧ w1.cell? ⟨b', o' + k, none⟩ = some (.slice (some ⟨b4, o4, none⟩) q.length c6), fun _ h => h, HSR.out⟩
      have HSE := Lib.hid hSE; have HSI := Lib.hid hSI
      clear hSE hSI
      refine wp_region_T2 (n := 26) S (fun j => decide (25 ≤ j)) (by kernel_rfl) rfl ?_
      intro ops HOPS
      have M0 : Mid wr wr w2.heap.size bo #[.int .i64 t.boats, .slice A' k c', .slice A2 k c2] 33 wr.drew := ⟨below_drewN' _ wr 1, below_drewN' _ wr 1, X2'.out, hs2r⟩
      obtain ⟨wd, hwd⟩ : ∃ wd : World, wd = wr.drew := ⟨_, rfl⟩
      rw [← hwd] at M0 ⊢
      have M := M0
      have hS := HSI.out _ M.all M.box
      clear hwd M0
      refine wpAnyT_take 0 (.pointer (some ⟨w.heap.size, 0, none⟩)) (by rw [HOPS.out]; rfl) (by rw [HOPS.out]; kernel_rfl) (by exact fun _ _ _ h => h) (by rfl) (fun w1 hS => by go_simp) hS ?_
      go_simp
      refine wpAnyT_take 1 (.int .i64 t.boats) (by rw [HOPS.out]; rfl) (by rw [HOPS.out]; kernel_rfl) (by exact fun _ _ _ h => h) (by rfl) (fun w1 hS => by obtain ⟨s1, s2, s3, s4, s5, s6, s7⟩ := HSE.out _ hS; go_simp) hS ?_
      go_simp
      refine wpAnyT_take 2 (.pointer (some ⟨bo, 1, none⟩)) (by rw [HOPS.out]; rfl) (by rw [HOPS.out]; kernel_rfl) (by exact fun _ _ _ h => h) (by rfl) (fun w1 hS => by go_simp) hS ?_
      go_simp
      refine wpAnyT_take 3 (.slice A' k c') (by rw [HOPS.out]; rfl) (by rw [HOPS.out]; kernel_rfl) (by exact fun _ _ _ h => h) (by rfl) (fun w1 hS => by obtain ⟨s1, s2, s3, s4, s5, s6, s7⟩ := HSE.out _ hS; go_simp) hS ?_
      go_simp
      refine wpAnyT_take 5 (.pointer (some ⟨w.heap.size, 1, none⟩)) (by rw [HOPS.out]; rfl) (by rw [HOPS.out]; kernel_rfl) (by exact fun _ _ _ h => h) (by rfl) (fun w1 hS => by go_simp) hS ?_
      go_simp
      refine wpAnyT_take 6 (.slice (some ⟨b, o, none⟩) n c) (by rw [HOPS.out]; rfl) (by rw [HOPS.out]; kernel_rfl) (by exact fun _ _ _ h => h) (by rfl) (fun w1 hS => by obtain ⟨s1, s2, s3, s4, s5, s6, s7⟩ := HSE.out _ hS; go_simp) hS ?_
      go_simp
      refine wpAnyT_take 7 (.int .i64 (k : Int)) (by rw [HOPS.out]; rfl) (by rw [HOPS.out]; kernel_rfl) (by exact fun _ _ _ h => h) (by rfl) (fun w1 hS => by go_simp) hS ?_
      go_simp
      refine wpAnyT_take 8 (.pointer (some ⟨b, o + k, none⟩)) (by rw [HOPS.out]; rfl) (by rw [HOPS.out]; kernel_rfl) (by exact fun _ _ _ h => h) (by rfl) (fun w1 hS => by go_simp) hS ?_
      go_simp
      refine wpAnyT_take 9 (.slice (some ⟨b3, o3, none⟩) p.length c5) (by rw [HOPS.out]; rfl) (by rw [HOPS.out]; kernel_rfl) (by exact fun _ _ _ h => h) (by rfl) (fun w1 hS => by obtain ⟨s1, s2, s3, s4, s5, s6, s7⟩ := HSE.out _ hS; go_simp) hS ?_
      go_simp
      refine wpAnyT_take 13 (.pointer (some ⟨bo, 2, none⟩)) (by rw [HOPS.out]; rfl) (by rw [HOPS.out]; kernel_rfl) (by exact fun _ _ _ h => h) (by rfl) (fun w1 hS => by go_simp) hS ?_
      go_simp
      refine wpAnyT_take 14 (.slice A2 k c2) (by rw [HOPS.out]; rfl) (by rw [HOPS.out]; kernel_rfl) (by exact fun _ _ _ h => h) (by rfl) (fun w1 hS => by obtain ⟨s1, s2, s3, s4, s5, s6, s7⟩ := HSE.out _ hS; go_simp) hS ?_
      go_simp
      refine wpAnyT_take 16 (.pointer (some ⟨w.heap.size, 2, none⟩)) (by rw [HOPS.out]; rfl) (by rw [HOPS.out]; kernel_rfl) (by exact fun _ _ _ h => h) (by rfl) (fun w1 hS => by go_simp) hS ?_
      go_simp
      refine wpAnyT_take 17 (.slice (some ⟨b', o', none⟩) n d) (by rw [HOPS.out]; rfl) (by rw [HOPS.out]; kernel_rfl) (by exact fun _ _ _ h => h) (by rfl) (fun w1 hS => by obtain ⟨s1, s2, s3, s4, s5, s6, s7⟩ := HSE.out _ hS; go_simp) hS ?_
      go_simp
      refine wpAnyT_take 18 (.int .i64 (k : Int)) (by rw [HOPS.out]; rfl) (by rw [HOPS.out]; kernel_rfl) (by exact fun _ _ _ h => h) (by rfl) (fun w1 hS => by go_simp) hS ?_
      go_simp
      refine wpAnyT_take 19 (.pointer (some ⟨b', o' + k, none⟩)) (by rw [HOPS.out]; rfl) (by rw [HOPS.out]; kernel_rfl) (by exact fun _ _ _ h => h) (by rfl) (fun w1 hS => by go_simp) hS ?_
      go_simp
      refine wpAnyT_take 20 (.slice (some ⟨b4, o4, none⟩) q.length c6) (by rw [HOPS.out]; rfl) (by rw [HOPS.out]; kernel_rfl) (by exact fun _ _ _ h => h) (by rfl) (fun w1 hS => by obtain ⟨s1, s2, s3, s4, s5, s6, s7⟩ := HSE.out _ hS; go_simp) hS ?_
      go_simp
      clear hS
      refine wpAnyT_two 4 15 (by rw [HOPS.out]; rfl) (by rw [HOPS.out]; rfl) (by rw [HOPS.out]; kernel_rfl) ?_ ?_
      · skip
        intro K' hK
        have HK := Lib.hid hK
        clear hK
        go_simp
        obtain ⟨z1, h0, hb, hs0⟩ := alloc_new wd #[] 2
        rw [← h0]
        clear h0 hs0
        replace M := M.below hb
        clear hb
        refine HK.out _ _ (.inr (HSI.out _ M.all M.box)) ?_
        clear HK
        go_simp
        refine wpAnyT_two 10 15 (by rw [HOPS.out]; rfl) (by rw [HOPS.out]; rfl) (by rw [HOPS.out]; kernel_rfl) ?_ ?_
        · skip
          intro K' hK
          have HK := Lib.hid hK
          clear hK
          have MB := M.bel.size
          refine step_fresh _ rfl _ _ rfl rfl rfl (HRDP.out _ M.all) hpl.1 (by omega) ?_
          intro cgc z2 og hb hlz
          replace M := M.below hb
          have O := own_base og (show wr.heap.size ≤ z1.heap.size from MB)
          clear og hb hlz
          clear MB
          refine HK.out _ _ (.inr (HSI.out _ M.all M.box)) ?_
          clear HK
          go_simp
          refine wpAnyT_two 11 15 (by rw [HOPS.out]; rfl) (by rw [HOPS.out]; rfl) (by rw [HOPS.out]; kernel_rfl) ?_ ?_
          · skip
            intro K' hK
            have HK := Lib.hid hK
            clear hK
            go_simp
            obtain ⟨z3, h0, hb, hs0⟩ := alloc_new z2 #[.slice (some ⟨z1.heap.size, 0, none⟩) p.length cgc] 35
            rw [← h0]
            replace M := M.below hb
            replace O := own_below O hb
            have CW : z3.cell? ⟨z2.heap.size, 0, none⟩ = some (.slice (some ⟨z1.heap.size, 0, none⟩) p.length cgc) := by rw [h0]; exact cell_top _ _ _ rfl rfl
            clear h0 hs0 hb
            refine HK.out _ _ (.inr (HSI.out _ M.all M.box)) ?_
            clear HK
            go_simp
            refine wpAnyT_two 12 15 (by rw [HOPS.out]; rfl) (by rw [HOPS.out]; rfl) (by rw [HOPS.out]; kernel_rfl) ?_ ?_
            · skip
              intro K' hK
              have HK := Lib.hid hK
              clear hK
              refine step_row (A := A') (n := k) (c := c') (vs := vs) (base := w2.heap.size) _ rfl _ _ rfl rfl (own_below HOW.out.pts.outer M.bel) rfl CW (by omega) (Nat.le_trans hs2r M.bel.size) ?_
              intro ga ca w5 hoa hga hla hlta
              have hP1 := push_row0 HOW.out.pts hs2r M.bel O (O.lt _ rfl).1 hs2r hga hoa hla
              have M5 : Mid wr w5 w2.heap.size bo #[.int .i64 t.boats, .slice A' k c', .slice A2 k c2] 33 w5 := ⟨Below.refl _ _, hP1.below HOW.out.pts hs2r, M.box.grown hga (own_box_ne (own_below HOW.out.pts.outer M.bel) M.box (by decide)), Nat.le_trans hs2r hP1.size⟩
              have HP1 := Lib.hid hP1
              clear hP1 hga hla hoa hlta M O CW
              have M := M5
              clear M5
              refine HK.out _ _ (.inr (HSI.out _ M.all M.box)) ?_
              clear HK
              go_simp
              have HA5 := Lib.hid M.all
              refine wpAnyT_one 15 (by rw [HOPS.out]; rfl) (by rw [HOPS.out]; kernel_rfl) ?_
              intro K' hK
              have HK := Lib.hid hK
              clear hK
              go_simp
              obtain ⟨z5, h0, hb, hs0⟩ := alloc_new w5 #[] 2
              rw [← h0]
              clear h0 hs0
              replace M := M.below hb
              clear hb
              refine HK.out _ _ (.inr (HSI.out _ M.all M.box)) ?_
              clear HK
              go_simp
              refine wpAnyT_one 21 (by rw [HOPS.out]; rfl) (by rw [HOPS.out]; kernel_rfl) ?_
              intro K' hK
              have HK := Lib.hid hK
              clear hK
              have MB := M.bel.size
              refine step_fresh _ rfl _ _ rfl rfl rfl (HRDQ.out _ M.all) hql.1 (by omega) ?_
              intro cgf z6 og hb hlz
              replace M := M.below hb
              have O := own_base og (show w5.heap.size ≤ z5.heap.size from MB)
              clear og hb hlz
              clear MB
              refine HK.out _ _ (.inr (HSI.out _ M.all M.box)) ?_
              clear HK
              go_simp
              refine wpAnyT_one 22 (by rw [HOPS.out]; rfl) (by rw [HOPS.out]; kernel_rfl) ?_
              intro K' hK
              have HK := Lib.hid hK
              clear hK
              go_simp
              obtain ⟨z7, h0, hb, hs0⟩ := alloc_new z6 #[.slice (some ⟨z5.heap.size, 0, none⟩) q.length cgf] 35
              rw [← h0]
              replace M := M.below hb
              replace O := own_below O hb
              have CW : z7.cell? ⟨z6.heap.size, 0, none⟩ = some (.slice (some ⟨z5.heap.size, 0, none⟩) q.length cgf) := by rw [h0]; exact cell_top _ _ _ rfl rfl
              clear h0 hs0 hb
              refine HK.out _ _ (.inr (HSI.out _ M.all M.box)) ?_
              clear HK
              go_simp
              refine wpAnyT_one 23 (by rw [HOPS.out]; rfl) (by rw [HOPS.out]; kernel_rfl) ?_
              intro K' hK
              have HK := Lib.hid hK
              clear hK
              have MC := cds5 HOW.out HP1.out
              refine step_row (A := A2) (n := k) (c := c2) (vs := us) (base := w2.heap.size) _ rfl _ _ rfl rfl (own_below MC.outer M.bel) rfl CW (by omega) (Nat.le_trans M.le M.bel.size) ?_
              intro gb cb w9 hob hgb hlb hltb
              have hP2 := push_row0 MC M.le M.bel O (O.lt _ rfl).1 M.le hgb hob hlb
              have M9 : Mid wr w9 w2.heap.size bo #[.int .i64 t.boats, .slice A' k c', .slice A2 k c2] 33 w9 := ⟨Below.refl _ _, (show Below w2.heap.size wr w5 from HA5.out).trans (hP2.below MC M.le), M.box.grown hgb (own_box_ne (own_below MC.outer M.bel) M.box (by decide)), Nat.le_trans M.le hP2.size⟩
              have HP2 := Lib.hid hP2
              clear hP2 hgb hlb hob hltb M O CW MC
              have M := M9
              clear M9
              refine HK.out _ _ (.inr (HSI.out _ M.all M.box)) ?_
              clear HK
              go_simp
              refine wpAnyT_take 24 (.agg #[.int .i64 t.boats, .slice (some ⟨ga, 0, none⟩) (k + 1) ca, .slice (some ⟨gb, 0, none⟩) (k + 1) cb]) (by rw [HOPS.out]; rfl) (by rw [HOPS.out]; kernel_rfl) (by exact fun _ _ _ h => h) (by rfl) (fun w1 hS => by go_simp) (HSI.out _ M.all M.box) ?_
              go_simp
              have hfb : w9.frozen? ⟨bo, 0, none⟩ = false ∧ w9.frozen? ⟨bo, 1, none⟩ = false ∧ w9.frozen? ⟨bo, 2, none⟩ = false := ⟨M.box.fz, M.box.fz, M.box.fz⟩
              have hcb : w9.cell? ⟨bo, 0, none⟩ = some (.int .i64 t.boats) ∧ w9.cell? ⟨bo, 1, none⟩ = some (.slice A' k c') ∧ w9.cell? ⟨bo, 2, none⟩ = some (.slice A2 k c2) := ⟨M.box.cell rfl, M.box.cell rfl, M.box.cell rfl⟩
              refine wpAnyT_one 25 (by rw [HOPS.out]; rfl) (by rw [HOPS.out]; kernel_rfl) ?_
              intro K' hK
              have HK := Lib.hid hK
              clear hK
              go_simp
              refine HK.out _ _ (.inl (by decide)) ?_
              clear HK
              go_simp
              refine wpAnyT_done (by rw [HOPS.out]; kernel_rfl) ?_ _
              go_wp2_with fail
              have HO9 := Lib.hid ((((push_two HOW.out hs2r HP1.out (fun _ => HP2.out)).boxSet (i := 0) M.box (by decide) (by decide) (.int .i64 t.boats)).boxSet (i := 1) (M.box.set 0 _) (by decide) (by decide) (.slice (some ⟨ga, 0, none⟩) (k + 1) ca)).boxSet (i := 2) ((M.box.set 0 _).set 1 _) (by decide) (by decide) (.slice (some ⟨gb, 0, none⟩) (k + 1) cb))
              have HX9 := Lib.hid (((M.box.set 0 (.int .i64 t.boats)).set 1 (.slice (some ⟨ga, 0, none⟩) (k + 1) ca)).set 2 (.slice (some ⟨gb, 0, none⟩) (k + 1) cb))
              have HS9 := Lib.hid ((((HBW.out.trans M.all).setCell (p := ⟨bo, 0, none⟩) hbo2 (.int .i64 t.boats)).setCell (p := ⟨bo, 1, none⟩) hbo2 (.slice (some ⟨ga, 0, none⟩) (k + 1) ca)).setCell (p := ⟨bo, 2, none⟩) hbo2 (.slice (some ⟨gb, 0, none⟩) (k + 1) cb))
              go_roundw
              case rel => exact ⟨k + 1, _, _, _, _, _, _, by omega, by go_num, Lib.hid (by rw [take_snoc_get HP.out, take_snoc_get HQ.out]; exact HO9.out), HX9, HS9⟩
              case measure => simp [intOf] <;> omega
            · skip
              intro K' hK
              have HK := Lib.hid hK
              clear hK
              go_simp
              obtain ⟨z4, h0, hb, hs0⟩ := alloc_new z3 #[] 2
              rw [← h0]
              clear h0 hs0
              replace M := M.below hb
              replace O := own_below O hb
              replace CW := cell_bel CW hb
              clear hb
              refine HK.out _ _ (.inr (HSI.out _ M.all M.box)) ?_
              clear HK
              go_simp
              refine wpAnyT_one 12 (by rw [HOPS.out]; rfl) (by rw [HOPS.out]; kernel_rfl) ?_
              intro K' hK
              have HK := Lib.hid hK
              clear hK
              refine step_row (A := A') (n := k) (c := c') (vs := vs) (base := w2.heap.size) _ rfl _ _ rfl rfl (own_below HOW.out.pts.outer M.bel) rfl CW (by omega) (Nat.le_trans hs2r M.bel.size) ?_
              intro ga ca w5 hoa hga hla hlta
              have hP1 := push_row0 HOW.out.pts hs2r M.bel O (O.lt _ rfl).1 hs2r hga hoa hla
              have M5 : Mid wr w5 w2.heap.size bo #[.int .i64 t.boats, .slice A' k c', .slice A2 k c2] 33 w5 := ⟨Below.refl _ _, hP1.below HOW.out.pts hs2r, M.box.grown hga (own_box_ne (own_below HOW.out.pts.outer M.bel) M.box (by decide)), Nat.le_trans hs2r hP1.size⟩
              have HP1 := Lib.hid hP1
              clear hP1 hga hla hoa hlta M O CW
              have M := M5
              clear M5
              refine HK.out _ _ (.inr (HSI.out _ M.all M.box)) ?_
              clear HK
              go_simp
              have HA5 := Lib.hid M.all
              refine wpAnyT_one 21 (by rw [HOPS.out]; rfl) (by rw [HOPS.out]; kernel_rfl) ?_
              intro K' hK
              have HK := Lib.hid hK
              clear hK
              have MB := M.bel.size
              refine step_fresh _ rfl _ _ rfl rfl rfl (HRDQ.out _ M.all) hql.1 (by omega) ?_
              intro cgf z6 og hb hlz
              replace M := M.below hb
              have O := own_base og (show w5.heap.size ≤ w5.heap.size from MB)
              clear og hb hlz
              clear MB
              refine HK.out _ _ (.inr (HSI.out _ M.all M.box)) ?_
              clear HK
              go_simp
              refine wpAnyT_one 22 (by rw [HOPS.out]; rfl) (by rw [HOPS.out]; kernel_rfl) ?_
              intro K' hK
              have HK := Lib.hid hK
              clear hK
              go_simp
              obtain ⟨z7, h0, hb, hs0⟩ := alloc_new z6 #[.slice (some ⟨w5.heap.size, 0, none⟩) q.length cgf] 35
              rw [← h0]
              replace M := M.below hb
              replace O := own_below O hb
              have CW : z7.cell? ⟨z6.heap.size, 0, none⟩ = some (.slice (some ⟨w5.heap.size, 0, none⟩) q.length cgf) := by rw [h0]; exact cell_top _ _ _ rfl rfl
              clear h0 hs0 hb
              refine HK.out _ _ (.inr (HSI.out _ M.all M.box)) ?_
              clear HK
              go_simp
              refine wpAnyT_one 23 (by rw [HOPS.out]; rfl) (by rw [HOPS.out]; kernel_rfl) ?_
              intro K' hK
              have HK := Lib.hid hK
              clear hK
              have MC := cds5 HOW.out HP1.out
              refine step_row (A := A2) (n := k) (c := c2) (vs := us) (base := w2.heap.size) _ rfl _ _ rfl rfl (own_below MC.outer M.bel) rfl CW (by omega) (Nat.le_trans M.le M.bel.size) ?_
              intro gb cb w9 hob hgb hlb hltb
              have hP2 := push_row0 MC M.le M.bel O (O.lt _ rfl).1 M.le hgb hob hlb
              have M9 : Mid wr w9 w2.heap.size bo #[.int .i64 t.boats, .slice A' k c', .slice A2 k c2] 33 w9 := ⟨Below.refl _ _, (show Below w2.heap.size wr w5 from HA5.out).trans (hP2.below MC M.le), M.box.grown hgb (own_box_ne (own_below MC.outer M.bel) M.box (by decide)), Nat.le_trans M.le hP2.size⟩
              have HP2 := Lib.hid hP2
              clear hP2 hgb hlb hob hltb M O CW MC
              have M := M9
              clear M9
              refine HK.out _ _ (.inr (HSI.out _ M.all M.box)) ?_
              clear HK
              go_simp
              refine wpAnyT_take 24 (.agg #[.int .i64 t.boats, .slice (some ⟨ga, 0, none⟩) (k + 1) ca, .slice (some ⟨gb, 0, none⟩) (k + 1) cb]) (by rw [HOPS.out]; rfl) (by rw [HOPS.out]; kernel_rfl) (by exact fun _ _ _ h => h) (by rfl) (fun w1 hS => by go_simp) (HSI.out _ M.all M.box) ?_
              go_simp
              have hfb : w9.frozen? ⟨bo, 0, none⟩ = false ∧ w9.frozen? ⟨bo, 1, none⟩ = false ∧ w9.frozen? ⟨bo, 2, none⟩ = false := ⟨M.box.fz, M.box.fz, M.box.fz⟩
              have hcb : w9.cell? ⟨bo, 0, none⟩ = some (.int .i64 t.boats) ∧ w9.cell? ⟨bo, 1, none⟩ = some (.slice A' k c') ∧ w9.cell? ⟨bo, 2, none⟩ = some (.slice A2 k c2) := ⟨M.box.cell rfl, M.box.cell rfl, M.box.cell rfl⟩
              refine wpAnyT_one 25 (by rw [HOPS.out]; rfl) (by rw [HOPS.out]; kernel_rfl) ?_
              intro K' hK
              have HK := Lib.hid hK
              clear hK
              go_simp
              refine HK.out _ _ (.inl (by decide)) ?_
              clear HK
              go_simp
              refine wpAnyT_done (by rw [HOPS.out]; kernel_rfl) ?_ _
              go_wp2_with fail
              have HO9 := Lib.hid ((((push_two HOW.out hs2r HP1.out (fun _ => HP2.out)).boxSet (i := 0) M.box (by decide) (by decide) (.int .i64 t.boats)).boxSet (i := 1) (M.box.set 0 _) (by decide) (by decide) (.slice (some ⟨ga, 0, none⟩) (k + 1) ca)).boxSet (i := 2) ((M.box.set 0 _).set 1 _) (by decide) (by decide) (.slice (some ⟨gb, 0, none⟩) (k + 1) cb))
              have HX9 := Lib.hid (((M.box.set 0 (.int .i64 t.boats)).set 1 (.slice (some ⟨ga, 0, none⟩) (k + 1) ca)).set 2 (.slice (some ⟨gb, 0, none⟩) (k + 1) cb))
              have HS9 := Lib.hid ((((HBW.out.trans M.all).setCell (p := ⟨bo, 0, none⟩) hbo2 (.int .i64 t.boats)).setCell (p := ⟨bo, 1, none⟩) hbo2 (.slice (some ⟨ga, 0, none⟩) (k + 1) ca)).setCell (p := ⟨bo, 2, none⟩) hbo2 (.slice (some ⟨gb, 0, none⟩) (k + 1) cb))
              go_roundw
              case rel => exact ⟨k + 1, _, _, _, _, _, _, by omega, by go_num, Lib.hid (by rw [take_snoc_get HP.out, take_snoc_get HQ.out]; exact HO9.out), HX9, HS9⟩
              case measure => simp [intOf] <;> omega
          · skip
            intro K' hK
            have HK := Lib.hid hK
            clear hK
            go_simp
            obtain ⟨z3, h0, hb, hs0⟩ := alloc_new z2 #[] 2
            rw [← h0]
            clear h0 hs0
            replace M := M.below hb
            replace O := own_below O hb
            clear hb
            refine HK.out _ _ (.inr (HSI.out _ M.all M.box)) ?_
            clear HK
            go_simp
            refine wpAnyT_one 11 (by rw [HOPS.out]; rfl) (by rw [HOPS.out]; kernel_rfl) ?_
            intro K' hK
            have HK := Lib.hid hK
            clear hK
            go_simp
            obtain ⟨z4, h0, hb, hs0⟩ := alloc_new z3 #[.slice (some ⟨z1.heap.size, 0, none⟩) p.length cgc] 35
            rw [← h0]
            replace M := M.below hb
            replace O := own_below O hb
            have CW : z4.cell? ⟨z3.heap.size, 0, none⟩ = some (.slice (some ⟨z1.heap.size, 0, none⟩) p.length cgc) := by rw [h0]; exact cell_top _ _ _ rfl rfl
            clear h0 hs0 hb
            refine HK.out _ _ (.inr (HSI.out _ M.all M.box)) ?_
            clear HK
            go_simp
            refine wpAnyT_one 12 (by rw [HOPS.out]; rfl) (by rw [HOPS.out]; kernel_rfl) ?_
            intro K' hK
            have HK := Lib.hid hK
            clear hK
            refine step_row (A := A') (n := k) (c := c') (vs := vs) (base := w2.heap.size) _ rfl _ _ rfl rfl (own_below HOW.out.pts.outer M.bel) rfl CW (by omega) (Nat.le_trans hs2r M.bel.size) ?_
            intro ga ca w5 hoa hga hla hlta
            have hP1 := push_row0 HOW.out.pts hs2r M.bel O (O.lt _ rfl).1 hs2r hga hoa hla
            have M5 : Mid wr w5 w2.heap.size bo #[.int .i64 t.boats, .slice A' k c', .slice A2 k c2] 33 w5 := ⟨Below.refl _ _, hP1.below HOW.out.pts hs2r, M.box.grown hga (own_box_ne (own_below HOW.out.pts.outer M.bel) M.box (by decide)), Nat.le_trans hs2r hP1.size⟩
            have HP1 := Lib.hid hP1
            clear hP1 hga hla hoa hlta M O CW
            have M := M5
            clear M5
            refine HK.out _ _ (.inr (HSI.out _ M.all M.box)) ?_
            clear HK
            go_simp
            have HA5 := Lib.hid M.all
            refine wpAnyT_one 21 (by rw [HOPS.out]; rfl) (by rw [HOPS.out]; kernel_rfl) ?_
            intro K' hK
            have HK := Lib.hid hK
            clear hK
            have MB := M.bel.size
            refine step_fresh _ rfl _ _ rfl rfl rfl (HRDQ.out _ M.all) hql.1 (by omega) ?_
            intro cgf z6 og hb hlz
            replace M := M.below hb
            have O := own_base og (show w5.heap.size ≤ w5.heap.size from MB)
            clear og hb hlz
            clear MB
            refine HK.out _ _ (.inr (HSI.out _ M.all M.box)) ?_
            clear HK
            go_simp
            refine wpAnyT_one 22 (by rw [HOPS.out]; rfl) (by rw [HOPS.out]; kernel_rfl) ?_
            intro K' hK
            have HK := Lib.hid hK
            clear hK
            go_simp
            obtain ⟨z7, h0, hb, hs0⟩ := alloc_new z6 #[.slice (some ⟨w5.heap.size, 0, none⟩) q.length cgf] 35
            rw [← h0]
            replace M := M.below hb
            replace O := own_below O hb
            have CW : z7.cell? ⟨z6.heap.size, 0, none⟩ = some (.slice (some ⟨w5.heap.size, 0, none⟩) q.length cgf) := by rw [h0]; exact cell_top _ _ _ rfl rfl
            clear h0 hs0 hb
            refine HK.out _ _ (.inr (HSI.out _ M.all M.box)) ?_
            clear HK
            go_simp
            refine wpAnyT_one 23 (by rw [HOPS.out]; rfl) (by rw [HOPS.out]; kernel_rfl) ?_
            intro K' hK
            have HK := Lib.hid hK
            clear hK
            have MC := cds5 HOW.out HP1.out
            refine step_row (A := A2) (n := k) (c := c2) (vs := us) (base := w2.heap.size) _ rfl _ _ rfl rfl (own_below MC.outer M.bel) rfl CW (by omega) (Nat.le_trans M.le M.bel.size) ?_
            intro gb cb w9 hob hgb hlb hltb
            have hP2 := push_row0 MC M.le M.bel O (O.lt _ rfl).1 M.le hgb hob hlb
            have M9 : Mid wr w9 w2.heap.size bo #[.int .i64 t.boats, .slice A' k c', .slice A2 k c2] 33 w9 := ⟨Below.refl _ _, (show Below w2.heap.size wr w5 from HA5.out).trans (hP2.below MC M.le), M.box.grown hgb (own_box_ne (own_below MC.outer M.bel) M.box (by decide)), Nat.le_trans M.le hP2.size⟩
            have HP2 := Lib.hid hP2
            clear hP2 hgb hlb hob hltb M O CW MC
            have M := M9
            clear M9
            refine HK.out _ _ (.inr (HSI.out _ M.all M.box)) ?_
            clear HK
            go_simp
            refine wpAnyT_take 24 (.agg #[.int .i64 t.boats, .slice (some ⟨ga, 0, none⟩) (k + 1) ca, .slice (some ⟨gb, 0, none⟩) (k + 1) cb]) (by rw [HOPS.out]; rfl) (by rw [HOPS.out]; kernel_rfl) (by exact fun _ _ _ h => h) (by rfl) (fun w1 hS => by go_simp) (HSI.out _ M.all M.box) ?_
            go_simp
            have hfb : w9.frozen? ⟨bo, 0, none⟩ = false ∧ w9.frozen? ⟨bo, 1, none⟩ = false ∧ w9.frozen? ⟨bo, 2, none⟩ = false := ⟨M.box.fz, M.box.fz, M.box.fz⟩
            have hcb : w9.cell? ⟨bo, 0, none⟩ = some (.int .i64 t.boats) ∧ w9.cell? ⟨bo, 1, none⟩ = some (.slice A' k c') ∧ w9.cell? ⟨bo, 2, none⟩ = some (.slice A2 k c2) := ⟨M.box.cell rfl, M.box.cell rfl, M.box.cell rfl⟩
            refine wpAnyT_one 25 (by rw [HOPS.out]; rfl) (by rw [HOPS.out]; kernel_rfl) ?_
            intro K' hK
            have HK := Lib.hid hK
            clear hK
            go_simp
            refine HK.out _ _ (.inl (by decide)) ?_
            clear HK
            go_simp
            refine wpAnyT_done (by rw [HOPS.out]; kernel_rfl) ?_ _
            go_wp2_with fail
            have HO9 := Lib.hid ((((push_two HOW.out hs2r HP1.out (fun _ => HP2.out)).boxSet (i := 0) M.box (by decide) (by decide) (.int .i64 t.boats)).boxSet (i := 1) (M.box.set 0 _) (by decide) (by decide) (.slice (some ⟨ga, 0, none⟩) (k + 1) ca)).boxSet (i := 2) ((M.box.set 0 _).set 1 _) (by decide) (by decide) (.slice (some ⟨gb, 0, none⟩) (k + 1) cb))
            have HX9 := Lib.hid (((M.box.set 0 (.int .i64 t.boats)).set 1 (.slice (some ⟨ga, 0, none⟩) (k + 1) ca)).set 2 (.slice (some ⟨gb, 0, none⟩) (k + 1) cb))
            have HS9 := Lib.hid ((((HBW.out.trans M.all).setCell (p := ⟨bo, 0, none⟩) hbo2 (.int .i64 t.boats)).setCell (p := ⟨bo, 1, none⟩) hbo2 (.slice (some ⟨ga, 0, none⟩) (k + 1) ca)).setCell (p := ⟨bo, 2, none⟩) hbo2 (.slice (some ⟨gb, 0, none⟩) (k + 1) cb))
            go_roundw
            case rel => exact ⟨k + 1, _, _, _, _, _, _, by omega, by go_num, Lib.hid (by rw [take_snoc_get HP.out, take_snoc_get HQ.out]; exact HO9.out), HX9, HS9⟩
            case measure => simp [intOf] <;> omega
        · skip
          intro K' hK
          have HK := Lib.hid hK
          clear hK
          go_simp
          obtain ⟨z2, h0, hb, hs0⟩ := alloc_new z1 #[] 2
          rw [← h0]
          clear h0 hs0
          replace M := M.below hb
          clear hb
          refine HK.out _ _ (.inr (HSI.out _ M.all M.box)) ?_
          clear HK
          go_simp
          refine wpAnyT_one 10 (by rw [HOPS.out]; rfl) (by rw [HOPS.out]; kernel_rfl) ?_
          intro K' hK
          have HK := Lib.hid hK
          clear hK
          have MB := M.bel.size
          refine step_fresh _ rfl _ _ rfl rfl rfl (HRDP.out _ M.all) hpl.1 (by omega) ?_
          intro cgc z3 og hb hlz
          replace M := M.below hb
          have O := own_base og (show wr.heap.size ≤ z2.heap.size from MB)
          clear og hb hlz
          clear MB
          refine HK.out _ _ (.inr (HSI.out _ M.all M.box)) ?_
          clear HK
          go_simp
          refine wpAnyT_one 11 (by rw [HOPS.out]; rfl) (by rw [HOPS.out]; kernel_rfl) ?_
          intro K' hK
          have HK := Lib.hid hK
          clear hK
          go_simp
          obtain ⟨z4, h0, hb, hs0⟩ := alloc_new z3 #[.slice (some ⟨z2.heap.size, 0, none⟩) p.length cgc] 35
          rw [← h0]
          replace M := M.below hb
          replace O := own_below O hb
          have CW : z4.cell? ⟨z3.heap.size, 0, none⟩ = some (.slice (some ⟨z2.heap.size, 0, none⟩) p.length cgc) := by rw [h0]; exact cell_top _ _ _ rfl rfl
          clear h0 hs0 hb
          refine HK.out _ _ (.inr (HSI.out _ M.all M.box)) ?_
          clear HK
          go_simp
          refine wpAnyT_one 12 (by rw [HOPS.out]; rfl) (by rw [HOPS.out]; kernel_rfl) ?_
          intro K' hK
          have HK := Lib.hid hK
          clear hK
          refine step_row (A := A') (n := k) (c := c') (vs := vs) (base := w2.heap.size) _ rfl _ _ rfl rfl (own_below HOW.out.pts.outer M.bel) rfl CW (by omega) (Nat.le_trans hs2r M.bel.size) ?_
          intro ga ca w5 hoa hga hla hlta
          have hP1 := push_row0 HOW.out.pts hs2r M.bel O (O.lt _ rfl).1 hs2r hga hoa hla
          have M5 : Mid wr w5 w2.heap.size bo #[.int .i64 t.boats, .slice A' k c', .slice A2 k c2] 33 w5 := ⟨Below.refl _ _, hP1.below HOW.out.pts hs2r, M.box.grown hga (own_box_ne (own_below HOW.out.pts.outer M.bel) M.box (by decide)), Nat.le_trans hs2r hP1.size⟩
          have HP1 := Lib.hid hP1
          clear hP1 hga hla hoa hlta M O CW
          have M := M5
          clear M5
          refine HK.out _ _ (.inr (HSI.out _ M.all M.box)) ?_
          clear HK
          go_simp
          have HA5 := Lib.hid M.all
          refine wpAnyT_one 21 (by rw [HOPS.out]; rfl) (by rw [HOPS.out]; kernel_rfl) ?_
          intro K' hK
          have HK := Lib.hid hK
          clear hK
          have MB := M.bel.size
          refine step_fresh _ rfl _ _ rfl rfl rfl (HRDQ.out _ M.all) hql.1 (by omega) ?_
          intro cgf z6 og hb hlz
          replace M := M.below hb
          have O := own_base og (show w5.heap.size ≤ w5.heap.size from MB)
          clear og hb hlz
          clear MB
          refine HK.out _ _ (.inr (HSI.out _ M.all M.box)) ?_
          clear HK
          go_simp
          refine wpAnyT_one 22 (by rw [HOPS.out]; rfl) (by rw [HOPS.out]; kernel_rfl) ?_
          intro K' hK
          have HK := Lib.hid hK
          clear hK
          go_simp
          obtain ⟨z7, h0, hb, hs0⟩ := alloc_new z6 #[.slice (some ⟨w5.heap.size, 0, none⟩) q.length cgf] 35
          rw [← h0]
          replace M := M.below hb
          replace O := own_below O hb
          have CW : z7.cell? ⟨z6.heap.size, 0, none⟩ = some (.slice (some ⟨w5.heap.size, 0, none⟩) q.length cgf) := by rw [h0]; exact cell_top _ _ _ rfl rfl
          clear h0 hs0 hb
          refine HK.out _ _ (.inr (HSI.out _ M.all M.box)) ?_
          clear HK
          go_simp
          refine wpAnyT_one 23 (by rw [HOPS.out]; rfl) (by rw [HOPS.out]; kernel_rfl) ?_
          intro K' hK
          have HK := Lib.hid hK
          clear hK
          have MC := cds5 HOW.out HP1.out
          refine step_row (A := A2) (n := k) (c := c2) (vs := us) (base := w2.heap.size) _ rfl _ _ rfl rfl (own_below MC.outer M.bel) rfl CW (by omega) (Nat.le_trans M.le M.bel.size) ?_
          intro gb cb w9 hob hgb hlb hltb
          have hP2 := push_row0 MC M.le M.bel O (O.lt _ rfl).1 M.le hgb hob hlb
          have M9 : Mid wr w9 w2.heap.size bo #[.int .i64 t.boats, .slice A' k c', .slice A2 k c2] 33 w9 := ⟨Below.refl _ _, (show Below w2.heap.size wr w5 from HA5.out).trans (hP2.below MC M.le), M.box.grown hgb (own_box_ne (own_below MC.outer M.bel) M.box (by decide)), Nat.le_trans M.le hP2.size⟩
          have HP2 := Lib.hid hP2
          clear hP2 hgb hlb hob hltb M O CW MC
          have M := M9
          clear M9
          refine HK.out _ _ (.inr (HSI.out _ M.all M.box)) ?_
          clear HK
          go_simp
          refine wpAnyT_take 24 (.agg #[.int .i64 t.boats, .slice (some ⟨ga, 0, none⟩) (k + 1) ca, .slice (some ⟨gb, 0, none⟩) (k + 1) cb]) (by rw [HOPS.out]; rfl) (by rw [HOPS.out]; kernel_rfl) (by exact fun _ _ _ h => h) (by rfl) (fun w1 hS => by go_simp) (HSI.out _ M.all M.box) ?_
          go_simp
          have hfb : w9.frozen? ⟨bo, 0, none⟩ = false ∧ w9.frozen? ⟨bo, 1, none⟩ = false ∧ w9.frozen? ⟨bo, 2, none⟩ = false := ⟨M.box.fz, M.box.fz, M.box.fz⟩
          have hcb : w9.cell? ⟨bo, 0, none⟩ = some (.int .i64 t.boats) ∧ w9.cell? ⟨bo, 1, none⟩ = some (.slice A' k c') ∧ w9.cell? ⟨bo, 2, none⟩ = some (.slice A2 k c2) := ⟨M.box.cell rfl, M.box.cell rfl, M.box.cell rfl⟩
          refine wpAnyT_one 25 (by rw [HOPS.out]; rfl) (by rw [HOPS.out]; kernel_rfl) ?_
          intro K' hK
          have HK := Lib.hid hK
          clear hK
          go_simp
          refine HK.out _ _ (.inl (by decide)) ?_
          clear HK
          go_simp
          refine wpAnyT_done (by rw [HOPS.out]; kernel_rfl) ?_ _
          go_wp2_with fail
          have HO9 := Lib.hid ((((push_two HOW.out hs2r HP1.out (fun _ => HP2.out)).boxSet (i := 0) M.box (by decide) (by decide) (.int .i64 t.boats)).boxSet (i := 1) (M.box.set 0 _) (by decide) (by decide) (.slice (some ⟨ga, 0, none⟩) (k + 1) ca)).boxSet (i := 2) ((M.box.set 0 _).set 1 _) (by decide) (by decide) (.slice (some ⟨gb, 0, none⟩) (k + 1) cb))
          have HX9 := Lib.hid (((M.box.set 0 (.int .i64 t.boats)).set 1 (.slice (some ⟨ga, 0, none⟩) (k + 1) ca)).set 2 (.slice (some ⟨gb, 0, none⟩) (k + 1) cb))
          have HS9 := Lib.hid ((((HBW.out.trans M.all).setCell (p := ⟨bo, 0, none⟩) hbo2 (.int .i64 t.boats)).setCell (p := ⟨bo, 1, none⟩) hbo2 (.slice (some ⟨ga, 0, none⟩) (k + 1) ca)).setCell (p := ⟨bo, 2, none⟩) hbo2 (.slice (some ⟨gb, 0, none⟩) (k + 1) cb))
          go_roundw
          case rel => exact ⟨k + 1, _, _, _, _, _, _, by omega, by go_num, Lib.hid (by rw [take_snoc_get HP.out, take_snoc_get HQ.out]; exact HO9.out), HX9, HS9⟩
          case measure => simp [intOf] <;> omega
      · skip
        intro K' hK
        have HK := Lib.hid hK
        clear hK
        go_simp
        obtain ⟨z1, h0, hb, hs0⟩ := alloc_new wd #[] 2
        rw [← h0]
        clear h0 hs0
        replace M := M.below hb
        clear hb
        refine HK.out _ _ (.inr (HSI.out _ M.all M.box)) ?_
        clear HK
        go_simp
        refine wpAnyT_one 4 (by rw [HOPS.out]; rfl) (by rw [HOPS.out]; kernel_rfl) ?_
        intro K' hK
        have HK := Lib.hid hK
        clear hK
        go_simp
        obtain ⟨z2, h0, hb, hs0⟩ := alloc_new z1 #[] 2
        rw [← h0]
        clear h0 hs0
        replace M := M.below hb
        clear hb
        refine HK.out _ _ (.inr (HSI.out _ M.all M.box)) ?_
        clear HK
        go_simp
        refine wpAnyT_one 10 (by rw [HOPS.out]; rfl) (by rw [HOPS.out]; kernel_rfl) ?_
        intro K' hK
        have HK := Lib.hid hK
        clear hK
        have MB := M.bel.size
        refine step_fresh _ rfl _ _ rfl rfl rfl (HRDP.out _ M.all) hpl.1 (by omega) ?_
        intro cgc z3 og hb hlz
        replace M := M.below hb
        have O := own_base og (show wr.heap.size ≤ z2.heap.size from MB)
        clear og hb hlz
        clear MB
        refine HK.out _ _ (.inr (HSI.out _ M.all M.box)) ?_
        clear HK
        go_simp
        refine wpAnyT_one 11 (by rw [HOPS.out]; rfl) (by rw [HOPS.out]; kernel_rfl) ?_
        intro K' hK
        have HK := Lib.hid hK
        clear hK
        go_simp
        obtain ⟨z4, h0, hb, hs0⟩ := alloc_new z3 #[.slice (some ⟨z2.heap.size, 0, none⟩) p.length cgc] 35
        rw [← h0]
        replace M := M.below hb
        replace O := own_below O hb
        have CW : z4.cell? ⟨z3.heap.size, 0, none⟩ = some (.slice (some ⟨z2.heap.size, 0, none⟩) p.length cgc) := by rw [h0]; exact cell_top _ _ _ rfl rfl
        clear h0 hs0 hb
        refine HK.out _ _ (.inr (HSI.out _ M.all M.box)) ?_
        clear HK
        go_simp
        refine wpAnyT_one 12 (by rw [HOPS.out]; rfl) (by rw [HOPS.out]; kernel_rfl) ?_
        intro K' hK
        have HK := Lib.hid hK
        clear hK
        refine step_row (A := A') (n := k) (c := c') (vs := vs) (base := w2.heap.size) _ rfl _ _ rfl rfl (own_below HOW.out.pts.outer M.bel) rfl CW (by omega) (Nat.le_trans hs2r M.bel.size) ?_
        intro ga ca w5 hoa hga hla hlta
        have hP1 := push_row0 HOW.out.pts hs2r M.bel O (O.lt _ rfl).1 hs2r hga hoa hla
        have M5 : Mid wr w5 w2.heap.size bo #[.int .i64 t.boats, .slice A' k c', .slice A2 k c2] 33 w5 := ⟨Below.refl _ _, hP1.below HOW.out.pts hs2r, M.box.grown hga (own_box_ne (own_below HOW.out.pts.outer M.bel) M.box (by decide)), Nat.le_trans hs2r hP1.size⟩
        have HP1 := Lib.hid hP1
        clear hP1 hga hla hoa hlta M O CW
        have M := M5
        clear M5
        refine HK.out _ _ (.inr (HSI.out _ M.all M.box)) ?_
        clear HK
        go_simp
        have HA5 := Lib.hid M.all
        refine wpAnyT_one 21 (by rw [HOPS.out]; rfl) (by rw [HOPS.out]; kernel_rfl) ?_
        intro K' hK
        have HK := Lib.hid hK
        clear hK
        have MB := M.bel.size
        refine step_fresh _ rfl _ _ rfl rfl rfl (HRDQ.out _ M.all) hql.1 (by omega) ?_
        intro cgf z6 og hb hlz
        replace M := M.below hb
        have O := own_base og (show w5.heap.size ≤ w5.heap.size from MB)
        clear og hb hlz
        clear MB
        refine HK.out _ _ (.inr (HSI.out _ M.all M.box)) ?_
        clear HK
        go_simp
        refine wpAnyT_one 22 (by rw [HOPS.out]; rfl) (by rw [HOPS.out]; kernel_rfl) ?_
        intro K' hK
        have HK := Lib.hid hK
        clear hK
        go_simp
        obtain ⟨z7, h0, hb, hs0⟩ := alloc_new z6 #[.slice (some ⟨w5.heap.size, 0, none⟩) q.length cgf] 35
        rw [← h0]
        replace M := M.below hb
        replace O := own_below O hb
        have CW : z7.cell? ⟨z6.heap.size, 0, none⟩ = some (.slice (some ⟨w5.heap.size, 0, none⟩) q.length cgf) := by rw [h0]; exact cell_top _ _ _ rfl rfl
        clear h0 hs0 hb
        refine HK.out _ _ (.inr (HSI.out _ M.all M.box)) ?_
        clear HK
        go_simp
        refine wpAnyT_one 23 (by rw [HOPS.out]; rfl) (by rw [HOPS.out]; kernel_rfl) ?_
        intro K' hK
        have HK := Lib.hid hK
        clear hK
        have MC := cds5 HOW.out HP1.out
        refine step_row (A := A2) (n := k) (c := c2) (vs := us) (base := w2.heap.size) _ rfl _ _ rfl rfl (own_below MC.outer M.bel) rfl CW (by omega) (Nat.le_trans M.le M.bel.size) ?_
        intro gb cb w9 hob hgb hlb hltb
        have hP2 := push_row0 MC M.le M.bel O (O.lt _ rfl).1 M.le hgb hob hlb
        have M9 : Mid wr w9 w2.heap.size bo #[.int .i64 t.boats, .slice A' k c', .slice A2 k c2] 33 w9 := ⟨Below.refl _ _, (show Below w2.heap.size wr w5 from HA5.out).trans (hP2.below MC M.le), M.box.grown hgb (own_box_ne (own_below MC.outer M.bel) M.box (by decide)), Nat.le_trans M.le hP2.size⟩
        have HP2 := Lib.hid hP2
        clear hP2 hgb hlb hob hltb M O CW MC
        have M := M9
        clear M9
        refine HK.out _ _ (.inr (HSI.out _ M.all M.box)) ?_
        clear HK
        go_simp
        refine wpAnyT_take 24 (.agg #[.int .i64 t.boats, .slice (some ⟨ga, 0, none⟩) (k + 1) ca, .slice (some ⟨gb, 0, none⟩) (k + 1) cb]) (by rw [HOPS.out]; rfl) (by rw [HOPS.out]; kernel_rfl) (by exact fun _ _ _ h => h) (by rfl) (fun w1 hS => by go_simp) (HSI.out _ M.all M.box) ?_
        go_simp
        have hfb : w9.frozen? ⟨bo, 0, none⟩ = false ∧ w9.frozen? ⟨bo, 1, none⟩ = false ∧ w9.frozen? ⟨bo, 2, none⟩ = false := ⟨M.box.fz, M.box.fz, M.box.fz⟩
        have hcb : w9.cell? ⟨bo, 0, none⟩ = some (.int .i64 t.boats) ∧ w9.cell? ⟨bo, 1, none⟩ = some (.slice A' k c') ∧ w9.cell? ⟨bo, 2, none⟩ = some (.slice A2 k c2) := ⟨M.box.cell rfl, M.box.cell rfl, M.box.cell rfl⟩
        refine wpAnyT_one 25 (by rw [HOPS.out]; rfl) (by rw [HOPS.out]; kernel_rfl) ?_
        intro K' hK
        have HK := Lib.hid hK
        clear hK
        go_simp
        refine HK.out _ _ (.inl (by decide)) ?_
        clear HK
        go_simp
        refine wpAnyT_done (by rw [HOPS.out]; kernel_rfl) ?_ _
        go_wp2_with fail
        have HO9 := Lib.hid ((((push_two HOW.out hs2r HP1.out (fun _ => HP2.out)).boxSet (i := 0) M.box (by decide) (by decide) (.int .i64 t.boats)).boxSet (i := 1) (M.box.set 0 _) (by decide) (by decide) (.slice (some ⟨ga, 0, none⟩) (k + 1) ca)).boxSet (i := 2) ((M.box.set 0 _).set 1 _) (by decide) (by decide) (.slice (some ⟨gb, 0, none⟩) (k + 1) cb))
        have HX9 := Lib.hid (((M.box.set 0 (.int .i64 t.boats)).set 1 (.slice (some ⟨ga, 0, none⟩) (k + 1) ca)).set 2 (.slice (some ⟨gb, 0, none⟩) (k + 1) cb))
        have HS9 := Lib.hid ((((HBW.out.trans M.all).setCell (p := ⟨bo, 0, none⟩) hbo2 (.int .i64 t.boats)).setCell (p := ⟨bo, 1, none⟩) hbo2 (.slice (some ⟨ga, 0, none⟩) (k + 1) ca)).setCell (p := ⟨bo, 2, none⟩) hbo2 (.slice (some ⟨gb, 0, none⟩) (k + 1) cb))
        go_roundw
        case rel => exact ⟨k + 1, _, _, _, _, _, _, by omega, by go_num, Lib.hid (by rw [take_snoc_get HP.out, take_snoc_get HQ.out]; exact HO9.out), HX9, HS9⟩
        case measure => simp [intOf] <;> omega
    · obtain rfl : k = n := by omega
      have HOW0 := Lib.hid (show OwnT wr w2.heap.size A' k c' vs A2 k c2 us ⟨t.boats, t.pts, t.cds⟩ from by
        have h0 := HOW.out
        rwa [List.take_of_length_le (by rw [HLP.out]; exact Nat.le_refl _), List.take_of_length_le (by rw [HLC.out]; exact Nat.le_refl _)] at h0)
      clear HOW
      go_wp2_with fail
      go_loopw [7] (fun i wr => ∃ (j : Nat) (rows : List (List Int)), j ≤ l ∧ i = .int .i64 j ∧ Hid (OwnT wr w2.heap.size A' k c' vs A2 k c2 us ⟨t.boats, rows, t.cds⟩) ∧ Hid (rows.length = k ∧ ∀ x ∈ rows, (x.length : Int) = t.boats) ∧ Hid (applyGo t (xs.drop j) rows = applyGo t xs t.pts) ∧ Hid (Box wr bo #[.int .i64 t.boats, .slice A' k c', .slice A2 k c2] 33) ∧ Hid (Below w2.heap.size w2 wr)) (fun i _ => l - (intOf i).toNat)
      case atStart =>
        refine ⟨0, t.pts, Nat.zero_le _, rfl, HOW0, Lib.hid ⟨HLP.out, fun x hx => ?_⟩, Lib.hid rfl, X2', HBW⟩
        obtain ⟨q, hq⟩ := List.mem_iff_getElem?.1 hx
        obtain ⟨y, hy, _⟩ := drop_cons (xs := t.cds) (k := q) (by have := (List.getElem?_eq_some_iff.1 hq).1; have := HOK.out.same; omega)
        exact (HOK.out.row q x y hq hy).1.1
      case round =>
        clear HOW0 X2' HBW HBW0 hs2r F0 F2
        obtain ⟨j, rows, hj, rfl, HOW2, HRL, HR, X2q, HBW2⟩ := hrel
        obtain ⟨wq, hwq⟩ : ∃ wq : World, wq = wr := ⟨_, rfl⟩
        subst hwq
        have HBWq := Lib.hid (HB2.out.trans (HBW2.out.mono (by omega)))
        have hs2q := HBW2.out.size
        by_cases hlt : j < l
        · obtain ⟨b, o, x0, x1, x2, x3, hA, hx, hd, hc0, hc1, hc2, hc3⟩ := (HL.out _ HBWq.out).red hlt
          subst hA
          have hro := HRO.out j _ hx
          obtain ⟨⟨hr0, hr1⟩, ⟨hb0, hb1⟩, hkind, hsome, hval⟩ := hro
          simp only at hr0 hr1 hb0 hb1 hkind
          obtain ⟨rc, rfl⟩ := int_up x0 hr0
          obtain ⟨bt, rfl⟩ := int_up x1 hb0
          have HD := Lib.hid hd; clear hd hx
          have hrn : rc < k := by have := HLP.out; omega
          have hrow : rows[rc]? = some (rows[rc]'(by rw [HRL.out.1]; exact hrn)) := List.getElem?_eq_getElem _
          generalize hrw : rows[rc]'(by rw [HRL.out.1]; exact hrn) = row at hrow
          have hrl : (row.length : Int) = t.boats := HRL.out.2 _ (List.mem_of_getElem? hrow)
          have hbr : bt < row.length := by omega
          have hr16 : row.length ≤ 16 := by omega
          have HRW := Lib.hid hrow
          obtain ⟨g, gr, cr, x, hPe, hvs, hcr, hcx, hfx, hgr0, hgr1, hg0, hg1, _⟩ := HOW2.out.at_ hrow hbr
          subst hPe
          have HVS := Lib.hid hvs
          clear hrow hrw hrl hvs hr0 hr1 hval hsome
          obtain ⟨wa, hwa, XA, hba, hsa⟩ := one_box wq #[.int .i64 (rc : Int), .int .i64 (bt : Int), .int .i64 x2, .int .i64 x3] 25
          have HBA := Lib.hid hba
          have HXA := Lib.hid XA
          have F0 := ((X0.kept HBW2.out (by omega)).below hba).f3
          have F00 := (X0.kept HBW2.out (by omega)).f3
          have FA := XA.f4
          have hsa : wq.heap.size < wa.heap.size := by omega
          clear hba XA
          by_cases hk3 : x2 = 3
          · subst hk3
            obtain ⟨rv, hrv⟩ : ∃ v, v = x3 := ⟨_, rfl⟩
            subst hrv
            have HV := Lib.hid (show redVal t ((rc : Int), (bt : Int), 3, rv) = rv from rfl)
            clear F00
            go_wp2_with fail
            rw [← hwa]
            clear hwa hc0 hc1 hc2 hc3
            go_wp2_with fail
            clear F0 FA
            obtain ⟨wy, hwy⟩ : ∃ wy : World, wy = wa := ⟨_, rfl⟩
            subst hwy
            have HWY := Lib.hid (Below.refl wy.heap.size wy)
            have HYA := Lib.hid (show Below wq.heap.size wq wy from HBA.out)
            have F2 := (X2q.out.below HYA.out).f3
            have FA := HXA.out.below HWY.out
            have hsy := HWY.out.size
            have hcr := (HYA.out.cell (p := ⟨g, rc, none⟩) hg1).trans hcr
            have hcx := (HYA.out.cell (p := ⟨gr, bt, none⟩) hgr1).trans hcx
            have hfx := (HYA.out.frozen (p := ⟨gr, bt, none⟩) hgr1).trans hfx
            go_wp2_with fail
            obtain ⟨S, hSE, hSI⟩ : ∃ S : World → Prop, (∀ w1, S w1 → w1.cell? ⟨bo, 1, none⟩ = some (.slice (some ⟨g, 0, none⟩) k c') ∧ w1.cell? ⟨wq.heap.size, 0, none⟩ = some (.int .i64 (rc : Int)) ∧ w1.cell? ⟨wq.heap.size, 1, none⟩ = some (.int .i64 (bt : Int)) ∧ w1.cell? ⟨g, rc, none⟩ = some (.slice (some ⟨gr, 0, none⟩) row.length cr)) ∧ S wy.drew := ⟨fun w1 => w1.cell? ⟨bo, 1, none⟩ = some (.slice (some ⟨g, 0, none⟩) k c') ∧ w1.cell? ⟨wq.heap.size, 0, none⟩ = some (.int .i64 (rc : Int)) ∧ w1.cell? ⟨wq.heap.size, 1, none⟩ = some (.int .i64 (bt : Int)) ∧ w1.cell? ⟨g, rc, none⟩ = some (.slice (some ⟨gr, 0, none⟩) row.length cr), fun _ h => h, ⟨F2.2.1, FA.cell (i := 0) rfl, FA.cell (i := 1) rfl, hcr⟩⟩
            have HSE := Lib.hid hSE
            clear hSE F2 FA
            refine wp_region_T2 (n := 11) S (fun j => decide (10 ≤ j)) (by kernel_rfl) rfl ?_
            intro ops HOPS
            have hS := hSI
            refine wpAnyT_take 0 (.pointer (some ⟨bo, 1, none⟩)) (by rw [HOPS.out]; rfl) (by rw [HOPS.out]; kernel_rfl) (by exact fun _ _ _ h => h) (by rfl) (fun w1 hS => by go_simp) hS ?_
            go_simp
            refine wpAnyT_take 1 (.slice (some ⟨g, 0, none⟩) k c') (by rw [HOPS.out]; rfl) (by rw [HOPS.out]; kernel_rfl) (by exact fun _ _ _ h => h) (by rfl) (fun w1 hS => by obtain ⟨s1, s2, s3, s4⟩ := HSE.out _ hS; go_simp) hS ?_
            go_simp
            refine wpAnyT_take 2 (.pointer (some ⟨wq.heap.size, 0, none⟩)) (by rw [HOPS.out]; rfl) (by rw [HOPS.out]; kernel_rfl) (by exact fun _ _ _ h => h) (by rfl) (fun w1 hS => by go_simp) hS ?_
            go_simp
            refine wpAnyT_take 3 (.int .i64 (rc : Int)) (by rw [HOPS.out]; rfl) (by rw [HOPS.out]; kernel_rfl) (by exact fun _ _ _ h => h) (by rfl) (fun w1 hS => by obtain ⟨s1, s2, s3, s4⟩ := HSE.out _ hS; go_simp) hS ?_
            go_simp
            refine wpAnyT_take 4 (.pointer (some ⟨g, rc, none⟩)) (by rw [HOPS.out]; rfl) (by rw [HOPS.out]; kernel_rfl) (by exact fun _ _ _ h => h) (by rfl) (fun w1 hS => by go_simp) hS ?_
            go_simp
            refine wpAnyT_take 5 (.slice (some ⟨gr, 0, none⟩) row.length cr) (by rw [HOPS.out]; rfl) (by rw [HOPS.out]; kernel_rfl) (by exact fun _ _ _ h => h) (by rfl) (fun w1 hS => by obtain ⟨s1, s2, s3, s4⟩ := HSE.out _ hS; go_simp) hS ?_
            go_simp
            refine wpAnyT_take 6 (.pointer (some ⟨wq.heap.size, 1, none⟩)) (by rw [HOPS.out]; rfl) (by rw [HOPS.out]; kernel_rfl) (by exact fun _ _ _ h => h) (by rfl) (fun w1 hS => by go_simp) hS ?_
            go_simp
            refine wpAnyT_take 7 (.int .i64 (bt : Int)) (by rw [HOPS.out]; rfl) (by rw [HOPS.out]; kernel_rfl) (by exact fun _ _ _ h => h) (by rfl) (fun w1 hS => by obtain ⟨s1, s2, s3, s4⟩ := HSE.out _ hS; go_simp) hS ?_
            go_simp
            refine wpAnyT_take 8 (.int .i64 rv) (by rw [HOPS.out]; rfl) (by rw [HOPS.out]; kernel_rfl) (by exact fun _ _ _ h => h) (by rfl) (fun w1 hS => by go_simp) hS ?_
            go_simp
            refine wpAnyT_take 9 (.pointer (some ⟨gr, bt, none⟩)) (by rw [HOPS.out]; rfl) (by rw [HOPS.out]; kernel_rfl) (by exact fun _ _ _ h => h) (by rfl) (fun w1 hS => by go_simp) hS ?_
            go_simp
            refine wpAnyT_one 10 (by rw [HOPS.out]; rfl) (by rw [HOPS.out]; kernel_rfl) ?_
            intro K' hK
            have HK := Lib.hid hK
            clear hK
            go_simp
            refine HK.out _ _ (.inl (by decide)) ?_
            clear HK
            go_simp
            refine wpAnyT_done (by rw [HOPS.out]; kernel_rfl) ?_ _
            clear HOPS
            go_wp2_with fail
            have HO9 := Lib.hid (((HOW2.out.below HYA.out).below (below_drewN' _ wy 1)).setRC (bt := bt) HRW.out HVS.out rv)
            have hne : bo ≠ gr := fun e => by
              obtain ⟨A9, c9, e9, ho9⟩ := HOW2.out.pts.row rc _ row HVS.out HRW.out
              exact own_box_ne ho9 X2q.out (by decide) (by simp [Value.ownBlock]; exact e.symm)
            have HX9 := Lib.hid (((X2q.out.below HYA.out).below (below_drewN' _ wy 1)).other (c := gr) (i := bt) hne (.int .i64 rv))
            have HB9 := Lib.hid (((HBW2.out.trans (HYA.out.mono hs2q)).trans (below_drewN' _ wy 1)).setCell (p := ⟨gr, bt, none⟩) hgr0 (.int .i64 rv))
            go_roundw
            case rel => exact ⟨j + 1, _, by omega, by go_num, HO9, Lib.hid ⟨by rw [setRC_len]; exact HRL.out.1, setRC_rows HRL.out.2 (by rw [HRL.out.1]; exact hrn)⟩, Lib.hid (by rw [← HR.out, HD.out, applyGo, HV.out]; rfl), HX9, HB9⟩
            case measure => simp [intOf] <;> omega
          · have hk3' : (x2 != 3) = true := by simp [hk3]
            obtain ⟨rv, ar, hav⟩ : ∃ a b, avgF t (rc : Int) (bt : Int) x2 = (a, b) := ⟨_, _, rfl⟩
            have HAV := Lib.hid (fun w' (hb : Below w.heap.size w w') => specAvg_any P k c C k d t rc bt x2 HOK.out hb1 w' (HT.out w' hb))
            rw [hav] at HAV
            have HV := Lib.hid (show redVal t ((rc : Int), (bt : Int), x2, x3) = rv from by unfold redVal; rw [if_neg hk3]; show (avgF t rc bt x2).1 = rv; rw [hav])
            clear hav hk3 F0
            go_wp2_with fail
            rw [← hwa]
            clear hwa hc0 hc1 hc2 hc3
            refine (HAV.out _ (HBWq.out.trans (HBA.out.mono (by have := HBWq.out.size; omega)))).mono ?_
            rintro e wy ⟨rfl, hby⟩
            have HWY := Lib.hid hby
            have HYA := Lib.hid (HBA.out.trans (hby.mono HBA.out.size))
            clear hby F00 FA
            have F2 := (X2q.out.below HYA.out).f3
            have FA := HXA.out.below HWY.out
            have hsy := HWY.out.size
            have hcr := (HYA.out.cell (p := ⟨g, rc, none⟩) hg1).trans hcr
            have hcx := (HYA.out.cell (p := ⟨gr, bt, none⟩) hgr1).trans hcx
            have hfx := (HYA.out.frozen (p := ⟨gr, bt, none⟩) hgr1).trans hfx
            go_wp2_with fail
            obtain ⟨S, hSE, hSI⟩ : ∃ S : World → Prop, (∀ w1, S w1 → w1.cell? ⟨bo, 1, none⟩ = some (.slice (some ⟨g, 0, none⟩) k c') ∧ w1.cell? ⟨wq.heap.size, 0, none⟩ = some (.int .i64 (rc : Int)) ∧ w1.cell? ⟨wq.heap.size, 1, none⟩ = some (.int .i64 (bt : Int)) ∧ w1.cell? ⟨g, rc, none⟩ = some (.slice (some ⟨gr, 0, none⟩) row.length cr)) ∧ S wy.drew := ⟨fun w1 => w1.cell? ⟨bo, 1, none⟩ = some (.slice (some ⟨g, 0, none⟩) k c') ∧ w1.cell? ⟨wq.heap.size, 0, none⟩ = some (.int .i64 (rc : Int)) ∧ w1.cell? ⟨wq.heap.size, 1, none⟩ = some (.int .i64 (bt : Int)) ∧ w1.cell? ⟨g, rc, none⟩ = some (.slice (some ⟨gr, 0, none⟩) row.length cr), fun _ h => h, ⟨F2.2.1, FA.cell (i := 0) rfl, FA.cell (i := 1) rfl, hcr⟩⟩
            have HSE := Lib.hid hSE
            clear hSE F2 FA
            refine wp_region_T2 (n := 11) S (fun j => decide (10 ≤ j)) (by kernel_rfl) rfl ?_
            intro ops HOPS
            have hS := hSI
            refine wpAnyT_take 0 (.pointer (some ⟨bo, 1, none⟩)) (by rw [HOPS.out]; rfl) (by rw [HOPS.out]; kernel_rfl) (by exact fun _ _ _ h => h) (by rfl) (fun w1 hS => by go_simp) hS ?_
            go_simp
            refine wpAnyT_take 1 (.slice (some ⟨g, 0, none⟩) k c') (by rw [HOPS.out]; rfl) (by rw [HOPS.out]; kernel_rfl) (by exact fun _ _ _ h => h) (by rfl) (fun w1 hS => by obtain ⟨s1, s2, s3, s4⟩ := HSE.out _ hS; go_simp) hS ?_
            go_simp
            refine wpAnyT_take 2 (.pointer (some ⟨wq.heap.size, 0, none⟩)) (by rw [HOPS.out]; rfl) (by rw [HOPS.out]; kernel_rfl) (by exact fun _ _ _ h => h) (by rfl) (fun w1 hS => by go_simp) hS ?_
            go_simp
            refine wpAnyT_take 3 (.int .i64 (rc : Int)) (by rw [HOPS.out]; rfl) (by rw [HOPS.out]; kernel_rfl) (by exact fun _ _ _ h => h) (by rfl) (fun w1 hS => by obtain ⟨s1, s2, s3, s4⟩ := HSE.out _ hS; go_simp) hS ?_
            go_simp
            refine wpAnyT_take 4 (.pointer (some ⟨g, rc, none⟩)) (by rw [HOPS.out]; rfl) (by rw [HOPS.out]; kernel_rfl) (by exact fun _ _ _ h => h) (by rfl) (fun w1 hS => by go_simp) hS ?_
            go_simp
            refine wpAnyT_take 5 (.slice (some ⟨gr, 0, none⟩) row.length cr) (by rw [HOPS.out]; rfl) (by rw [HOPS.out]; kernel_rfl) (by exact fun _ _ _ h => h) (by rfl) (fun w1 hS => by obtain ⟨s1, s2, s3, s4⟩ := HSE.out _ hS; go_simp) hS ?_
            go_simp
            refine wpAnyT_take 6 (.pointer (some ⟨wq.heap.size, 1, none⟩)) (by rw [HOPS.out]; rfl) (by rw [HOPS.out]; kernel_rfl) (by exact fun _ _ _ h => h) (by rfl) (fun w1 hS => by go_simp) hS ?_
            go_simp
            refine wpAnyT_take 7 (.int .i64 (bt : Int)) (by rw [HOPS.out]; rfl) (by rw [HOPS.out]; kernel_rfl) (by exact fun _ _ _ h => h) (by rfl) (fun w1 hS => by obtain ⟨s1, s2, s3, s4⟩ := HSE.out _ hS; go_simp) hS ?_
            go_simp
            refine wpAnyT_take 8 (.int .i64 rv) (by rw [HOPS.out]; rfl) (by rw [HOPS.out]; kernel_rfl) (by exact fun _ _ _ h => h) (by rfl) (fun w1 hS => by go_simp) hS ?_
            go_simp
            refine wpAnyT_take 9 (.pointer (some ⟨gr, bt, none⟩)) (by rw [HOPS.out]; rfl) (by rw [HOPS.out]; kernel_rfl) (by exact fun _ _ _ h => h) (by rfl) (fun w1 hS => by go_simp) hS ?_
            go_simp
            refine wpAnyT_one 10 (by rw [HOPS.out]; rfl) (by rw [HOPS.out]; kernel_rfl) ?_
            intro K' hK
            have HK := Lib.hid hK
            clear hK
            go_simp
            refine HK.out _ _ (.inl (by decide)) ?_
            clear HK
            go_simp
            refine wpAnyT_done (by rw [HOPS.out]; kernel_rfl) ?_ _
            clear HOPS
            go_wp2_with fail
            have HO9 := Lib.hid (((HOW2.out.below HYA.out).below (below_drewN' _ wy 1)).setRC (bt := bt) HRW.out HVS.out rv)
            have hne : bo ≠ gr := fun e => by
              obtain ⟨A9, c9, e9, ho9⟩ := HOW2.out.pts.row rc _ row HVS.out HRW.out
              exact own_box_ne ho9 X2q.out (by decide) (by simp [Value.ownBlock]; exact e.symm)
            have HX9 := Lib.hid (((X2q.out.below HYA.out).below (below_drewN' _ wy 1)).other (c := gr) (i := bt) hne (.int .i64 rv))
            have HB9 := Lib.hid (((HBW2.out.trans (HYA.out.mono hs2q)).trans (below_drewN' _ wy 1)).setCell (p := ⟨gr, bt, none⟩) hgr0 (.int .i64 rv))
            go_roundw
            case rel => exact ⟨j + 1, _, by omega, by go_num, HO9, Lib.hid ⟨by rw [setRC_len]; exact HRL.out.1, setRC_rows HRL.out.2 (by rw [HRL.out.1]; exact hrn)⟩, Lib.hid (by rw [← HR.out, HD.out, applyGo, HV.out]; rfl), HX9, HB9⟩
            case measure => simp [intOf] <;> omega
        · obtain rfl : j = l := by omega
          have F2 := X2q.out.f3
          have F1 := (X1.kept HBW2.out (by omega)).f3
          go_wp2_with fail
          refine bodyPost_ret (v := .agg #[.int .i64 t.boats, .slice A' k c', .slice A2 k c2]) (by simp [results, Tryz.results37, go_sem, F1]) rfl ?_
          have hch := put_chg (g := w.heap.size + 1) [.int .i64 t.boats, .slice A' k c', .slice A2 k c2] 0 (Chg.refl (w.heap.size + 1) (w.heap.size + 1 + 1) wq) (by omega) (by omega)
          have hso := (HOW2.out.chg hch HOW2.out.in_ (.inr (by omega))).base' (show w.heap.size ≤ w2.heap.size by omega)
          have he : rows = applyGo t xs t.pts := by rw [← HR.out, List.drop_eq_nil_of_le (by rw [HLX.out]; exact Nat.le_refl _)]; rfl
          rw [he] at hso
          exact ⟨A', k, c', vs, A2, k, c2, us, rfl, hso, ⟨by
            rw [show (applyF t xs).pts = rows from he.symm]
            have h1 := sumLen_le (m := 16) (rows := rows) (fun x hx => by have := HRL.out.2 x hx; omega)
            have h2 := HRL.out.1
            omega, (tab_sum HOK.out).2⟩, below_chg HBWq.out hch (by omega) (by have := HBWq.out.size; omega)⟩
end Go.Proofs.YtalgdeieejpelaaGreatDoor

/- General and plain lemmas, and light walks (merged): Tl Yw. -/
import Derived.Test.YtalgdeieejpelaaGreatTj
import Derived.Test.YtalgdeieejpelaaGreatZmc
import Derived.Test.YtalgdeieejpelaaGreatZmd
import Derived.Deep.RegionHeld
/- Walks: redress is applied (chapter 29), the program. -/
namespace Go.Proofs.YtalgdeieejpelaaGreat
open Go.RowKit Go.Sort
set_option linter.unusedVariables false
set_option maxRecDepth 100000

theorem reds_at {t : Tb} : ∀ {xs : List RedT} {p : Option RedT}, redsGo t p xs = true → ∀ (k : Nat) (x : RedT), xs[k]? = some x → redB t x = true := by
  intro xs
  induction xs with
  | nil => intro p h k x hx; simp at hx
  | cons y r ih =>
    intro p h k x hx
    have h1 : redB t y = true ∧ redsGo t (some y) r = true := by
      cases p with
      | none => simpa [redsGo] using h
      | some z => simp [redsGo] at h; exact ⟨h.1.1, h.2⟩
    cases k with
    | zero => simp at hx; subst hx; exact h1.1
    | succ k => exact ih h1.2 k x (by simpa using hx)
/-- What a valid redress is. -/
structure RedOk (t : Tb) (x : RedT) : Prop where
  race : 0 ≤ x.1 ∧ x.1 < t.pts.length
  boat : 0 ≤ x.2.1 ∧ x.2.1 < t.boats
  kind : x.2.2.1 = 1 ∨ x.2.2.1 = 2 ∨ x.2.2.1 = 3
  some_ : (redPtF t x).2 = true
  val : (redPtF t x).1 = redVal t x
theorem redB_redOk {t : Tb} {x : RedT} (h : redB t x = true) : RedOk t x := by
  have h0 := h
  unfold redB at h
  simp only [Bool.and_eq_true, beq_iff_eq] at h
  obtain ⟨⟨⟨⟨a1, a2⟩, a3⟩, a4⟩, a5⟩ := h
  have r1 := withinB_iff.1 a1
  have r2 := withinB_iff.1 a2
  refine ⟨⟨r1.1, by omega⟩, ⟨r2.1, by omega⟩, isRedB_kind a3, by rw [← redB_ok a1 a2 a3 a4]; exact h0, ?_⟩
  unfold redPtF redVal
  by_cases hk : x.2.2.1 = 3
  · rw [if_pos hk, if_pos hk]
  · rw [if_neg hk, if_neg hk]
/-- A row of a table of one's own, and a place in it. -/
theorem OwnT.at_ {w : World} {base n c m d rc bt : Nat} {P C : Option Addr} {vs us : List Value} {t : Tb} {row : List Int} (h : OwnT w base P n c vs C m d us t) (hr : t.pts[rc]? = some row) (hb : bt < row.length) :
    ∃ g gr cr x, P = some ⟨g, 0, none⟩ ∧ vs[rc]? = some (.slice (some ⟨gr, 0, none⟩) row.length cr) ∧ w.cell? ⟨g, rc, none⟩ = some (.slice (some ⟨gr, 0, none⟩) row.length cr) ∧ w.cell? ⟨gr, bt, none⟩ = some (.int .i64 x) ∧ w.frozen? ⟨gr, bt, none⟩ = false ∧ base ≤ gr ∧ gr < w.heap.size ∧ base ≤ g ∧ g < w.heap.size ∧ rc < n := by
  have hrc : rc < n := by have := (List.getElem?_eq_some_iff.1 hr).1; rw [h.pts.len] at this; exact this
  obtain ⟨v, A', c', ys, h1, h2, _, e, ho⟩ := h.pts.get hrc
  obtain rfl : row = ys := by rw [hr] at h2; injection h2
  obtain ⟨g, u, hA, hg1, hg2, hu, hcu, _⟩ := own_at h.pts.outer hrc
  obtain rfl : v = u := by rw [h1] at hu; injection hu
  subst e
  obtain ⟨gr, x, hA', hb1, hb2, _, hcx, hfx⟩ := own_int_at ho hb
  subst hA'
  exact ⟨g, gr, c', x, hA, h1, hcu, hcx, hfx, hb1, hb2, hg1, hg2, hrc⟩
theorem OwnT.setRC {w : World} {base n c m d rc bt gr cr : Nat} {P C : Option Addr} {vs us : List Value} {t : Tb} {row : List Int} (h : OwnT w base P n c vs C m d us t) (hr : t.pts[rc]? = some row) (hv : vs[rc]? = some (.slice (some ⟨gr, 0, none⟩) row.length cr)) (x : Int) :
    OwnT (w.setCell ⟨gr, bt, none⟩ (.int .i64 x)) base P n c vs C m d us ⟨t.boats, setRC t.pts rc bt x, t.cds⟩ := by
  obtain ⟨A', c', e, ho⟩ := h.pts.row rc _ row hv hr
  injection e with e1 _ e2
  subst e1 e2
  have hs : (w.setCell ⟨gr, bt, none⟩ (.int .i64 x)).ownsRow base 2 1 (.slice (some ⟨gr, 0, none⟩) row.length cr) row.length (ints (row.set bt x)) := by
    rw [ints_set]; exact (ho.stored bt _).1
  have hg : w.grownBy (w.setCell ⟨gr, bt, none⟩ (.int .i64 x)) (some gr) := (ho.stored bt _).2
  have hd : t.pts.getD rc [] = row := by simp [List.getD, hr]
  unfold Go.Proofs.YtalgdeieejpelaaGreat.setRC
  rw [hd]
  refine ⟨h.pts.upd (by decide) hv hr (by simp) hg (by rw [List.length_set]; exact hs), h.cds.grown hg (fun b hb e => ?_) (fun v hv2 b hb e => ?_), h.apO, h.apR⟩
  · exact own_type_ne h.cds.outer ho (by decide) b hb (by simpa [Value.ownBlock] using e)
  · exact h.apR _ (List.mem_of_getElem? hv) v hv2 gr rfl (by rw [hb]; exact e.symm)
theorem setRC_len (rows : List (List Int)) (r b : Nat) (v : Int) : (setRC rows r b v).length = rows.length := by unfold setRC; simp
theorem setRC_rows {rows : List (List Int)} {r b : Nat} {v : Int} {B : Int} (h : ∀ x ∈ rows, (x.length : Int) = B) (hr : r < rows.length) : ∀ x ∈ setRC rows r b v, (x.length : Int) = B := by
  intro x hx
  unfold setRC at hx
  rcases List.mem_or_eq_of_mem_set hx with hx | rfl
  · exact h x hx
  · rw [List.length_set]
    have : rows.getD r [] = rows[r] := by simp [List.getD, List.getElem?_eq_getElem hr]
    rw [this]
    exact h _ (List.getElem_mem hr)
set_option maxHeartbeats 4000000 in
theorem applyRedress_any (P : Option Addr) (n c : Nat) (C : Option Addr) (m d : Nat) (t : Tb) (A : Option Addr) (l cl : Nat) (xs : List RedT) (ok : TabOk t) (hx : redsB t xs = true) (w : World) (h : RdT w P n C m t) (hl : Rd w 4 A l (reds xs)) :
    Calls Tryz.prog 81 #[.agg #[.int .i64 t.boats, .slice P n c, .slice C m d], .slice A l cl] w (RetT w (applyF t xs)) := by
  have hn := h.pts.le
  have hll := hl.le
  have hn12 : n ≤ 12 := by have := ok.many; have := h.pts.len; omega
  have hnm : n = m := by have := ok.same; have := h.pts.len; have := h.cds.len; omega
  subst hnm
  have hb16 := ok.b2
  have hb01 := ok.b1
  have HOK := Lib.hid ok
  have HXS := Lib.hid hx
  have HLP := Lib.hid h.pts.len
  have HLX := Lib.hid hl.len_red
  have HRO := Lib.hid (fun k x (e : xs[k]? = some x) => redB_redOk (reds_at (show redsGo t none xs = true from hx) k x e))
  have HCP := Lib.hid (fun w' (hb : Below w.heap.size w w') => copyTable_any P n c C n d t ok w' (h.below hb))
  have HT := Lib.hid (fun w' (hb : Below w.heap.size w w') => h.below hb)
  have HL := Lib.hid (fun w' (hb : Below w.heap.size w w') => hl.below hb)
  clear ok hx h hl
  go_enter Tryz.func81, Tryz.ntmps81
  go_wp2_with fail
  obtain ⟨w2, hw2, X0, X1, hb2, hs2⟩ := two_boxes w #[.int .i64 t.boats, .slice P n c, .slice C n d] #[.int .i64 0, .slice none 0 0, .slice none 0 0] 53 53
  rw [← hw2]
  clear hw2
  refine (HCP.out _ hb2).mono ?_
  rintro e wc ⟨P1, n1, c1, vs, C1, n2, c2, us, rfl, ho, hsum, hbc⟩
  obtain rfl : n1 = n := ho.pts.len.symm.trans HLP.out
  obtain rfl : n2 = n1 := ho.cds.len.symm.trans (HOK.out.same.symm.trans HLP.out)
  have HO := Lib.hid ho; have HBC := Lib.hid hbc; have HB2 := Lib.hid hb2
  have hszc := hbc.size
  have hsz2 : w.heap.size + 1 < w2.heap.size := by omega
  have hs2' : w2.heap.size = w.heap.size + 2 := by omega
  have HS2 := Lib.hid hs2'
  clear hsum ho hbc hs2 hs2' hb2
  go_wp2_with fail
  obtain ⟨w3, hw3, X2, hb3, hs3⟩ := one_box wc #[.int .i64 t.boats, .slice P1 n2 c1, .slice C1 n2 c2] 53
  rw [← hw3]
  have HB3 := Lib.hid hb3
  have hs3' : wc.heap.size < w3.heap.size := by omega
  clear hw3 hs3 hb3
  go_loopw [12] (fun i wr => ∃ (k : Nat) (rows : List (List Int)), k ≤ l ∧ i = .int .i64 k ∧ Hid (OwnT wr w2.heap.size P1 n2 c1 vs C1 n2 c2 us ⟨t.boats, rows, t.cds⟩) ∧ Hid (rows.length = n2 ∧ ∀ x ∈ rows, (x.length : Int) = t.boats) ∧ Hid (applyGo t (xs.drop k) rows = applyGo t xs t.pts) ∧ Hid (Box wr wc.heap.size #[.int .i64 t.boats, .slice P1 n2 c1, .slice C1 n2 c2] 53) ∧ Hid (Below w2.heap.size w2 wr) ∧ wc.heap.size < wr.heap.size) (fun i _ => l - (intOf i).toNat)
  case atStart =>
    refine ⟨0, t.pts, Nat.zero_le _, rfl, Lib.hid (HO.out.below HB3.out), Lib.hid ⟨HLP.out, fun x hx => ?_⟩, Lib.hid rfl, Lib.hid X2, Lib.hid (HBC.out.trans (HB3.out.mono hszc)), hs3'⟩
    obtain ⟨k, hk⟩ := List.mem_iff_getElem?.1 hx
    obtain ⟨q, hq, _⟩ := drop_cons (xs := t.cds) (k := k) (by have := (List.getElem?_eq_some_iff.1 hk).1; have := HOK.out.same; omega)
    exact (HOK.out.row k x q hk hq).1.1
  case round =>
    obtain ⟨k, rows, hk, rfl, HOW, HRL, HR, X2', HBW, hswr⟩ := hrel
    have HBW0 := Lib.hid (HB2.out.trans (HBW.out.mono (by omega)))
    have hs2r := HBW.out.size
    by_cases hlt : k < l
    · obtain ⟨b, o, x0, x1, x2, x3, hA, hx, hd, hc0, hc1, hc2, hc3⟩ := (HL.out _ HBW0.out).red hlt
      subst hA
      have hro := HRO.out k _ hx
      obtain ⟨⟨hr0, hr1⟩, ⟨hb0, hb1⟩, hkind, hsome, hval⟩ := hro
      simp only at hr0 hr1 hb0 hb1 hkind
      obtain ⟨rc, rfl⟩ := int_up x0 hr0
      obtain ⟨bt, rfl⟩ := int_up x1 hb0
      have HD := Lib.hid hd; clear hd hx
      have HRP := Lib.hid (fun w' (h : RdT w' P n2 C n2 t) => redressPoints_any P n2 c C n2 d t rc bt x2 x3 hkind HOK.out hb1 w' h)
      obtain ⟨rv, rr, hrp⟩ : ∃ a b, redPtF t ((rc : Int), (bt : Int), x2, x3) = (a, b) := ⟨_, _, rfl⟩
      rw [hrp] at HRP hsome hval
      obtain rfl : rr = true := hsome
      have HV := Lib.hid (show redVal t ((rc : Int), (bt : Int), x2, x3) = rv from hval.symm)
      have hrn : rc < n2 := by have := HLP.out; omega
      have hrow : rows[rc]? = some (rows[rc]'(by rw [HRL.out.1]; exact hrn)) := List.getElem?_eq_getElem _
      generalize hrw : rows[rc]'(by rw [HRL.out.1]; exact hrn) = row at hrow
      have hrl : (row.length : Int) = t.boats := HRL.out.2 _ (List.mem_of_getElem? hrow)
      have hbr : bt < row.length := by omega
      have hr16 : row.length ≤ 16 := by omega
      have HRW := Lib.hid hrow
      obtain ⟨g, gr, cr, x, hPe, hvs, hcr, hcx, hfx, hgr0, hgr1, hg0, hg1, _⟩ := HOW.out.at_ hrow hbr
      subst hPe
      have HVS := Lib.hid hvs
      clear hval hrp hrow hrw hrl hvs hr0 hr1
      go_wp2_with fail
      clear hc0 hc1 hc2 hc3
      obtain ⟨wa, hwa, XA, hba, hsa⟩ := one_box wr #[.int .i64 (rc : Int), .int .i64 (bt : Int), .int .i64 x2, .int .i64 x3] 109
      rw [← hwa]
      have HBA := Lib.hid hba
      have hsa : wr.heap.size < wa.heap.size := by omega
      have F0 := ((X0.kept HBW.out (by omega)).below hba).f3
      have F2 := (X2'.out.below hba).f3
      have FA := XA.f4
      have hcr := (hba.cell (p := ⟨g, rc, none⟩) hg1).trans hcr
      have hcx := (hba.cell (p := ⟨gr, bt, none⟩) hgr1).trans hcx
      have hfx := (hba.frozen (p := ⟨gr, bt, none⟩) hgr1).trans hfx
      have hgr1 : gr < wa.heap.size := by omega
      have hg1 : g < wa.heap.size := by omega
      have HKW := Lib.hid (show ∀ w', Below wa.heap.size wa w' → RdT w' P n2 C n2 t from fun w' hb => HT.out _ (HBW0.out.trans ((HBA.out.trans (hb.mono (by omega))).mono (by have := HBW0.out.size; omega))))
      have HSR := Lib.hid (show ∀ w1, Below wa.heap.size wa w1 → w1.cell? ⟨wc.heap.size, 1, none⟩ = some (.slice (some ⟨g, 0, none⟩) n2 c1) ∧ w1.cell? ⟨wr.heap.size, 0, none⟩ = some (.int .i64 (rc : Int)) ∧ w1.cell? ⟨wr.heap.size, 1, none⟩ = some (.int .i64 (bt : Int)) ∧ w1.cell? ⟨wr.heap.size, 2, none⟩ = some (.int .i64 x2) ∧ w1.cell? ⟨wr.heap.size, 3, none⟩ = some (.int .i64 x3) ∧ w1.cell? ⟨g, rc, none⟩ = some (.slice (some ⟨gr, 0, none⟩) row.length cr) ∧ w1.cell? ⟨w.heap.size, 0, none⟩ = some (.int .i64 t.boats) ∧ w1.cell? ⟨w.heap.size, 1, none⟩ = some (.slice P n2 c) ∧ w1.cell? ⟨w.heap.size, 2, none⟩ = some (.slice C n2 d) from
        fun w1 hb => ⟨(hb.cell (p := ⟨wc.heap.size, 1, none⟩) F2.2.2.2.2.2.2).trans F2.2.1, (hb.cell (p := ⟨wr.heap.size, 0, none⟩) hsa).trans FA.1, (hb.cell (p := ⟨wr.heap.size, 1, none⟩) hsa).trans FA.2.1, (hb.cell (p := ⟨wr.heap.size, 2, none⟩) hsa).trans FA.2.2.1, (hb.cell (p := ⟨wr.heap.size, 3, none⟩) hsa).trans FA.2.2.2.1, (hb.cell (p := ⟨g, rc, none⟩) hg1).trans hcr, (hb.cell (p := ⟨w.heap.size, 0, none⟩) F0.2.2.2.2.2.2).trans F0.1, (hb.cell (p := ⟨w.heap.size, 1, none⟩) F0.2.2.2.2.2.2).trans F0.2.1, (hb.cell (p := ⟨w.heap.size, 2, none⟩) F0.2.2.2.2.2.2).trans F0.2.2.1⟩)
      clear hwa hba XA F0 F2 FA hcr
      have hne : wc.heap.size ≠ gr := fun e => by
        obtain ⟨A9, c9, e9, ho9⟩ := HOW.out.pts.row rc _ row HVS.out HRW.out
        exact own_box_ne ho9 X2'.out (by decide) (by simp [Value.ownBlock]; exact e.symm)
      have hneg : g ≠ gr := fun e => by
        obtain ⟨A9, c9, e9, ho9⟩ := HOW.out.pts.row rc _ row HVS.out HRW.out
        exact own_type_ne HOW.out.pts.outer ho9 (by decide) g rfl (by simp [Value.ownBlock]; exact e.symm)
      have HNE := Lib.hid (show gr ≠ wc.heap.size ∧ gr ≠ wr.heap.size ∧ gr ≠ g ∧ gr ≠ w.heap.size from ⟨fun e => hne e.symm, by omega, fun e => hneg e.symm, by omega⟩)
      obtain ⟨S, hSE, hSI, hSS⟩ : ∃ S : World → Prop, (∀ w1, S w1 → w1.cell? ⟨wc.heap.size, 1, none⟩ = some (.slice (some ⟨g, 0, none⟩) n2 c1) ∧ w1.cell? ⟨wr.heap.size, 0, none⟩ = some (.int .i64 (rc : Int)) ∧ w1.cell? ⟨wr.heap.size, 1, none⟩ = some (.int .i64 (bt : Int)) ∧ w1.cell? ⟨wr.heap.size, 2, none⟩ = some (.int .i64 x2) ∧ w1.cell? ⟨wr.heap.size, 3, none⟩ = some (.int .i64 x3) ∧ w1.cell? ⟨g, rc, none⟩ = some (.slice (some ⟨gr, 0, none⟩) row.length cr) ∧ w1.cell? ⟨w.heap.size, 0, none⟩ = some (.int .i64 t.boats) ∧ w1.cell? ⟨w.heap.size, 1, none⟩ = some (.slice P n2 c) ∧ w1.cell? ⟨w.heap.size, 2, none⟩ = some (.slice C n2 d)) ∧ (∀ w1, Below wa.heap.size wa w1 → S w1) ∧ (∀ w1 v, Below wa.heap.size wa w1 → S (w1.setCell ⟨gr, bt, none⟩ v)) :=
        ⟨fun w1 => w1.cell? ⟨wc.heap.size, 1, none⟩ = some (.slice (some ⟨g, 0, none⟩) n2 c1) ∧ w1.cell? ⟨wr.heap.size, 0, none⟩ = some (.int .i64 (rc : Int)) ∧ w1.cell? ⟨wr.heap.size, 1, none⟩ = some (.int .i64 (bt : Int)) ∧ w1.cell? ⟨wr.heap.size, 2, none⟩ = some (.int .i64 x2) ∧ w1.cell? ⟨wr.heap.size, 3, none⟩ = some (.int .i64 x3) ∧ w1.cell? ⟨g, rc, none⟩ = some (.slice (some ⟨gr, 0, none⟩) row.length cr) ∧ w1.cell? ⟨w.heap.size, 0, none⟩ = some (.int .i64 t.boats) ∧ w1.cell? ⟨w.heap.size, 1, none⟩ = some (.slice P n2 c) ∧ w1.cell? ⟨w.heap.size, 2, none⟩ = some (.slice C n2 d), fun _ h => h, HSR.out, fun w1 v hb => by
          have hs := HSR.out w1 hb
          have far : ∀ (b i : Nat) (u : Value), gr ≠ b → w1.cell? ⟨b, i, none⟩ = some u → (w1.setCell ⟨gr, bt, none⟩ v).cell? ⟨b, i, none⟩ = some u := fun b i u hn hc => by
            rw [World.cell?_setCell_far _ _ _ _ hn]; exact hc
          exact ⟨far _ _ _ HNE.out.1 hs.1, far _ _ _ HNE.out.2.1 hs.2.1, far _ _ _ HNE.out.2.1 hs.2.2.1, far _ _ _ HNE.out.2.1 hs.2.2.2.1, far _ _ _ HNE.out.2.1 hs.2.2.2.2.1, far _ _ _ HNE.out.2.2.1 hs.2.2.2.2.2.1, far _ _ _ HNE.out.2.2.2 hs.2.2.2.2.2.2.1, far _ _ _ HNE.out.2.2.2 hs.2.2.2.2.2.2.2.1, far _ _ _ HNE.out.2.2.2 hs.2.2.2.2.2.2.2.2⟩⟩
      have HSE := Lib.hid hSE; have HSI := Lib.hid hSI; have HSS := Lib.hid hSS
      clear hSE hSI hSS hne hneg
      refine wp_region_T2 (n := 16) S (fun _ => false) (by kernel_rfl) rfl ?_
      intro ops HOPS
      have hS := HSI.out _ (below_drewN' _ wa 1)
      refine wpAnyT_take 0 (.pointer (some ⟨wc.heap.size, 1, none⟩)) (by rw [HOPS.out]; rfl) (by rw [HOPS.out]; kernel_rfl) (by exact fun _ _ _ h => h) (by rfl) (fun w1 hS => by go_simp) hS ?_
      go_simp
      refine wpAnyT_take 1 (.slice (some ⟨g, 0, none⟩) n2 c1) (by rw [HOPS.out]; rfl) (by rw [HOPS.out]; kernel_rfl) (by exact fun _ _ _ h => h) (by rfl) (fun w1 hS => by obtain ⟨s1, s2, s3, s4, s5, s6, s7, s8, s9⟩ := HSE.out _ hS; go_simp) hS ?_
      go_simp
      refine wpAnyT_take 2 (.pointer (some ⟨wr.heap.size, 0, none⟩)) (by rw [HOPS.out]; rfl) (by rw [HOPS.out]; kernel_rfl) (by exact fun _ _ _ h => h) (by rfl) (fun w1 hS => by go_simp) hS ?_
      go_simp
      refine wpAnyT_take 3 (.int .i64 (rc : Int)) (by rw [HOPS.out]; rfl) (by rw [HOPS.out]; kernel_rfl) (by exact fun _ _ _ h => h) (by rfl) (fun w1 hS => by obtain ⟨s1, s2, s3, s4, s5, s6, s7, s8, s9⟩ := HSE.out _ hS; go_simp) hS ?_
      go_simp
      refine wpAnyT_take 4 (.pointer (some ⟨g, rc, none⟩)) (by rw [HOPS.out]; rfl) (by rw [HOPS.out]; kernel_rfl) (by exact fun _ _ _ h => h) (by rfl) (fun w1 hS => by go_simp) hS ?_
      go_simp
      refine wpAnyT_take 5 (.slice (some ⟨gr, 0, none⟩) row.length cr) (by rw [HOPS.out]; rfl) (by rw [HOPS.out]; kernel_rfl) (by exact fun _ _ _ h => h) (by rfl) (fun w1 hS => by obtain ⟨s1, s2, s3, s4, s5, s6, s7, s8, s9⟩ := HSE.out _ hS; go_simp) hS ?_
      go_simp
      refine wpAnyT_take 6 (.pointer (some ⟨wr.heap.size, 1, none⟩)) (by rw [HOPS.out]; rfl) (by rw [HOPS.out]; kernel_rfl) (by exact fun _ _ _ h => h) (by rfl) (fun w1 hS => by go_simp) hS ?_
      go_simp
      refine wpAnyT_take 7 (.int .i64 (bt : Int)) (by rw [HOPS.out]; rfl) (by rw [HOPS.out]; kernel_rfl) (by exact fun _ _ _ h => h) (by rfl) (fun w1 hS => by obtain ⟨s1, s2, s3, s4, s5, s6, s7, s8, s9⟩ := HSE.out _ hS; go_simp) hS ?_
      go_simp
      refine wpAnyT_take 8 (.agg #[.int .i64 t.boats, .slice P n2 c, .slice C n2 d]) (by rw [HOPS.out]; rfl) (by rw [HOPS.out]; kernel_rfl) (by exact fun _ _ _ h => h) (by rfl) (fun w1 hS => by obtain ⟨s1, s2, s3, s4, s5, s6, s7, s8, s9⟩ := HSE.out _ hS; go_simp) hS ?_
      go_simp
      refine wpAnyT_take 9 (.agg #[.int .i64 (rc : Int), .int .i64 (bt : Int), .int .i64 x2, .int .i64 x3]) (by rw [HOPS.out]; rfl) (by rw [HOPS.out]; kernel_rfl) (by exact fun _ _ _ h => h) (by rfl) (fun w1 hS => by obtain ⟨s1, s2, s3, s4, s5, s6, s7, s8, s9⟩ := HSE.out _ hS; go_simp) hS ?_
      go_simp
      refine wpAnyT_one 10 (by rw [HOPS.out]; rfl) (by rw [HOPS.out]; kernel_rfl) ?_
      intro K' hK
      have HK := Lib.hid hK
      clear hK
      go_simp
      go_at_call 80
      refine (HRP.out _ (HKW.out _ (below_drewN' _ wa 1))).mono ?_
      rintro e wq ⟨rfl, hbq⟩
      have HBq : Below wa.heap.size wa wq := (below_drewN' wa.heap.size wa 1).trans hbq
      clear hbq
      refine HK.out _ _ (.inr (HSI.out _ HBq)) ?_
      clear HK
      go_simp
      refine wpAnyT_take 11 (.tuple #[.int .i64 rv, .bool true]) (by rw [HOPS.out]; rfl) (by rw [HOPS.out]; kernel_rfl) (by exact fun _ _ _ h => h) (by rfl) (fun w1 hS => by go_simp) (HSI.out _ HBq) ?_
      go_simp
      refine wpAnyT_take 12 (.int .i64 rv) (by rw [HOPS.out]; rfl) (by rw [HOPS.out]; kernel_rfl) (by exact fun _ _ _ h => h) (by rfl) (fun w1 hS => by go_simp) (HSI.out _ HBq) ?_
      go_simp
      refine wpAnyT_take 13 (.bool true) (by rw [HOPS.out]; rfl) (by rw [HOPS.out]; kernel_rfl) (by exact fun _ _ _ h => h) (by rfl) (fun w1 hS => by go_simp) (HSI.out _ HBq) ?_
      go_simp
      refine wpAnyT_take 14 (.pointer (some ⟨gr, bt, none⟩)) (by rw [HOPS.out]; rfl) (by rw [HOPS.out]; kernel_rfl) (by exact fun _ _ _ h => h) (by rfl) (fun w1 hS => by go_simp) (HSI.out _ HBq) ?_
      go_simp
      have hfq := (HBq.frozen (p := ⟨gr, bt, none⟩) hgr1).trans hfx
      have hcq := (HBq.cell (p := ⟨gr, bt, none⟩) hgr1).trans hcx
      refine wpAnyT_one 15 (by rw [HOPS.out]; rfl) (by rw [HOPS.out]; kernel_rfl) ?_
      intro K' hK
      have HK := Lib.hid hK
      clear hK
      go_simp
      refine HK.out _ _ (.inr (HSS.out _ _ HBq)) ?_
      clear HK
      go_simp
      refine wpAnyT_done (by rw [HOPS.out]; kernel_rfl) ?_ _
      go_wp2_with fail
      have HO9 := Lib.hid (((HOW.out.below HBA.out).below HBq).setRC (bt := bt) HRW.out HVS.out rv)
      have HX9 := Lib.hid (((X2'.out.below HBA.out).below HBq).other (c := gr) (i := bt) (fun e => HNE.out.1 e.symm) (.int .i64 rv))
      have HB9 := Lib.hid ((((HBW.out.trans (HBA.out.mono hs2r)).trans (HBq.mono (by omega)))).setCell (p := ⟨gr, bt, none⟩) hgr0 (.int .i64 rv))
      have hsq := HBq.size
      go_roundw
      case rel => exact ⟨k + 1, _, by omega, by go_num, HO9, Lib.hid ⟨by rw [setRC_len]; exact HRL.out.1, setRC_rows HRL.out.2 (by rw [HRL.out.1]; exact hrn)⟩, Lib.hid (by rw [← HR.out, HD.out, applyGo, HV.out]; rfl), HX9, HB9, by rw [size_set]; omega⟩
      case measure => simp [intOf] <;> omega
    · obtain rfl : k = l := by omega
      have F2 := X2'.out.f3
      have F1 := (X1.kept HBW.out (by omega)).f3
      go_wp2_with fail
      refine bodyPost_ret (v := .agg #[.int .i64 t.boats, .slice P1 n2 c1, .slice C1 n2 c2]) (by simp [results, Tryz.results81, go_sem, F1]) rfl ?_
      have hch := put_chg (g := w.heap.size + 1) [.int .i64 t.boats, .slice P1 n2 c1, .slice C1 n2 c2] 0 (Chg.refl (w.heap.size + 1) (w.heap.size + 1 + 1) wr) (by omega) (by omega)
      have hso := (HOW.out.chg hch HOW.out.in_ (.inr (by omega))).base' (show w.heap.size ≤ w2.heap.size by omega)
      have he : rows = applyGo t xs t.pts := by rw [← HR.out, List.drop_eq_nil_of_le (by rw [HLX.out]; exact Nat.le_refl _)]; rfl
      rw [he] at hso
      exact ⟨P1, n2, c1, vs, C1, n2, c2, us, rfl, hso, ⟨by
        rw [show (applyF t xs).pts = rows from he.symm]
        have h1 := sumLen_le (m := 16) (rows := rows) (fun x hx => by have := HRL.out.2 x hx; omega)
        have h2 := HRL.out.1
        omega, (tab_sum HOK.out).2⟩, below_chg HBW0.out hch (by omega) (by have := HBW0.out.size; omega)⟩
end Go.Proofs.YtalgdeieejpelaaGreat

/- Plain: what applied redress leaves, the open redress counted, the table stays valid. -/
namespace Go.Proofs.YtalgdeieejpelaaGreat
open Go.RowKit Go.Sort
set_option linter.unusedVariables false

theorem setRC_at {rows : List (List Int)} {r b i k : Nat} {v : Int} (h : ¬ (r = i ∧ b = k)) : ((setRC rows r b v).getD i []).getD k 0 = (rows.getD i []).getD k 0 := by
  unfold setRC
  by_cases hr : r = i
  · subst hr
    have hb : b ≠ k := fun e => h ⟨rfl, e⟩
    by_cases hl : r < rows.length
    · simp only [List.getD, List.getElem?_set, hl, if_true]
      simp [hb]
    · rw [List.set_eq_of_length_le (by omega)]
  · simp only [List.getD, List.getElem?_set, if_neg hr]
theorem applyGo_at (t : Tb) : ∀ (xs : List RedT) (rows : List (List Int)) (i k : Nat), (∀ x ∈ xs, 0 ≤ x.1 ∧ 0 ≤ x.2.1) → namedB xs i k = false → ((applyGo t xs rows).getD i []).getD k 0 = (rows.getD i []).getD k 0 := by
  intro xs
  induction xs with
  | nil => intro rows i k _ _; rfl
  | cons x xs ih =>
    intro rows i k h hn
    unfold namedB at hn
    rw [List.any_cons] at hn
    simp only [Bool.or_eq_false_iff] at hn
    rw [applyGo, ih _ i k (fun y hy => h y (List.mem_cons_of_mem _ hy)) hn.2]
    refine setRC_at ?_
    rintro ⟨e1, e2⟩
    have hx := h x List.mem_cons_self
    have h1 : x.1 = (i : Int) := by omega
    have h2 : x.2.1 = (k : Int) := by omega
    have := hn.1
    simp [h1, h2] at this
theorem reds_mem {t : Tb} {xs : List RedT} (h : redsB t xs = true) (x : RedT) (hx : x ∈ xs) : redB t x = true := by
  obtain ⟨k, hk⟩ := List.getElem?_of_mem hx
  exact reds_at h k x hk
theorem applyF_at {t : Tb} {xs : List RedT} (h : redsB t xs = true) {i k : Nat} (hn : namedB xs i k = false) : ((applyF t xs).pts.getD i []).getD k 0 = (t.pts.getD i []).getD k 0 :=
  applyGo_at t xs t.pts i k (fun x hx => by have := redB_redOk (reds_mem h x hx); exact ⟨this.race.1, this.boat.1⟩) hn
theorem mm_bd (race kind : Int) (b : Nat) : ∀ (ps cs : List (List Int)) (k : Nat) (lo hi : Int), (∀ p ∈ ps, ∀ x ∈ p, 0 ≤ x ∧ x ≤ 10000) → 0 ≤ lo → hi ≤ 10000 →
    0 ≤ (mmGo race kind b k ps cs lo hi).1 ∧ (mmGo race kind b k ps cs lo hi).2 ≤ 10000 := by
  intro ps
  induction ps with
  | nil => intro cs k lo hi _ h1 h2; cases cs <;> exact ⟨h1, h2⟩
  | cons p ps ih =>
    intro cs k lo hi h h1 h2
    cases cs with
    | nil => exact ⟨h1, h2⟩
    | cons c cs =>
      have hp : 0 ≤ p.getD b 0 ∧ p.getD b 0 ≤ 10000 := by
        by_cases hb : b < p.length
        · have e : p.getD b 0 = p[b] := by simp [List.getD, List.getElem?_eq_getElem hb]
          rw [e]
          exact h p List.mem_cons_self _ (List.getElem_mem hb)
        · have e : p.getD b 0 = 0 := by simp [List.getD, List.getElem?_eq_none (by omega : p.length ≤ b)]
          rw [e]; omega
      unfold mmGo
      split
      · exact ih cs _ _ _ (fun q hq => h q (List.mem_cons_of_mem _ hq)) (by omega) (by omega)
      · exact ih cs _ _ _ (fun q hq => h q (List.mem_cons_of_mem _ hq)) h1 h2
theorem pts_bd {t : Tb} (ok : TabOk t) : ∀ p ∈ t.pts, (p.length : Int) = t.boats ∧ ∀ x ∈ p, 0 ≤ x ∧ x ≤ 10000 := by
  intro p hp
  obtain ⟨k, hk⟩ := List.getElem?_of_mem hp
  have hl : k < t.cds.length := by rw [← ok.same]; exact (List.getElem?_eq_some_iff.1 hk).1
  exact (ok.row k p t.cds[k] hk (List.getElem?_eq_getElem hl)).1
theorem redVal_bd {t : Tb} {x : RedT} (ok : TabOk t) (h : redB t x = true) : 0 ≤ redVal t x ∧ redVal t x ≤ 10000 := by
  have h0 := redB_redOk h
  unfold redVal
  by_cases hk : x.2.2.1 = 3
  · rw [if_pos hk]
    unfold redB at h
    simp only [Bool.and_eq_true, beq_iff_eq] at h
    have h1 := h.1.1.2
    unfold isRedBT at h1
    rw [if_pos hk] at h1
    exact withinB_iff.1 h1
  · rw [if_neg hk]
    have hs := h0.some_
    unfold redPtF at hs
    rw [if_neg hk] at hs
    have hb := avg_between t x.1 x.2.1 x.2.2.1 hs
    have hm := mm_bd x.1 x.2.2.1 x.2.1.toNat t.pts t.cds 0 10000 0 (fun p hp => (pts_bd ok p hp).2) (by omega) (by omega)
    omega
theorem applyGo_ok (t : Tb) (ok : TabOk t) (B : Int) : ∀ (xs : List RedT) (rows : List (List Int)), (∀ x ∈ xs, redB t x = true) → rows.length = t.pts.length → (∀ p ∈ rows, (p.length : Int) = B ∧ ∀ x ∈ p, 0 ≤ x ∧ x ≤ 10000) →
    (applyGo t xs rows).length = t.pts.length ∧ ∀ p ∈ applyGo t xs rows, (p.length : Int) = B ∧ ∀ x ∈ p, 0 ≤ x ∧ x ≤ 10000 := by
  intro xs
  induction xs with
  | nil => intro rows _ h1 h2; exact ⟨h1, h2⟩
  | cons x xs ih =>
    intro rows h h1 h2
    have hx := h x List.mem_cons_self
    have hv := redVal_bd ok hx
    have hr := redB_redOk hx
    rw [applyGo]
    refine ih _ (fun y hy => h y (List.mem_cons_of_mem _ hy)) (by rw [setRC_len]; exact h1) ?_
    intro p hp
    unfold setRC at hp
    rcases List.mem_or_eq_of_mem_set hp with hp | rfl
    · exact h2 p hp
    · have hlt : x.1.toNat < rows.length := by have := hr.race; omega
      have e : rows.getD x.1.toNat [] = rows[x.1.toNat] := by simp [List.getD, List.getElem?_eq_getElem hlt]
      have h3 := h2 _ (List.getElem_mem hlt)
      rw [e]
      refine ⟨by rw [List.length_set]; exact h3.1, fun y hy => ?_⟩
      rcases List.mem_or_eq_of_mem_set hy with hy | rfl
      · exact h3.2 y hy
      · exact hv
theorem applyF_tab {t : Tb} {xs : List RedT} (ok : TabOk t) (h : redsB t xs = true) : tableB (applyF t xs) = true := by
  have hp := applyGo_ok t ok t.boats xs t.pts (reds_mem h) rfl (pts_bd ok)
  refine TabOk.tableB ⟨ok.b1, ok.b2, ?_, ?_, ?_⟩
  · show (applyGo t xs t.pts).length ≤ 12
    rw [hp.1]; exact ok.many
  · show (applyGo t xs t.pts).length = t.cds.length
    rw [hp.1]; exact ok.same
  · intro k p c hk hc
    refine ⟨hp.2 p (List.mem_of_getElem? hk), ?_⟩
    have hl : k < t.pts.length := by rw [ok.same]; exact (List.getElem?_eq_some_iff.1 hc).1
    exact (ok.row k t.pts[k] c (List.getElem?_eq_getElem hl) hc).2
theorem openRow_cons (xs : List RedT) (k b : Nat) (c : Int) (cs : List Int) : (openRow xs k b (c :: cs)).length = (if (c == 9 && !namedB xs k b) = true then 1 else 0) + (openRow xs k (b + 1) cs).length := by
  rw [openRow, List.length_append]
  split <;> rfl
theorem openGo_cons (xs : List RedT) (k : Nat) (r : List Int) (rs : List (List Int)) : (openGo xs k (r :: rs)).length = (openRow xs k 0 r).length + (openGo xs (k + 1) rs).length := by
  rw [openGo, List.length_append]
theorem openGo_nil (xs : List RedT) (k : Nat) : (openGo xs k []).length = 0 := rfl
/-- A tail of a list names what its head or its rest names. -/
theorem named_cons (x : RedT) (xs : List RedT) (i k : Int) : namedB (x :: xs) i k = ((x.1 == i && x.2.1 == k) || namedB xs i k) := by
  unfold namedB; rw [List.any_cons]
end Go.Proofs.YtalgdeieejpelaaGreat

/- General and plain lemmas, and light walks (merged): Tl Ys Yw Me Wd Web Ds Mi Fs Fq Mk Ra Rp Ec. -/
import Derived.Test.YtalgdeieejpelaaGreatDoorTj
import Derived.Test.YtalgdeieejpelaaGreatDoorZmc
import Derived.Test.YtalgdeieejpelaaGreatDoorZmd
import Derived.Test.YtalgdeieejpelaaGreatDoorZmb
import Derived.Test.YtalgdeieejpelaaGreatDoorU8
import Derived.Test.YtalgdeieejpelaaGreatDoorZma
import Derived.Test.YtalgdeieejpelaaGreatDoorEs
import Derived.Deep.RegionHeld
import Derived.Below
import Derived.StillTailTactics
import Derived.Deep.RegionHeld3
import Derived.Deep.AppendLies
import Derived.Sort.Grow
/- Walks: redress is applied (chapter 29), the program. -/
namespace Go.Proofs.YtalgdeieejpelaaGreatDoor
open Go.RowKit Go.Sort
set_option linter.unusedVariables false
set_option maxRecDepth 100000

theorem reds_at {t : Tb} : ∀ {xs : List RedT} {p : Option RedT}, redsGo t p xs = true → ∀ (k : Nat) (x : RedT), xs[k]? = some x → redB t x = true := by
  intro xs
  induction xs with
  | nil => intro p h k x hx; simp at hx
  | cons y r ih =>
    intro p h k x hx
    have h1 : redB t y = true ∧ redsGo t (some y) r = true := by
      cases p with
      | none => simpa [redsGo] using h
      | some z => simp [redsGo] at h; exact ⟨h.1.1, h.2⟩
    cases k with
    | zero => simp at hx; subst hx; exact h1.1
    | succ k => exact ih h1.2 k x (by simpa using hx)
/-- What a valid redress is. -/
structure RedOk (t : Tb) (x : RedT) : Prop where
  race : 0 ≤ x.1 ∧ x.1 < t.pts.length
  boat : 0 ≤ x.2.1 ∧ x.2.1 < t.boats
  kind : x.2.2.1 = 1 ∨ x.2.2.1 = 2 ∨ x.2.2.1 = 3
  some_ : (redPtF t x).2 = true
  val : (redPtF t x).1 = redVal t x
theorem redB_redOk {t : Tb} {x : RedT} (h : redB t x = true) : RedOk t x := by
  have h0 := h
  unfold redB at h
  simp only [Bool.and_eq_true, beq_iff_eq] at h
  obtain ⟨⟨⟨⟨a1, a2⟩, a3⟩, a4⟩, a5⟩ := h
  have r1 := withinB_iff.1 a1
  have r2 := withinB_iff.1 a2
  refine ⟨⟨r1.1, by omega⟩, ⟨r2.1, by omega⟩, isRedB_kind a3, by rw [← redB_ok a1 a2 a3 a4]; exact h0, ?_⟩
  unfold redPtF redVal
  by_cases hk : x.2.2.1 = 3
  · rw [if_pos hk, if_pos hk]
  · rw [if_neg hk, if_neg hk]
/-- A row of a table of one's own, and a place in it. -/
theorem OwnT.at_ {w : World} {base n c m d rc bt : Nat} {P C : Option Addr} {vs us : List Value} {t : Tb} {row : List Int} (h : OwnT w base P n c vs C m d us t) (hr : t.pts[rc]? = some row) (hb : bt < row.length) :
    ∃ g gr cr x, P = some ⟨g, 0, none⟩ ∧ vs[rc]? = some (.slice (some ⟨gr, 0, none⟩) row.length cr) ∧ w.cell? ⟨g, rc, none⟩ = some (.slice (some ⟨gr, 0, none⟩) row.length cr) ∧ w.cell? ⟨gr, bt, none⟩ = some (.int .i64 x) ∧ w.frozen? ⟨gr, bt, none⟩ = false ∧ base ≤ gr ∧ gr < w.heap.size ∧ base ≤ g ∧ g < w.heap.size ∧ rc < n := by
  have hrc : rc < n := by have := (List.getElem?_eq_some_iff.1 hr).1; rw [h.pts.len] at this; exact this
  obtain ⟨v, A', c', ys, h1, h2, _, e, ho⟩ := h.pts.get hrc
  obtain rfl : row = ys := by rw [hr] at h2; injection h2
  obtain ⟨g, u, hA, hg1, hg2, hu, hcu, _⟩ := own_at h.pts.outer hrc
  obtain rfl : v = u := by rw [h1] at hu; injection hu
  subst e
  obtain ⟨gr, x, hA', hb1, hb2, _, hcx, hfx⟩ := own_int_at ho hb
  subst hA'
  exact ⟨g, gr, c', x, hA, h1, hcu, hcx, hfx, hb1, hb2, hg1, hg2, hrc⟩
theorem OwnT.setRC {w : World} {base n c m d rc bt gr cr : Nat} {P C : Option Addr} {vs us : List Value} {t : Tb} {row : List Int} (h : OwnT w base P n c vs C m d us t) (hr : t.pts[rc]? = some row) (hv : vs[rc]? = some (.slice (some ⟨gr, 0, none⟩) row.length cr)) (x : Int) :
    OwnT (w.setCell ⟨gr, bt, none⟩ (.int .i64 x)) base P n c vs C m d us ⟨t.boats, setRC t.pts rc bt x, t.cds⟩ := by
  obtain ⟨A', c', e, ho⟩ := h.pts.row rc _ row hv hr
  injection e with e1 _ e2
  subst e1 e2
  have hs : (w.setCell ⟨gr, bt, none⟩ (.int .i64 x)).ownsRow base 2 1 (.slice (some ⟨gr, 0, none⟩) row.length cr) row.length (ints (row.set bt x)) := by
    rw [ints_set]; exact (ho.stored bt _).1
  have hg : w.grownBy (w.setCell ⟨gr, bt, none⟩ (.int .i64 x)) (some gr) := (ho.stored bt _).2
  have hd : t.pts.getD rc [] = row := by simp [List.getD, hr]
  unfold Go.Proofs.YtalgdeieejpelaaGreatDoor.setRC
  rw [hd]
  refine ⟨h.pts.upd (by decide) hv hr (by simp) hg (by rw [List.length_set]; exact hs), h.cds.grown hg (fun b hb e => ?_) (fun v hv2 b hb e => ?_), h.apO, h.apR⟩
  · exact own_type_ne h.cds.outer ho (by decide) b hb (by simpa [Value.ownBlock] using e)
  · exact h.apR _ (List.mem_of_getElem? hv) v hv2 gr rfl (by rw [hb]; exact e.symm)
theorem setRC_len (rows : List (List Int)) (r b : Nat) (v : Int) : (setRC rows r b v).length = rows.length := by unfold setRC; simp
theorem setRC_rows {rows : List (List Int)} {r b : Nat} {v : Int} {B : Int} (h : ∀ x ∈ rows, (x.length : Int) = B) (hr : r < rows.length) : ∀ x ∈ setRC rows r b v, (x.length : Int) = B := by
  intro x hx
  unfold setRC at hx
  rcases List.mem_or_eq_of_mem_set hx with hx | rfl
  · exact h x hx
  · rw [List.length_set]
    have : rows.getD r [] = rows[r] := by simp [List.getD, List.getElem?_eq_getElem hr]
    rw [this]
    exact h _ (List.getElem_mem hr)
set_option maxHeartbeats 4000000 in
theorem applyRedress_any (P : Option Addr) (n c : Nat) (C : Option Addr) (m d : Nat) (t : Tb) (A : Option Addr) (l cl : Nat) (xs : List RedT) (ok : TabOk t) (hx : redsB t xs = true) (w : World) (h : RdT w P n C m t) (hl : Rd w 4 A l (reds xs)) :
    Calls Tryz.prog 33 #[.agg #[.int .i64 t.boats, .slice P n c, .slice C m d], .slice A l cl] w (RetT w (applyF t xs)) := by
  have hn := h.pts.le
  have hll := hl.le
  have hn12 : n ≤ 12 := by have := ok.many; have := h.pts.len; omega
  have hnm : n = m := by have := ok.same; have := h.pts.len; have := h.cds.len; omega
  subst hnm
  have hb16 := ok.b2
  have hb01 := ok.b1
  have HOK := Lib.hid ok
  have HXS := Lib.hid hx
  have HLP := Lib.hid h.pts.len
  have HLX := Lib.hid hl.len_red
  have HRO := Lib.hid (fun k x (e : xs[k]? = some x) => redB_redOk (reds_at (show redsGo t none xs = true from hx) k x e))
  have HCP := Lib.hid (fun w' (hb : Below w.heap.size w w') => copyTable_any P n c C n d t ok w' (h.below hb))
  have HT := Lib.hid (fun w' (hb : Below w.heap.size w w') => h.below hb)
  have HL := Lib.hid (fun w' (hb : Below w.heap.size w w') => hl.below hb)
  clear ok hx h hl
  go_enter Tryz.func33, Tryz.ntmps33
  go_wp2_with fail
  obtain ⟨w2, hw2, X0, X1, hb2, hs2⟩ := two_boxes w #[.int .i64 t.boats, .slice P n c, .slice C n d] #[.int .i64 0, .slice none 0 0, .slice none 0 0] 33 33
  rw [← hw2]
  clear hw2
  refine (HCP.out _ hb2).mono ?_
  rintro e wc ⟨P1, n1, c1, vs, C1, n2, c2, us, rfl, ho, hsum, hbc⟩
  obtain rfl : n1 = n := ho.pts.len.symm.trans HLP.out
  obtain rfl : n2 = n1 := ho.cds.len.symm.trans (HOK.out.same.symm.trans HLP.out)
  have HO := Lib.hid ho; have HBC := Lib.hid hbc; have HB2 := Lib.hid hb2
  have hszc := hbc.size
  have hsz2 : w.heap.size + 1 < w2.heap.size := by omega
  have hs2' : w2.heap.size = w.heap.size + 2 := by omega
  have HS2 := Lib.hid hs2'
  clear hsum ho hbc hs2 hs2' hb2
  go_wp2_with fail
  obtain ⟨w3, hw3, X2, hb3, hs3⟩ := one_box wc #[.int .i64 t.boats, .slice P1 n2 c1, .slice C1 n2 c2] 33
  rw [← hw3]
  have HB3 := Lib.hid hb3
  have hs3' : wc.heap.size < w3.heap.size := by omega
  clear hw3 hs3 hb3
  go_loopw [12] (fun i wr => ∃ (k : Nat) (rows : List (List Int)), k ≤ l ∧ i = .int .i64 k ∧ Hid (OwnT wr w2.heap.size P1 n2 c1 vs C1 n2 c2 us ⟨t.boats, rows, t.cds⟩) ∧ Hid (rows.length = n2 ∧ ∀ x ∈ rows, (x.length : Int) = t.boats) ∧ Hid (applyGo t (xs.drop k) rows = applyGo t xs t.pts) ∧ Hid (Box wr wc.heap.size #[.int .i64 t.boats, .slice P1 n2 c1, .slice C1 n2 c2] 33) ∧ Hid (Below w2.heap.size w2 wr) ∧ wc.heap.size < wr.heap.size) (fun i _ => l - (intOf i).toNat)
  case atStart =>
    refine ⟨0, t.pts, Nat.zero_le _, rfl, Lib.hid (HO.out.below HB3.out), Lib.hid ⟨HLP.out, fun x hx => ?_⟩, Lib.hid rfl, Lib.hid X2, Lib.hid (HBC.out.trans (HB3.out.mono hszc)), hs3'⟩
    obtain ⟨k, hk⟩ := List.mem_iff_getElem?.1 hx
    obtain ⟨q, hq, _⟩ := drop_cons (xs := t.cds) (k := k) (by have := (List.getElem?_eq_some_iff.1 hk).1; have := HOK.out.same; omega)
    exact (HOK.out.row k x q hk hq).1.1
  case round =>
    obtain ⟨k, rows, hk, rfl, HOW, HRL, HR, X2', HBW, hswr⟩ := hrel
    have HBW0 := Lib.hid (HB2.out.trans (HBW.out.mono (by omega)))
    have hs2r := HBW.out.size
    by_cases hlt : k < l
    · obtain ⟨b, o, x0, x1, x2, x3, hA, hx, hd, hc0, hc1, hc2, hc3⟩ := (HL.out _ HBW0.out).red hlt
      subst hA
      have hro := HRO.out k _ hx
      obtain ⟨⟨hr0, hr1⟩, ⟨hb0, hb1⟩, hkind, hsome, hval⟩ := hro
      simp only at hr0 hr1 hb0 hb1 hkind
      obtain ⟨rc, rfl⟩ := int_up x0 hr0
      obtain ⟨bt, rfl⟩ := int_up x1 hb0
      have HD := Lib.hid hd; clear hd hx
      have HRP := Lib.hid (fun w' (h : RdT w' P n2 C n2 t) => redressPoints_any P n2 c C n2 d t rc bt x2 x3 hkind HOK.out hb1 w' h)
      obtain ⟨rv, rr, hrp⟩ : ∃ a b, redPtF t ((rc : Int), (bt : Int), x2, x3) = (a, b) := ⟨_, _, rfl⟩
      rw [hrp] at HRP hsome hval
      obtain rfl : rr = true := hsome
      have HV := Lib.hid (show redVal t ((rc : Int), (bt : Int), x2, x3) = rv from hval.symm)
      have hrn : rc < n2 := by have := HLP.out; omega
      have hrow : rows[rc]? = some (rows[rc]'(by rw [HRL.out.1]; exact hrn)) := List.getElem?_eq_getElem _
      generalize hrw : rows[rc]'(by rw [HRL.out.1]; exact hrn) = row at hrow
      have hrl : (row.length : Int) = t.boats := HRL.out.2 _ (List.mem_of_getElem? hrow)
      have hbr : bt < row.length := by omega
      have hr16 : row.length ≤ 16 := by omega
      have HRW := Lib.hid hrow
      obtain ⟨g, gr, cr, x, hPe, hvs, hcr, hcx, hfx, hgr0, hgr1, hg0, hg1, _⟩ := HOW.out.at_ hrow hbr
      subst hPe
      have HVS := Lib.hid hvs
      clear hval hrp hrow hrw hrl hvs hr0 hr1
      go_wp2_with fail
      clear hc0 hc1 hc2 hc3
      obtain ⟨wa, hwa, XA, hba, hsa⟩ := one_box wr #[.int .i64 (rc : Int), .int .i64 (bt : Int), .int .i64 x2, .int .i64 x3] 25
      rw [← hwa]
      have HBA := Lib.hid hba
      have hsa : wr.heap.size < wa.heap.size := by omega
      have F0 := ((X0.kept HBW.out (by omega)).below hba).f3
      have F2 := (X2'.out.below hba).f3
      have FA := XA.f4
      have hcr := (hba.cell (p := ⟨g, rc, none⟩) hg1).trans hcr
      have hcx := (hba.cell (p := ⟨gr, bt, none⟩) hgr1).trans hcx
      have hfx := (hba.frozen (p := ⟨gr, bt, none⟩) hgr1).trans hfx
      have hgr1 : gr < wa.heap.size := by omega
      have hg1 : g < wa.heap.size := by omega
      have HKW := Lib.hid (show ∀ w', Below wa.heap.size wa w' → RdT w' P n2 C n2 t from fun w' hb => HT.out _ (HBW0.out.trans ((HBA.out.trans (hb.mono (by omega))).mono (by have := HBW0.out.size; omega))))
      have HSR := Lib.hid (show ∀ w1, Below wa.heap.size wa w1 → w1.cell? ⟨wc.heap.size, 1, none⟩ = some (.slice (some ⟨g, 0, none⟩) n2 c1) ∧ w1.cell? ⟨wr.heap.size, 0, none⟩ = some (.int .i64 (rc : Int)) ∧ w1.cell? ⟨wr.heap.size, 1, none⟩ = some (.int .i64 (bt : Int)) ∧ w1.cell? ⟨wr.heap.size, 2, none⟩ = some (.int .i64 x2) ∧ w1.cell? ⟨wr.heap.size, 3, none⟩ = some (.int .i64 x3) ∧ w1.cell? ⟨g, rc, none⟩ = some (.slice (some ⟨gr, 0, none⟩) row.length cr) ∧ w1.cell? ⟨w.heap.size, 0, none⟩ = some (.int .i64 t.boats) ∧ w1.cell? ⟨w.heap.size, 1, none⟩ = some (.slice P n2 c) ∧ w1.cell? ⟨w.heap.size, 2, none⟩ = some (.slice C n2 d) from
        fun w1 hb => ⟨(hb.cell (p := ⟨wc.heap.size, 1, none⟩) F2.2.2.2.2.2.2).trans F2.2.1, (hb.cell (p := ⟨wr.heap.size, 0, none⟩) hsa).trans FA.1, (hb.cell (p := ⟨wr.heap.size, 1, none⟩) hsa).trans FA.2.1, (hb.cell (p := ⟨wr.heap.size, 2, none⟩) hsa).trans FA.2.2.1, (hb.cell (p := ⟨wr.heap.size, 3, none⟩) hsa).trans FA.2.2.2.1, (hb.cell (p := ⟨g, rc, none⟩) hg1).trans hcr, (hb.cell (p := ⟨w.heap.size, 0, none⟩) F0.2.2.2.2.2.2).trans F0.1, (hb.cell (p := ⟨w.heap.size, 1, none⟩) F0.2.2.2.2.2.2).trans F0.2.1, (hb.cell (p := ⟨w.heap.size, 2, none⟩) F0.2.2.2.2.2.2).trans F0.2.2.1⟩)
      clear hwa hba XA F0 F2 FA hcr
      have hne : wc.heap.size ≠ gr := fun e => by
        obtain ⟨A9, c9, e9, ho9⟩ := HOW.out.pts.row rc _ row HVS.out HRW.out
        exact own_box_ne ho9 X2'.out (by decide) (by simp [Value.ownBlock]; exact e.symm)
      have hneg : g ≠ gr := fun e => by
        obtain ⟨A9, c9, e9, ho9⟩ := HOW.out.pts.row rc _ row HVS.out HRW.out
        exact own_type_ne HOW.out.pts.outer ho9 (by decide) g rfl (by simp [Value.ownBlock]; exact e.symm)
      have HNE := Lib.hid (show gr ≠ wc.heap.size ∧ gr ≠ wr.heap.size ∧ gr ≠ g ∧ gr ≠ w.heap.size from ⟨fun e => hne e.symm, by omega, fun e => hneg e.symm, by omega⟩)
      obtain ⟨S, hSE, hSI, hSS⟩ : ∃ S : World → Prop, (∀ w1, S w1 → w1.cell? ⟨wc.heap.size, 1, none⟩ = some (.slice (some ⟨g, 0, none⟩) n2 c1) ∧ w1.cell? ⟨wr.heap.size, 0, none⟩ = some (.int .i64 (rc : Int)) ∧ w1.cell? ⟨wr.heap.size, 1, none⟩ = some (.int .i64 (bt : Int)) ∧ w1.cell? ⟨wr.heap.size, 2, none⟩ = some (.int .i64 x2) ∧ w1.cell? ⟨wr.heap.size, 3, none⟩ = some (.int .i64 x3) ∧ w1.cell? ⟨g, rc, none⟩ = some (.slice (some ⟨gr, 0, none⟩) row.length cr) ∧ w1.cell? ⟨w.heap.size, 0, none⟩ = some (.int .i64 t.boats) ∧ w1.cell? ⟨w.heap.size, 1, none⟩ = some (.slice P n2 c) ∧ w1.cell? ⟨w.heap.size, 2, none⟩ = some (.slice C n2 d)) ∧ (∀ w1, Below wa.heap.size wa w1 → S w1) ∧ (∀ w1 v, Below wa.heap.size wa w1 → S (w1.setCell ⟨gr, bt, none⟩ v)) :=
        ⟨fun w1 => w1.cell? ⟨wc.heap.size, 1, none⟩ = some (.slice (some ⟨g, 0, none⟩) n2 c1) ∧ w1.cell? ⟨wr.heap.size, 0, none⟩ = some (.int .i64 (rc : Int)) ∧ w1.cell? ⟨wr.heap.size, 1, none⟩ = some (.int .i64 (bt : Int)) ∧ w1.cell? ⟨wr.heap.size, 2, none⟩ = some (.int .i64 x2) ∧ w1.cell? ⟨wr.heap.size, 3, none⟩ = some (.int .i64 x3) ∧ w1.cell? ⟨g, rc, none⟩ = some (.slice (some ⟨gr, 0, none⟩) row.length cr) ∧ w1.cell? ⟨w.heap.size, 0, none⟩ = some (.int .i64 t.boats) ∧ w1.cell? ⟨w.heap.size, 1, none⟩ = some (.slice P n2 c) ∧ w1.cell? ⟨w.heap.size, 2, none⟩ = some (.slice C n2 d), fun _ h => h, HSR.out, fun w1 v hb => by
          have hs := HSR.out w1 hb
          have far : ∀ (b i : Nat) (u : Value), gr ≠ b → w1.cell? ⟨b, i, none⟩ = some u → (w1.setCell ⟨gr, bt, none⟩ v).cell? ⟨b, i, none⟩ = some u := fun b i u hn hc => by
            rw [World.cell?_setCell_far _ _ _ _ hn]; exact hc
          exact ⟨far _ _ _ HNE.out.1 hs.1, far _ _ _ HNE.out.2.1 hs.2.1, far _ _ _ HNE.out.2.1 hs.2.2.1, far _ _ _ HNE.out.2.1 hs.2.2.2.1, far _ _ _ HNE.out.2.1 hs.2.2.2.2.1, far _ _ _ HNE.out.2.2.1 hs.2.2.2.2.2.1, far _ _ _ HNE.out.2.2.2 hs.2.2.2.2.2.2.1, far _ _ _ HNE.out.2.2.2 hs.2.2.2.2.2.2.2.1, far _ _ _ HNE.out.2.2.2 hs.2.2.2.2.2.2.2.2⟩⟩
      have HSE := Lib.hid hSE; have HSI := Lib.hid hSI; have HSS := Lib.hid hSS
      clear hSE hSI hSS hne hneg
      refine wp_region_T2 (n := 16) S (fun _ => false) (by kernel_rfl) rfl ?_
      intro ops HOPS
      have hS := HSI.out _ (below_drewN' _ wa 1)
      refine wpAnyT_take 0 (.pointer (some ⟨wc.heap.size, 1, none⟩)) (by rw [HOPS.out]; rfl) (by rw [HOPS.out]; kernel_rfl) (by exact fun _ _ _ h => h) (by rfl) (fun w1 hS => by go_simp) hS ?_
      go_simp
      refine wpAnyT_take 1 (.slice (some ⟨g, 0, none⟩) n2 c1) (by rw [HOPS.out]; rfl) (by rw [HOPS.out]; kernel_rfl) (by exact fun _ _ _ h => h) (by rfl) (fun w1 hS => by obtain ⟨s1, s2, s3, s4, s5, s6, s7, s8, s9⟩ := HSE.out _ hS; go_simp) hS ?_
      go_simp
      refine wpAnyT_take 2 (.pointer (some ⟨wr.heap.size, 0, none⟩)) (by rw [HOPS.out]; rfl) (by rw [HOPS.out]; kernel_rfl) (by exact fun _ _ _ h => h) (by rfl) (fun w1 hS => by go_simp) hS ?_
      go_simp
      refine wpAnyT_take 3 (.int .i64 (rc : Int)) (by rw [HOPS.out]; rfl) (by rw [HOPS.out]; kernel_rfl) (by exact fun _ _ _ h => h) (by rfl) (fun w1 hS => by obtain ⟨s1, s2, s3, s4, s5, s6, s7, s8, s9⟩ := HSE.out _ hS; go_simp) hS ?_
      go_simp
      refine wpAnyT_take 4 (.pointer (some ⟨g, rc, none⟩)) (by rw [HOPS.out]; rfl) (by rw [HOPS.out]; kernel_rfl) (by exact fun _ _ _ h => h) (by rfl) (fun w1 hS => by go_simp) hS ?_
      go_simp
      refine wpAnyT_take 5 (.slice (some ⟨gr, 0, none⟩) row.length cr) (by rw [HOPS.out]; rfl) (by rw [HOPS.out]; kernel_rfl) (by exact fun _ _ _ h => h) (by rfl) (fun w1 hS => by obtain ⟨s1, s2, s3, s4, s5, s6, s7, s8, s9⟩ := HSE.out _ hS; go_simp) hS ?_
      go_simp
      refine wpAnyT_take 6 (.pointer (some ⟨wr.heap.size, 1, none⟩)) (by rw [HOPS.out]; rfl) (by rw [HOPS.out]; kernel_rfl) (by exact fun _ _ _ h => h) (by rfl) (fun w1 hS => by go_simp) hS ?_
      go_simp
      refine wpAnyT_take 7 (.int .i64 (bt : Int)) (by rw [HOPS.out]; rfl) (by rw [HOPS.out]; kernel_rfl) (by exact fun _ _ _ h => h) (by rfl) (fun w1 hS => by obtain ⟨s1, s2, s3, s4, s5, s6, s7, s8, s9⟩ := HSE.out _ hS; go_simp) hS ?_
      go_simp
      refine wpAnyT_take 8 (.agg #[.int .i64 t.boats, .slice P n2 c, .slice C n2 d]) (by rw [HOPS.out]; rfl) (by rw [HOPS.out]; kernel_rfl) (by exact fun _ _ _ h => h) (by rfl) (fun w1 hS => by obtain ⟨s1, s2, s3, s4, s5, s6, s7, s8, s9⟩ := HSE.out _ hS; go_simp) hS ?_
      go_simp
      refine wpAnyT_take 9 (.agg #[.int .i64 (rc : Int), .int .i64 (bt : Int), .int .i64 x2, .int .i64 x3]) (by rw [HOPS.out]; rfl) (by rw [HOPS.out]; kernel_rfl) (by exact fun _ _ _ h => h) (by rfl) (fun w1 hS => by obtain ⟨s1, s2, s3, s4, s5, s6, s7, s8, s9⟩ := HSE.out _ hS; go_simp) hS ?_
      go_simp
      refine wpAnyT_one 10 (by rw [HOPS.out]; rfl) (by rw [HOPS.out]; kernel_rfl) ?_
      intro K' hK
      have HK := Lib.hid hK
      clear hK
      go_simp
      go_at_call 49
      refine (HRP.out _ (HKW.out _ (below_drewN' _ wa 1))).mono ?_
      rintro e wq ⟨rfl, hbq⟩
      have HBq : Below wa.heap.size wa wq := (below_drewN' wa.heap.size wa 1).trans hbq
      clear hbq
      refine HK.out _ _ (.inr (HSI.out _ HBq)) ?_
      clear HK
      go_simp
      refine wpAnyT_take 11 (.tuple #[.int .i64 rv, .bool true]) (by rw [HOPS.out]; rfl) (by rw [HOPS.out]; kernel_rfl) (by exact fun _ _ _ h => h) (by rfl) (fun w1 hS => by go_simp) (HSI.out _ HBq) ?_
      go_simp
      refine wpAnyT_take 12 (.int .i64 rv) (by rw [HOPS.out]; rfl) (by rw [HOPS.out]; kernel_rfl) (by exact fun _ _ _ h => h) (by rfl) (fun w1 hS => by go_simp) (HSI.out _ HBq) ?_
      go_simp
      refine wpAnyT_take 13 (.bool true) (by rw [HOPS.out]; rfl) (by rw [HOPS.out]; kernel_rfl) (by exact fun _ _ _ h => h) (by rfl) (fun w1 hS => by go_simp) (HSI.out _ HBq) ?_
      go_simp
      refine wpAnyT_take 14 (.pointer (some ⟨gr, bt, none⟩)) (by rw [HOPS.out]; rfl) (by rw [HOPS.out]; kernel_rfl) (by exact fun _ _ _ h => h) (by rfl) (fun w1 hS => by go_simp) (HSI.out _ HBq) ?_
      go_simp
      have hfq := (HBq.frozen (p := ⟨gr, bt, none⟩) hgr1).trans hfx
      have hcq := (HBq.cell (p := ⟨gr, bt, none⟩) hgr1).trans hcx
      refine wpAnyT_one 15 (by rw [HOPS.out]; rfl) (by rw [HOPS.out]; kernel_rfl) ?_
      intro K' hK
      have HK := Lib.hid hK
      clear hK
      go_simp
      refine HK.out _ _ (.inr (HSS.out _ _ HBq)) ?_
      clear HK
      go_simp
      refine wpAnyT_done (by rw [HOPS.out]; kernel_rfl) ?_ _
      go_wp2_with fail
      have HO9 := Lib.hid (((HOW.out.below HBA.out).below HBq).setRC (bt := bt) HRW.out HVS.out rv)
      have HX9 := Lib.hid (((X2'.out.below HBA.out).below HBq).other (c := gr) (i := bt) (fun e => HNE.out.1 e.symm) (.int .i64 rv))
      have HB9 := Lib.hid ((((HBW.out.trans (HBA.out.mono hs2r)).trans (HBq.mono (by omega)))).setCell (p := ⟨gr, bt, none⟩) hgr0 (.int .i64 rv))
      have hsq := HBq.size
      go_roundw
      case rel => exact ⟨k + 1, _, by omega, by go_num, HO9, Lib.hid ⟨by rw [setRC_len]; exact HRL.out.1, setRC_rows HRL.out.2 (by rw [HRL.out.1]; exact hrn)⟩, Lib.hid (by rw [← HR.out, HD.out, applyGo, HV.out]; rfl), HX9, HB9, by rw [size_set]; omega⟩
      case measure => simp [intOf] <;> omega
    · obtain rfl : k = l := by omega
      have F2 := X2'.out.f3
      have F1 := (X1.kept HBW.out (by omega)).f3
      go_wp2_with fail
      refine bodyPost_ret (v := .agg #[.int .i64 t.boats, .slice P1 n2 c1, .slice C1 n2 c2]) (by simp [results, Tryz.results33, go_sem, F1]) rfl ?_
      have hch := put_chg (g := w.heap.size + 1) [.int .i64 t.boats, .slice P1 n2 c1, .slice C1 n2 c2] 0 (Chg.refl (w.heap.size + 1) (w.heap.size + 1 + 1) wr) (by omega) (by omega)
      have hso := (HOW.out.chg hch HOW.out.in_ (.inr (by omega))).base' (show w.heap.size ≤ w2.heap.size by omega)
      have he : rows = applyGo t xs t.pts := by rw [← HR.out, List.drop_eq_nil_of_le (by rw [HLX.out]; exact Nat.le_refl _)]; rfl
      rw [he] at hso
      exact ⟨P1, n2, c1, vs, C1, n2, c2, us, rfl, hso, ⟨by
        rw [show (applyF t xs).pts = rows from he.symm]
        have h1 := sumLen_le (m := 16) (rows := rows) (fun x hx => by have := HRL.out.2 x hx; omega)
        have h2 := HRL.out.1
        omega, (tab_sum HOK.out).2⟩, below_chg HBW0.out hch (by omega) (by have := HBW0.out.size; omega)⟩
end Go.Proofs.YtalgdeieejpelaaGreatDoor

/- Walks: averages of a table, both sides; plain: an average lies between the least and the greatest points. -/
namespace Go.Proofs.YtalgdeieejpelaaGreatDoor
open Go.RowKit
set_option linter.unusedVariables false
set_option maxRecDepth 100000

/-- Least and greatest points of the races that count. -/
def mmGo (race kind : Int) (b : Nat) : Nat → List (List Int) → List (List Int) → Int → Int → Int × Int
  | k, p :: ps, c :: cs, lo, hi => if (otherB race kind k && !(c.getD b 0 == 9)) = true then mmGo race kind b (k + 1) ps cs (min lo (p.getD b 0)) (max hi (p.getD b 0)) else mmGo race kind b (k + 1) ps cs lo hi
  | _, _, _, lo, hi => (lo, hi)
theorem mm_avg (race kind : Int) (b : Nat) : ∀ (ps cs : List (List Int)) (k : Nat) (s m lo hi : Int), 0 ≤ m → lo * m ≤ s → s ≤ hi * m →
    0 ≤ (avgGo race kind b k ps cs s m).2 ∧ (mmGo race kind b k ps cs lo hi).1 * (avgGo race kind b k ps cs s m).2 ≤ (avgGo race kind b k ps cs s m).1 ∧ (avgGo race kind b k ps cs s m).1 ≤ (mmGo race kind b k ps cs lo hi).2 * (avgGo race kind b k ps cs s m).2 := by
  intro ps
  induction ps with
  | nil => intro cs k s m lo hi h0 h1 h2; cases cs <;> exact ⟨h0, h1, h2⟩
  | cons p ps ih =>
    intro cs k s m lo hi h0 h1 h2
    cases cs with
    | nil => exact ⟨h0, h1, h2⟩
    | cons c cs =>
      unfold avgGo mmGo
      split
      · refine ih cs (k + 1) _ _ _ _ (by omega) ?_ ?_
        · have e1 : min lo (p.getD b 0) * m ≤ lo * m := Int.mul_le_mul_of_nonneg_right (Int.min_le_left _ _) h0
          have e2 : min lo (p.getD b 0) ≤ p.getD b 0 := Int.min_le_right _ _
          rw [Int.mul_add, Int.mul_one]
          omega
        · have e1 : hi * m ≤ max hi (p.getD b 0) * m := Int.mul_le_mul_of_nonneg_right (Int.le_max_left _ _) h0
          have e2 : p.getD b 0 ≤ max hi (p.getD b 0) := Int.le_max_right _ _
          rw [Int.mul_add, Int.mul_one]
          omega
      · exact ih cs (k + 1) s m lo hi h0 h1 h2
/-- An average lies between the least and the greatest points. -/
theorem avg_between (t : Tb) (race boat kind : Int) (h : (avgF t race boat kind).2 = true) :
    (mmGo race kind boat.toNat 0 t.pts t.cds 10000 0).1 ≤ (avgF t race boat kind).1 ∧ (avgF t race boat kind).1 ≤ (mmGo race kind boat.toNat 0 t.pts t.cds 10000 0).2 := by
  have hm := mm_avg race kind boat.toNat t.pts t.cds 0 0 0 10000 0 (by omega) (by omega) (by omega)
  unfold avgF avgOf at h ⊢
  generalize avgGo race kind boat.toNat 0 t.pts t.cds 0 0 = r at *
  generalize mmGo race kind boat.toNat 0 t.pts t.cds 10000 0 = q at *
  obtain ⟨s, m⟩ := r
  obtain ⟨lo, hi⟩ := q
  simp only at hm h ⊢
  by_cases h0 : m = 0
  · rw [if_pos h0] at h; cases h
  · rw [if_neg h0]
    simp only
    obtain ⟨a1, a2, a3⟩ := hm
    constructor
    · refine Int.le_ediv_of_mul_le (by omega) ?_
      have : lo * (2 * m) = 2 * (lo * m) := by rw [Int.mul_left_comm]
      omega
    · have : (2 * s + m) / (2 * m) < hi + 1 := by
        refine Int.ediv_lt_of_lt_mul (by omega) ?_
        have e : (hi + 1) * (2 * m) = 2 * (hi * m) + 2 * m := by rw [Int.add_mul, Int.one_mul, Int.mul_left_comm]
        omega
      omega
end Go.Proofs.YtalgdeieejpelaaGreatDoor

/- Plain: what applied redress leaves, the open redress counted, the table stays valid. -/
namespace Go.Proofs.YtalgdeieejpelaaGreatDoor
open Go.RowKit Go.Sort
set_option linter.unusedVariables false

theorem setRC_at {rows : List (List Int)} {r b i k : Nat} {v : Int} (h : ¬ (r = i ∧ b = k)) : ((setRC rows r b v).getD i []).getD k 0 = (rows.getD i []).getD k 0 := by
  unfold setRC
  by_cases hr : r = i
  · subst hr
    have hb : b ≠ k := fun e => h ⟨rfl, e⟩
    by_cases hl : r < rows.length
    · simp only [List.getD, List.getElem?_set, hl, if_true]
      simp [hb]
    · rw [List.set_eq_of_length_le (by omega)]
  · simp only [List.getD, List.getElem?_set, if_neg hr]
theorem applyGo_at (t : Tb) : ∀ (xs : List RedT) (rows : List (List Int)) (i k : Nat), (∀ x ∈ xs, 0 ≤ x.1 ∧ 0 ≤ x.2.1) → namedB xs i k = false → ((applyGo t xs rows).getD i []).getD k 0 = (rows.getD i []).getD k 0 := by
  intro xs
  induction xs with
  | nil => intro rows i k _ _; rfl
  | cons x xs ih =>
    intro rows i k h hn
    unfold namedB at hn
    rw [List.any_cons] at hn
    simp only [Bool.or_eq_false_iff] at hn
    rw [applyGo, ih _ i k (fun y hy => h y (List.mem_cons_of_mem _ hy)) hn.2]
    refine setRC_at ?_
    rintro ⟨e1, e2⟩
    have hx := h x List.mem_cons_self
    have h1 : x.1 = (i : Int) := by omega
    have h2 : x.2.1 = (k : Int) := by omega
    have := hn.1
    simp [h1, h2] at this
theorem reds_mem {t : Tb} {xs : List RedT} (h : redsB t xs = true) (x : RedT) (hx : x ∈ xs) : redB t x = true := by
  obtain ⟨k, hk⟩ := List.getElem?_of_mem hx
  exact reds_at h k x hk
theorem applyF_at {t : Tb} {xs : List RedT} (h : redsB t xs = true) {i k : Nat} (hn : namedB xs i k = false) : ((applyF t xs).pts.getD i []).getD k 0 = (t.pts.getD i []).getD k 0 :=
  applyGo_at t xs t.pts i k (fun x hx => by have := redB_redOk (reds_mem h x hx); exact ⟨this.race.1, this.boat.1⟩) hn
theorem mm_bd (race kind : Int) (b : Nat) : ∀ (ps cs : List (List Int)) (k : Nat) (lo hi : Int), (∀ p ∈ ps, ∀ x ∈ p, 0 ≤ x ∧ x ≤ 10000) → 0 ≤ lo → hi ≤ 10000 →
    0 ≤ (mmGo race kind b k ps cs lo hi).1 ∧ (mmGo race kind b k ps cs lo hi).2 ≤ 10000 := by
  intro ps
  induction ps with
  | nil => intro cs k lo hi _ h1 h2; cases cs <;> exact ⟨h1, h2⟩
  | cons p ps ih =>
    intro cs k lo hi h h1 h2
    cases cs with
    | nil => exact ⟨h1, h2⟩
    | cons c cs =>
      have hp : 0 ≤ p.getD b 0 ∧ p.getD b 0 ≤ 10000 := by
        by_cases hb : b < p.length
        · have e : p.getD b 0 = p[b] := by simp [List.getD, List.getElem?_eq_getElem hb]
          rw [e]
          exact h p List.mem_cons_self _ (List.getElem_mem hb)
        · have e : p.getD b 0 = 0 := by simp [List.getD, List.getElem?_eq_none (by omega : p.length ≤ b)]
          rw [e]; omega
      unfold mmGo
      split
      · exact ih cs _ _ _ (fun q hq => h q (List.mem_cons_of_mem _ hq)) (by omega) (by omega)
      · exact ih cs _ _ _ (fun q hq => h q (List.mem_cons_of_mem _ hq)) h1 h2
theorem pts_bd {t : Tb} (ok : TabOk t) : ∀ p ∈ t.pts, (p.length : Int) = t.boats ∧ ∀ x ∈ p, 0 ≤ x ∧ x ≤ 10000 := by
  intro p hp
  obtain ⟨k, hk⟩ := List.getElem?_of_mem hp
  have hl : k < t.cds.length := by rw [← ok.same]; exact (List.getElem?_eq_some_iff.1 hk).1
  exact (ok.row k p t.cds[k] hk (List.getElem?_eq_getElem hl)).1
theorem redVal_bd {t : Tb} {x : RedT} (ok : TabOk t) (h : redB t x = true) : 0 ≤ redVal t x ∧ redVal t x ≤ 10000 := by
  have h0 := redB_redOk h
  unfold redVal
  by_cases hk : x.2.2.1 = 3
  · rw [if_pos hk]
    unfold redB at h
    simp only [Bool.and_eq_true, beq_iff_eq] at h
    have h1 := h.1.1.2
    unfold isRedBT at h1
    rw [if_pos hk] at h1
    exact withinB_iff.1 h1
  · rw [if_neg hk]
    have hs := h0.some_
    unfold redPtF at hs
    rw [if_neg hk] at hs
    have hb := avg_between t x.1 x.2.1 x.2.2.1 hs
    have hm := mm_bd x.1 x.2.2.1 x.2.1.toNat t.pts t.cds 0 10000 0 (fun p hp => (pts_bd ok p hp).2) (by omega) (by omega)
    omega
theorem applyGo_ok (t : Tb) (ok : TabOk t) (B : Int) : ∀ (xs : List RedT) (rows : List (List Int)), (∀ x ∈ xs, redB t x = true) → rows.length = t.pts.length → (∀ p ∈ rows, (p.length : Int) = B ∧ ∀ x ∈ p, 0 ≤ x ∧ x ≤ 10000) →
    (applyGo t xs rows).length = t.pts.length ∧ ∀ p ∈ applyGo t xs rows, (p.length : Int) = B ∧ ∀ x ∈ p, 0 ≤ x ∧ x ≤ 10000 := by
  intro xs
  induction xs with
  | nil => intro rows _ h1 h2; exact ⟨h1, h2⟩
  | cons x xs ih =>
    intro rows h h1 h2
    have hx := h x List.mem_cons_self
    have hv := redVal_bd ok hx
    have hr := redB_redOk hx
    rw [applyGo]
    refine ih _ (fun y hy => h y (List.mem_cons_of_mem _ hy)) (by rw [setRC_len]; exact h1) ?_
    intro p hp
    unfold setRC at hp
    rcases List.mem_or_eq_of_mem_set hp with hp | rfl
    · exact h2 p hp
    · have hlt : x.1.toNat < rows.length := by have := hr.race; omega
      have e : rows.getD x.1.toNat [] = rows[x.1.toNat] := by simp [List.getD, List.getElem?_eq_getElem hlt]
      have h3 := h2 _ (List.getElem_mem hlt)
      rw [e]
      refine ⟨by rw [List.length_set]; exact h3.1, fun y hy => ?_⟩
      rcases List.mem_or_eq_of_mem_set hy with hy | rfl
      · exact h3.2 y hy
      · exact hv
theorem applyF_tab {t : Tb} {xs : List RedT} (ok : TabOk t) (h : redsB t xs = true) : tableB (applyF t xs) = true := by
  have hp := applyGo_ok t ok t.boats xs t.pts (reds_mem h) rfl (pts_bd ok)
  refine TabOk.tableB ⟨ok.b1, ok.b2, ?_, ?_, ?_⟩
  · show (applyGo t xs t.pts).length ≤ 12
    rw [hp.1]; exact ok.many
  · show (applyGo t xs t.pts).length = t.cds.length
    rw [hp.1]; exact ok.same
  · intro k p c hk hc
    refine ⟨hp.2 p (List.mem_of_getElem? hk), ?_⟩
    have hl : k < t.pts.length := by rw [ok.same]; exact (List.getElem?_eq_some_iff.1 hc).1
    exact (ok.row k t.pts[k] c (List.getElem?_eq_getElem hl) hc).2
theorem openRow_cons (xs : List RedT) (k b : Nat) (c : Int) (cs : List Int) : (openRow xs k b (c :: cs)).length = (if (c == 9 && !namedB xs k b) = true then 1 else 0) + (openRow xs k (b + 1) cs).length := by
  rw [openRow, List.length_append]
  split <;> rfl
theorem openGo_cons (xs : List RedT) (k : Nat) (r : List Int) (rs : List (List Int)) : (openGo xs k (r :: rs)).length = (openRow xs k 0 r).length + (openGo xs (k + 1) rs).length := by
  rw [openGo, List.length_append]
theorem openGo_nil (xs : List RedT) (k : Nat) : (openGo xs k []).length = 0 := rfl
/-- A tail of a list names what its head or its rest names. -/
theorem named_cons (x : RedT) (xs : List RedT) (i k : Int) : namedB (x :: xs) i k = ((x.1 == i && x.2.1 == k) || namedB xs i k) := by
  unfold namedB; rw [List.any_cons]
end Go.Proofs.YtalgdeieejpelaaGreatDoor

/- Plain functions: drawn orders and fleets: no Go in sight. -/
namespace Go.Proofs.YtalgdeieejpelaaGreatDoor
open Go.RowKit
set_option linter.unusedVariables false

def boatsD (code : List Int) (s : St) : Int × St :=
  if (nextF code s 24).1 = 0 then (16 * (nextF code (nextF code s 24).2 2).1, (nextF code (nextF code s 24).2 2).2)
  else (1 + (nextF code (nextF code s 24).2 6).1, (nextF code (nextF code s 24).2 6).2)
def kD (code : List Int) (s : St) : Int × St :=
  if (nextF code s 24).1 = 0 then (5 * (nextF code (nextF code s 24).2 2).1, (nextF code (nextF code s 24).2 2).2)
  else (1 + (nextF code (nextF code s 24).2 4).1, (nextF code (nextF code s 24).2 4).2)
theorem boatsD_bd (code : List Int) (s : St) : 0 ≤ (boatsD code s).1 ∧ (boatsD code s).1 ≤ 16 := by
  unfold boatsD
  split
  · have := nextF_bd code (nextF code s 24).2 2 (by omega); simp only; omega
  · have := nextF_bd code (nextF code s 24).2 6 (by omega); simp only; omega
theorem kD_bd (code : List Int) (s : St) : 0 ≤ (kD code s).1 ∧ (kD code s).1 ≤ 5 := by
  unfold kD
  split
  · have := nextF_bd code (nextF code s 24).2 2 (by omega); simp only; omega
  · have := nextF_bd code (nextF code s 24).2 4 (by omega); simp only; omega
theorem boatsD_ok (code : List Int) (s : St) (h : StOk code s) : StOk code (boatsD code s).2 := by
  unfold boatsD
  split
  · exact nextF_ok _ _ _ (nextF_ok _ _ _ h)
  · exact nextF_ok _ _ _ (nextF_ok _ _ _ h)

/-- An order is drawn: i is put in at a drawn place. -/
def orderGo (code : List Int) : Nat → Nat → List Int → St → List Int × St
  | 0, _, out, s => (out, s)
  | m + 1, i, out, s =>
    orderGo code m (i + 1) (out.take (nextF code s ((i : Int) + 1)).1.toNat ++ [(i : Int)] ++ out.drop (nextF code s ((i : Int) + 1)).1.toNat) (nextF code s ((i : Int) + 1)).2
def orderD (code : List Int) (n : Nat) (s : St) : List Int × St := orderGo code n 0 [] s
theorem orderGo_len (code : List Int) (m i : Nat) (out : List Int) (s : St) : (orderGo code m i out s).1.length = out.length + m := by
  induction m generalizing i out s with
  | zero => rfl
  | succ m ih =>
    unfold orderGo
    rw [ih]
    simp only [List.length_append, List.length_take, List.length_drop, List.length_cons, List.length_nil]
    omega
theorem orderD_len (code : List Int) (n : Nat) (s : St) : (orderD code n s).1.length = n := by unfold orderD; rw [orderGo_len]; simp
def anyD (code : List Int) (s : St) : List Int × St :=
  if (orderD code (boatsD code s).1.toNat (boatsD code s).2).1.length = 0 then orderD code (boatsD code s).1.toNat (boatsD code s).2
  else if (nextF code (orderD code (boatsD code s).1.toNat (boatsD code s).2).2 16).1 = 0 then
    ((orderD code (boatsD code s).1.toNat (boatsD code s).2).1.set (nextF code (nextF code (orderD code (boatsD code s).1.toNat (boatsD code s).2).2 16).2 ((orderD code (boatsD code s).1.toNat (boatsD code s).2).1.length : Int)).1.toNat
      ((nextF code (nextF code (nextF code (orderD code (boatsD code s).1.toNat (boatsD code s).2).2 16).2 ((orderD code (boatsD code s).1.toNat (boatsD code s).2).1.length : Int)).2 8).1 - 1),
     (nextF code (nextF code (nextF code (orderD code (boatsD code s).1.toNat (boatsD code s).2).2 16).2 ((orderD code (boatsD code s).1.toNat (boatsD code s).2).1.length : Int)).2 8).2)
  else ((orderD code (boatsD code s).1.toNat (boatsD code s).2).1, (nextF code (orderD code (boatsD code s).1.toNat (boatsD code s).2).2 16).2)
theorem anyD_len (code : List Int) (s : St) : (anyD code s).1.length ≤ 16 := by
  have h := boatsD_bd code s
  unfold anyD
  split
  · rw [orderD_len]; omega
  · split
    · rw [List.length_set, orderD_len]; omega
    · rw [orderD_len]; omega
def snakeD (code : List Int) : List Int × Int := ((anyD code (fromF code)).1, (kD code (anyD code (fromF code)).2).1)
end Go.Proofs.YtalgdeieejpelaaGreatDoor

/- Walks: the source of numbers of the drawn laws. -/
namespace Go.Proofs.YtalgdeieejpelaaGreatDoor
open Go.RowKit
set_option linter.unusedVariables false
set_option maxRecDepth 100000

/-- The code that came in: it reads as the bytes code, at the world w0 in which the law began. -/
structure Code0 (w0 : World) (A : Option Addr) (n : Nat) (code : List Int) : Prop where
  rd : Rd w0 1 A n (u8s code)
  n4 : n ≤ 8192
  byte : ∀ c ∈ code, 0 ≤ c ∧ c ≤ 255
theorem Code0.len {w0 : World} {A : Option Addr} {n : Nat} {code : List Int} (h : Code0 w0 A n code) : code.length = n := by
  have := h.rd.len
  rwa [u8s_length, Nat.mul_one] at this
theorem Code0.at_ {w0 w : World} {A : Option Addr} {n k : Nat} {code : List Int} (h : Code0 w0 A n code) (hb : Below w0.heap.size w0 w) (hk : k < n) :
    ∃ b o c, A = some ⟨b, o, none⟩ ∧ code[k]? = some c ∧ 0 ≤ c ∧ c ≤ 255 ∧ w.cell? ⟨b, o + k, none⟩ = some (.int .u8 c) := by
  obtain ⟨b, o, e, hc⟩ := h.rd.pos (by omega)
  obtain ⟨c, h1, _⟩ := drop_cons (xs := code) (k := k) (by rw [h.len]; exact hk)
  have hbd := h.byte c (List.mem_of_getElem? h1)
  exact ⟨b, o, c, e, h1, hbd.1, hbd.2, Keeps.below hb _ _ (hc k _ (u8s_get h1))⟩

/-- The source in memory: block g. -/
structure Src (w0 w : World) (A : Option Addr) (n cap : Nat) (code : List Int) (g : Nat) (s : St) : Prop where
  blk : w.heap[g]? = some (.cells #[.slice A n cap, .int .i64 (s.1 : Int), .int .i64 s.2] 64 (0, 0))
  old : w0.heap.size ≤ g
  bel : Below w0.heap.size w0 w
  ok : StOk code s
theorem Src.lt {w0 w : World} {A : Option Addr} {n cap : Nat} {code : List Int} {g : Nat} {s : St} (h : Src w0 w A n cap code g s) : g < w.heap.size := (Array.getElem?_eq_some_iff.1 h.blk).1
theorem Src.c0 {w0 w : World} {A : Option Addr} {n cap : Nat} {code : List Int} {g : Nat} {s : St} (h : Src w0 w A n cap code g s) : w.cell? ⟨g, 0, none⟩ = some (.slice A n cap) := by simp [World.cell?, h.blk]
theorem Src.c1 {w0 w : World} {A : Option Addr} {n cap : Nat} {code : List Int} {g : Nat} {s : St} (h : Src w0 w A n cap code g s) : w.cell? ⟨g, 1, none⟩ = some (.int .i64 (s.1 : Int)) := by simp [World.cell?, h.blk]
theorem Src.c2 {w0 w : World} {A : Option Addr} {n cap : Nat} {code : List Int} {g : Nat} {s : St} (h : Src w0 w A n cap code g s) : w.cell? ⟨g, 2, none⟩ = some (.int .i64 s.2) := by simp [World.cell?, h.blk]
theorem Src.fz {w0 w : World} {A : Option Addr} {n cap : Nat} {code : List Int} {g : Nat} {s : St} (h : Src w0 w A n cap code g s) (i : Nat) : w.frozen? ⟨g, i, none⟩ = false := by simp [World.frozen?, h.blk]
theorem Src.drewN {w0 w : World} {A : Option Addr} {n cap : Nat} {code : List Int} {g : Nat} {s : St} (h : Src w0 w A n cap code g s) (q : Nat) : Src w0 (w.drewN q) A n cap code g s := ⟨h.blk, h.old, below_drewN h.bel q, h.ok⟩
theorem Src.seed {w0 w : World} {A : Option Addr} {n cap : Nat} {code : List Int} {g : Nat} {s : St} (h : Src w0 w A n cap code g s) (x : Int) (h0 : 0 ≤ x) (h1 : x < 2147483647) :
    Src w0 (w.setCell ⟨g, 2, none⟩ (.int .i64 x)) A n cap code g (s.1, x) :=
  ⟨by simp [World.setCell, Array.getElem?_modify, h.blk], h.old, h.bel.setCell h.old _, h.ok.1, h0, h1⟩
theorem Src.at1 {w0 w : World} {A : Option Addr} {n cap : Nat} {code : List Int} {g : Nat} {s : St} (h : Src w0 w A n cap code g s) (k : Nat) (hk : k ≤ code.length) :
    Src w0 (w.setCell ⟨g, 1, none⟩ (.int .i64 (k : Int))) A n cap code g (k, s.2) :=
  ⟨by simp [World.setCell, Array.getElem?_modify, h.blk], h.old, h.bel.setCell h.old _, hk, h.ok.2⟩
theorem Src.below {w0 w w' : World} {A : Option Addr} {n cap : Nat} {code : List Int} {g : Nat} {s : St} (h : Src w0 w A n cap code g s) (k : Below w.heap.size w w') : Src w0 w' A n cap code g s :=
  ⟨(k.block g h.lt).trans h.blk, h.old, h.bel.trans (k.mono h.bel.size), h.ok⟩
theorem Src.chg {w0 w w' : World} {A : Option Addr} {n cap : Nat} {code : List Int} {g lo hi : Nat} {s : St} (h : Src w0 w A n cap code g s) (k : Chg lo hi w w') (hl : g < lo) : Src w0 w' A n cap code g s :=
  ⟨(k.block g h.lt (.inl hl)).trans h.blk, h.old, below_chg h.bel k (by have := h.old; omega) h.bel.size, h.ok⟩
theorem chg_set {lo hi : Nat} {w w' : World} (h : Chg lo hi w w') {g i : Nat} (h1 : lo ≤ g) (h2 : g < hi) (v : Value) : Chg lo hi w (w'.setCell ⟨g, i, none⟩ v) :=
  h.trans ⟨rfl, rfl, rfl, by simp [World.setCell], fun k hk hn => Below.heap_setCell _ _ _ _ (by simp; omega)⟩
theorem chg_drewN {lo hi : Nat} {w w' : World} (h : Chg lo hi w w') (q : Nat) : Chg lo hi w (w'.drewN q) := ⟨h.os, h.tape, h.output, h.size, h.block⟩

/-- What a draw leaves: the number, the source behind it; nothing else has turned. -/
def RetN (w0 w : World) (A : Option Addr) (n cap : Nat) (code : List Int) (g : Nat) (r : Int × St) (e : Ending) (w' : World) : Prop :=
  e = .returned (.int .i64 r.1) ∧ Src w0 w' A n cap code g r.2 ∧ Chg g (g + 1) w w'

theorem next_any (w0 : World) (A : Option Addr) (n cap : Nat) (code : List Int) (hcode : Code0 w0 A n code) (g : Nat) (s : St) (k : Int) (hk : k ≤ 1099511627776) (w : World) (h : Src w0 w A n cap code g s) :
    Calls Tryz.prog 16 #[.pointer (some ⟨g, 0, none⟩), .int .i64 k] w (RetN w0 w A n cap code g (nextF code s k)) := by
  have HL := Lib.hid hcode.len
  have hn4 := hcode.n4
  obtain ⟨at_, seed⟩ := s
  by_cases hk1 : k ≤ 1
  · have e1 : nextF code (at_, seed) k = (0, (at_, seed)) := by unfold nextF; rw [if_pos hk1]
    rw [e1]; clear e1
    go_enter Tryz.func16, Tryz.ntmps16
    go_wp2_with fail
    go_ret
    exact ⟨rfl, h, Chg.refl _ _ _⟩
  · obtain ⟨hat, hs0, hs1⟩ := h.ok
    simp only at hat hs0 hs1
    obtain ⟨hh0, hh1⟩ := stepH_bd seed
    have h2 := h.seed (stepH seed) hh0 hh1
    have hc2 : Chg g (g + 1) w (w.setCell ⟨g, 2, none⟩ (.int .i64 (stepH seed))) := chg_set (Chg.refl _ _ _) (Nat.le_refl _) (by omega) _
    have HST := Lib.hid (show stepH seed = (seed * 48271 + 23) % 2147483647 from rfl)
    have f0 := h.c0; have f1 := h.c1; have f2 := h.c2; have z2 := h.fz 2
    simp only at f0 f1 f2
    rw [HST.out] at h2 hc2 hh0 hh1
    have H2 := Lib.hid h2; have HC2 := Lib.hid hc2
    clear h2 hc2
    go_enter Tryz.func16, Tryz.ntmps16
    go_wp2_with fail
    obtain ⟨hz, hzv⟩ : ∃ z, z = (seed * 48271 + 23) % 2147483647 := ⟨_, rfl⟩
    rw [← hzv] at H2 HC2 hh0 hh1 HST
    rw [← hzv]
    obtain ⟨w1, hw1⟩ : ∃ x, x = w.setCell ⟨g, 2, none⟩ (.int .i64 hz) := ⟨_, rfl⟩
    rw [← hw1] at H2 HC2
    rw [← hw1]
    clear hzv hw1 f0 f1 f2 z2
    have f0 := H2.out.c0; have f1 := H2.out.c1; have z1 := H2.out.fz 1
    simp only at f0 f1
    have hk2 : 2 ≤ k := by omega
    have hz17 : 0 ≤ hz / 17 ∧ hz / 17 ≤ 126322567 := by omega
    obtain ⟨hz1, hz2⟩ := hz17
    have hko := HL.out
    rw [hko] at hat
    clear hko
    by_cases hlt : at_ < n
    · have hd : decide ((at_ : Int) < n) = true := by simpa using hlt
      obtain ⟨b, o, cc, rfl, hcc, hc0, hc1, hcell⟩ := hcode.at_ H2.out.bel hlt
      have HCC := Lib.hid hcc; clear hcc
      go_quiet (fail)
      obtain ⟨wq, hwq⟩ : ∃ x, x = w1.drewN nq := ⟨_, rfl⟩
      replace H2 := Lib.hid (H2.out.drewN nq); replace HC2 := Lib.hid (chg_drewN HC2.out nq)
      rw [← hwq] at H2 HC2
      rw [← hwq]
      clear hwq f0 f1 z1 hcell nq w1
      obtain ⟨w1, rfl⟩ : ∃ x, x = wq := ⟨_, rfl⟩
      have f0 := H2.out.c0; have f1 := H2.out.c1; have z1 := H2.out.fz 1
      simp only at f0 f1
      obtain ⟨b', o', c2, hb', hc2, _, _, hcell⟩ := hcode.at_ H2.out.bel hlt
      obtain ⟨rfl, rfl⟩ : b = b' ∧ o = o' := by injection hb' with hb'; injection hb' with e1 e2; exact ⟨e1, e2⟩
      obtain rfl : cc = c2 := by rw [HCC.out] at hc2; injection hc2
      clear hb' hc2
      go_wp2_with fail
      have HS := Lib.hid (show IntKind.i64.wrap (hz / 17 + cc) = hz / 17 + cc from IntWalk.i64_in _ (by omega))
      have hs := HS.out
      go_quiet (fail)
      clear hs
      obtain ⟨w2, hw2⟩ : ∃ x, x = w1.drewN nq := ⟨_, rfl⟩
      have H3 := Lib.hid (H2.out.drewN nq); have HC3 := Lib.hid (chg_drewN HC2.out nq)
      rw [← hw2] at H3 HC3
      rw [← hw2]
      clear hw2 f0 f1 z1 hcell
      have f0 := H3.out.c0; have f1 := H3.out.c1; have z1 := H3.out.fz 1
      simp only at f0 f1
      have H4 := Lib.hid (H3.out.at1 (at_ + 1) (by rw [HL.out]; omega))
      have HC4 := Lib.hid (chg_set (i := 1) HC3.out (Nat.le_refl _) (by omega) (.int .i64 ((at_ + 1 : Nat) : Int)))
      simp only [Int.natCast_add, Int.cast_ofNat_Int] at H4 HC4
      by_cases h256 : k ≤ 256
      · by_cases hpar : ((at_ : Int) + 1) % 2 = 0
        · have hb1 : (((at_ : Int) + 1) % 2 == 0) = true := by simpa using hpar
          go_wp2_with fail
          obtain ⟨w3, hw3⟩ : ∃ x, x = w2.setCell ⟨g, 1, none⟩ (.int .i64 ((at_ : Int) + 1)) := ⟨_, rfl⟩
          rw [← hw3] at H4 HC4
          rw [← hw3]
          clear hw3 f0 f1 z1
          have f0 := H4.out.c0; have f1 := H4.out.c1
          simp only [Int.natCast_add, Int.cast_ofNat_Int] at f0 f1
          obtain ⟨b', o', c2, hb', hc2, _, _, hcell⟩ := hcode.at_ H4.out.bel hlt
          obtain ⟨rfl, rfl⟩ : b = b' ∧ o = o' := by injection hb' with hb'; injection hb' with e1 e2; exact ⟨e1, e2⟩
          obtain rfl : cc = c2 := by rw [HCC.out] at hc2; injection hc2
          clear hb' hc2
          have HS2 := Lib.hid (show IntKind.i64.wrap ((at_ : Int) + 1 - 1) = (at_ : Int) by rw [IntWalk.i64_in _ (by omega)]; omega)
          have hs := HS2.out
          go_quiet (fail)
          clear hs
          go_wp2_with fail
          go_ret
          have e1 : nextF code (at_, seed) k = (cc % k, (at_ + 1, hz)) := by
            unfold nextF
            rw [if_neg (by omega), if_pos (by rw [HL.out]; exact hlt), if_pos ⟨h256, by simp only; omega⟩, HST.out]
            simp only [List.getD_eq_getElem?_getD]
            rw [HCC.out]; rfl
          rw [e1]
          exact ⟨rfl, H4.out.drewN _, chg_drewN HC4.out _⟩
        · have hb1 : (((at_ : Int) + 1) % 2 == 0) = false := by simpa using hpar
          go_wp2_with fail
          go_ret
          have e1 : nextF code (at_, seed) k = ((hz / 17 + cc) % k, (at_ + 1, hz)) := by
            unfold nextF
            rw [if_neg (by omega), if_pos (by rw [HL.out]; exact hlt), if_neg (by simp only; omega), HST.out]
            simp only [List.getD_eq_getElem?_getD]
            rw [HCC.out]; rfl
          rw [e1]
          exact ⟨rfl, H4.out, HC4.out⟩
      · go_wp2_with fail
        go_ret
        have e1 : nextF code (at_, seed) k = ((hz / 17 + cc) % k, (at_ + 1, hz)) := by
          unfold nextF
          rw [if_neg (by omega), if_pos (by rw [HL.out]; exact hlt), if_neg (by omega), HST.out]
          simp only [List.getD_eq_getElem?_getD]
          rw [HCC.out]; rfl
        rw [e1]
        exact ⟨rfl, H4.out, HC4.out⟩
    · have hd : decide ((at_ : Int) < n) = false := by simpa using hlt
      go_quiet (fail)
      go_wp2_with fail
      go_ret
      have e1 : nextF code (at_, seed) k = (hz / 17 % k, (at_, hz)) := by
        unfold nextF
        rw [if_neg (by omega), if_neg (by rw [HL.out]; exact hlt), HST.out]
      rw [e1]
      exact ⟨rfl, H2.out.drewN _, chg_drewN HC2.out _⟩

/-- A new source. -/
def RetSrc (w0 w : World) (A : Option Addr) (n cap : Nat) (code : List Int) (s : St) (e : Ending) (w' : World) : Prop :=
  ∃ g, e = .returned (.pointer (some ⟨g, 0, none⟩)) ∧ Src w0 w' A n cap code g s ∧ w.heap.size ≤ g ∧ Below w.heap.size w w'
theorem from_any (w0 : World) (A : Option Addr) (n cap : Nat) (code : List Int) (hcode : Code0 w0 A n code) (w : World) (hb : Below w0.heap.size w0 w) :
    Calls Tryz.prog 15 #[.slice A n cap] w (RetSrc w0 w A n cap code (fromF code)) := by
  have HL := Lib.hid hcode.len
  have hn4 := hcode.n4
  have hs0 : Src w0 (w.alloc (.cells #[.slice A n cap, .int .i64 0, .int .i64 61657] 64)) A n cap code w.heap.size (0, 61657) :=
    ⟨heap_alloc_new w _, hb.size, hb.alloc hb.size _, Nat.zero_le _, by decide, by decide⟩
  have hb0 : Below w.heap.size w (w.alloc (.cells #[.slice A n cap, .int .i64 0, .int .i64 61657] 64)) := (Below.refl _ _).alloc (Nat.le_refl _) _
  have HS0 := Lib.hid hs0; have HB0 := Lib.hid hb0
  clear hs0 hb0
  go_enter Tryz.func15, Tryz.ntmps15
  go_wp2_with fail
  go_loopw [4] (fun i wr => ∃ (k : Nat) (seed : Int), k ≤ n ∧ k ≤ 64 ∧ i = .int .i64 k ∧ Src w0 wr A n cap code w.heap.size (0, seed) ∧ fromGo ((code.take 64).drop k) seed = fromGo (code.take 64) 61657 ∧ Below w.heap.size w wr) (fun i _ => n - (intOf i).toNat)
  case atStart => exact ⟨0, 61657, Nat.zero_le _, by omega, rfl, HS0.out, rfl, HB0.out⟩
  case round =>
    clear HS0 HB0
    obtain ⟨k, seed, hk, hk64, rfl, hs, hr, hbl⟩ := hrel
    have HR := Lib.hid hr; clear hr
    obtain ⟨_, hsd0, hsd1⟩ := hs.ok
    simp only at hsd0 hsd1
    have hfin : ¬ (k < n ∧ k < 64) → seed = fromGo (code.take 64) 61657 := by
      intro hn
      rw [← HR.out, List.drop_eq_nil_of_le (by rw [List.length_take, HL.out]; omega)]; rfl
    have HFIN := Lib.hid hfin; clear hfin
    by_cases hlt : k < n
    · by_cases hlt64 : k < 64
      · obtain ⟨b, o, c, rfl, hcc, hc0, hc1, hcell⟩ := hcode.at_ hs.bel hlt
        have hd : (code.take 64).drop k = c :: (code.take 64).drop (k + 1) := by
          obtain ⟨x, h1, h2⟩ := drop_cons (xs := code.take 64) (k := k) (by rw [List.length_take, HL.out]; omega)
          rw [List.getElem?_take, if_pos hlt64, hcc] at h1
          injection h1 with h1
          rw [h2, h1]
        have HD := Lib.hid hd; clear hd hcc
        have f2 := hs.c2; have z2 := hs.fz 2
        simp only at f2
        have h2 := hs.seed ((seed * 53 + c) % 2147483647) (by omega) (by omega)
        have hb2 := hbl.setCell (p := ⟨w.heap.size, 2, none⟩) (Nat.le_refl _) (.int .i64 ((seed * 53 + c) % 2147483647))
        have H2 := Lib.hid h2; have HB2 := Lib.hid hb2
        clear h2 hb2
        go_wp2_with fail
        go_region
        go_wp2_with fail
        go_roundw
        case rel => exact ⟨k + 1, _, by omega, by omega, by go_num, H2.out.drewN 1, by rw [← HR.out, HD.out, fromGo], HB2.out.drew⟩
        case measure => simp [intOf]; omega
      · go_wp2_with fail
        go_ret
        exact ⟨_, rfl, by rw [fromF, ← HFIN.out (by omega)]; exact hs, Nat.le_refl _, hbl⟩
    · go_wp2_with fail
      go_ret
      exact ⟨_, rfl, by rw [fromF, ← HFIN.out (by omega)]; exact hs, Nat.le_refl _, hbl⟩
end Go.Proofs.YtalgdeieejpelaaGreatDoor

/- Walks: the source of numbers beside other memory; the drawn number of boats. -/
namespace Go.Proofs.YtalgdeieejpelaaGreatDoor
open Go.RowKit
set_option linter.unusedVariables false
set_option maxRecDepth 100000

theorem chg_grown {lo hi : Nat} {a w w' : World} {row : Option Nat} (h : Chg lo hi a w) (hg : w.grownBy w' row) (hr : ∀ k, row = some k → a.heap.size ≤ k) : Chg lo hi a w' :=
  ⟨hg.os.trans h.os, hg.tape.trans h.tape, hg.output.trans h.output, Nat.le_trans h.size hg.size, fun k hk hn => (hg.block k (Nat.lt_of_lt_of_le hk h.size) (fun e => by have := hr k e.symm; omega)).trans (h.block k hk hn)⟩
theorem chg_alloc {lo hi : Nat} {a w : World} (h : Chg lo hi a w) (o : Obj) : Chg lo hi a (w.alloc o) := chg_grown h (World.grownBy_alloc w o none) (fun k e => by cases e)
theorem chg_below {lo hi : Nat} {a w w' : World} (h : Chg lo hi a w) (k : Below w.heap.size w w') : Chg lo hi a w' := h.trans (Chg.of_below k)
theorem Src.grown {w0 w w' : World} {A : Option Addr} {n cap : Nat} {code : List Int} {g : Nat} {s : St} {row : Option Nat} (h : Src w0 w A n cap code g s) (hg : w.grownBy w' row) (hr : ∀ k, row = some k → g < k) : Src w0 w' A n cap code g s :=
  ⟨(hg.block g h.lt (fun e => by have := hr g e.symm; omega)).trans h.blk, h.old, h.bel.grown hg h.bel.size (fun k e => by have := hr k e; have := h.old; omega), h.ok⟩
theorem Src.alloc {w0 w : World} {A : Option Addr} {n cap : Nat} {code : List Int} {g : Nat} {s : St} (h : Src w0 w A n cap code g s) (o : Obj) : Src w0 (w.alloc o) A n cap code g s := h.grown (World.grownBy_alloc w o none) (fun k e => by cases e)
theorem own_ne_chg {g : Nat} {w w' : World} {base e s n : Nat} {v : Value} {xs : List Value} (h : w.ownsRow base e s v n xs) (k : Chg g (g + 1) w w') (hb : g < base) : w'.ownsRow base e s v n xs :=
  own_chg h k (fun b hv => by have := (h.lt b hv).1; omega)

theorem boatsD_any (w0 : World) (A : Option Addr) (n cap : Nat) (code : List Int) (hcode : Code0 w0 A n code) (g : Nat) (s : St) (w : World) (h : Src w0 w A n cap code g s) :
    Calls Tryz.prog 98 #[.pointer (some ⟨g, 0, none⟩)] w (RetN w0 w A n cap code g (boatsD code s)) := by
  have e1 : boatsD code s = if (nextF code s 24).1 = 0 then (16 * (nextF code (nextF code s 24).2 2).1, (nextF code (nextF code s 24).2 2).2) else (1 + (nextF code (nextF code s 24).2 6).1, (nextF code (nextF code s 24).2 6).2) := rfl
  rw [e1]; clear e1
  have hn := next_any w0 A n cap code hcode g s 24 (by omega) w h
  generalize nextF code s 24 = r at *
  obtain ⟨v, s1⟩ := r
  have HN := Lib.hid hn; clear hn
  simp only
  by_cases hv : v = 0
  · subst hv
    rw [if_pos rfl]
    have hb := nextF_bd code s1 2 (by omega)
    obtain ⟨hb0, hb1⟩ := hb
    go_enter Tryz.func98, Tryz.ntmps98
    go_wp2_with fail
    refine HN.out.mono ?_
    rintro e w1 ⟨rfl, hs1, hc1⟩
    go_wp2_with fail
    refine (next_any w0 A n cap code hcode g s1 2 (by omega) _ hs1).mono ?_
    rintro e w2 ⟨rfl, hs2, hc2⟩
    go_wp2_with fail
    go_ret
    exact ⟨rfl, hs2, hc1.trans hc2⟩
  · rw [if_neg hv]
    have hne : (v == 0) = false := by simpa using hv
    have hb := nextF_bd code s1 6 (by omega)
    obtain ⟨hb0, hb1⟩ := hb
    clear hv
    go_enter Tryz.func98, Tryz.ntmps98
    go_wp2_with fail
    refine HN.out.mono ?_
    rintro e w1 ⟨rfl, hs1, hc1⟩
    go_wp2_with fail
    refine (next_any w0 A n cap code hcode g s1 6 (by omega) _ hs1).mono ?_
    rintro e w2 ⟨rfl, hs2, hc2⟩
    go_wp2_with fail
    go_ret
    exact ⟨rfl, hs2, hc1.trans hc2⟩
end Go.Proofs.YtalgdeieejpelaaGreatDoor

/- Walks: what stands while something is drawn. -/
namespace Go.Proofs.YtalgdeieejpelaaGreatDoor
open Go.RowKit
set_option linter.unusedVariables false

/-- What stands while something is drawn: the source at g, all else new. -/
structure DS (w0 w W : World) (A : Option Addr) (n cap : Nat) (code : List Int) (g : Nat) (s : St) : Prop where
  src : Src w0 W A n cap code g s
  ch : Chg g (g + 1) w W
  gl : g < w.heap.size
section
variable {w0 w W W' : World} {A : Option Addr} {n cap g : Nat} {code : List Int} {s s' : St}
theorem DS.turn (h : DS w0 w W A n cap code g s) (hs : Src w0 W' A n cap code g s') (hc : Chg g (g + 1) W W') : DS w0 w W' A n cap code g s' := ⟨hs, h.ch.trans hc, h.gl⟩
theorem DS.below (h : DS w0 w W A n cap code g s) (k : Below W.heap.size W W') : DS w0 w W' A n cap code g s := ⟨h.src.below k, h.ch.trans (Chg.of_below k), h.gl⟩
theorem DS.put (h : DS w0 w W A n cap code g s) {b : Nat} (hb : w.heap.size ≤ b) (i : Nat) (v : Value) : DS w0 w (W.setCell ⟨b, i, none⟩ v) A n cap code g s := by
  have hg := h.gl
  refine ⟨h.src.grown (row := some b) (grown_set ⟨rfl, rfl, rfl, Nat.le_refl _, fun _ _ _ => rfl⟩ i v) (fun k e => by injection e with e; omega), ?_, h.gl⟩
  exact ⟨h.ch.os, h.ch.tape, h.ch.output, by simpa [World.setCell] using h.ch.size, fun k hk hn => (Below.heap_setCell _ _ _ _ (by simp; omega)).trans (h.ch.block k hk hn)⟩
theorem DS.puts (vs : List Value) : ∀ {W : World} (h : DS w0 w W A n cap code g s) {b : Nat} (hb : w.heap.size ≤ b) (i : Nat), DS w0 w (putW W b i vs) A n cap code g s := by
  induction vs with
  | nil => intro W h b hb i; exact h
  | cons v r ih => intro W h b hb i; exact ih (h.put hb i v) hb (i + 1)
theorem DS.grown {base e sz m c : Nat} {A1 : Option Addr} {vs : List Value} (h : DS w0 w W A n cap code g s) (ho : W.ownsRow base e sz (.slice A1 m c) m vs) (hb : w.heap.size ≤ base) (hg : W.grownBy W' (Value.slice A1 m c).ownBlock) : DS w0 w W' A n cap code g s :=
  ⟨h.src.grown hg (fun k e => by have := (ho.lt k e).1; have := h.gl; omega), chg_grown h.ch hg (fun k e => by have := (ho.lt k e).1; omega), h.gl⟩
end
theorem Box.z7 {w : World} {b : Nat} {vs : Array Value} {t : TypeId} (h : Box w b vs t) : w.frozen? ⟨b, 0, none⟩ = false ∧ w.frozen? ⟨b, 1, none⟩ = false ∧ w.frozen? ⟨b, 2, none⟩ = false ∧ w.frozen? ⟨b, 3, none⟩ = false ∧ w.frozen? ⟨b, 4, none⟩ = false ∧ w.frozen? ⟨b, 5, none⟩ = false ∧ w.frozen? ⟨b, 6, none⟩ = false :=
  ⟨h.fz, h.fz, h.fz, h.fz, h.fz, h.fz, h.fz⟩
/-- The first k rows of own memory. -/
theorem own_take {w : World} {base e s n c k : Nat} {A : Option Addr} {xs : List Value} (h : w.ownsRow base e s (.slice A n c) n xs) (hk : k ≤ n) : w.ownsRow base e s (.slice A k c) k (xs.take (k * s)) := by
  have hl := h.1
  have hm : k * s ≤ n * s := Nat.mul_le_mul_right s hk
  rcases h.2 with ⟨e1, _⟩ | ⟨g, cap, cur, e1, h1, h2, h3, h4, h5, h6⟩
  · injection e1 with e1 e2 e3
    subst e1; subst e2; subst e3
    obtain rfl : k = 0 := by omega
    simpa using World.ownsRow_nil w base e s
  · injection e1 with e1 e2 e3
    subst e1; subst e3
    refine ⟨by rw [List.length_take, hl]; exact Nat.min_eq_left hm, .inr ⟨g, c, cur, rfl, h1, h2, by omega, h4, h5, ?_⟩⟩
    rw [← h6, List.take_take, Nat.min_eq_left hm]
end Go.Proofs.YtalgdeieejpelaaGreatDoor

/- Plain functions: drawn fleets and rounds: no Go in sight. -/
namespace Go.Proofs.YtalgdeieejpelaaGreatDoor
open Go.RowKit
set_option linter.unusedVariables false

def fleetsGo (code : List Int) (K : Int) : Nat → List Int → St → List Int × St
  | 0, out, s => (out, s)
  | m + 1, out, s => fleetsGo code K m (out ++ [(nextF code s (max 1 K)).1]) (nextF code s (max 1 K)).2
theorem fleetsGo_len (code : List Int) (K : Int) (m : Nat) (out : List Int) (s : St) : (fleetsGo code K m out s).1.length = out.length + m := by
  induction m generalizing out s with
  | zero => rfl
  | succ m ih =>
    unfold fleetsGo
    rw [ih]
    simp only [List.length_append, List.length_cons, List.length_nil]
    omega
/-- The drawn list is spoiled now and then. -/
def spoilF (code : List Int) (K : Int) (r : List Int × St) : List Int × St :=
  if r.1.length = 0 then r
  else if (nextF code r.2 24).1 = 0 then (r.1.set 0 (K - (K + 1) * (nextF code (nextF code r.2 24).2 2).1), (nextF code (nextF code r.2 24).2 2).2)
  else (r.1, (nextF code r.2 24).2)
theorem spoilF_len (code : List Int) (K : Int) (r : List Int × St) : (spoilF code K r).1.length = r.1.length := by
  unfold spoilF
  split
  · rfl
  · split
    · simp
    · rfl
def fleetsD (code : List Int) (K : Int) (N : Nat) (s : St) : List Int × St := spoilF code K (fleetsGo code K N [] s)
theorem fleetsD_len (code : List Int) (K : Int) (N : Nat) (s : St) : (fleetsD code K N s).1.length = N := by
  unfold fleetsD
  rw [spoilF_len, fleetsGo_len]
  simp

def roundsGo1 (code : List Int) (n : Nat) (K : Int) : Nat → List (List Int) → St → List (List Int) × St
  | 0, rows, s => (rows, s)
  | m + 1, rows, s => roundsGo1 code n K m (rows ++ [(fleetsD code K (n + ((nextF code s 40).1 / 39).toNat) (nextF code s 40).2).1]) (fleetsD code K (n + ((nextF code s 40).1 / 39).toNat) (nextF code s 40).2).2
def roundsGo2 (code : List Int) (n : Nat) (K : Int) : Nat → List (List Int) → St → List (List Int) × St
  | 0, rows, s => (rows, s)
  | m + 1, rows, s => roundsGo2 code n K m (rows ++ [(fleetsD code K n s).1]) (fleetsD code K n s).2
def roundsEnd (code : List Int) (n : Nat) (K : Int) (r : List (List Int) × St) : List (List Int) × St :=
  if (nextF code r.2 24).1 = 0 then roundsGo2 code n K (13 - r.1.length) r.1 (nextF code r.2 24).2 else (r.1, (nextF code r.2 24).2)
def roundsD (code : List Int) : List (List Int) × Int :=
  ((roundsEnd code (boatsD code (kD code (fromF code)).2).1.toNat (kD code (fromF code)).1
      (roundsGo1 code (boatsD code (kD code (fromF code)).2).1.toNat (kD code (fromF code)).1
        (nextF code (boatsD code (kD code (fromF code)).2).2 6).1.toNat [] (nextF code (boatsD code (kD code (fromF code)).2).2 6).2)).1,
   (kD code (fromF code)).1)
end Go.Proofs.YtalgdeieejpelaaGreatDoor

/- Walks: the laws' helpers on slices of Finish. -/
namespace Go.Proofs.YtalgdeieejpelaaGreatDoor
open Go.RowKit
set_option linter.unusedVariables false
set_option maxRecDepth 100000

abbrev FinishT := Int × Int × Int
def finC (p : FinishT) : List Value := [.int .i64 p.1, .int .i64 p.2.1, .int .i64 p.2.2]
theorem finC_len (p : FinishT) : (finC p).length = 3 := rfl
def fins (xs : List FinishT) : List Value := xs.flatMap finC
theorem zeroS3 (v : Value) (i : Nat) (h : i < (#[v, v, v] : Array Value).size) : (#[v, v, v] : Array Value)[i]! = v := by
  have : i = 0 ∨ i = 1 ∨ i = 2 := by simp at h; omega
  rcases this with rfl | rfl | rfl <;> rfl
theorem Rd.fin {w : World} {A : Option Addr} {n k : Nat} {xs : List FinishT} (h : Rd w 3 A n (fins xs)) (hk : k < n) :
    ∃ b o x0 x1 x2, A = some ⟨b, o, none⟩ ∧ xs[k]? = some (x0, x1, x2) ∧ xs.drop k = (x0, x1, x2) :: xs.drop (k + 1) ∧ w.cell? ⟨b, o + k * 3, none⟩ = some (.int .i64 x0) ∧ w.cell? ⟨b, o + k * 3 + 1, none⟩ = some (.int .i64 x1) ∧ w.cell? ⟨b, o + k * 3 + 2, none⟩ = some (.int .i64 x2) := by
  obtain ⟨b, o, ⟨x0, x1, x2⟩, e, h1, h2, h3⟩ := Rd.flat finC_len (by decide) h hk
  exact ⟨b, o, x0, x1, x2, e, h1, h2, h3 0 _ rfl, h3 1 _ rfl, h3 2 _ rfl⟩
theorem Rd.len_fin {w : World} {A : Option Addr} {n : Nat} {xs : List FinishT} (h : Rd w 3 A n (fins xs)) : xs.length = n := Rd.len_flat finC_len (by decide) h
theorem own_fin_at {w : World} {base e n c k : Nat} {A : Option Addr} {xs : List FinishT} (h : w.ownsRow base e 3 (.slice A n c) n (fins xs)) (hk : k < n) :
    ∃ g x0 x1 x2, A = some ⟨g, 0, none⟩ ∧ base ≤ g ∧ g < w.heap.size ∧ xs[k]? = some (x0, x1, x2) ∧ xs.drop k = (x0, x1, x2) :: xs.drop (k + 1) ∧ w.cell? ⟨g, k * 3, none⟩ = some (.int .i64 x0) ∧ w.cell? ⟨g, k * 3 + 1, none⟩ = some (.int .i64 x1) ∧ w.cell? ⟨g, k * 3 + 2, none⟩ = some (.int .i64 x2) ∧ w.frozen? ⟨g, k * 3, none⟩ = false ∧ w.frozen? ⟨g, k * 3 + 1, none⟩ = false ∧ w.frozen? ⟨g, k * 3 + 2, none⟩ = false := by
  obtain ⟨g, ⟨x0, x1, x2⟩, e, h1, h2, h3, h4, h5, h6⟩ := own_flat finC_len (by decide) h hk
  exact ⟨g, x0, x1, x2, e, h1, h2, h3, h4, h5 0 _ rfl, h5 1 _ rfl, h5 2 _ rfl, h6 _, h6 _, h6 _⟩
theorem own_fin_set {w : World} {base e g n c k : Nat} {xs : List FinishT} (h : w.ownsRow base e 3 (.slice (some ⟨g, 0, none⟩) n c) n (fins xs)) (hk : k < n) (x0 x1 x2 : Int) :
    (((w.setCell ⟨g, k * 3, none⟩ (.int .i64 x0)).setCell ⟨g, k * 3 + 1, none⟩ (.int .i64 x1)).setCell ⟨g, k * 3 + 2, none⟩ (.int .i64 x2)).ownsRow base e 3 (.slice (some ⟨g, 0, none⟩) n c) n (fins (xs.set k (x0, x1, x2))) := by
  have h1 := own_put (finC (x0, x1, x2)) (k * 3) h
  unfold fins at h1
  rw [flat_put finC_len xs k (x0, x1, x2) (by rw [own_len_flat finC_len (by decide) h]; exact hk)] at h1
  exact h1
theorem Tryz.info_fin : (Tryz.prog.info? 109).map (fun i => (i.zero, i.size, i.bytes)) = some (some (.agg #[.int .i64 0, .int .i64 0, .int .i64 0]), 3, 24) := by kernel_rfl
theorem run_make_fin (n : Nat) (h : n ≤ 1048576) (w : World) :
    (Instr.makeSlice 105 (.int .i64 (n : Int)) (.int .i64 (n : Int))).run Tryz.prog w = .ok (.slice (some ⟨w.heap.size, 0, none⟩) n n) (w.alloc (.cells (madeCells #[.int .i64 0, .int .i64 0, .int .i64 0] (n * 3)) 109)) := by
  obtain ⟨i, hi, hz, hs, hb⟩ := info_parts Tryz.info_fin
  have hr := run_make (P := Tryz.prog) w 105 109 i (.agg #[.int .i64 0, .int .i64 0, .int .i64 0]) Tryz.underlying105 hi hz .i64 .i64 n n (by omega) (by omega) (by rw [hb]; omega) (by omega)
  rw [hs, Int.toNat_natCast] at hr
  exact hr
/-- The copy of such a slice. -/
def RetFinishS (w : World) (xs : List FinishT) (e : Ending) (w' : World) : Prop :=
  ∃ A n c, e = .returned (.slice A n c) ∧ w'.ownsRow w.heap.size 109 3 (.slice A n c) n (fins xs) ∧ n ≤ 1048576 ∧ Below w.heap.size w w'
section
variable {ops : Array Oper} {rest : List Oper} {o : Oper} {a : Act} {K : Act → World → Prop} {Q : Exit → Act → World → Prop} {E : Prop}
theorem app_fin (w : World) (hgd : o.guard = none) (s x : Operand)
    (ho : o.op = .call { callee := .builtin .append, args := #[s, x], argTypes := #[105, 105] }) {base n c : Nat} {A : Option Addr} {xs : List FinishT}
    (hs : a.eval s = .slice A n c) (hown : w.ownsRow base 109 3 (.slice A n c) n (fins xs)) {b : Nat} {x0 x1 x2 : Int} (hx : a.eval x = .slice (some ⟨b, 0, none⟩) 1 1)
    (hc : w.heap[b]? = some (.cells #[.int .i64 x0, .int .i64 x1, .int .i64 x2] 109 (0, 0))) (hn : n ≤ 1099511627776) (hbase : base ≤ w.heap.size)
    (h : ∀ g c' w', w'.ownsRow base 109 3 (.slice (some ⟨g, 0, none⟩) (n + 1) c') (n + 1) (fins (xs ++ [(x0, x1, x2)])) → w.grownBy w' (Value.slice A n c).ownBlock → ((Value.slice A n c).ownBlock = some g ∨ g = w.heap.size) → g < w'.heap.size → wpList Tryz.prog ops Q rest (a.put o.dst (.slice (some ⟨g, 0, none⟩) (n + 1) c')) w') :
    wpList Tryz.prog ops Q (o :: rest) a w := by
  obtain ⟨i, hi, hz, hs1, hb1⟩ := info_parts Tryz.info_fin
  have e : ∀ (ys : List FinishT), fins ys ++ [.int .i64 x0, .int .i64 x1, .int .i64 x2] = fins (ys ++ [(x0, x1, x2)]) := fun ys => by unfold fins; rw [List.flatMap_append]; rfl
  exact wpList_append_lies w hgd s x 105 ho base 109 i (.agg #[.int .i64 0, .int .i64 0, .int .i64 0]) 3 24 Tryz.underlying105 hi hz hs1 hb1 rfl (by decide) (.slice A n c) n (fins xs) hs hown ⟨b, 0, none⟩ 1 1 [.int .i64 x0, .int .i64 x1, .int .i64 x2] hx rfl (World.news_of_block (cs := #[.int .i64 x0, .int .i64 x1, .int .i64 x2]) hc)
    (by intro u hu; simp at hu; rcases hu with rfl | rfl | rfl <;> rfl) (by decide) (by unfold maxLen; omega) (by omega) hbase _ rfl (by rw [e]; exact h)
theorem step_fin (w : World) (hgd : o.guard = none) (s x : Operand)
    (ho : o.op = .call { callee := .builtin .append, args := #[s, x], argTypes := #[105, 105] }) {base n c : Nat} {A : Option Addr} {xs : List FinishT}
    (hs : a.eval s = .slice A n c) (hown : w.ownsRow base 109 3 (.slice A n c) n (fins xs)) {b : Nat} {x0 x1 x2 : Int} (hx : a.eval x = .slice (some ⟨b, 0, none⟩) 1 1)
    (hc : w.heap[b]? = some (.cells #[.int .i64 x0, .int .i64 x1, .int .i64 x2] 109 (0, 0))) (hn : n ≤ 1099511627776) (hbase : base ≤ w.heap.size)
    (h : ∀ g c' w', w'.ownsRow base 109 3 (.slice (some ⟨g, 0, none⟩) (n + 1) c') (n + 1) (fins (xs ++ [(x0, x1, x2)])) → w.grownBy w' (Value.slice A n c).ownBlock → ((Value.slice A n c).ownBlock = some g ∨ g = w.heap.size) → g < w'.heap.size → K (a.put o.dst (.slice (some ⟨g, 0, none⟩) (n + 1) c')) w') :
    if Region.wanted o (yielded ops a.tmps) = true then Oper.wp Tryz.prog o a w K Q else E := by
  obtain ⟨i, hi, hz, hs1, hb1⟩ := info_parts Tryz.info_fin
  have e : ∀ (ys : List FinishT), fins ys ++ [.int .i64 x0, .int .i64 x1, .int .i64 x2] = fins (ys ++ [(x0, x1, x2)]) := fun ys => by unfold fins; rw [List.flatMap_append]; rfl
  exact step_append_lies w hgd s x 105 ho base 109 i (.agg #[.int .i64 0, .int .i64 0, .int .i64 0]) 3 24 Tryz.underlying105 hi hz hs1 hb1 rfl (by decide) (.slice A n c) n (fins xs) hs hown ⟨b, 0, none⟩ 1 1 [.int .i64 x0, .int .i64 x1, .int .i64 x2] hx rfl (World.news_of_block (cs := #[.int .i64 x0, .int .i64 x1, .int .i64 x2]) hc)
    (by intro u hu; simp at hu; rcases hu with rfl | rfl | rfl <;> rfl) (by decide) (by unfold maxLen; omega) (by omega) hbase _ rfl (by rw [e]; exact h)
end
/-- Numbers in a row, 3 an element. -/
def seqfin (k : Int) : Nat → List FinishT
  | 0 => []
  | n + 1 => (k, k + 1, k + 2) :: seqfin (k + 3) n
theorem seqfin_len (k : Int) (n : Nat) : (seqfin k n).length = n := by
  induction n generalizing k with
  | zero => rfl
  | succ n ih => simp [seqfin, ih]
theorem seqfin_snoc (k : Int) (n : Nat) : seqfin k (n + 1) = seqfin k n ++ [(k + 3 * n, k + 3 * n + 1, k + 3 * n + 2)] := by
  induction n generalizing k with
  | zero => simp [seqfin]
  | succ n ih =>
    rw [seqfin, ih, seqfin, List.cons_append]
    congr 3
    simp only [Prod.mk.injEq]
    omega
theorem seqfin_get (k : Int) (n j : Nat) (h : j < n) : (seqfin k n)[j]? = some (k + 3 * (j : Int), k + 3 * (j : Int) + 1, k + 3 * (j : Int) + 2) := by
  induction n generalizing k j with
  | zero => omega
  | succ n ih =>
    cases j with
    | zero => simp [seqfin]
    | succ j =>
      rw [seqfin, List.getElem?_cons_succ, ih _ _ (by omega)]
      simp only [Option.some.injEq, Prod.mk.injEq]
      omega
theorem seqfin_step (k : Int) (j : Nat) (xs : List FinishT) (h : j < xs.length) : (seqfin k j ++ xs.drop j).set j (k + 3 * (j : Int), k + 3 * (j : Int) + 1, k + 3 * (j : Int) + 2) = seqfin k (j + 1) ++ xs.drop (j + 1) := by
  rw [List.set_append, if_neg (by simp [seqfin_len]), seqfin_snoc, List.drop_eq_getElem_cons h, seqfin_len, Nat.sub_self, List.set_cons_zero, List.append_assoc]
  rfl
end Go.Proofs.YtalgdeieejpelaaGreatDoor

/- Plain: finishes, races, places, points of fleets. -/
namespace Go.Proofs.YtalgdeieejpelaaGreatDoor
open Go.RowKit
set_option linter.unusedVariables false

/-- Code and time of a finish fit. -/
def finB (f : FinishT) : Bool := if f.2.1 = 0 then withinB f.2.2 1 1000000000 else withinB f.2.1 1 9 && (f.2.2 == 0)
def isFinB (f : FinishT) : Bool := withinB f.1 0 15 && finB f
def finsGo : Nat → List FinishT → Bool
  | _, [] => true
  | i, f :: r => (f.1 == (i : Int)) && finB f && finsGo (i + 1) r
def raceB (b : Int) (fs : List FinishT) : Bool := withinB b 1 16 && ((fs.length : Int) == b) && finsGo 0 fs
theorem finsGo_at : ∀ {fs : List FinishT} {i : Nat}, finsGo i fs = true → ∀ (k : Nat) (f : FinishT), fs[k]? = some f → f.1 = ((i + k : Nat) : Int) ∧ finB f = true := by
  intro fs
  induction fs with
  | nil => intro i h k f hf; simp at hf
  | cons g r ih =>
    intro i h k f hf
    simp only [finsGo, Bool.and_eq_true, beq_iff_eq] at h
    cases k with
    | zero => simp at hf; subst hf; exact ⟨by simpa using h.1.1, h.1.2⟩
    | succ k =>
      have := ih h.2 k f (by simpa using hf)
      exact ⟨by rw [this.1]; congr 1; omega, this.2⟩
theorem finB_ok {f : FinishT} (h : finB f = true) : 0 ≤ f.2.1 ∧ f.2.1 ≤ 9 ∧ 0 ≤ f.2.2 ∧ f.2.2 ≤ 1000000000 := by
  unfold finB at h
  split at h
  · have := withinB_iff.1 h; omega
  · simp only [Bool.and_eq_true, beq_iff_eq] at h
    have := withinB_iff.1 h.1; omega
/-- What a valid race is. -/
structure RaceOk (b : Int) (fs : List FinishT) : Prop where
  b1 : 1 ≤ b
  b2 : b ≤ 16
  len : (fs.length : Int) = b
  fin : ∀ (k : Nat) (f : FinishT), fs[k]? = some f → f.1 = (k : Int) ∧ finB f = true
theorem raceB_ok {b : Int} {fs : List FinishT} (h : raceB b fs = true) : RaceOk b fs := by
  unfold raceB at h
  simp only [Bool.and_eq_true, beq_iff_eq] at h
  have h1 := withinB_iff.1 h.1.1
  exact ⟨h1.1, h1.2, h.1.2, fun k f hf => by have := finsGo_at h.2 k f hf; simpa using this⟩

/-! ### Places -/
def ltN (t : Int) (fs : List FinishT) : Nat := (fs.filter fun g => g.2.1 == 0 && decide (g.2.2 < t)).length
def eqN (t : Int) (fs : List FinishT) : Nat := (fs.filter fun g => g.2.1 == 0 && (g.2.2 == t)).length
/-- Place and how many share it; 0 and 0 for a boat that has not finished. -/
def placeF (fs : List FinishT) (f : FinishT) : Int × Int := if f.2.1 = 0 then (1 + ltN f.2.2 fs, eqN f.2.2 fs) else (0, 0)
/-- The finishes of a fleet. -/
def ofFleet (fl : Int) : List FinishT → List Int → List FinishT
  | f :: r, x :: l => if x = fl then f :: ofFleet fl r l else ofFleet fl r l
  | _, _ => []
def pointF (largest : Int) (fs : List FinishT) (f : FinishT) : Int :=
  if f.2.1 = 0 then 5 * (2 * (1 + (ltN f.2.2 fs : Int)) + eqN f.2.2 fs - 1) else if f.2.1 = 9 then 0 else 10 * (largest + 1)
def pointsGo (largest : Int) (all : List FinishT) (lst : List Int) : List FinishT → List Int → List Int
  | f :: r, x :: l => pointF largest (ofFleet x all lst) f :: pointsGo largest all lst r l
  | _, _ => []
def largestF (xs : List Int) : Int := xs.foldl max 0
def fleetPointsF (fs : List FinishT) (list : List Int) (k : Int) : List Int × Int :=
  if fleetsCodeF list k = 0 then (if raceB (list.length : Int) fs = true then (pointsGo (largestF (countF list (List.replicate k.toNat 0))) fs list fs list, 0) else ([], 5)) else ([], fleetsCodeF list k)
theorem ofFleet_len (fl : Int) : ∀ (fs : List FinishT) (l : List Int), (ofFleet fl fs l).length ≤ fs.length := by
  intro fs
  induction fs with
  | nil => intro l; simp [ofFleet]
  | cons f r ih =>
    intro l
    cases l with
    | nil => simp [ofFleet]
    | cons x l =>
      have := ih l
      unfold ofFleet
      split
      · simp; omega
      · simp; omega
theorem ltN_le (t : Int) (fs : List FinishT) : ltN t fs ≤ fs.length := List.length_filter_le _ _
theorem eqN_le (t : Int) (fs : List FinishT) : eqN t fs ≤ fs.length := List.length_filter_le _ _
end Go.Proofs.YtalgdeieejpelaaGreatDoor

/- Plain functions: drawn races: no Go in sight. -/
namespace Go.Proofs.YtalgdeieejpelaaGreatDoor
open Go.RowKit
set_option linter.unusedVariables false

/-- One finish is drawn. -/
def finX (code : List Int) (N : Int) (i : Nat) (s : St) : FinishT × St :=
  if (nextF code (nextF code s (2 * N)).2 4).1 = 0 then (((i : Int), 1 + (nextF code (nextF code (nextF code s (2 * N)).2 4).2 9).1, 0), (nextF code (nextF code (nextF code s (2 * N)).2 4).2 9).2)
  else (((i : Int), 0, 1 + (nextF code s (2 * N)).1), (nextF code (nextF code s (2 * N)).2 4).2)
def raceGo (code : List Int) (N : Int) : Nat → Nat → List FinishT → St → List FinishT × St
  | 0, _, out, s => (out, s)
  | m + 1, i, out, s => raceGo code N m (i + 1) (out ++ [(finX code N i s).1]) (finX code N i s).2
def raceD (code : List Int) (N : Nat) (s : St) : List FinishT × St := raceGo code (N : Int) N 0 [] s
theorem raceGo_len (code : List Int) (N : Int) (m i : Nat) (out : List FinishT) (s : St) : (raceGo code N m i out s).1.length = out.length + m := by
  induction m generalizing i out s with
  | zero => rfl
  | succ m ih =>
    unfold raceGo
    rw [ih]
    simp only [List.length_append, List.length_cons, List.length_nil]
    omega
theorem raceD_len (code : List Int) (N : Nat) (s : St) : (raceD code N s).1.length = N := by unfold raceD; rw [raceGo_len]; simp
/-- A finish is spoiled now and then: t tells how. -/
def spoilFin (t n v : Int) (f : FinishT) : FinishT :=
  if t = 0 then (f.1, f.2.1, 0) else if t = 1 then (f.1, 10 * v, f.2.2) else if t = 2 then (n, f.2.1, f.2.2) else if t = 3 then (f.1, f.2.1, 1000000000 + v) else f
def spoilRace (code : List Int) (n : Nat) (r : List FinishT × St) : List FinishT × St :=
  if n < 1 then r
  else
    let a := nextF code r.2 (n : Int)
    let b := nextF code a.2 24
    let c := if b.1 = 1 ∨ b.1 = 3 then nextF code b.2 2 else (0, b.2)
    (r.1.set a.1.toNat (spoilFin b.1 n c.1 (r.1.getD a.1.toNat (0, 0, 0))), c.2)
def anyRaceD (code : List Int) (n : Nat) (s : St) : List FinishT × St := spoilRace code n (raceD code n s)
theorem anyRaceD_len (code : List Int) (n : Nat) (s : St) : (anyRaceD code n s).1.length = n := by
  unfold anyRaceD spoilRace
  split
  · exact raceD_len _ _ _
  · simp only [List.length_set]; exact raceD_len _ _ _
/-- What DrawFleetPoints draws: the race, the fleets, their number. -/
def fleetPtsD (code : List Int) : List FinishT × List Int × Int :=
  let k := kD code (fromF code)
  let n := boatsD code k.2
  let r := anyRaceD code n.1.toNat n.2
  let e := nextF code r.2 24
  (r.1, (fleetsD code k.1 (n.1 + e.1 / 23).toNat e.2).1, k.1)
end Go.Proofs.YtalgdeieejpelaaGreatDoor

/- Walks: the laws' helpers on races: size, copy, compare, mark. -/
namespace Go.Proofs.YtalgdeieejpelaaGreatDoor
open Go.RowKit
set_option linter.unusedVariables false
set_option maxRecDepth 100000

theorem Box.l1 {w : World} {b : Nat} {x : Value} {t : TypeId} (h : Box w b #[x] t) : w.cell? ⟨b, 0, none⟩ = some x ∧ w.frozen? ⟨b, 0, none⟩ = false ∧ b < w.heap.size := ⟨h.cell rfl, h.fz, h.lt⟩
/-- The copy of a race. -/
def RetRace (w : World) (fs : List FinishT) (e : Ending) (w' : World) : Prop :=
  ∃ A n c, e = .returned (.agg #[.slice A n c]) ∧ w'.ownsRow w.heap.size 109 3 (.slice A n c) n (fins fs) ∧ n ≤ 1048576 ∧ Below w.heap.size w w'
end Go.Proofs.YtalgdeieejpelaaGreatDoor

/- Plain: entries, registers, histories. -/
namespace Go.Proofs.YtalgdeieejpelaaGreatDoor
open Go.RowKit
set_option linter.unusedVariables false

def isRedB (kind points : Int) : Bool := if kind = 3 then withinB points 0 10000 else withinB kind 1 2 && (points == 0)
namespace E
abbrev race (x : EntryT) : Int := x.1
abbrev boat (x : EntryT) : Int := x.2.1
abbrev rev (x : EntryT) : Int := x.2.2.1
abbrev code (x : EntryT) : Int := x.2.2.2.1
abbrev time (x : EntryT) : Int := x.2.2.2.2.1
abbrev kind (x : EntryT) : Int := x.2.2.2.2.2.1
abbrev points (x : EntryT) : Int := x.2.2.2.2.2.2
end E
/-- An entry is valid but for its revision. -/
def entB (b : Int) (x : EntryT) : Bool := withinB (E.race x) 0 11 && withinB (E.boat x) 0 (b - 1) && finB (E.boat x, E.code x, E.time x) && (if E.kind x = 0 then (E.points x == 0) else (E.code x == 9) && isRedB (E.kind x) (E.points x))
def revB (n : Int) : Bool := withinB n 1 1000
def sameB (x y : EntryT) : Bool := E.race x == E.race y && E.boat x == E.boat y && E.rev x == E.rev y
def hasB (xs : List EntryT) (x : EntryT) : Bool := xs.any fun y => sameB y x
/-- All valid, none with the key of an earlier one. -/
def entsGo (b : Int) : List EntryT → List EntryT → Bool
  | _, [] => true
  | seen, x :: r => entB b x && revB (E.rev x) && !hasB seen x && entsGo b (seen ++ [x]) r
def regB (b s : Int) (xs : List EntryT) : Bool := withinB b 1 16 && withinB s 0 1 && decide (xs.length ≤ 400) && entsGo b [] xs
/-- What a valid register is. -/
structure RegOk (b s : Int) (xs : List EntryT) : Prop where
  b1 : 1 ≤ b
  b2 : b ≤ 16
  s0 : 0 ≤ s
  s1 : s ≤ 1
  len : xs.length ≤ 400
  ent : ∀ x ∈ xs, entB b x = true ∧ 1 ≤ E.rev x ∧ E.rev x ≤ 1000
  key : xs.Pairwise fun x y => sameB x y = false
theorem sameB_iff {x y : EntryT} : sameB x y = true ↔ E.race x = E.race y ∧ E.boat x = E.boat y ∧ E.rev x = E.rev y := by
  unfold sameB
  simp [and_assoc]
theorem entsGo_iff (b : Int) : ∀ (xs seen : List EntryT), entsGo b seen xs = true ↔ (∀ x ∈ xs, entB b x = true ∧ revB (E.rev x) = true) ∧ (∀ x ∈ xs, ∀ y ∈ seen, sameB y x = false) ∧ xs.Pairwise fun x y => sameB x y = false := by
  intro xs
  induction xs with
  | nil => intro seen; simp [entsGo]
  | cons x r ih =>
    intro seen
    rw [entsGo, Bool.and_eq_true, ih, List.pairwise_cons]
    have hh : (!hasB seen x) = true ↔ ∀ y ∈ seen, sameB y x = false := by
      unfold hasB
      simp [List.any_eq_false]
    simp only [Bool.and_eq_true, hh, List.mem_append, List.mem_cons, List.not_mem_nil, or_false]
    constructor
    · rintro ⟨⟨⟨h1, h2⟩, h3⟩, h4, h5, h6⟩
      refine ⟨fun y hy => ?_, fun y hy z hz => ?_, fun y hy => h5 y hy x (.inr rfl), h6⟩
      · rcases hy with rfl | hy
        · exact ⟨h1, h2⟩
        · exact h4 y hy
      · rcases hy with rfl | hy
        · exact h3 z hz
        · exact h5 y hy z (.inl hz)
    · rintro ⟨h1, h2, h3, h4⟩
      refine ⟨⟨h1 x (.inl rfl), h2 x (.inl rfl)⟩, fun y hy => h1 y (.inr hy), fun y hy z hz => ?_, h4⟩
      rcases hz with hz | rfl
      · exact h2 y (.inr hy) z hz
      · exact h3 y hy
theorem regB_ok {b s : Int} {xs : List EntryT} (h : regB b s xs = true) : RegOk b s xs := by
  unfold regB at h
  simp only [Bool.and_eq_true, decide_eq_true_eq] at h
  obtain ⟨⟨⟨h1, h2⟩, h3⟩, h4⟩ := h
  have hb := withinB_iff.1 h1
  have hs := withinB_iff.1 h2
  obtain ⟨a, _, c⟩ := (entsGo_iff b xs []).1 h4
  exact ⟨hb.1, hb.2, hs.1, hs.2, h3, fun x hx => ⟨(a x hx).1, withinB_iff.1 (a x hx).2⟩, c⟩
theorem RegOk.regB {b s : Int} {xs : List EntryT} (h : RegOk b s xs) : regB b s xs = true := by
  unfold Go.Proofs.YtalgdeieejpelaaGreatDoor.regB
  rw [withinB_iff.2 ⟨h.b1, h.b2⟩, withinB_iff.2 ⟨h.s0, h.s1⟩, decide_eq_true h.len, (entsGo_iff b xs []).2 ⟨fun x hx => ⟨(h.ent x hx).1, withinB_iff.2 (h.ent x hx).2⟩, fun x hx y hy => (by cases hy), h.key⟩]
  rfl

/-! ### Histories -/
/-- x is put behind the last entry with a revision that is not greater. -/
def putE (x : EntryT) : List EntryT → List EntryT
  | [] => [x]
  | y :: r => if (y :: r).all (fun z => decide (E.rev x < E.rev z)) = true then x :: y :: r else y :: putE x r
def ofKey (race boat : Int) (xs : List EntryT) : List EntryT := xs.filter fun x => E.race x == race && E.boat x == boat
/-- The sorted list with the same entries. -/
def histF (xs : List EntryT) (race boat : Int) : List EntryT := (ofKey race boat xs).mergeSort fun x y => decide (E.rev x ≤ E.rev y)
/-- Two sorted lists with the same elements are one, if no two elements have one revision. -/
theorem sorted_uniq {xs ys : List EntryT} (hp : xs.Perm ys) (h1 : xs.Pairwise fun x y => E.rev x < E.rev y) (h2 : ys.Pairwise fun x y => E.rev x < E.rev y) : xs = ys :=
  hp.eq_of_pairwise (fun a b _ _ h h' => by omega) h1 h2
end Go.Proofs.YtalgdeieejpelaaGreatDoor

/- Walks: entries compared, the program: their keys, their order. -/
namespace Go.Proofs.YtalgdeieejpelaaGreatDoor
open Go.RowKit Go.Sort
set_option linter.unusedVariables false
set_option maxRecDepth 100000

def sgn (n : Int) : Int := if n < 0 then -1 else if n = 0 then 0 else 1
theorem sign_any (n : Int) (w : World) : Calls Tryz.prog 60 #[.int .i64 n] w fun e w' => e = .returned (.int .i64 (sgn n)) ∧ w = w' := by
  unfold sgn
  rcases (by omega : n < 0 ∨ n = 0 ∨ 0 < n) with h | h | h
  · rw [if_pos h]
    go_enter Tryz.func60, Tryz.ntmps60
    go_wp2_with fail
    go_ret
    refine ⟨ret_int ?_, rfl⟩
    first | omega | rfl | (simp <;> omega)
  · subst h
    go_enter Tryz.func60, Tryz.ntmps60
    go_wp2_with fail
    go_ret
    exact ⟨rfl, rfl⟩
  · rw [if_neg (by omega), if_neg (by omega)]
    go_enter Tryz.func60, Tryz.ntmps60
    go_wp2_with fail
    go_ret
    refine ⟨ret_int ?_, rfl⟩
    first | omega | rfl | (simp <;> omega)

/-- Race, boat and revision of a valid entry. -/
def okE (x : EntryT) : Prop := 0 ≤ E.race x ∧ E.race x ≤ 11 ∧ 0 ≤ E.boat x ∧ E.boat x ≤ 15 ∧ 1 ≤ E.rev x ∧ E.rev x ≤ 1000
def keyE (x : EntryT) : Int := 1000000 * E.race x + 10000 * E.boat x + E.rev x
theorem key_same {x y : EntryT} (hx : okE x) (hy : okE y) : keyE x = keyE y ↔ sameB x y = true := by
  obtain ⟨a1, a2, a3, a4, a5, a6⟩ := hx
  obtain ⟨b1, b2, b3, b4, b5, b6⟩ := hy
  unfold keyE
  rw [sameB_iff]
  constructor
  · intro h; omega
  · rintro ⟨h1, h2, h3⟩; omega
theorem entB_okE {b : Int} {x : EntryT} (hb : b ≤ 16) (h : entB b x = true) (h1 : 1 ≤ E.rev x) (h2 : E.rev x ≤ 1000) : okE x := by
  unfold entB at h
  simp only [Bool.and_eq_true] at h
  have r := withinB_iff.1 h.1.1.1
  have q := withinB_iff.1 h.1.1.2
  exact ⟨r.1, r.2, q.1, by omega, h1, h2⟩
end Go.Proofs.YtalgdeieejpelaaGreatDoor

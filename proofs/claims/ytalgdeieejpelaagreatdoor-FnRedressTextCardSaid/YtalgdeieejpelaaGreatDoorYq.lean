/- Walks: drawn tables. -/
import Derived.Test.YtalgdeieejpelaaGreatDoorZmi
import Derived.Test.YtalgdeieejpelaaGreatDoorYo
import Derived.Test.YtalgdeieejpelaaGreatDoorZmg
import Derived.IntWalk
namespace Go.Proofs.YtalgdeieejpelaaGreatDoor
open Go.RowKit Go.Sort
set_option linter.unusedVariables false
set_option maxRecDepth 100000

/-- What stands while the series' finishes are turned. -/
structure QS (w0 w W : World) (A : Option Addr) (n cap : Nat) (code : List Int) (g : Nat) (vb : Nat) (b sc : Int) (A' : Option Addr) (m c : Nat) (vs : List Value) (s : St) (rows : List (List FinishT)) : Prop where
  d : DS w0 w W A n cap code g s
  bx : Box W w.heap.size #[.int .i64 0, .slice none 0 0, .slice none 0 0] 33
  vx : Box W vb #[.int .i64 b, .int .i64 sc, .slice A' m c] 103
  vl : w.heap.size < vb
  ow : OwnRaces W (w.heap.size + 1) 107 109 A' m c vs rows
section
variable {w0 w W W' : World} {A A' : Option Addr} {n cap g m c vb : Nat} {code : List Int} {s s' : St} {rows : List (List FinishT)} {b sc : Int} {vs : List Value}
theorem QS.turn (h : QS w0 w W A n cap code g vb b sc A' m c vs s rows) (hs : Src w0 W' A n cap code g s') (hc : Chg g (g + 1) W W') : QS w0 w W' A n cap code g vb b sc A' m c vs s' rows :=
  ⟨h.d.turn hs hc, h.bx.chg hc (.inr h.d.gl), h.vx.chg hc (.inr (by have := h.d.gl; have := h.vl; omega)), h.vl, races_ne_chg h.ow hc (by have := h.d.gl; omega)⟩
theorem QS.below (h : QS w0 w W A n cap code g vb b sc A' m c vs s rows) (k : Below W.heap.size W W') : QS w0 w W' A n cap code g vb b sc A' m c vs s rows := ⟨h.d.below k, h.bx.below k, h.vx.below k, h.vl, h.ow.below k⟩
/-- One finish is written. -/
theorem QS.upd {k j gr c' : Nat} {xs : List FinishT} (h : QS w0 w W A n cap code g vb b sc A' m c vs s rows) (hk : vs[k]? = some (.slice (some ⟨gr, 0, none⟩) xs.length c')) (hx : rows[k]? = some xs) (hj : j < xs.length) (x0 x1 x2 : Int) :
    QS w0 w (((W.setCell ⟨gr, j * 3, none⟩ (.int .i64 x0)).setCell ⟨gr, j * 3 + 1, none⟩ (.int .i64 x1)).setCell ⟨gr, j * 3 + 2, none⟩ (.int .i64 x2)) A n cap code g vb b sc A' m c vs s (rows.set k (xs.set j (x0, x1, x2))) := by
  obtain ⟨A0, c0, e, ho⟩ := h.ow.row k _ _ hk hx
  injection e with e _ e2
  subst e; subst e2
  have hgr := put_grown (g := gr) [.int .i64 x0, .int .i64 x1, .int .i64 x2] (j * 3) (World.grownBy.refl W (some gr))
  exact ⟨h.d.grown ho (by omega) hgr, h.bx.grown hgr (own_box_ne1 ho h.bx (by decide)), h.vx.grown hgr (own_box_ne1 ho h.vx (by decide)), h.vl, h.ow.upd (by decide) hk hx (by simp) hgr (by rw [List.length_set]; exact own_fin_set ho hj x0 x1 x2)⟩
end
/-- What stands while the table's places are spoiled. -/
structure TS (w0 w W : World) (A : Option Addr) (n cap : Nat) (code : List Int) (g : Nat) (tb : Nat) (P : Option Addr) (np cp : Nat) (vs : List Value) (C : Option Addr) (nc dc : Nat) (us : List Value) (s : St) (T : Tb) : Prop where
  d : DS w0 w W A n cap code g s
  bx : Box W w.heap.size #[.int .i64 0, .slice none 0 0, .slice none 0 0] 33
  tx : Box W tb #[.int .i64 T.boats, .slice P np cp, .slice C nc dc] 33
  tl : w.heap.size < tb
  ot : OwnT W (w.heap.size + 1) P np cp vs C nc dc us T
section
variable {w0 w W W' : World} {A P C : Option Addr} {n cap g np cp nc dc tb : Nat} {code : List Int} {s s' : St} {T : Tb} {vs us : List Value}
theorem TS.turn (h : TS w0 w W A n cap code g tb P np cp vs C nc dc us s T) (hs : Src w0 W' A n cap code g s') (hc : Chg g (g + 1) W W') : TS w0 w W' A n cap code g tb P np cp vs C nc dc us s' T :=
  ⟨h.d.turn hs hc, h.bx.chg hc (.inr h.d.gl), h.tx.chg hc (.inr (by have := h.d.gl; have := h.tl; omega)), h.tl, h.ot.chg hc h.ot.in_ (.inr (by have := h.d.gl; omega))⟩
theorem TS.below (h : TS w0 w W A n cap code g tb P np cp vs C nc dc us s T) (k : Below W.heap.size W W') : TS w0 w W' A n cap code g tb P np cp vs C nc dc us s T := ⟨h.d.below k, h.bx.below k, h.tx.below k, h.tl, h.ot.below k⟩
theorem TS.set1 {rc bt gr cr : Nat} {row : List Int} (h : TS w0 w W A n cap code g tb P np cp vs C nc dc us s T) (hr : T.pts[rc]? = some row) (hv : vs[rc]? = some (.slice (some ⟨gr, 0, none⟩) row.length cr)) (x : Int) : TS w0 w (W.setCell ⟨gr, bt, none⟩ (.int .i64 x)) A n cap code g tb P np cp vs C nc dc us s ⟨T.boats, setRC T.pts rc bt x, T.cds⟩ := by
  obtain ⟨A0, c0, e, ho⟩ := h.ot.pts.row rc _ _ hv hr
  have hgb := (ho.lt gr rfl).1
  have hb1 := own_box_ne1 ho h.bx (by decide)
  have hb2 := own_box_ne1 ho h.tx (by decide)
  exact ⟨h.d.put (by omega) _ _, h.bx.other (fun e => hb1 (by rw [e]; rfl)) _, h.tx.other (fun e => hb2 (by rw [e]; rfl)) _, h.tl, h.ot.setRC hr hv x⟩
theorem TS.set2 {rc bt gr cr : Nat} {row : List Int} (h : TS w0 w W A n cap code g tb P np cp vs C nc dc us s T) (hr : T.cds[rc]? = some row) (hv : us[rc]? = some (.slice (some ⟨gr, 0, none⟩) row.length cr)) (x : Int) : TS w0 w (W.setCell ⟨gr, bt, none⟩ (.int .i64 x)) A n cap code g tb P np cp vs C nc dc us s ⟨T.boats, T.pts, setRC T.cds rc bt x⟩ := by
  obtain ⟨A0, c0, e, ho⟩ := h.ot.cds.row rc _ _ hv hr
  have hgb := (ho.lt gr rfl).1
  have hb1 := own_box_ne1 ho h.bx (by decide)
  have hb2 := own_box_ne1 ho h.tx (by decide)
  exact ⟨h.d.put (by omega) _ _, h.bx.other (fun e => hb1 (by rw [e]; rfl)) _, h.tx.other (fun e => hb2 (by rw [e]; rfl)) _, h.tl, h.ot.setRC2 hr hv x⟩
theorem TS.done (h : TS w0 w W A n cap code g tb P np cp vs C nc dc us s T) : RetTD w0 w A n cap code g (T, s) (.returned (.agg #[.int .i64 T.boats, .slice P np cp, .slice C nc dc])) (putW W w.heap.size 0 [.int .i64 T.boats, .slice P np cp, .slice C nc dc]) := by
  have hxl := h.bx.lt
  have hput := put_chg (g := w.heap.size) [.int .i64 T.boats, .slice P np cp, .slice C nc dc] 0 (Chg.refl w.heap.size (w.heap.size + 1) W) (Nat.le_refl _) (by omega)
  have hd := h.d.puts [.int .i64 T.boats, .slice P np cp, .slice C nc dc] (b := w.heap.size) (Nat.le_refl _) 0
  have ho := h.ot.chg hput h.ot.in_ (.inr (Nat.le_refl _))
  exact ⟨_, _, _, _, _, _, rfl, ho.krd (by omega), fun _ => ⟨_, _, ho.base' (by omega)⟩, hd.src, hd.ch⟩
theorem not_tab {T : Tb} {k : Nat} {p c : List Int} (hp : T.pts[k]? = some p) (hc : T.cds[k]? = some c) (h : (p.length : Int) ≠ T.boats) : tableB T = true → False := fun ht => h ((tableB_ok ht).row k p c hp hc).1.1
/-- A row of points loses its first place. -/
theorem TS.cut1 {i gA gr cr z : Nat} {y : Int} {row : List Int} {o : Addr} (h : TS w0 w W A n cap code g tb (some ⟨gA, 0, none⟩) np cp vs C nc dc us s T) (hr : T.pts[i]? = some (y :: row)) (hv : vs[i]? = some (.slice (some ⟨gr, 0, none⟩) (y :: row).length cr)) (hbl : ((y :: row).length : Int) = T.boats) (hcl : T.cds.length = T.pts.length) (ho : o = ⟨gr, 1, none⟩ ∨ row = []) :
    RetTD w0 w A n cap code g (⟨T.boats, T.pts.set i row, T.cds⟩, s) (.returned (.agg #[.int .i64 T.boats, .slice (some ⟨gA, 0, none⟩) np cp, .slice C nc dc])) (putW (W.setCell ⟨gA, i, none⟩ (.slice (some o) row.length z)) w.heap.size 0 [.int .i64 T.boats, .slice (some ⟨gA, 0, none⟩) np cp, .slice C nc dc]) := by
  have hxl := h.bx.lt
  have hga := h.ot.pts.outer.lt gA rfl
  have hd := (h.d.put (b := gA) (by omega) i (.slice (some o) row.length z)).puts [.int .i64 T.boats, .slice (some ⟨gA, 0, none⟩) np cp, .slice C nc dc] (b := w.heap.size) (Nat.le_refl _) 0
  have hk := h.ot.cut_row (lo := w.heap.size + 1) (Nat.le_refl _) hr hv z o ho
  have hput := put_chg (g := w.heap.size) [.int .i64 T.boats, .slice (some ⟨gA, 0, none⟩) np cp, .slice C nc dc] 0 (Chg.refl w.heap.size (w.heap.size + 1) (W.setCell ⟨gA, i, none⟩ (.slice (some o) row.length z))) (Nat.le_refl _) (by omega)
  have hil := (List.getElem?_eq_some_iff.1 hr).1
  obtain ⟨c, hc, _⟩ := drop_cons (xs := T.cds) (k := i) (by omega)
  refine ⟨_, _, _, _, _, _, rfl, (hk.turn (chg_wide hput (Nat.zero_le _) (Nat.le_refl _))).less (by omega), fun ht => (not_tab (T := ⟨T.boats, T.pts.set i row, T.cds⟩) (k := i) (p := row) (c := c) (by simp only; rw [List.getElem?_set_self hil]) hc (by simp only; simp at hbl; omega) ht).elim, hd.src, hd.ch⟩
/-- The codes lose their first row. -/
theorem TS.cut2 {gC z : Nat} {o : Addr} (h : TS w0 w W A n cap code g tb P np cp vs (some ⟨gC, 0, none⟩) nc dc us s T) (hnc : 0 < nc) (hcl : T.cds.length = T.pts.length) (ho : o = ⟨gC, 1, none⟩ ∨ nc = 1) :
    RetTD w0 w A n cap code g (⟨T.boats, T.pts, T.cds.drop 1⟩, s) (.returned (.agg #[.int .i64 T.boats, .slice P np cp, .slice (some o) (nc - 1) z])) (putW (W.setCell ⟨tb, 2, none⟩ (.slice (some o) (nc - 1) z)) w.heap.size 0 [.int .i64 T.boats, .slice P np cp, .slice (some o) (nc - 1) z]) := by
  have hxl := h.bx.lt
  have htl := h.tl
  have hd := (h.d.put (b := tb) (by omega) 2 (.slice (some o) (nc - 1) z)).puts [.int .i64 T.boats, .slice P np cp, .slice (some o) (nc - 1) z] (b := w.heap.size) (Nat.le_refl _) 0
  have hk := (h.ot.boxSet (i := 2) h.tx (by decide) (by decide) (.slice (some o) (nc - 1) z)).cut_cds (lo := w.heap.size + 1) (Nat.le_refl _) hnc o ho
  have hput := put_chg (g := w.heap.size) [.int .i64 T.boats, .slice P np cp, .slice (some o) (nc - 1) z] 0 (Chg.refl w.heap.size (w.heap.size + 1) (W.setCell ⟨tb, 2, none⟩ (.slice (some o) (nc - 1) z))) (Nat.le_refl _) (by omega)
  refine ⟨_, _, _, _, _, _, rfl, (hk.turn (chg_wide hput (Nat.zero_le _) (Nat.le_refl _))).less (by omega), fun ht => ?_, hd.src, hd.ch⟩
  have h1 := (tableB_ok ht).same
  have h2 := h.ot.cds.len
  simp only [List.length_drop] at h1
  omega
end
theorem tabX_parts (code : List Int) (s : St) : ∃ v r t, v = serX code s ∧ r = rdgGo code v.1.2.2.length 0 v.1.2.2 v.2 ∧ t = tabV (v.1.1, v.1.2.1, r.1) ∧ tabX code s =
    (if t.pts.length = 0 ∨ t.boats = 0 then (t, r.2) else spoilT code t (nextF code r.2 (t.pts.length : Int)).1.toNat (nextF code (nextF code r.2 (t.pts.length : Int)).2 t.boats).1.toNat (nextF code (nextF code (nextF code r.2 (t.pts.length : Int)).2 t.boats).2 20)) := ⟨_, _, _, rfl, rfl, rfl, rfl⟩
theorem rdgRow_len (code : List Int) : ∀ (m k : Nat) (row : List FinishT) (s : St), (rdgRow code m k row s).1.length = row.length := by
  intro m
  induction m with
  | zero => intro k row s; rfl
  | succ m ih => intro k row s; unfold rdgRow; rw [ih]; simp
set_option maxHeartbeats 4000000 in
theorem tabX_any (w0 : World) (A : Option Addr) (n cap : Nat) (code : List Int) (hcode : Code0 w0 A n code) (g : Nat) (s : St) (w : World) (h : Src w0 w A n cap code g s) :
    Calls Tryz.prog 56 #[.pointer (some ⟨g, 0, none⟩)] w (RetTD w0 w A n cap code g (tabX code s)) := by
  have hgl := h.lt
  have HNX := Lib.hid (fun s k hk w' h => next_any w0 A n cap code hcode g s k hk w' h)
  have HSX := Lib.hid (fun w' h => serX_any w0 A n cap code hcode g s w' h)
  have hbd := serX_bd code s
  obtain ⟨v, r, t, hv, hr, ht, ex⟩ := tabX_parts code s
  rw [← hv] at hbd HSX
  generalize tabX code s = X at *
  obtain ⟨⟨b, sc, rows⟩, s1⟩ := v
  simp only at hbd hr ht
  have HR := Lib.hid hr.symm
  have HTE := Lib.hid ht
  have HEX := Lib.hid ex
  have HBD := Lib.hid hbd.2
  have hm13 := hbd.1
  clear hv hr ht ex hbd
  obtain ⟨wa, hwa, XR, hba, hsa⟩ := one_box w #[.int .i64 0, .slice none 0 0, .slice none 0 0] 33
  have HD0 := Lib.hid (DS.below (w := w) ⟨h, Chg.refl _ _ _, hgl⟩ hba)
  have HX0 := Lib.hid XR
  have hza : wa.heap.size = w.heap.size + 1 := hsa
  clear h hba XR hsa
  go_enter Tryz.func56, Tryz.ntmps56
  go_wp2_with fail
  rw [← hwa]
  clear hwa
  refine (HSX.out _ HD0.out.src).mono ?_
  rintro e w1 ⟨A', m, c, vs, rfl, ho1, hs, hc⟩
  have HD1 := Lib.hid (HD0.out.turn hs hc)
  have HX1 := Lib.hid (HX0.out.chg hc (.inr (by omega)))
  have hml := ho1.len
  simp only at hml ho1
  obtain ⟨wv, hwv, XV, hbv, hsv⟩ := one_box w1 #[.int .i64 b, .int .i64 sc, .slice A' m c] 103
  have hz1 := HX1.out.lt
  have HS0 := Lib.hid (show QS w0 w wv A n cap code g w1.heap.size b sc A' m c vs s1 rows from ⟨HD1.out.below hbv, HX1.out.below hbv, XV, hz1, (ho1.base' (by omega)).below hbv⟩)
  obtain ⟨vb, hvb⟩ : ∃ vb, vb = w1.heap.size := ⟨_, rfl⟩
  rw [← hvb] at HS0
  have HVB := Lib.hid hvb
  have HWV := Lib.hid hwv
  have HML := Lib.hid hml
  have hm12 : m ≤ 13 := by omega
  clear hs hc HSX HD0 HX0 HD1 HX1 hbv XV ho1 hwv hvb hsv hza
  simp only
  go_wp2_with fail
  rw [← HWV.out]
  (try rw [← HVB.out])
  clear HWV
  (try go_wp2_with fail)
  rw [HML.out] at HR
  go_loopw [4] (fun i wr => ∃ (q : Nat) (rows2 : List (List FinishT)) (s' : St), q ≤ m ∧ i = .int .i64 q ∧ Hid (rdgGo code (m - q) q rows2 s' = r) ∧ Hid (∀ x ∈ rows2, x.length ≤ 17) ∧ Hid (QS w0 w wr A n cap code g vb b sc A' m c vs s' rows2)) (fun i _ => m - (intOf i).toNat)
  case atStart => exact ⟨0, rows, s1, Nat.zero_le _, rfl, HR, HBD, HS0⟩
  case round =>
    clear HR HS0 HBD
    obtain ⟨q, rows2, s', hq, rfl, HR, HBD, HS⟩ := hrel
    obtain ⟨wo, hwo⟩ : ∃ wo : World, wo = wr := ⟨_, rfl⟩
    subst hwo
    have FV := HS.out.vx.f3
    by_cases hlt : q < m
    · obtain ⟨v, A2, c2, xs, hvq, hxq, _, rfl, _⟩ := HS.out.ow.get hlt
      have hr := HR.out
      rw [show m - q = (m - (q + 1)) + 1 from by omega] at hr
      unfold rdgGo at hr
      have hgd : rows2.getD q [] = xs := by rw [List.getD_eq_getElem?_getD, hxq]; rfl
      rw [hgd] at hr
      obtain ⟨R2, hR2⟩ : ∃ R2, rdgRow code xs.length 0 xs s' = R2 := ⟨_, rfl⟩
      rw [hR2] at hr
      have hx17 := HBD.out xs (List.mem_of_getElem? hxq)
      have hrl := rdgRow_len code xs.length 0 xs s'
      rw [hR2] at hrl
      have HRL2 := Lib.hid hrl
      have HR1 := Lib.hid hr
      have HR2 := Lib.hid hR2
      have HVQ := Lib.hid hvq
      have HXQ := Lib.hid hxq
      clear hr hR2 hgd hvq hxq HR hrl
      go_wp2_with fail
      clear FV
      go_loopw [5] (fun i wr => ∃ (k : Nat) (row : List FinishT) (s'' : St), k ≤ xs.length ∧ i = .int .i64 k ∧ Hid (row.length = xs.length) ∧ Hid (rdgRow code (xs.length - k) k row s'' = R2) ∧ Hid (QS w0 w wr A n cap code g vb b sc A' m c vs s'' (rows2.set q row))) (fun i _ => xs.length - (intOf i).toNat)
      case atStart => exact ⟨0, xs, s', Nat.zero_le _, rfl, Lib.hid rfl, HR2, Lib.hid (by rw [set_same HXQ.out]; exact HS.out)⟩
      case round =>
        clear HS HR2
        obtain ⟨k, row, s'', hk, rfl, hrowl, HR2, HS⟩ := hrel
        obtain ⟨wi, hwi⟩ : ∃ wi : World, wi = wr := ⟨_, rfl⟩
        subst hwi
        have FV := HS.out.vx.f3
        have hrq : (rows2.set q row)[q]? = some row := by rw [List.getElem?_set_self (by have := HS.out.ow.len; simp at this; omega)]
        obtain ⟨v9, A9, c9, xs9, hv9, hx9, _, e9, ho9⟩ := HS.out.ow.get hlt
        obtain rfl : row = xs9 := by rw [hrq] at hx9; injection hx9
        subst e9
        rw [HVQ.out] at hv9
        injection hv9 with hv9
        injection hv9 with e1 e2 e3
        subst e1; subst e3
        obtain ⟨gA, u9, hgA, _, _, hu9, hcu, _⟩ := own_at HS.out.ow.outer hlt
        rw [HVQ.out] at hu9
        injection hu9 with hu9
        subst hu9
        subst hgA
        rw [← e2] at ho9
        clear e2
        by_cases hkl : k < xs.length
        · obtain ⟨gr, x0, x1, x2, rfl, hgr0, hgr1, hfx, _, c0, c1, c2_, f0, f1, f2⟩ := own_fin_at (show wi.ownsRow (w.heap.size + 1) 109 3 (.slice A2 xs.length c2) xs.length (fins row) from ho9) hkl
          have hr := HR2.out
          rw [show xs.length - k = (xs.length - (k + 1)) + 1 from by omega] at hr
          unfold rdgRow at hr
          have hgd : row.getD k (0, 0, 0) = (x0, x1, x2) := by rw [List.getD_eq_getElem?_getD, hfx]; rfl
          rw [hgd] at hr
          have HFX := Lib.hid hfx
          obtain ⟨wb, hwb, XB, hbb, hsb⟩ := one_box wi #[.int .i64 x0, .int .i64 x1, .int .i64 x2] 109
          have HSB := Lib.hid (HS.out.below hbb)
          have HXB := Lib.hid XB
          have FB := XB.f3
          have hcub := (hbb.cell (p := ⟨gA, q, none⟩) (cell_lt hcu)).trans hcu
          clear hbb XB hgd hx9 hrq
          by_cases h9 : x1 = 9
          rotate_left
          · have h9b : (x1 == 9) = false := by simp [h9]
            rw [show rdgX code (x0, x1, x2) s'' = ((x0, x1, x2), s'') from by unfold rdgX; rw [if_neg h9], set_same HFX.out] at hr
            have HR3 := Lib.hid hr
            clear hr
            go_wp2_with fail
            rw [← hwb]
            clear hwb
            (try go_wp2_with fail)
            go_roundw
            case rel => exact ⟨k + 1, row, s'', by omega, by go_num, hrowl, HR3, HSB⟩
            case measure => simp [intOf] <;> omega
          subst h9
          have H2 := Lib.hid (HNX.out s'' 2 (by omega))
          have hrx : rdgX code (x0, 9, x2) s'' = (if (nextF code s'' 2).1 = 0 then ((x0, 4, 0), (nextF code s'' 2).2) else ((x0, 9, x2), (nextF code s'' 2).2)) := rfl
          rw [hrx] at hr
          generalize nextF code s'' 2 = r2 at *
          obtain ⟨v2, s2⟩ := r2
          simp only at hr
          clear hrx
          have HRH := Lib.hid hr
          clear hr
          go_wp2_with fail
          rw [← hwb]
          clear hwb c0 c1 c2_ f0 f1 f2 FV FB hcu
          refine (H2.out _ HSB.out.d.src).mono ?_
          rintro e w7 ⟨rfl, hs, hc⟩
          have HS7 := Lib.hid (HSB.out.turn hs hc)
          have FB := (HXB.out.chg hc (.inr (by have := HSB.out.d.ch.size; have := HXB.out.lt; have h3 := HS.out.d.gl; have h4 := HS.out.d.ch.size; omega))).f3
          clear hs hc H2 HSB
          have hr := HRH.out
          simp only
          by_cases hv2 : v2 = 0
          rotate_left
          · have hv2b : (v2 == 0) = false := by simp [hv2]
            rw [if_neg hv2, set_same HFX.out] at hr
            have HR3 := Lib.hid hr
            clear hr hv2 HRH FB
            go_wp2_with fail
            go_roundw
            case rel => exact ⟨k + 1, row, s2, by omega, by go_num, hrowl, HR3, HS7⟩
            case measure => simp [intOf] <;> omega
          subst hv2
          rw [if_pos rfl] at hr
          have HR3 := Lib.hid hr
          clear hr HRH
          have FV := HS7.out.vx.f3
          obtain ⟨gA', u8, hgA', _, _, hu8, hcu7, _⟩ := own_at HS7.out.ow.outer hlt
          rw [HVQ.out] at hu8
          injection hu8 with hu8
          subst hu8
          obtain rfl : gA = gA' := by injection hgA' with e; injection e
          have hrl := hrowl.out
          have hrq : (rows2.set q row)[q]? = some row := by rw [List.getElem?_set_self (by have := HS7.out.ow.len; simp at this; omega)]
          have HRQ := Lib.hid hrq
          obtain ⟨A8, c8, e8, ho8⟩ := HS7.out.ow.row q _ _ HVQ.out hrq
          injection e8 with e8 e9 e10
          subst e8; subst e10
          rw [← e9] at ho8
          obtain ⟨gr', y0, y1, y2, hgr', _, _, hfy, _, d0, d1, d2, f0, f1, f2⟩ := own_fin_at ho8 hkl
          obtain rfl : gr = gr' := by injection hgr' with e; injection e
          rw [HFX.out] at hfy
          injection hfy with hfy
          injection hfy with e1 hfy
          injection hfy with e2 e3
          subst e1; subst e2; subst e3
          have HUP := Lib.hid (fun d => (HS7.out.below (below_drewN' _ w7 d)).upd (j := k) (show vs[q]? = some (.slice (some ⟨gr, 0, none⟩) row.length c2) from by rw [hrl]; exact HVQ.out) hrq (by omega) x0 4 0)
          clear hgr' hgA' hrq e9 ho8 hrl
          go_wp2_with fail
          go_still_tail 11, (by kernel_rfl)
          change wpList _ _ _ _ _ w7.drew
          obtain ⟨w8, hw8⟩ : ∃ wd : World, wd = w7.drew := ⟨_, rfl⟩
          have d' : w8.cell? ⟨gr, k * 3, none⟩ = some (.int .i64 x0) ∧ w8.cell? ⟨gr, k * 3 + 1, none⟩ = some (.int .i64 9) ∧ w8.cell? ⟨gr, k * 3 + 2, none⟩ = some (.int .i64 x2) := by rw [hw8]; exact ⟨d0, d1, d2⟩
          have f' : w8.frozen? ⟨gr, k * 3, none⟩ = false ∧ w8.frozen? ⟨gr, k * 3 + 1, none⟩ = false ∧ w8.frozen? ⟨gr, k * 3 + 2, none⟩ = false := by rw [hw8]; exact ⟨f0, f1, f2⟩
          have HU := Lib.hid (show QS w0 w (((w8.setCell ⟨gr, k * 3, none⟩ (.int .i64 x0)).setCell ⟨gr, k * 3 + 1, none⟩ (.int .i64 4)).setCell ⟨gr, k * 3 + 2, none⟩ (.int .i64 0)) A n cap code g vb b sc (some ⟨gA, 0, none⟩) m c vs s2 (rows2.set q (row.set k (x0, 4, 0))) from by rw [hw8]; have := HUP.out 1; rw [List.set_set] at this; exact this)
          rw [← hw8]
          clear hw8 d0 d1 d2 f0 f1 f2 HUP FV FB hcu7 HS7 HRQ
          obtain ⟨d0, d1, d2⟩ := d'
          obtain ⟨f0, f1, f2⟩ := f'
          go_wp2_with fail
          go_roundw
          case rel => exact ⟨k + 1, _, s2, by omega, by go_num, Lib.hid (by rw [List.length_set]; exact hrowl.out), HR3, HU⟩
          case measure => simp [intOf] <;> omega
        · obtain rfl : k = xs.length := by omega
          have hr := HR2.out
          rw [Nat.sub_self] at hr
          rw [show rdgRow code 0 xs.length row s'' = (row, s'') from rfl] at hr
          subst hr
          have HR3 := HR1
          clear HR1 HR2
          have HBD3 := Lib.hid (show ∀ x ∈ rows2.set q row, x.length ≤ 17 from fun x hx => by
            rcases List.mem_or_eq_of_mem_set hx with hx | rfl
            · exact HBD.out x hx
            · rw [hrowl.out]; exact hx17)
          go_wp2_with fail
          go_roundw
          case rel => exact ⟨q + 1, _, s'', by omega, by go_num, HR3, HBD3, HS⟩
          case measure => simp [intOf] <;> omega
    · obtain rfl : q = m := by omega
      have hr := HR.out
      rw [Nat.sub_self, show rdgGo code 0 q rows2 s' = (rows2, s') from rfl] at hr
      subst hr
      clear HR
      simp only at HTE HEX
      have HTB := Lib.hid (specTableOf_all b sc A' q c rows2 wo HS.out.ow.rd)
      have hte := HTE.out
      rw [← hte] at HTB
      clear hte
      obtain ⟨cde, hcde⟩ : ∃ z : Int, (if seriesB b sc rows2 = true then (0 : Int) else 1) = z := ⟨_, rfl⟩
      rw [hcde] at HTB
      clear hcde
      go_wp2_with fail
      refine HTB.out.mono ?_
      rintro e w5 ⟨P, np, cp, ps, C, nc, dc, us, rfl, hot, _, hb5⟩
      have HS5 := Lib.hid (HS.out.below hb5)
      have hz5 := HS.out.bx.lt
      obtain ⟨wt, hwt, XT, hbt, hst⟩ := one_box w5 #[.int .i64 t.boats, .slice P np cp, .slice C nc dc] 33
      have hz6 := hb5.size
      have HT0 := Lib.hid (show TS w0 w wt A n cap code g w5.heap.size P np cp ps C nc dc us s' t from ⟨(HS5.out.below hbt).d, (HS5.out.below hbt).bx, XT, by omega, (hot.base' (by omega)).below hbt⟩)
      have hpl := hot.pts.len
      have HCL := Lib.hid hot.cds.len
      have HB0 := Lib.hid (show t.boats ≠ 0 → seriesB b sc rows2 = true from fun hne => by
        cases hsb : seriesB b sc rows2 with
        | true => rfl
        | false => exact absurd (by rw [HTE.out]; unfold tabV; rw [if_neg (by rw [hsb]; decide)]; rfl) hne)
      have HTV := Lib.hid (show seriesB b sc rows2 = true → t = tabS b sc rows2 from fun h => by rw [HTE.out]; unfold tabV; rw [if_pos h])
      obtain ⟨tb, htb⟩ : ∃ tb, tb = w5.heap.size := ⟨_, rfl⟩
      rw [← htb] at HT0
      have HTBq := Lib.hid htb
      have HWT := Lib.hid hwt
      simp only at hpl
      clear hot hb5 XT hbt hst hwt htb HS HS5 HTB FV hz5 hz6
      simp only
      by_cases hnp : np = 0
      · subst hnp
        have hex := HEX.out
        rw [if_pos (.inl hpl)] at hex
        subst hex
        clear HEX HCL HB0 HTV HTE
        have FB := HT0.out.bx.f3
        have FT := HT0.out.tx.f3
        rw [HTBq.out] at FT
        rw [HWT.out] at FB FT
        go_wp2_with fail
        rw [← HWT.out] at FB ⊢
        refine bodyPost_ret (v := .agg #[.int .i64 t.boats, .slice P 0 cp, .slice C nc dc]) (by simp [results, Tryz.results56, go_sem, FB]) rfl ?_
        exact HT0.out.done
      have hnb : ((np : Int) == 0) = false := by simp; omega
      by_cases hbt : t.boats = 0
      · have hbb : (t.boats == 0) = true := by simp [hbt]
        have hex := HEX.out
        rw [if_pos (.inr hbt)] at hex
        subst hex
        clear HEX HCL HB0 HTV HTE hbt
        have FB := HT0.out.bx.f3
        have FT := HT0.out.tx.f3
        rw [HTBq.out] at FT
        rw [HWT.out] at FB FT
        go_wp2_with fail
        rw [← HWT.out] at FB ⊢
        refine bodyPost_ret (v := .agg #[.int .i64 t.boats, .slice P np cp, .slice C nc dc]) (by simp [results, Tryz.results56, go_sem, FB]) rfl ?_
        exact HT0.out.done
      have hbb : (t.boats == 0) = false := by simp [hbt]
      have hex := HEX.out
      rw [if_neg (by rw [hpl]; omega)] at hex
      have hsb := HB0.out hbt
      have htv := HTV.out hsb
      obtain ⟨hb1, hb2, hsc, hgood, hraces⟩ := seriesB_ok hsb
      have htb2 : t.boats = b := by rw [htv]; rfl
      have HPR := Lib.hid (show ∀ (i : Nat) (row : List Int), t.pts[i]? = some row → (row.length : Int) = t.boats from fun i row hi => by
        rw [htv] at hi ⊢
        simp only [tabS, List.getElem?_map] at hi
        cases hq : rows2[i]? with
        | none => rw [hq] at hi; cases hi
        | some x => rw [hq] at hi; simp only [Option.map_some, Option.some.injEq] at hi; subst hi; have := hgood.2 x (List.mem_of_getElem? hq); rw [rowP_len]; show (x.length : Int) = b; omega)
      have HCR := Lib.hid (show ∀ (i : Nat) (row : List Int), t.cds[i]? = some row → (row.length : Int) = t.boats from fun i row hi => by
        rw [htv] at hi ⊢
        simp only [tabS, List.getElem?_map] at hi
        cases hq : rows2[i]? with
        | none => rw [hq] at hi; cases hi
        | some x => rw [hq] at hi; simp only [Option.map_some, Option.some.injEq] at hi; subst hi; have := hgood.2 x (List.mem_of_getElem? hq); rw [rowK_len]; show (x.length : Int) = b; omega)
      have hcl : t.cds.length = np := by rw [← hpl, htv]; simp [tabS]
      have hnp13 : np ≤ 13 := by rw [← hpl, htv]; simp [tabS]; have := hgood.1; omega
      have hbb1 : 1 ≤ t.boats ∧ t.boats ≤ 16 := by rw [htb2]; exact ⟨hb1, hb2⟩
      clear hsb htv htb2 hb1 hb2 hsc hgood hraces HB0 HTV HTE HEX hbt
      rw [hpl] at hex
      have q1 := nextF_bd code s' (np : Int) (by omega)
      have H1 := Lib.hid (HNX.out s' (np : Int) (by omega))
      generalize nextF code s' (np : Int) = r1 at *
      obtain ⟨v1, s1'⟩ := r1
      simp only at hex q1
      have q2 := nextF_bd code s1' t.boats (by omega)
      have H2 := Lib.hid (HNX.out s1' t.boats (by omega))
      generalize nextF code s1' t.boats = r2 at *
      obtain ⟨v2, s2'⟩ := r2
      simp only at hex q2
      have q3 := nextF_bd code s2' 20 (by omega)
      have H3 := Lib.hid (HNX.out s2' 20 (by omega))
      generalize nextF code s2' 20 = r3 at *
      obtain ⟨v3, s3'⟩ := r3
      simp only at hex q3
      obtain ⟨i, rfl⟩ := int_up v1 q1.1
      obtain ⟨k, rfl⟩ := int_up v2 q2.1
      rw [Int.toNat_natCast, Int.toNat_natCast] at hex
      have hin : i < np := by omega
      have hkb : (k : Int) < t.boats := by omega
      have HEX := Lib.hid hex
      clear hex
      have FT := HT0.out.tx.f3
      rw [HTBq.out] at FT
      rw [HWT.out] at FT
      go_wp2_with fail
      rw [← HWT.out]
      (try rw [← HTBq.out])
      clear HWT FT
      refine (H1.out _ HT0.out.d.src).mono ?_
      rintro e w6 ⟨rfl, hs, hc⟩
      have HT1 := Lib.hid (HT0.out.turn hs hc)
      clear hs hc H1 HT0
      simp only
      have FT := HT1.out.tx.f3
      go_wp2_with fail
      refine (H2.out _ HT1.out.d.src).mono ?_
      rintro e w7 ⟨rfl, hs, hc⟩
      have HT2 := Lib.hid (HT1.out.turn hs hc)
      clear hs hc H2 HT1 FT
      simp only
      go_wp2_with fail
      refine (H3.out _ HT2.out.d.src).mono ?_
      rintro e w8 ⟨rfl, hs, hc⟩
      have HT3 := Lib.hid (HT2.out.turn hs hc)
      clear hs hc H3 HT2
      simp only
      by_cases t0 : v3 = 0
      · subst t0
        have hex := HEX.out
        unfold spoilT at hex
        rw [if_pos rfl] at hex
        clear HEX
        have H6 := Lib.hid (HNX.out s3' 2 (by omega))
        have q6 := nextF_bd code s3' 2 (by omega)
        generalize nextF code s3' 2 = r6 at *
        obtain ⟨v6, s6⟩ := r6
        simp only at hex q6
        obtain ⟨row, hrow, _⟩ := drop_cons (xs := t.pts) (k := i) (by omega)
        have hrl := HPR.out i row hrow
        obtain ⟨gA, gr, cr, x, hPe, hvs, hcr, hcx, hfx, hgr0, hgr1, hg0, hg1, _⟩ := HT3.out.ot.at_ hrow (bt := k) (by omega)
        subst hPe
        have HVS := Lib.hid hvs; have HROW := Lib.hid hrow
        have hrl16 : row.length ≤ 16 := by omega
        have hkr : k < row.length := by omega
        clear hvs hrow hrl
        obtain ⟨v, hv⟩ : ∃ v, v = 10000 + v6 := ⟨_, rfl⟩
        rw [← hv] at hex
        have HWR := Lib.hid (show IntKind.i64.wrap (10000 + v6) = v from by rw [IntWalk.i64_in _ (by omega)]; exact hv.symm)
        have HEX := Lib.hid hex
        clear hex hv
        have FT := HT3.out.tx.f3
        have HQ := Lib.hid (show ∀ Z, Chg g (g + 1) w8.drew Z → Src w0 Z A n cap code g s6 → TS w0 w Z A n cap code g tb (some ⟨gA, 0, none⟩) np cp ps C nc dc us s6 t ∧ Z.cell? ⟨tb, 1, none⟩ = some (.slice (some ⟨gA, 0, none⟩) np cp) ∧ Z.cell? ⟨gA, i, none⟩ = some (.slice (some ⟨gr, 0, none⟩) row.length cr) ∧ Z.cell? ⟨gr, k, none⟩ = some (.int .i64 x) ∧ Z.frozen? ⟨gr, k, none⟩ = false from fun Z hc hs => by
          have h1 := (HT3.out.below (below_drewN' _ w8 1)).turn hs hc
          obtain ⟨gA', gr', cr', x', hPe', hvs', hcr', hcx', hfx', _⟩ := h1.ot.at_ HROW.out (bt := k) hkr
          obtain rfl : gA = gA' := by injection hPe' with e; injection e
          have e := HVS.out
          rw [hvs'] at e
          injection e with e
          injection e with e1 _ e2
          injection e1 with e1
          injection e1 with e1 _
          subst e1; subst e2
          have hx0 : x' = x := by
            have h9 : w8.drew.cell? ⟨gr', k, none⟩ = some (.int .i64 x) := hcx
            have h8 := chg_cell hc (b := gr') (i := k) (v := .int .i64 x) (.inr (by omega)) h9
            rw [hcx'] at h8
            injection h8 with h8
            injection h8
          subst hx0
          exact ⟨h1, h1.tx.cell rfl, hcr', hcx', hfx'⟩)
        have HSD := Lib.hid (HT3.out.below (below_drewN' _ w8 1)).d.src
        go_wp2_with fail
        obtain ⟨S, hSE, hSI⟩ : ∃ S : World → Prop, (∀ w1, S w1 → w1.cell? ⟨tb, 1, none⟩ = some (.slice (some ⟨gA, 0, none⟩) np cp) ∧ w1.cell? ⟨gA, i, none⟩ = some (.slice (some ⟨gr, 0, none⟩) row.length cr)) ∧ (∀ w1, w1.cell? ⟨tb, 1, none⟩ = some (.slice (some ⟨gA, 0, none⟩) np cp) → w1.cell? ⟨gA, i, none⟩ = some (.slice (some ⟨gr, 0, none⟩) row.length cr) → S w1) := ⟨fun w1 => w1.cell? ⟨tb, 1, none⟩ = some (.slice (some ⟨gA, 0, none⟩) np cp) ∧ w1.cell? ⟨gA, i, none⟩ = some (.slice (some ⟨gr, 0, none⟩) row.length cr), fun _ h => h, fun _ h h' => ⟨h, h'⟩⟩
        have HSE := Lib.hid hSE; have HSI := Lib.hid hSI
        have hS := hSI w8.drew (HT3.out.tx.cell rfl) hcr
        clear hSE hSI FT hcr hcx hfx
        refine wp_region_T2 (n := 11) S (fun j => decide (10 ≤ j)) (by kernel_rfl) rfl ?_
        intro ops HOPS
        refine wpAnyT_take 0 (.pointer (some ⟨tb, 1, none⟩)) (by rw [HOPS.out]; rfl) (by rw [HOPS.out]; kernel_rfl) (by exact fun _ _ _ h => h) (by rfl) (fun w1 hS => by go_simp) hS ?_
        go_simp
        refine wpAnyT_take 1 (.slice (some ⟨gA, 0, none⟩) np cp) (by rw [HOPS.out]; rfl) (by rw [HOPS.out]; kernel_rfl) (by exact fun _ _ _ h => h) (by rfl) (fun w1 hS => by obtain ⟨k0, k1⟩ := HSE.out _ hS; go_simp) hS ?_
        go_simp
        refine wpAnyT_take 2 (.int .i64 (i : Int)) (by rw [HOPS.out]; rfl) (by rw [HOPS.out]; kernel_rfl) (by exact fun _ _ _ h => h) (by rfl) (fun w1 hS => by go_simp) hS ?_
        go_simp
        refine wpAnyT_take 3 (.pointer (some ⟨gA, i, none⟩)) (by rw [HOPS.out]; rfl) (by rw [HOPS.out]; kernel_rfl) (by exact fun _ _ _ h => h) (by rfl) (fun w1 hS => by go_simp) hS ?_
        go_simp
        refine wpAnyT_take 4 (.slice (some ⟨gr, 0, none⟩) row.length cr) (by rw [HOPS.out]; rfl) (by rw [HOPS.out]; kernel_rfl) (by exact fun _ _ _ h => h) (by rfl) (fun w1 hS => by obtain ⟨k0, k1⟩ := HSE.out _ hS; go_simp) hS ?_
        go_simp
        refine wpAnyT_take 5 (.int .i64 (k : Int)) (by rw [HOPS.out]; rfl) (by rw [HOPS.out]; kernel_rfl) (by exact fun _ _ _ h => h) (by rfl) (fun w1 hS => by go_simp) hS ?_
        go_simp
        refine wpAnyT_take 6 (.pointer (some ⟨g, 0, none⟩)) (by rw [HOPS.out]; rfl) (by rw [HOPS.out]; kernel_rfl) (by exact fun _ _ _ h => h) (by rfl) (fun w1 hS => by go_simp) hS ?_
        go_simp
        refine wpAnyT_one 7 (by rw [HOPS.out]; rfl) (by rw [HOPS.out]; kernel_rfl) ?_
        intro K' hK
        have HK := Lib.hid hK
        clear hK
        go_simp
        go_at_call 16
        refine (H6.out _ HSD.out).mono ?_
        rintro e wq ⟨rfl, hsq, hcq⟩
        obtain ⟨hstq, k0q, k1q, cq, fq⟩ := HQ.out _ hcq hsq
        refine HK.out _ _ (.inr (HSI.out _ k0q k1q)) ?_
        clear HK
        go_simp
        refine wpAnyT_take 8 (.int .i64 v) (by rw [HOPS.out]; rfl) (by rw [HOPS.out]; kernel_rfl) (by exact fun _ _ _ h => h) (by rfl) (fun w1 hS => by go_simp; rw [HWR.out]) (HSI.out _ k0q k1q) ?_
        go_simp
        refine wpAnyT_take 9 (.pointer (some ⟨gr, k, none⟩)) (by rw [HOPS.out]; rfl) (by rw [HOPS.out]; kernel_rfl) (by exact fun _ _ _ h => h) (by rfl) (fun w1 hS => by go_simp) (HSI.out _ k0q k1q) ?_
        go_simp
        refine wpAnyT_one 10 (by rw [HOPS.out]; rfl) (by rw [HOPS.out]; kernel_rfl) ?_
        intro K' hK
        have HK := Lib.hid hK
        clear hK
        go_simp
        refine HK.out _ _ (.inl (by decide)) ?_
        clear HK
        go_simp
        refine wpAnyT_done (by rw [HOPS.out]; kernel_rfl) ?_ _
        have hex := HEX.out
        subst hex
        have HD := Lib.hid (hstq.set1 (bt := k) HROW.out HVS.out v)
        clear hstq k0q k1q cq fq hsq hcq HQ HSD HWR H6 HSE HSI HOPS HEX
        have FB := HD.out.bx.f3
        have FT := HD.out.tx.f3
        go_wp2_with fail
        refine bodyPost_ret (v := .agg #[.int .i64 t.boats, .slice (some ⟨gA, 0, none⟩) np cp, .slice C nc dc]) (by simp [results, Tryz.results56, go_sem, FB]) rfl ?_
        exact HD.out.done
      have t0b : (v3 == 0) = false := by simp [t0]
      by_cases t1 : v3 = 1
      · subst t1
        have hex := HEX.out
        unfold spoilT at hex
        rw [if_neg (by simp), if_pos rfl] at hex
        clear HEX
        have H6 := Lib.hid (HNX.out s3' 2 (by omega))
        have q6 := nextF_bd code s3' 2 (by omega)
        generalize nextF code s3' 2 = r6 at *
        obtain ⟨v6, s6⟩ := r6
        simp only at hex q6
        obtain ⟨row, hrow, _⟩ := drop_cons (xs := t.cds) (k := i) (by omega)
        have hrl := HCR.out i row hrow
        obtain ⟨gA, gr, cr, x, hPe, hvs, hcr, hcx, hfx, hgr0, hgr1, hg0, hg1, _⟩ := HT3.out.ot.at2 hrow (bt := k) (by omega)
        subst hPe
        have HVS := Lib.hid hvs; have HROW := Lib.hid hrow
        have hrl16 : row.length ≤ 16 := by omega
        have hkr : k < row.length := by omega
        clear hvs hrow hrl
        obtain ⟨v, hv⟩ : ∃ v, v = 10 - v6 := ⟨_, rfl⟩
        rw [← hv] at hex
        have HWR := Lib.hid (show IntKind.i64.wrap (10 - v6) = v from by rw [IntWalk.i64_in _ (by omega)]; exact hv.symm)
        have HEX := Lib.hid hex
        clear hex hv
        have FT := HT3.out.tx.f3
        have HQ := Lib.hid (show ∀ Z, Chg g (g + 1) w8.drew Z → Src w0 Z A n cap code g s6 → TS w0 w Z A n cap code g tb P np cp ps (some ⟨gA, 0, none⟩) nc dc us s6 t ∧ Z.cell? ⟨tb, 2, none⟩ = some (.slice (some ⟨gA, 0, none⟩) nc dc) ∧ Z.cell? ⟨gA, i, none⟩ = some (.slice (some ⟨gr, 0, none⟩) row.length cr) ∧ Z.cell? ⟨gr, k, none⟩ = some (.int .i64 x) ∧ Z.frozen? ⟨gr, k, none⟩ = false from fun Z hc hs => by
          have h1 := (HT3.out.below (below_drewN' _ w8 1)).turn hs hc
          obtain ⟨gA', gr', cr', x', hPe', hvs', hcr', hcx', hfx', _⟩ := h1.ot.at2 HROW.out (bt := k) hkr
          obtain rfl : gA = gA' := by injection hPe' with e; injection e
          have e := HVS.out
          rw [hvs'] at e
          injection e with e
          injection e with e1 _ e2
          injection e1 with e1
          injection e1 with e1 _
          subst e1; subst e2
          have hx0 : x' = x := by
            have h9 : w8.drew.cell? ⟨gr', k, none⟩ = some (.int .i64 x) := hcx
            have h8 := chg_cell hc (b := gr') (i := k) (v := .int .i64 x) (.inr (by omega)) h9
            rw [hcx'] at h8
            injection h8 with h8
            injection h8
          subst hx0
          exact ⟨h1, h1.tx.cell rfl, hcr', hcx', hfx'⟩)
        have HSD := Lib.hid (HT3.out.below (below_drewN' _ w8 1)).d.src
        go_wp2_with fail
        obtain ⟨S, hSE, hSI⟩ : ∃ S : World → Prop, (∀ w1, S w1 → w1.cell? ⟨tb, 2, none⟩ = some (.slice (some ⟨gA, 0, none⟩) nc dc) ∧ w1.cell? ⟨gA, i, none⟩ = some (.slice (some ⟨gr, 0, none⟩) row.length cr)) ∧ (∀ w1, w1.cell? ⟨tb, 2, none⟩ = some (.slice (some ⟨gA, 0, none⟩) nc dc) → w1.cell? ⟨gA, i, none⟩ = some (.slice (some ⟨gr, 0, none⟩) row.length cr) → S w1) := ⟨fun w1 => w1.cell? ⟨tb, 2, none⟩ = some (.slice (some ⟨gA, 0, none⟩) nc dc) ∧ w1.cell? ⟨gA, i, none⟩ = some (.slice (some ⟨gr, 0, none⟩) row.length cr), fun _ h => h, fun _ h h' => ⟨h, h'⟩⟩
        have HSE := Lib.hid hSE; have HSI := Lib.hid hSI
        have hS := hSI w8.drew (HT3.out.tx.cell rfl) hcr
        clear hSE hSI FT hcr hcx hfx
        refine wp_region_T2 (n := 11) S (fun j => decide (10 ≤ j)) (by kernel_rfl) rfl ?_
        intro ops HOPS
        refine wpAnyT_take 0 (.pointer (some ⟨tb, 2, none⟩)) (by rw [HOPS.out]; rfl) (by rw [HOPS.out]; kernel_rfl) (by exact fun _ _ _ h => h) (by rfl) (fun w1 hS => by go_simp) hS ?_
        go_simp
        refine wpAnyT_take 1 (.slice (some ⟨gA, 0, none⟩) nc dc) (by rw [HOPS.out]; rfl) (by rw [HOPS.out]; kernel_rfl) (by exact fun _ _ _ h => h) (by rfl) (fun w1 hS => by obtain ⟨k0, k1⟩ := HSE.out _ hS; go_simp) hS ?_
        go_simp
        refine wpAnyT_take 2 (.int .i64 (i : Int)) (by rw [HOPS.out]; rfl) (by rw [HOPS.out]; kernel_rfl) (by exact fun _ _ _ h => h) (by rfl) (fun w1 hS => by go_simp) hS ?_
        go_simp
        refine wpAnyT_take 3 (.pointer (some ⟨gA, i, none⟩)) (by rw [HOPS.out]; rfl) (by rw [HOPS.out]; kernel_rfl) (by exact fun _ _ _ h => h) (by rfl) (fun w1 hS => by go_simp) hS ?_
        go_simp
        refine wpAnyT_take 4 (.slice (some ⟨gr, 0, none⟩) row.length cr) (by rw [HOPS.out]; rfl) (by rw [HOPS.out]; kernel_rfl) (by exact fun _ _ _ h => h) (by rfl) (fun w1 hS => by obtain ⟨k0, k1⟩ := HSE.out _ hS; go_simp) hS ?_
        go_simp
        refine wpAnyT_take 5 (.int .i64 (k : Int)) (by rw [HOPS.out]; rfl) (by rw [HOPS.out]; kernel_rfl) (by exact fun _ _ _ h => h) (by rfl) (fun w1 hS => by go_simp) hS ?_
        go_simp
        refine wpAnyT_take 6 (.pointer (some ⟨g, 0, none⟩)) (by rw [HOPS.out]; rfl) (by rw [HOPS.out]; kernel_rfl) (by exact fun _ _ _ h => h) (by rfl) (fun w1 hS => by go_simp) hS ?_
        go_simp
        refine wpAnyT_one 7 (by rw [HOPS.out]; rfl) (by rw [HOPS.out]; kernel_rfl) ?_
        intro K' hK
        have HK := Lib.hid hK
        clear hK
        go_simp
        go_at_call 16
        refine (H6.out _ HSD.out).mono ?_
        rintro e wq ⟨rfl, hsq, hcq⟩
        obtain ⟨hstq, k0q, k1q, cq, fq⟩ := HQ.out _ hcq hsq
        refine HK.out _ _ (.inr (HSI.out _ k0q k1q)) ?_
        clear HK
        go_simp
        refine wpAnyT_take 8 (.int .i64 v) (by rw [HOPS.out]; rfl) (by rw [HOPS.out]; kernel_rfl) (by exact fun _ _ _ h => h) (by rfl) (fun w1 hS => by go_simp; rw [HWR.out]) (HSI.out _ k0q k1q) ?_
        go_simp
        refine wpAnyT_take 9 (.pointer (some ⟨gr, k, none⟩)) (by rw [HOPS.out]; rfl) (by rw [HOPS.out]; kernel_rfl) (by exact fun _ _ _ h => h) (by rfl) (fun w1 hS => by go_simp) (HSI.out _ k0q k1q) ?_
        go_simp
        refine wpAnyT_one 10 (by rw [HOPS.out]; rfl) (by rw [HOPS.out]; kernel_rfl) ?_
        intro K' hK
        have HK := Lib.hid hK
        clear hK
        go_simp
        refine HK.out _ _ (.inl (by decide)) ?_
        clear HK
        go_simp
        refine wpAnyT_done (by rw [HOPS.out]; kernel_rfl) ?_ _
        have hex := HEX.out
        subst hex
        have HD := Lib.hid (hstq.set2 (bt := k) HROW.out HVS.out v)
        clear hstq k0q k1q cq fq hsq hcq HQ HSD HWR H6 HSE HSI HOPS HEX
        have FB := HD.out.bx.f3
        have FT := HD.out.tx.f3
        go_wp2_with fail
        refine bodyPost_ret (v := .agg #[.int .i64 t.boats, .slice P np cp, .slice (some ⟨gA, 0, none⟩) nc dc]) (by simp [results, Tryz.results56, go_sem, FB]) rfl ?_
        exact HD.out.done
      have t1b : (v3 == 1) = false := by simp [t1]
      by_cases t2 : v3 = 2
      · subst t2
        have hex := HEX.out
        unfold spoilT at hex
        rw [if_neg (by simp), if_neg (by simp), if_pos rfl] at hex
        clear HEX
        obtain ⟨row, hrow, _⟩ := drop_cons (xs := t.pts) (k := i) (by omega)
        have hrl := HPR.out i row hrow
        obtain ⟨gA, gr, cr, x, hPe, hvs, hcr, hcx, hfx, hgr0, hgr1, hg0, hg1, _⟩ := HT3.out.ot.at_ hrow (bt := k) (by omega)
        subst hPe
        have hgd : t.pts.getD i [] = row := by rw [List.getD_eq_getElem?_getD, hrow]; rfl
        rw [hgd] at hex
        obtain ⟨y, row', rfl⟩ : ∃ y row', row = y :: row' := by
          cases row with
          | nil => simp at hrl; omega
          | cons y row' => exact ⟨y, row', rfl⟩
        simp only [List.drop_succ_cons, List.drop_zero] at hex
        subst hex
        obtain ⟨A8, c8, e8, ho8⟩ := HT3.out.ot.pts.row i _ _ hvs hrow
        injection e8 with e8 _ e10
        subst e8; subst e10
        have hcap := own_cap ho8
        have FT := HT3.out.tx.f3
        have hfo : w8.frozen? ⟨gA, i, none⟩ = false := by
          obtain ⟨g9, u9, e9, _, _, _, _, hf9⟩ := own_at HT3.out.ot.pts.outer hin
          injection e9 with e9; injection e9 with e9 _; subst e9; exact hf9
        have hcl2 := hcl.trans hpl.symm
        have hbn := own_box_ne1 HT3.out.ot.pts.outer HT3.out.bx (by decide)
        have htn := own_box_ne1 HT3.out.ot.pts.outer HT3.out.tx (by decide)
        have hb1 : w.heap.size ≠ gA := fun e => hbn (by rw [e]; rfl)
        have ht1 : tb ≠ gA := fun e => htn (by rw [e]; rfl)
        have HBX := Lib.hid (show ∀ V, Box (w8.drew.setCell ⟨gA, i, none⟩ V) w.heap.size #[.int .i64 0, .slice none 0 0, .slice none 0 0] 33 from fun V => (HT3.out.bx.below (below_drewN' _ w8 1)).other (i := i) hb1 V)
        have HTX := Lib.hid (show ∀ V, Box (w8.drew.setCell ⟨gA, i, none⟩ V) tb #[.int .i64 t.boats, .slice (some ⟨gA, 0, none⟩) np cp, .slice C nc dc] 33 from fun V => (HT3.out.tx.below (below_drewN' _ w8 1)).other (i := i) ht1 V)
        clear hcx hfx hbn htn hb1 ht1
        by_cases hc1 : cr = 1
        · subst hc1
          obtain rfl : row' = [] := List.eq_nil_of_length_eq_zero (by have h := hcap; simp only [List.length_cons] at h; omega)
          have HD := Lib.hid ((HT3.out.below (below_drewN' _ w8 1)).cut1 (o := ⟨gr, 0, none⟩) (z := 0) hrow hvs hrl hcl2 (.inr rfl))
          have HBW := Lib.hid (HBX.out (.slice (some ⟨gr, 0, none⟩) 0 0))
          have HTW := Lib.hid (HTX.out (.slice (some ⟨gr, 0, none⟩) 0 0))
          have hfo1 : w8.drew.frozen? ⟨gA, i, none⟩ = false := hfo
          have hcr1 : w8.drew.cell? ⟨gA, i, none⟩ = some (.slice (some ⟨gr, 0, none⟩) 1 1) := hcr
          clear HBX HTX hrow hvs hrl hcl2 hcap ho8
          go_wp2_with fail
          obtain ⟨S, hSE, hSI⟩ : ∃ S : World → Prop, (∀ w1, S w1 → w1.cell? ⟨tb, 1, none⟩ = some (.slice (some ⟨gA, 0, none⟩) np cp) ∧ w1.cell? ⟨gA, i, none⟩ = some (.slice (some ⟨gr, 0, none⟩) 1 1)) ∧ S w8.drew := ⟨fun w1 => w1.cell? ⟨tb, 1, none⟩ = some (.slice (some ⟨gA, 0, none⟩) np cp) ∧ w1.cell? ⟨gA, i, none⟩ = some (.slice (some ⟨gr, 0, none⟩) 1 1), fun _ h => h, ⟨HT3.out.tx.cell rfl, hcr1⟩⟩
          have HSE := Lib.hid hSE
          have hS := hSI
          clear hSE hSI FT hcr hfo
          refine wp_region_T2 (n := 11) S (fun j => decide (10 ≤ j)) (by kernel_rfl) rfl ?_
          intro ops HOPS
          refine wpAnyT_take 0 (.pointer (some ⟨tb, 1, none⟩)) (by rw [HOPS.out]; rfl) (by rw [HOPS.out]; kernel_rfl) (by exact fun _ _ _ h => h) (by rfl) (fun w1 hS => by go_simp) hS ?_
          go_simp
          refine wpAnyT_take 1 (.slice (some ⟨gA, 0, none⟩) np cp) (by rw [HOPS.out]; rfl) (by rw [HOPS.out]; kernel_rfl) (by exact fun _ _ _ h => h) (by rfl) (fun w1 hS => by obtain ⟨k0, k1⟩ := HSE.out _ hS; go_simp) hS ?_
          go_simp
          refine wpAnyT_take 2 (.int .i64 (i : Int)) (by rw [HOPS.out]; rfl) (by rw [HOPS.out]; kernel_rfl) (by exact fun _ _ _ h => h) (by rfl) (fun w1 hS => by go_simp) hS ?_
          go_simp
          refine wpAnyT_take 3 (.pointer (some ⟨tb, 1, none⟩)) (by rw [HOPS.out]; rfl) (by rw [HOPS.out]; kernel_rfl) (by exact fun _ _ _ h => h) (by rfl) (fun w1 hS => by go_simp) hS ?_
          go_simp
          refine wpAnyT_take 4 (.slice (some ⟨gA, 0, none⟩) np cp) (by rw [HOPS.out]; rfl) (by rw [HOPS.out]; kernel_rfl) (by exact fun _ _ _ h => h) (by rfl) (fun w1 hS => by obtain ⟨k0, k1⟩ := HSE.out _ hS; go_simp) hS ?_
          go_simp
          refine wpAnyT_take 5 (.int .i64 (i : Int)) (by rw [HOPS.out]; rfl) (by rw [HOPS.out]; kernel_rfl) (by exact fun _ _ _ h => h) (by rfl) (fun w1 hS => by go_simp) hS ?_
          go_simp
          refine wpAnyT_take 6 (.pointer (some ⟨gA, i, none⟩)) (by rw [HOPS.out]; rfl) (by rw [HOPS.out]; kernel_rfl) (by exact fun _ _ _ h => h) (by rfl) (fun w1 hS => by go_simp) hS ?_
          go_simp
          refine wpAnyT_take 7 (.slice (some ⟨gr, 0, none⟩) 1 1) (by rw [HOPS.out]; rfl) (by rw [HOPS.out]; kernel_rfl) (by exact fun _ _ _ h => h) (by rfl) (fun w1 hS => by obtain ⟨k0, k1⟩ := HSE.out _ hS; go_simp) hS ?_
          go_simp
          refine wpAnyT_take 8 (.slice (some ⟨gr, 0, none⟩) 0 0) (by rw [HOPS.out]; rfl) (by rw [HOPS.out]; kernel_rfl) (by exact fun _ _ _ h => h) (by rfl) (fun w1 hS => by go_simp; try (intro h9; omega)) hS ?_
          go_simp
          refine wpAnyT_take 9 (.pointer (some ⟨gA, i, none⟩)) (by rw [HOPS.out]; rfl) (by rw [HOPS.out]; kernel_rfl) (by exact fun _ _ _ h => h) (by rfl) (fun w1 hS => by go_simp) hS ?_
          go_simp
          obtain ⟨wd, hwd⟩ : ∃ wd : World, wd = w8.drew := ⟨_, rfl⟩
          rw [← hwd] at HBW HTW hfo1 hcr1 hS ⊢
          have HWD := Lib.hid hwd
          clear hwd
          refine wpAnyT_one 10 (by rw [HOPS.out]; rfl) (by rw [HOPS.out]; kernel_rfl) ?_
          intro K' hK
          have HK := Lib.hid hK
          clear hK
          go_simp
          refine HK.out _ _ (.inl (by decide)) ?_
          clear HK
          go_simp
          refine wpAnyT_done (by rw [HOPS.out]; kernel_rfl) ?_ _
          clear HSE HOPS hS hcr1 hfo1
          have FB := HBW.out.f3
          have FT9 := HTW.out.f3
          go_wp2_with fail
          refine bodyPost_ret (v := .agg #[.int .i64 t.boats, .slice (some ⟨gA, 0, none⟩) np cp, .slice C nc dc]) (by simp [results, Tryz.results56, go_sem, FB]) rfl ?_
          rw [HWD.out]
          exact HD.out
        · have HD := Lib.hid ((HT3.out.below (below_drewN' _ w8 1)).cut1 (o := ⟨gr, 1, none⟩) (z := cr - 1) hrow hvs hrl hcl2 (.inl rfl))
          have hcap1 : row'.length + 1 ≤ cr := by simpa using hcap
          have HBW := Lib.hid (HBX.out (.slice (some ⟨gr, 1, none⟩) row'.length (cr - 1)))
          have HTW := Lib.hid (HTX.out (.slice (some ⟨gr, 1, none⟩) row'.length (cr - 1)))
          have hfo1 : w8.drew.frozen? ⟨gA, i, none⟩ = false := hfo
          have hcr1 : w8.drew.cell? ⟨gA, i, none⟩ = some (.slice (some ⟨gr, 0, none⟩) (row'.length + 1) cr) := hcr
          clear HBX HTX hrow hvs hrl hcl2 hcap ho8
          go_wp2_with fail
          obtain ⟨S, hSE, hSI⟩ : ∃ S : World → Prop, (∀ w1, S w1 → w1.cell? ⟨tb, 1, none⟩ = some (.slice (some ⟨gA, 0, none⟩) np cp) ∧ w1.cell? ⟨gA, i, none⟩ = some (.slice (some ⟨gr, 0, none⟩) (row'.length + 1) cr)) ∧ S w8.drew := ⟨fun w1 => w1.cell? ⟨tb, 1, none⟩ = some (.slice (some ⟨gA, 0, none⟩) np cp) ∧ w1.cell? ⟨gA, i, none⟩ = some (.slice (some ⟨gr, 0, none⟩) (row'.length + 1) cr), fun _ h => h, ⟨HT3.out.tx.cell rfl, hcr1⟩⟩
          have HSE := Lib.hid hSE
          have hS := hSI
          clear hSE hSI FT hcr hfo
          refine wp_region_T2 (n := 11) S (fun j => decide (10 ≤ j)) (by kernel_rfl) rfl ?_
          intro ops HOPS
          refine wpAnyT_take 0 (.pointer (some ⟨tb, 1, none⟩)) (by rw [HOPS.out]; rfl) (by rw [HOPS.out]; kernel_rfl) (by exact fun _ _ _ h => h) (by rfl) (fun w1 hS => by go_simp) hS ?_
          go_simp
          refine wpAnyT_take 1 (.slice (some ⟨gA, 0, none⟩) np cp) (by rw [HOPS.out]; rfl) (by rw [HOPS.out]; kernel_rfl) (by exact fun _ _ _ h => h) (by rfl) (fun w1 hS => by obtain ⟨k0, k1⟩ := HSE.out _ hS; go_simp) hS ?_
          go_simp
          refine wpAnyT_take 2 (.int .i64 (i : Int)) (by rw [HOPS.out]; rfl) (by rw [HOPS.out]; kernel_rfl) (by exact fun _ _ _ h => h) (by rfl) (fun w1 hS => by go_simp) hS ?_
          go_simp
          refine wpAnyT_take 3 (.pointer (some ⟨tb, 1, none⟩)) (by rw [HOPS.out]; rfl) (by rw [HOPS.out]; kernel_rfl) (by exact fun _ _ _ h => h) (by rfl) (fun w1 hS => by go_simp) hS ?_
          go_simp
          refine wpAnyT_take 4 (.slice (some ⟨gA, 0, none⟩) np cp) (by rw [HOPS.out]; rfl) (by rw [HOPS.out]; kernel_rfl) (by exact fun _ _ _ h => h) (by rfl) (fun w1 hS => by obtain ⟨k0, k1⟩ := HSE.out _ hS; go_simp) hS ?_
          go_simp
          refine wpAnyT_take 5 (.int .i64 (i : Int)) (by rw [HOPS.out]; rfl) (by rw [HOPS.out]; kernel_rfl) (by exact fun _ _ _ h => h) (by rfl) (fun w1 hS => by go_simp) hS ?_
          go_simp
          refine wpAnyT_take 6 (.pointer (some ⟨gA, i, none⟩)) (by rw [HOPS.out]; rfl) (by rw [HOPS.out]; kernel_rfl) (by exact fun _ _ _ h => h) (by rfl) (fun w1 hS => by go_simp) hS ?_
          go_simp
          refine wpAnyT_take 7 (.slice (some ⟨gr, 0, none⟩) (row'.length + 1) cr) (by rw [HOPS.out]; rfl) (by rw [HOPS.out]; kernel_rfl) (by exact fun _ _ _ h => h) (by rfl) (fun w1 hS => by obtain ⟨k0, k1⟩ := HSE.out _ hS; go_simp) hS ?_
          go_simp
          refine wpAnyT_take 8 (.slice (some ⟨gr, 1, none⟩) row'.length (cr - 1)) (by rw [HOPS.out]; rfl) (by rw [HOPS.out]; kernel_rfl) (by exact fun _ _ _ h => h) (by rfl) (fun w1 hS => by go_simp; try (intro h9; omega)) hS ?_
          go_simp
          refine wpAnyT_take 9 (.pointer (some ⟨gA, i, none⟩)) (by rw [HOPS.out]; rfl) (by rw [HOPS.out]; kernel_rfl) (by exact fun _ _ _ h => h) (by rfl) (fun w1 hS => by go_simp) hS ?_
          go_simp
          obtain ⟨wd, hwd⟩ : ∃ wd : World, wd = w8.drew := ⟨_, rfl⟩
          rw [← hwd] at HBW HTW hfo1 hcr1 hS ⊢
          have HWD := Lib.hid hwd
          clear hwd
          refine wpAnyT_one 10 (by rw [HOPS.out]; rfl) (by rw [HOPS.out]; kernel_rfl) ?_
          intro K' hK
          have HK := Lib.hid hK
          clear hK
          go_simp
          refine HK.out _ _ (.inl (by decide)) ?_
          clear HK
          go_simp
          refine wpAnyT_done (by rw [HOPS.out]; kernel_rfl) ?_ _
          clear HSE HOPS hS hcr1 hfo1
          have FB := HBW.out.f3
          have FT9 := HTW.out.f3
          go_wp2_with fail
          refine bodyPost_ret (v := .agg #[.int .i64 t.boats, .slice (some ⟨gA, 0, none⟩) np cp, .slice C nc dc]) (by simp [results, Tryz.results56, go_sem, FB]) rfl ?_
          rw [HWD.out]
          exact HD.out
      have t2b : (v3 == 2) = false := by simp [t2]
      by_cases t3 : v3 = 3
      · subst t3
        have hex := HEX.out
        unfold spoilT at hex
        rw [if_neg (by simp), if_neg (by simp), if_neg (by simp), if_pos rfl] at hex
        clear HEX
        obtain ⟨Z, hZ⟩ : ∃ Z, t.cds.drop 1 = Z := ⟨_, rfl⟩
        simp only [hZ] at hex
        subst hex
        obtain ⟨gC, u9, hCe, _, _, _, _, _⟩ := own_at HT3.out.ot.cds.outer (k := 0) (by have := HT3.out.ot.cds.len; omega)
        subst hCe
        have hncl : nc = np := by have := HT3.out.ot.cds.len; omega
        have hcap := own_cap HT3.out.ot.cds.outer
        have hcl2 := hcl.trans hpl.symm
        have FT := HT3.out.tx.f3
        have FB0 := HT3.out.bx.f3
        have htl := HT3.out.tl
        have hne : (w.heap.size = tb) = False := by simp; omega
        have hne2 : (tb = w.heap.size) = False := by simp; omega
        by_cases hd1 : dc = 1
        · subst hd1
          obtain rfl : nc = 1 := by omega
          have HD := Lib.hid (HT3.out.cut2 (o := ⟨gC, 0, none⟩) (z := 0) (by omega) hcl2 (.inr rfl))
          rw [hZ] at HD
          have FB9 := (HT3.out.bx.other (c := tb) (i := 2) (by omega) (.slice (some ⟨gC, 0, none⟩) 0 0)).f3
          clear hcl2 hcap hncl htl hZ
          go_wp2_with fail
          refine bodyPost_ret (v := .agg #[.int .i64 t.boats, .slice P np cp, .slice (some ⟨gC, 0, none⟩) 0 0]) (by simp [results, Tryz.results56, go_sem, FB9]) rfl ?_
          exact HD.out
        · have HD := Lib.hid (HT3.out.cut2 (o := ⟨gC, 1, none⟩) (z := dc - 1) (by omega) hcl2 (.inl rfl))
          rw [hZ] at HD
          clear hZ
          have hnc1 : 1 ≤ nc := by omega
          have hncd : nc ≤ dc := hcap
          have FB9 := (HT3.out.bx.other (c := tb) (i := 2) (by omega) (.slice (some ⟨gC, 1, none⟩) (nc - 1) (dc - 1))).f3
          clear hcl2 hcap hncl htl
          go_wp2_with fail
          refine bodyPost_ret (v := .agg #[.int .i64 t.boats, .slice P np cp, .slice (some ⟨gC, 1, none⟩) (nc - 1) (dc - 1)]) (by simp [results, Tryz.results56, go_sem, FB9]) rfl ?_
          exact HD.out
      have t3b : (v3 == 3) = false := by simp [t3]
      by_cases t4 : v3 = 4
      · subst t4
        have hex := HEX.out
        unfold spoilT at hex
        rw [if_neg (by simp), if_neg (by simp), if_neg (by simp), if_neg (by simp), if_pos (.inl rfl)] at hex
        clear HEX
        have H6 := Lib.hid (HNX.out s3' 8 (by omega))
        have q6 := nextF_bd code s3' 8 (by omega)
        generalize nextF code s3' 8 = r6 at *
        obtain ⟨v6, s6⟩ := r6
        simp only at hex q6
        obtain ⟨row, hrow, _⟩ := drop_cons (xs := t.pts) (k := i) (by omega)
        have hrl := HPR.out i row hrow
        obtain ⟨gA, gr, cr, x, hPe, hvs, hcr, hcx, hfx, hgr0, hgr1, hg0, hg1, _⟩ := HT3.out.ot.at_ hrow (bt := k) (by omega)
        subst hPe
        have HVS := Lib.hid hvs; have HROW := Lib.hid hrow
        have hrl16 : row.length ≤ 16 := by omega
        have hkr : k < row.length := by omega
        clear hvs hrow hrl
        obtain ⟨v, hv⟩ : ∃ v, v = 10 * v6 := ⟨_, rfl⟩
        rw [← hv] at hex
        have HWR := Lib.hid (show IntKind.i64.wrap (10 * v6) = v from by rw [IntWalk.i64_in _ (by omega)]; exact hv.symm)
        have HEX := Lib.hid hex
        clear hex hv
        have FT := HT3.out.tx.f3
        have HQ := Lib.hid (show ∀ Z, Chg g (g + 1) w8.drew Z → Src w0 Z A n cap code g s6 → TS w0 w Z A n cap code g tb (some ⟨gA, 0, none⟩) np cp ps C nc dc us s6 t ∧ Z.cell? ⟨tb, 1, none⟩ = some (.slice (some ⟨gA, 0, none⟩) np cp) ∧ Z.cell? ⟨gA, i, none⟩ = some (.slice (some ⟨gr, 0, none⟩) row.length cr) ∧ Z.cell? ⟨gr, k, none⟩ = some (.int .i64 x) ∧ Z.frozen? ⟨gr, k, none⟩ = false from fun Z hc hs => by
          have h1 := (HT3.out.below (below_drewN' _ w8 1)).turn hs hc
          obtain ⟨gA', gr', cr', x', hPe', hvs', hcr', hcx', hfx', _⟩ := h1.ot.at_ HROW.out (bt := k) hkr
          obtain rfl : gA = gA' := by injection hPe' with e; injection e
          have e := HVS.out
          rw [hvs'] at e
          injection e with e
          injection e with e1 _ e2
          injection e1 with e1
          injection e1 with e1 _
          subst e1; subst e2
          have hx0 : x' = x := by
            have h9 : w8.drew.cell? ⟨gr', k, none⟩ = some (.int .i64 x) := hcx
            have h8 := chg_cell hc (b := gr') (i := k) (v := .int .i64 x) (.inr (by omega)) h9
            rw [hcx'] at h8
            injection h8 with h8
            injection h8
          subst hx0
          exact ⟨h1, h1.tx.cell rfl, hcr', hcx', hfx'⟩)
        have HSD := Lib.hid (HT3.out.below (below_drewN' _ w8 1)).d.src
        go_wp2_with fail
        obtain ⟨S, hSE, hSI⟩ : ∃ S : World → Prop, (∀ w1, S w1 → w1.cell? ⟨tb, 1, none⟩ = some (.slice (some ⟨gA, 0, none⟩) np cp) ∧ w1.cell? ⟨gA, i, none⟩ = some (.slice (some ⟨gr, 0, none⟩) row.length cr)) ∧ (∀ w1, w1.cell? ⟨tb, 1, none⟩ = some (.slice (some ⟨gA, 0, none⟩) np cp) → w1.cell? ⟨gA, i, none⟩ = some (.slice (some ⟨gr, 0, none⟩) row.length cr) → S w1) := ⟨fun w1 => w1.cell? ⟨tb, 1, none⟩ = some (.slice (some ⟨gA, 0, none⟩) np cp) ∧ w1.cell? ⟨gA, i, none⟩ = some (.slice (some ⟨gr, 0, none⟩) row.length cr), fun _ h => h, fun _ h h' => ⟨h, h'⟩⟩
        have HSE := Lib.hid hSE; have HSI := Lib.hid hSI
        have hS := hSI w8.drew (HT3.out.tx.cell rfl) hcr
        clear hSE hSI FT hcr hcx hfx
        refine wp_region_T2 (n := 11) S (fun j => decide (10 ≤ j)) (by kernel_rfl) rfl ?_
        intro ops HOPS
        refine wpAnyT_take 0 (.pointer (some ⟨tb, 1, none⟩)) (by rw [HOPS.out]; rfl) (by rw [HOPS.out]; kernel_rfl) (by exact fun _ _ _ h => h) (by rfl) (fun w1 hS => by go_simp) hS ?_
        go_simp
        refine wpAnyT_take 1 (.slice (some ⟨gA, 0, none⟩) np cp) (by rw [HOPS.out]; rfl) (by rw [HOPS.out]; kernel_rfl) (by exact fun _ _ _ h => h) (by rfl) (fun w1 hS => by obtain ⟨k0, k1⟩ := HSE.out _ hS; go_simp) hS ?_
        go_simp
        refine wpAnyT_take 2 (.int .i64 (i : Int)) (by rw [HOPS.out]; rfl) (by rw [HOPS.out]; kernel_rfl) (by exact fun _ _ _ h => h) (by rfl) (fun w1 hS => by go_simp) hS ?_
        go_simp
        refine wpAnyT_take 3 (.pointer (some ⟨gA, i, none⟩)) (by rw [HOPS.out]; rfl) (by rw [HOPS.out]; kernel_rfl) (by exact fun _ _ _ h => h) (by rfl) (fun w1 hS => by go_simp) hS ?_
        go_simp
        refine wpAnyT_take 4 (.slice (some ⟨gr, 0, none⟩) row.length cr) (by rw [HOPS.out]; rfl) (by rw [HOPS.out]; kernel_rfl) (by exact fun _ _ _ h => h) (by rfl) (fun w1 hS => by obtain ⟨k0, k1⟩ := HSE.out _ hS; go_simp) hS ?_
        go_simp
        refine wpAnyT_take 5 (.int .i64 (k : Int)) (by rw [HOPS.out]; rfl) (by rw [HOPS.out]; kernel_rfl) (by exact fun _ _ _ h => h) (by rfl) (fun w1 hS => by go_simp) hS ?_
        go_simp
        refine wpAnyT_take 6 (.pointer (some ⟨g, 0, none⟩)) (by rw [HOPS.out]; rfl) (by rw [HOPS.out]; kernel_rfl) (by exact fun _ _ _ h => h) (by rfl) (fun w1 hS => by go_simp) hS ?_
        go_simp
        refine wpAnyT_one 7 (by rw [HOPS.out]; rfl) (by rw [HOPS.out]; kernel_rfl) ?_
        intro K' hK
        have HK := Lib.hid hK
        clear hK
        go_simp
        go_at_call 16
        refine (H6.out _ HSD.out).mono ?_
        rintro e wq ⟨rfl, hsq, hcq⟩
        obtain ⟨hstq, k0q, k1q, cq, fq⟩ := HQ.out _ hcq hsq
        refine HK.out _ _ (.inr (HSI.out _ k0q k1q)) ?_
        clear HK
        go_simp
        refine wpAnyT_take 8 (.int .i64 v) (by rw [HOPS.out]; rfl) (by rw [HOPS.out]; kernel_rfl) (by exact fun _ _ _ h => h) (by rfl) (fun w1 hS => by go_simp; rw [HWR.out]) (HSI.out _ k0q k1q) ?_
        go_simp
        refine wpAnyT_take 9 (.pointer (some ⟨gr, k, none⟩)) (by rw [HOPS.out]; rfl) (by rw [HOPS.out]; kernel_rfl) (by exact fun _ _ _ h => h) (by rfl) (fun w1 hS => by go_simp) (HSI.out _ k0q k1q) ?_
        go_simp
        refine wpAnyT_one 10 (by rw [HOPS.out]; rfl) (by rw [HOPS.out]; kernel_rfl) ?_
        intro K' hK
        have HK := Lib.hid hK
        clear hK
        go_simp
        refine HK.out _ _ (.inl (by decide)) ?_
        clear HK
        go_simp
        refine wpAnyT_done (by rw [HOPS.out]; kernel_rfl) ?_ _
        have hex := HEX.out
        subst hex
        have HD := Lib.hid (hstq.set1 (bt := k) HROW.out HVS.out v)
        clear hstq k0q k1q cq fq hsq hcq HQ HSD HWR H6 HSE HSI HOPS HEX
        have FB := HD.out.bx.f3
        have FT := HD.out.tx.f3
        go_wp2_with fail
        refine bodyPost_ret (v := .agg #[.int .i64 t.boats, .slice (some ⟨gA, 0, none⟩) np cp, .slice C nc dc]) (by simp [results, Tryz.results56, go_sem, FB]) rfl ?_
        exact HD.out.done
      have t4b : (v3 == 4) = false := by simp [t4]
      by_cases t5 : v3 = 5
      · subst t5
        have hex := HEX.out
        unfold spoilT at hex
        rw [if_neg (by simp), if_neg (by simp), if_neg (by simp), if_neg (by simp), if_pos (.inr (.inl rfl))] at hex
        clear HEX
        have H6 := Lib.hid (HNX.out s3' 8 (by omega))
        have q6 := nextF_bd code s3' 8 (by omega)
        generalize nextF code s3' 8 = r6 at *
        obtain ⟨v6, s6⟩ := r6
        simp only at hex q6
        obtain ⟨row, hrow, _⟩ := drop_cons (xs := t.pts) (k := i) (by omega)
        have hrl := HPR.out i row hrow
        obtain ⟨gA, gr, cr, x, hPe, hvs, hcr, hcx, hfx, hgr0, hgr1, hg0, hg1, _⟩ := HT3.out.ot.at_ hrow (bt := k) (by omega)
        subst hPe
        have HVS := Lib.hid hvs; have HROW := Lib.hid hrow
        have hrl16 : row.length ≤ 16 := by omega
        have hkr : k < row.length := by omega
        clear hvs hrow hrl
        obtain ⟨v, hv⟩ : ∃ v, v = 10 * v6 := ⟨_, rfl⟩
        rw [← hv] at hex
        have HWR := Lib.hid (show IntKind.i64.wrap (10 * v6) = v from by rw [IntWalk.i64_in _ (by omega)]; exact hv.symm)
        have HEX := Lib.hid hex
        clear hex hv
        have FT := HT3.out.tx.f3
        have HQ := Lib.hid (show ∀ Z, Chg g (g + 1) w8.drew Z → Src w0 Z A n cap code g s6 → TS w0 w Z A n cap code g tb (some ⟨gA, 0, none⟩) np cp ps C nc dc us s6 t ∧ Z.cell? ⟨tb, 1, none⟩ = some (.slice (some ⟨gA, 0, none⟩) np cp) ∧ Z.cell? ⟨gA, i, none⟩ = some (.slice (some ⟨gr, 0, none⟩) row.length cr) ∧ Z.cell? ⟨gr, k, none⟩ = some (.int .i64 x) ∧ Z.frozen? ⟨gr, k, none⟩ = false from fun Z hc hs => by
          have h1 := (HT3.out.below (below_drewN' _ w8 1)).turn hs hc
          obtain ⟨gA', gr', cr', x', hPe', hvs', hcr', hcx', hfx', _⟩ := h1.ot.at_ HROW.out (bt := k) hkr
          obtain rfl : gA = gA' := by injection hPe' with e; injection e
          have e := HVS.out
          rw [hvs'] at e
          injection e with e
          injection e with e1 _ e2
          injection e1 with e1
          injection e1 with e1 _
          subst e1; subst e2
          have hx0 : x' = x := by
            have h9 : w8.drew.cell? ⟨gr', k, none⟩ = some (.int .i64 x) := hcx
            have h8 := chg_cell hc (b := gr') (i := k) (v := .int .i64 x) (.inr (by omega)) h9
            rw [hcx'] at h8
            injection h8 with h8
            injection h8
          subst hx0
          exact ⟨h1, h1.tx.cell rfl, hcr', hcx', hfx'⟩)
        have HSD := Lib.hid (HT3.out.below (below_drewN' _ w8 1)).d.src
        go_wp2_with fail
        obtain ⟨S, hSE, hSI⟩ : ∃ S : World → Prop, (∀ w1, S w1 → w1.cell? ⟨tb, 1, none⟩ = some (.slice (some ⟨gA, 0, none⟩) np cp) ∧ w1.cell? ⟨gA, i, none⟩ = some (.slice (some ⟨gr, 0, none⟩) row.length cr)) ∧ (∀ w1, w1.cell? ⟨tb, 1, none⟩ = some (.slice (some ⟨gA, 0, none⟩) np cp) → w1.cell? ⟨gA, i, none⟩ = some (.slice (some ⟨gr, 0, none⟩) row.length cr) → S w1) := ⟨fun w1 => w1.cell? ⟨tb, 1, none⟩ = some (.slice (some ⟨gA, 0, none⟩) np cp) ∧ w1.cell? ⟨gA, i, none⟩ = some (.slice (some ⟨gr, 0, none⟩) row.length cr), fun _ h => h, fun _ h h' => ⟨h, h'⟩⟩
        have HSE := Lib.hid hSE; have HSI := Lib.hid hSI
        have hS := hSI w8.drew (HT3.out.tx.cell rfl) hcr
        clear hSE hSI FT hcr hcx hfx
        refine wp_region_T2 (n := 11) S (fun j => decide (10 ≤ j)) (by kernel_rfl) rfl ?_
        intro ops HOPS
        refine wpAnyT_take 0 (.pointer (some ⟨tb, 1, none⟩)) (by rw [HOPS.out]; rfl) (by rw [HOPS.out]; kernel_rfl) (by exact fun _ _ _ h => h) (by rfl) (fun w1 hS => by go_simp) hS ?_
        go_simp
        refine wpAnyT_take 1 (.slice (some ⟨gA, 0, none⟩) np cp) (by rw [HOPS.out]; rfl) (by rw [HOPS.out]; kernel_rfl) (by exact fun _ _ _ h => h) (by rfl) (fun w1 hS => by obtain ⟨k0, k1⟩ := HSE.out _ hS; go_simp) hS ?_
        go_simp
        refine wpAnyT_take 2 (.int .i64 (i : Int)) (by rw [HOPS.out]; rfl) (by rw [HOPS.out]; kernel_rfl) (by exact fun _ _ _ h => h) (by rfl) (fun w1 hS => by go_simp) hS ?_
        go_simp
        refine wpAnyT_take 3 (.pointer (some ⟨gA, i, none⟩)) (by rw [HOPS.out]; rfl) (by rw [HOPS.out]; kernel_rfl) (by exact fun _ _ _ h => h) (by rfl) (fun w1 hS => by go_simp) hS ?_
        go_simp
        refine wpAnyT_take 4 (.slice (some ⟨gr, 0, none⟩) row.length cr) (by rw [HOPS.out]; rfl) (by rw [HOPS.out]; kernel_rfl) (by exact fun _ _ _ h => h) (by rfl) (fun w1 hS => by obtain ⟨k0, k1⟩ := HSE.out _ hS; go_simp) hS ?_
        go_simp
        refine wpAnyT_take 5 (.int .i64 (k : Int)) (by rw [HOPS.out]; rfl) (by rw [HOPS.out]; kernel_rfl) (by exact fun _ _ _ h => h) (by rfl) (fun w1 hS => by go_simp) hS ?_
        go_simp
        refine wpAnyT_take 6 (.pointer (some ⟨g, 0, none⟩)) (by rw [HOPS.out]; rfl) (by rw [HOPS.out]; kernel_rfl) (by exact fun _ _ _ h => h) (by rfl) (fun w1 hS => by go_simp) hS ?_
        go_simp
        refine wpAnyT_one 7 (by rw [HOPS.out]; rfl) (by rw [HOPS.out]; kernel_rfl) ?_
        intro K' hK
        have HK := Lib.hid hK
        clear hK
        go_simp
        go_at_call 16
        refine (H6.out _ HSD.out).mono ?_
        rintro e wq ⟨rfl, hsq, hcq⟩
        obtain ⟨hstq, k0q, k1q, cq, fq⟩ := HQ.out _ hcq hsq
        refine HK.out _ _ (.inr (HSI.out _ k0q k1q)) ?_
        clear HK
        go_simp
        refine wpAnyT_take 8 (.int .i64 v) (by rw [HOPS.out]; rfl) (by rw [HOPS.out]; kernel_rfl) (by exact fun _ _ _ h => h) (by rfl) (fun w1 hS => by go_simp; rw [HWR.out]) (HSI.out _ k0q k1q) ?_
        go_simp
        refine wpAnyT_take 9 (.pointer (some ⟨gr, k, none⟩)) (by rw [HOPS.out]; rfl) (by rw [HOPS.out]; kernel_rfl) (by exact fun _ _ _ h => h) (by rfl) (fun w1 hS => by go_simp) (HSI.out _ k0q k1q) ?_
        go_simp
        refine wpAnyT_one 10 (by rw [HOPS.out]; rfl) (by rw [HOPS.out]; kernel_rfl) ?_
        intro K' hK
        have HK := Lib.hid hK
        clear hK
        go_simp
        refine HK.out _ _ (.inl (by decide)) ?_
        clear HK
        go_simp
        refine wpAnyT_done (by rw [HOPS.out]; kernel_rfl) ?_ _
        have hex := HEX.out
        subst hex
        have HD := Lib.hid (hstq.set1 (bt := k) HROW.out HVS.out v)
        clear hstq k0q k1q cq fq hsq hcq HQ HSD HWR H6 HSE HSI HOPS HEX
        have FB := HD.out.bx.f3
        have FT := HD.out.tx.f3
        go_wp2_with fail
        refine bodyPost_ret (v := .agg #[.int .i64 t.boats, .slice (some ⟨gA, 0, none⟩) np cp, .slice C nc dc]) (by simp [results, Tryz.results56, go_sem, FB]) rfl ?_
        exact HD.out.done
      have t5b : (v3 == 5) = false := by simp [t5]
      by_cases t6 : v3 = 6
      · subst t6
        have hex := HEX.out
        unfold spoilT at hex
        rw [if_neg (by simp), if_neg (by simp), if_neg (by simp), if_neg (by simp), if_pos (.inr (.inr rfl))] at hex
        clear HEX
        have H6 := Lib.hid (HNX.out s3' 8 (by omega))
        have q6 := nextF_bd code s3' 8 (by omega)
        generalize nextF code s3' 8 = r6 at *
        obtain ⟨v6, s6⟩ := r6
        simp only at hex q6
        obtain ⟨row, hrow, _⟩ := drop_cons (xs := t.pts) (k := i) (by omega)
        have hrl := HPR.out i row hrow
        obtain ⟨gA, gr, cr, x, hPe, hvs, hcr, hcx, hfx, hgr0, hgr1, hg0, hg1, _⟩ := HT3.out.ot.at_ hrow (bt := k) (by omega)
        subst hPe
        have HVS := Lib.hid hvs; have HROW := Lib.hid hrow
        have hrl16 : row.length ≤ 16 := by omega
        have hkr : k < row.length := by omega
        clear hvs hrow hrl
        obtain ⟨v, hv⟩ : ∃ v, v = 10 * v6 := ⟨_, rfl⟩
        rw [← hv] at hex
        have HWR := Lib.hid (show IntKind.i64.wrap (10 * v6) = v from by rw [IntWalk.i64_in _ (by omega)]; exact hv.symm)
        have HEX := Lib.hid hex
        clear hex hv
        have FT := HT3.out.tx.f3
        have HQ := Lib.hid (show ∀ Z, Chg g (g + 1) w8.drew Z → Src w0 Z A n cap code g s6 → TS w0 w Z A n cap code g tb (some ⟨gA, 0, none⟩) np cp ps C nc dc us s6 t ∧ Z.cell? ⟨tb, 1, none⟩ = some (.slice (some ⟨gA, 0, none⟩) np cp) ∧ Z.cell? ⟨gA, i, none⟩ = some (.slice (some ⟨gr, 0, none⟩) row.length cr) ∧ Z.cell? ⟨gr, k, none⟩ = some (.int .i64 x) ∧ Z.frozen? ⟨gr, k, none⟩ = false from fun Z hc hs => by
          have h1 := (HT3.out.below (below_drewN' _ w8 1)).turn hs hc
          obtain ⟨gA', gr', cr', x', hPe', hvs', hcr', hcx', hfx', _⟩ := h1.ot.at_ HROW.out (bt := k) hkr
          obtain rfl : gA = gA' := by injection hPe' with e; injection e
          have e := HVS.out
          rw [hvs'] at e
          injection e with e
          injection e with e1 _ e2
          injection e1 with e1
          injection e1 with e1 _
          subst e1; subst e2
          have hx0 : x' = x := by
            have h9 : w8.drew.cell? ⟨gr', k, none⟩ = some (.int .i64 x) := hcx
            have h8 := chg_cell hc (b := gr') (i := k) (v := .int .i64 x) (.inr (by omega)) h9
            rw [hcx'] at h8
            injection h8 with h8
            injection h8
          subst hx0
          exact ⟨h1, h1.tx.cell rfl, hcr', hcx', hfx'⟩)
        have HSD := Lib.hid (HT3.out.below (below_drewN' _ w8 1)).d.src
        go_wp2_with fail
        obtain ⟨S, hSE, hSI⟩ : ∃ S : World → Prop, (∀ w1, S w1 → w1.cell? ⟨tb, 1, none⟩ = some (.slice (some ⟨gA, 0, none⟩) np cp) ∧ w1.cell? ⟨gA, i, none⟩ = some (.slice (some ⟨gr, 0, none⟩) row.length cr)) ∧ (∀ w1, w1.cell? ⟨tb, 1, none⟩ = some (.slice (some ⟨gA, 0, none⟩) np cp) → w1.cell? ⟨gA, i, none⟩ = some (.slice (some ⟨gr, 0, none⟩) row.length cr) → S w1) := ⟨fun w1 => w1.cell? ⟨tb, 1, none⟩ = some (.slice (some ⟨gA, 0, none⟩) np cp) ∧ w1.cell? ⟨gA, i, none⟩ = some (.slice (some ⟨gr, 0, none⟩) row.length cr), fun _ h => h, fun _ h h' => ⟨h, h'⟩⟩
        have HSE := Lib.hid hSE; have HSI := Lib.hid hSI
        have hS := hSI w8.drew (HT3.out.tx.cell rfl) hcr
        clear hSE hSI FT hcr hcx hfx
        refine wp_region_T2 (n := 11) S (fun j => decide (10 ≤ j)) (by kernel_rfl) rfl ?_
        intro ops HOPS
        refine wpAnyT_take 0 (.pointer (some ⟨tb, 1, none⟩)) (by rw [HOPS.out]; rfl) (by rw [HOPS.out]; kernel_rfl) (by exact fun _ _ _ h => h) (by rfl) (fun w1 hS => by go_simp) hS ?_
        go_simp
        refine wpAnyT_take 1 (.slice (some ⟨gA, 0, none⟩) np cp) (by rw [HOPS.out]; rfl) (by rw [HOPS.out]; kernel_rfl) (by exact fun _ _ _ h => h) (by rfl) (fun w1 hS => by obtain ⟨k0, k1⟩ := HSE.out _ hS; go_simp) hS ?_
        go_simp
        refine wpAnyT_take 2 (.int .i64 (i : Int)) (by rw [HOPS.out]; rfl) (by rw [HOPS.out]; kernel_rfl) (by exact fun _ _ _ h => h) (by rfl) (fun w1 hS => by go_simp) hS ?_
        go_simp
        refine wpAnyT_take 3 (.pointer (some ⟨gA, i, none⟩)) (by rw [HOPS.out]; rfl) (by rw [HOPS.out]; kernel_rfl) (by exact fun _ _ _ h => h) (by rfl) (fun w1 hS => by go_simp) hS ?_
        go_simp
        refine wpAnyT_take 4 (.slice (some ⟨gr, 0, none⟩) row.length cr) (by rw [HOPS.out]; rfl) (by rw [HOPS.out]; kernel_rfl) (by exact fun _ _ _ h => h) (by rfl) (fun w1 hS => by obtain ⟨k0, k1⟩ := HSE.out _ hS; go_simp) hS ?_
        go_simp
        refine wpAnyT_take 5 (.int .i64 (k : Int)) (by rw [HOPS.out]; rfl) (by rw [HOPS.out]; kernel_rfl) (by exact fun _ _ _ h => h) (by rfl) (fun w1 hS => by go_simp) hS ?_
        go_simp
        refine wpAnyT_take 6 (.pointer (some ⟨g, 0, none⟩)) (by rw [HOPS.out]; rfl) (by rw [HOPS.out]; kernel_rfl) (by exact fun _ _ _ h => h) (by rfl) (fun w1 hS => by go_simp) hS ?_
        go_simp
        refine wpAnyT_one 7 (by rw [HOPS.out]; rfl) (by rw [HOPS.out]; kernel_rfl) ?_
        intro K' hK
        have HK := Lib.hid hK
        clear hK
        go_simp
        go_at_call 16
        refine (H6.out _ HSD.out).mono ?_
        rintro e wq ⟨rfl, hsq, hcq⟩
        obtain ⟨hstq, k0q, k1q, cq, fq⟩ := HQ.out _ hcq hsq
        refine HK.out _ _ (.inr (HSI.out _ k0q k1q)) ?_
        clear HK
        go_simp
        refine wpAnyT_take 8 (.int .i64 v) (by rw [HOPS.out]; rfl) (by rw [HOPS.out]; kernel_rfl) (by exact fun _ _ _ h => h) (by rfl) (fun w1 hS => by go_simp; rw [HWR.out]) (HSI.out _ k0q k1q) ?_
        go_simp
        refine wpAnyT_take 9 (.pointer (some ⟨gr, k, none⟩)) (by rw [HOPS.out]; rfl) (by rw [HOPS.out]; kernel_rfl) (by exact fun _ _ _ h => h) (by rfl) (fun w1 hS => by go_simp) (HSI.out _ k0q k1q) ?_
        go_simp
        refine wpAnyT_one 10 (by rw [HOPS.out]; rfl) (by rw [HOPS.out]; kernel_rfl) ?_
        intro K' hK
        have HK := Lib.hid hK
        clear hK
        go_simp
        refine HK.out _ _ (.inl (by decide)) ?_
        clear HK
        go_simp
        refine wpAnyT_done (by rw [HOPS.out]; kernel_rfl) ?_ _
        have hex := HEX.out
        subst hex
        have HD := Lib.hid (hstq.set1 (bt := k) HROW.out HVS.out v)
        clear hstq k0q k1q cq fq hsq hcq HQ HSD HWR H6 HSE HSI HOPS HEX
        have FB := HD.out.bx.f3
        have FT := HD.out.tx.f3
        go_wp2_with fail
        refine bodyPost_ret (v := .agg #[.int .i64 t.boats, .slice (some ⟨gA, 0, none⟩) np cp, .slice C nc dc]) (by simp [results, Tryz.results56, go_sem, FB]) rfl ?_
        exact HD.out.done
      have t6b : (v3 == 6) = false := by simp [t6]
      have hex := HEX.out
      unfold spoilT at hex
      rw [if_neg t0, if_neg t1, if_neg t2, if_neg t3, if_neg (by omega)] at hex
      subst hex
      clear HEX
      have FB := HT3.out.bx.f3
      have FT := HT3.out.tx.f3
      go_wp2_with fail
      refine bodyPost_ret (v := .agg #[.int .i64 t.boats, .slice P np cp, .slice C nc dc]) (by simp [results, Tryz.results56, go_sem, FB]) rfl ?_
      exact HT3.out.done
end Go.Proofs.YtalgdeieejpelaaGreatDoor

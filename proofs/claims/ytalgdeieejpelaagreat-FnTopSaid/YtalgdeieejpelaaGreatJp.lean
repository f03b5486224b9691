/- Walks: the series of a register (chapter 33), both sides. -/
import Derived.Test.YtalgdeieejpelaaGreatZmf
import Derived.Test.YtalgdeieejpelaaGreatZml
import Derived.Test.YtalgdeieejpelaaGreatZmk
import Derived.Test.YtalgdeieejpelaaGreatZmb
import Derived.StillTailTactics
namespace Go.Proofs.YtalgdeieejpelaaGreat
open Go.RowKit Go.Sort Go.Lib
set_option linter.unusedVariables false
set_option maxRecDepth 100000

def slLen : Value → Nat
  | .slice _ n _ => n
  | _ => 0
def slLenO : Option Value → Nat
  | some v => slLen v
  | none => 0
theorem chgG {lo hi : Nat} {a w w' : World} {row : Option Nat} (h : Chg lo hi a w) (hg : w.grownBy w' row) (hr : ∀ k, row = some k → a.heap.size ≤ k) : Chg lo hi a w' :=
  ⟨hg.os.trans h.os, hg.tape.trans h.tape, hg.output.trans h.output, Nat.le_trans h.size hg.size, fun k hk hn => (hg.block k (Nat.lt_of_lt_of_le hk h.size) (fun e => by have := hr k e.symm; omega)).trans (h.block k hk hn)⟩
/-- The races of a series that grows, and the box at sb. -/
structure SerS (w2 w : World) (sb : Nat) (vb : Array Value) (A : Option Addr) (q c : Nat) (vs : List Value) (bn : Nat) (rows : List (List FinishT)) : Prop where
  rws : OwnRaces w w2.heap.size 90 128 A q c vs rows
  chg : Chg sb (sb + 1) w2 w
  good : GoodR bn rows
  box : Box w sb vb 58
  lt : sb < w2.heap.size
section
variable {w2 w w' : World} {sb bn q c : Nat} {vb : Array Value} {A : Option Addr} {vs : List Value} {rows : List (List FinishT)}
theorem SerS.below (h : SerS w2 w sb vb A q c vs bn rows) (k : Below w.heap.size w w') : SerS w2 w' sb vb A q c vs bn rows :=
  ⟨h.rws.below k, h.chg.trans (Chg.of_below k), h.good, h.box.below k, h.lt⟩
theorem SerS.put (h : SerS w2 w sb vb A q c vs bn rows) (i : Nat) (v : Value) : SerS w2 (w.setCell ⟨sb, i, none⟩ v) sb (vb.setIfInBounds i v) A q c vs bn rows := by
  have hch := put_chg (g := sb) [v] i (Chg.refl sb (sb + 1) w) (by omega) (by omega)
  exact ⟨h.rws.chg hch h.rws.in_ (by have := h.lt; omega), h.chg.trans hch, h.good, h.box.set i v, h.lt⟩
theorem SerS.app {w1 : World} {A1 : Option Addr} {c1 z : Nat} (h : SerS w2 w sb vb A q c vs bn rows) {A' : Option Addr} {c' : Nat} {ys : List FinishT} (hz : w2.heap.size ≤ z) (hin : RowsIn w2.heap.size z A q c vs)
    (hy : w.ownsRow z 128 3 (.slice A' ys.length c') ys.length (fins ys)) (o : Obj) (hg : (w.alloc o).grownBy w1 (Value.slice A q c).ownBlock) (ho : w1.ownsRow w2.heap.size 90 1 (.slice A1 (q + 1) c1) (q + 1) (vs ++ [.slice A' ys.length c']))
    (hgood : GoodR bn (rows ++ [ys])) : SerS w2 w1 sb vb A1 (q + 1) c1 (vs ++ [.slice A' ys.length c']) bn (rows ++ [ys]) := by
  have hl := h.lt
  refine ⟨h.rws.append (by decide) (own_base hy hz) (fun u hu b hb hb' => ?_) o hg ho, chgG (chgG h.chg (World.grownBy_alloc w o none) (fun k e => by cases e)) hg (fun k e => (h.rws.outer.lt k e).1), hgood, ?_, hl⟩
  · have h1 := (hy.lt b hb).1
    have h2 := (hin.2 u hu b hb').2
    omega
  · exact (h.box.below ((Below.refl _ _).alloc (Nat.le_refl _) _)).grown hg (fun e => by have := (h.rws.outer.lt _ e).1; omega)
/-- One finish of one race is written. -/
theorem SerS.upd (h : SerS w2 w sb vb A q c vs bn rows) {k j g : Nat} {c' : Nat} {xs : List FinishT} (hk : vs[k]? = some (.slice (some ⟨g, 0, none⟩) xs.length c')) (hx : rows[k]? = some xs) (hj : j < xs.length) (x0 x1 x2 : Int) :
    SerS w2 (((w.setCell ⟨g, j * 3, none⟩ (.int .i64 x0)).setCell ⟨g, j * 3 + 1, none⟩ (.int .i64 x1)).setCell ⟨g, j * 3 + 2, none⟩ (.int .i64 x2)) sb vb A q c vs bn (rows.set k (xs.set j (x0, x1, x2))) := by
  obtain ⟨A0, c0, e, ho⟩ := h.rws.row k _ _ hk hx
  have hgr := put_grown (g := g) [.int .i64 x0, .int .i64 x1, .int .i64 x2] (j * 3) (World.grownBy.refl w (some g))
  have hgb := (ho.lt g rfl)
  have hl := h.lt
  have hlen : xs.length = bn := h.good.2 xs (List.mem_of_getElem? hx)
  refine ⟨h.rws.upd (by decide) hk hx (by simp) hgr (by rw [List.length_set]; exact own_fin_set ho hj x0 x1 x2), chgG h.chg hgr (fun k e => by injection e with e; omega), h.good.set k (by simpa using hlen), ?_, hl⟩
  exact h.box.grown hgr (fun e => by injection e with e; omega)
end
/-- Another struct's box stays. -/
theorem box_app {w w1 : World} {xb : Nat} {us : Array Value} {t : TypeId} (X : Box w xb us t) {base e s n : Nat} {v : Value} {xs : List Value} (ho : w.ownsRow base e s v n xs) (hne : e ≠ t) (o : Obj) (hg : (w.alloc o).grownBy w1 v.ownBlock) : Box w1 xb us t :=
  (X.below ((Below.refl _ _).alloc (Nat.le_refl _) _)).grown hg (fun e => own_ne_box ho X hne _ e rfl)
theorem box_put3 {w : World} {xb g : Nat} {us : Array Value} {t : TypeId} (X : Box w xb us t) (hne : xb ≠ g) (i1 i2 i3 : Nat) (v1 v2 v3 : Value) : Box (((w.setCell ⟨g, i1, none⟩ v1).setCell ⟨g, i2, none⟩ v2).setCell ⟨g, i3, none⟩ v3) xb us t :=
  ((X.other hne _).other hne _).other hne _
set_option maxHeartbeats 4000000 in
theorem specSeries_any (b s : Int) (A : Option Addr) (n c : Nat) (xs : List EntryT) (w : World) (hr : RegRd w A n c xs) (hlen : n ≤ 400) (hok : ∀ x ∈ xs, okE x) (hkey : xs.Pairwise fun x y => sameB x y = false) (hb0 : 1 ≤ b) (hb16 : b ≤ 16) :
    Calls Tryz.prog 50 #[.agg #[.int .i64 b, .int .i64 s, .slice A n c]] w (RetSer1 w b s (serF b xs)) := by
  obtain ⟨bn, rfl⟩ : ∃ bn : Nat, b = (bn : Int) := ⟨b.toNat, by omega⟩
  have hbn : bn ≤ 16 := by omega
  obtain ⟨w1, hw1, X0, X1, hb1, hs1⟩ := two_boxes w #[.int .i64 (bn : Int), .int .i64 s, .slice A n c] #[.int .i64 0, .int .i64 0, .slice none 0 0] 31 58
  have HB1 := Lib.hid hb1
  have HCU := Lib.hid (fun w' (hb : Below w.heap.size w w') => specCurrent_any (bn : Int) s A n c xs w' (hr.below hb) hlen hok hkey hb0 hb16)
  have hmem := fun (x : EntryT) (h : x ∈ currF (bn : Int) xs) => currF_mem h
  have hser : serF (bn : Int) xs = serGo bn [] (currF (bn : Int) xs) := by unfold serF serL; rw [Int.toNat_natCast]
  rw [hser]
  generalize currF (bn : Int) xs = l at *
  have HMEM := Lib.hid hmem
  have HX0 := Lib.hid X0; have HX1 := Lib.hid X1
  skip
  have F0 := X0.f3
  clear hb1 X0 X1 hr hlen hok hkey hmem hser hb0 hb16
  go_enter Tryz.func50, Tryz.ntmps50
  go_wp2_with fail
  rw [← hw1]
  clear hw1
  go_wp2_with fail
  refine (HCU.out _ HB1.out).mono ?_
  rintro e w2 ⟨AL, nL, cL, rfl, oL, hnL, hb2⟩
  have HLEN := Lib.hid (own_len_flat entC_len (by decide) oL)
  have HOL := Lib.hid oL
  have HB2 := Lib.hid hb2
  have hs2 := hb2.size
  clear oL hb2 HCU F0
  have HC2 := Lib.hid (Chg.of_below (lo := w.heap.size + 1) (hi := w.heap.size + 1 + 1) HB2.out)
  have HS0 := Lib.hid (show SerS w2 (w2.alloc (.cells #[] 90)) (w.heap.size + 1) #[.int .i64 0, .int .i64 0, .slice none 0 0] (some ⟨w2.heap.size, 0, none⟩) 0 0 [] bn [] from ⟨OwnRaces.empty w2 w2.heap.size _ _ (Nat.le_refl _), Chg.of_below ((Below.refl _ _).alloc (Nat.le_refl _) _), GoodR.nil _, (HX1.out.below HB2.out).below ((Below.refl _ _).alloc (Nat.le_refl _) _), by omega⟩)
  go_wp2_with fail
  go_loopw [4, 5] (fun r i wr => ∃ (k q c' : Nat) (A' : Option Addr) (vs : List Value), k ≤ nL ∧ i = .int .i64 k ∧ r = .slice A' q c' ∧ Hid (SerS w2 wr (w.heap.size + 1) #[.int .i64 0, .int .i64 0, .slice none 0 0] A' q c' vs bn (serGo bn [] (l.take k)))) (fun _ i _ => nL - (intOf i).toNat)
  case atStart => exact ⟨0, 0, 0, _, [], Nat.zero_le _, rfl, rfl, HS0⟩
  case round =>
    clear HS0
    obtain ⟨k, q, c', A', vs, hk, rfl, rfl, HS⟩ := hrel
    obtain ⟨wo, hwo⟩ : ∃ wo : World, wo = wr := ⟨_, rfl⟩
    subst hwo
    have hso := HS.out.chg.size
    have HOLo := Lib.hid (own_chg HOL.out HS.out.chg (fun b hb => .inr (by have := (HOL.out.lt b hb).1; omega)))
    by_cases hlt : k < nL
    · obtain ⟨gl, y0, y1, y2, y3, y4, y5, y6, hAL, hgl, hgll, hx, _, hc0, hc1, hc2, hc3, hc4, hc5, hc6, _⟩ := own_ent_at HOLo.out hlt
      subst hAL
      obtain ⟨_, hr0, hr1, ht0, ht1⟩ := HMEM.out _ (List.mem_of_getElem? hx)
      have HT := Lib.hid (serGo_take bn l hx [])
      simp only [E.race, E.boat] at hr0 hr1 ht0 ht1
      obtain ⟨rn, rfl⟩ := int_up y0 hr0
      obtain ⟨tn, rfl⟩ := int_up y1 ht0
      have hrn : rn ≤ 11 := by omega
      have htn : tn < bn := by omega
      clear hx hr0 hr1 ht0 ht1 HOLo
      obtain ⟨wa, hwa, XB, hba, hsa⟩ := one_box wo #[.int .i64 (rn : Int), .int .i64 (tn : Int), .int .i64 y2, .int .i64 y3, .int .i64 y4, .int .i64 y5, .int .i64 y6] 50
      have HXA := Lib.hid XB
      have HSA := Lib.hid (HS.out.below hba)
      clear XB hba
      generalize serGo bn [] (l.take k) = rows0 at *
      go_wp2_with fail
      rw [← hwa]
      clear hwa hc0 hc1 hc2 hc3 hc4 hc5 hc6 HS
      go_loopw [4] (fun r wr => ∃ (q c' : Nat) (A' : Option Addr) (vs : List Value) (rows : List (List FinishT)), r = .slice A' q c' ∧ Hid (SerS w2 wr (w.heap.size + 1) #[.int .i64 0, .int .i64 0, .slice none 0 0] A' q c' vs bn rows) ∧ Hid (padR bn rows (rn + 1) = padR bn rows0 (rn + 1)) ∧ Hid (Box wr wo.heap.size #[.int .i64 (rn : Int), .int .i64 (tn : Int), .int .i64 y2, .int .i64 y3, .int .i64 y4, .int .i64 y5, .int .i64 y6] 50)) (fun r _ => rn + 1 - slLen r)
      case atStart => exact ⟨q, c', A', vs, rows0, rfl, HSA, Lib.hid rfl, HXA⟩
      case round =>
        clear HSA HXA
        obtain ⟨q, c', A', vs, rows, rfl, HS, HP, HXB⟩ := hrel
        obtain ⟨wi, hwi⟩ : ∃ wi : World, wi = wr := ⟨_, rfl⟩
        subst hwi
        have hsi := HS.out.chg.size
        have F0 := (HX0.out.chg (HC2.out.trans HS.out.chg) (.inl (by omega))).f3
        have F3 := HXB.out.f7
        have hql := HS.out.rws.len
        have hq12 := HS.out.good.1
        rw [hql] at hq12
        have HQL := Lib.hid hql
        clear hql
        by_cases hq : q ≤ rn
        · have hqi : decide ((q : Int) ≤ rn) = true := by simp; omega
          have hof := own_emptyE wi wi.heap.size 128 3 (Nat.le_refl _)
          go_wp2_with fail
          go_loopw [7, 8] (fun f i wr => ∃ (j c3 : Nat) (A3 : Option Addr), j ≤ bn ∧ i = .int .i64 j ∧ f = .slice A3 j c3 ∧ Hid (wr.ownsRow wi.heap.size 128 3 (.slice A3 j c3) j (fins (dncRow j))) ∧ Hid (Below wi.heap.size wi wr)) (fun _ i _ => bn - (intOf i).toNat)
          case atStart => exact ⟨0, 0, _, Nat.zero_le _, rfl, rfl, Lib.hid hof, Lib.hid ((Below.refl _ _).alloc (Nat.le_refl _) _)⟩
          case round =>
            clear hof F0 F3
            obtain ⟨j, c3, A3, hj, rfl, rfl, HF, HB⟩ := hrel
            have hsw := HB.out.size
            have F0 := (HX0.out.chg (HC2.out.trans ((HS.out.below HB.out).chg)) (.inl (by omega))).f3
            by_cases hjb : j < bn
            · go_wp2_with (at_builtin; refine app_fin _ rfl _ _ rfl rfl (own_below HF.out ((Below.refl _ _).alloc (Nat.le_refl _) _)) rfl (heap_alloc_new _ _) (by omega) ?cB ?_; rotate_left; intro g5 c5 w5 hown5 hgr5 _ _)
              · have HF5 := Lib.hid hown5
                have HB5 := Lib.hid ((HB.out.alloc hsw _).grown hgr5 (by simp; omega) (fun k hk => (HF.out.lt k hk).1))
                clear hown5 hgr5
                go_roundw
                case rel => exact ⟨j + 1, _, _, by omega, by go_num, rfl, Lib.hid (by rw [dncRow_snoc]; exact HF5.out), HB5⟩
                case measure => simp [intOf] <;> omega
              · first | omega | (simp; omega)
            · obtain rfl : j = bn := by omega
              have HSW := Lib.hid (HS.out.below HB.out)
              have HXW := Lib.hid (HXB.out.below HB.out)
              have HIN := Lib.hid HS.out.rws.in_
              go_wp2_with (at_builtin; refine app_race _ rfl _ _ rfl rfl (own_below HSW.out.rws.outer ((Below.refl _ _).alloc (Nat.le_refl _) _)) rfl (cell_new1 _ _ _) (by omega) ?cR ?_; rotate_left; intro A6 c6 w6 hown6 hgr6; have hdl := dncRow_len j; have HS6 := Lib.hid (HSW.out.app (z := wi.heap.size) (A' := A3) (c' := c3) (ys := dncRow j) hsi HIN.out (by rw [hdl]; exact HF.out) _ hgr6 (by rw [hdl]; exact hown6) (HSW.out.good.snoc (by rw [HQL.out]; omega))); have HX6 := Lib.hid (box_app HXW.out HSW.out.rws.outer (by decide) _ hgr6); clear hown6 hgr6 hdl)
              · have HP6 := Lib.hid ((padR_step (b := j) (rows := rows) (m := rn + 1) (by rw [HQL.out]; omega)).trans HP.out)
                go_roundw
                case rel => exact ⟨_, _, _, _, _, rfl, HS6, HP6, HX6⟩
                case measure => simp [slLen] <;> omega
              · first | omega | (simp; omega)
        · have hqi : decide ((q : Int) ≤ rn) = false := by simp; omega
          have hqr : rn < q := by omega
          obtain ⟨v, A2, c2, r, hv, hrow, _, rfl, hor⟩ := HS.out.rws.get hqr
          have hrl : r.length = bn := HS.out.good.2 r (List.mem_of_getElem? hrow)
          obtain ⟨g1, u, rfl, hg1, hg1l, hu, hcy, _⟩ := own_at HS.out.rws.outer hqr
          obtain rfl : Value.slice A2 r.length c2 = u := by rw [hv] at hu; injection hu
          obtain ⟨g2, z0, z1, z2, rfl, hg2, hg2l, _, _, d0, d1, d2, e0, e1, e2⟩ := own_fin_at hor (k := tn) (by omega)
          have hne := own_ne_box hor HXB.out (by decide) g2 rfl
          have hne' : wo.heap.size ≠ g2 := Ne.symm hne
          have HEQ := Lib.hid (show putR bn rows0 ((rn : Int), (tn : Int), y2, y3, y4, y5, y6) = rows.set rn (r.set tn ((tn : Int), y3, y4)) from by
            unfold putR
            simp only [E.race, E.boat, E.code, E.time, Int.toNat_natCast]
            rw [← HP.out, padR_id (by rw [HQL.out]; omega), List.getD_eq_getElem?_getD, hrow]
            rfl)
          have HV := Lib.hid hv; have HROW := Lib.hid hrow; have HTL := Lib.hid (show tn < r.length by omega)
          have HD := Lib.hid (And.intro d0 (And.intro d1 d2)); have HE := Lib.hid (And.intro e0 (And.intro e1 e2)); have HNE := Lib.hid hne'
          rw [hrl] at hcy
          clear hv hrow hu hor hrl hne hne' hg2 hg2l hg1 hg1l d0 d1 d2 e0 e1 e2 HP HQL
          go_wp2_with fail
          go_still_tail 16, (by kernel_rfl)
          change wpList _ _ _ _ _ wi.drew
          obtain ⟨w7, hw7⟩ : ∃ wd : World, wd = wi.drew := ⟨_, rfl⟩
          have hb7 : Below wi.heap.size wi w7 := by rw [hw7]; exact below_drewN' _ wi 1
          have d := HD.out
          have e := HE.out
          replace d : w7.cell? ⟨g2, tn * 3, none⟩ = some (.int .i64 z0) ∧ w7.cell? ⟨g2, tn * 3 + 1, none⟩ = some (.int .i64 z1) ∧ w7.cell? ⟨g2, tn * 3 + 2, none⟩ = some (.int .i64 z2) := by rw [hw7]; exact d
          replace e : w7.frozen? ⟨g2, tn * 3, none⟩ = false ∧ w7.frozen? ⟨g2, tn * 3 + 1, none⟩ = false ∧ w7.frozen? ⟨g2, tn * 3 + 2, none⟩ = false := by rw [hw7]; exact e
          rw [← hw7]
          clear hw7
          have HS7 := HS.out.below hb7
          have HUP := Lib.hid (HS7.upd HV.out HROW.out HTL.out (tn : Int) y3 y4)
          have HTU := Lib.hid HT.out
          obtain ⟨d0, d1, d2⟩ := d
          obtain ⟨e0, e1, e2⟩ := e
          clear HS7 hb7 F0 F3 HD HE HXB HS
          go_wp2_with fail
          go_roundw
          case rel => exact ⟨k + 1, q, c', _, vs, by omega, by go_num, rfl, Lib.hid (by rw [HTU.out, HEQ.out]; exact HUP.out)⟩
          case measure => simp [intOf] <;> omega
    · obtain rfl : k = nL := by omega
      have ht : l.take k = l := List.take_of_length_le (by rw [HLEN.out]; exact Nat.le_refl _)
      rw [ht] at HS
      clear ht
      have F0 := (HX0.out.chg (HC2.out.trans HS.out.chg) (.inl (by omega))).f3
      have F1 := HS.out.box.f3
      go_wp2_with fail
      refine bodyPost_ret (v := .agg #[.int .i64 (bn : Int), .int .i64 s, .slice A' q c']) (by simp [results, Tryz.results50, go_sem, F1]) rfl ?_
      have hch := put_chg (g := w.heap.size + 1) [.int .i64 (bn : Int), .int .i64 s, .slice A' q c'] 0 (Chg.refl (w.heap.size + 1) (w.heap.size + 1 + 1) wo) (by omega) (by omega)
      exact ⟨A', q, c', vs, rfl, (HS.out.rws.chg hch HS.out.rws.in_ (by omega)).base' (by omega), HS.out.good.sum hbn, below_chg (below_chg (HB1.out.trans (HB2.out.mono HB1.out.size)) HS.out.chg (by omega) (by have := HB1.out.size; omega)) hch (by omega) (by omega)⟩
set_option maxHeartbeats 4000000 in
theorem implSeries_any (b s : Int) (A : Option Addr) (n c : Nat) (xs : List EntryT) (w : World) (hr : RegRd w A n c xs) (hlen : n ≤ 400) (hok : ∀ x ∈ xs, okE x) (hkey : xs.Pairwise fun x y => sameB x y = false) (hb0 : 1 ≤ b) (hb16 : b ≤ 16) :
    Calls Tryz.prog 49 #[.agg #[.int .i64 b, .int .i64 s, .slice A n c]] w (RetSer1 w b s (serF b xs)) := by
  obtain ⟨bn, rfl⟩ : ∃ bn : Nat, b = (bn : Int) := ⟨b.toNat, by omega⟩
  have hbn : bn ≤ 16 := by omega
  obtain ⟨w1, hw1, X0, X1, X2, hb1, hs1⟩ := three_boxes w #[.int .i64 (bn : Int), .int .i64 s, .slice A n c] #[.int .i64 0, .int .i64 0, .slice none 0 0] #[.int .i64 (bn : Int), .int .i64 s, .slice none 0 0] 31 58 58
  have HB1 := Lib.hid hb1
  have HCU := Lib.hid (fun w' (hb : Below w.heap.size w w') => implCurrent_any (bn : Int) s A n c xs w' (hr.below hb) hlen hok hkey hb0 hb16)
  have hmem := fun (x : EntryT) (h : x ∈ currF (bn : Int) xs) => currF_mem h
  have hser : serF (bn : Int) xs = serGo bn [] (currF (bn : Int) xs) := by unfold serF serL; rw [Int.toNat_natCast]
  rw [hser]
  generalize currF (bn : Int) xs = l at *
  have HMEM := Lib.hid hmem
  have HX0 := Lib.hid X0; have HX1 := Lib.hid X1
  have HX2 := Lib.hid X2; clear X2
  have F0 := X0.f3
  clear hb1 X0 X1 hr hlen hok hkey hmem hser hb0 hb16
  go_enter Tryz.func49, Tryz.ntmps49
  go_wp2_with fail
  rw [← hw1]
  clear hw1
  go_wp2_with fail
  refine (HCU.out _ HB1.out).mono ?_
  rintro e w2 ⟨AL, nL, cL, rfl, oL, hnL, hb2⟩
  have HLEN := Lib.hid (own_len_flat entC_len (by decide) oL)
  have HOL := Lib.hid oL
  have HB2 := Lib.hid hb2
  have hs2 := hb2.size
  clear oL hb2 HCU F0
  have HC2 := Lib.hid (Chg.of_below (lo := w.heap.size + 1 + 1) (hi := w.heap.size + 1 + 1 + 1) HB2.out)
  have HS0 := Lib.hid (show SerS w2 w2 (w.heap.size + 1 + 1) #[.int .i64 (bn : Int), .int .i64 s, .slice none 0 0] none 0 0 [] bn [] from ⟨OwnRaces.nil _ _ _ _, Chg.refl _ _ _, GoodR.nil _, HX2.out.below HB2.out, by omega⟩)
  go_wp2_with fail
  go_loopw [16] (fun i wr => ∃ (k q c' : Nat) (A' : Option Addr) (vs : List Value), k ≤ nL ∧ i = .int .i64 k ∧ Hid (SerS w2 wr (w.heap.size + 1 + 1) #[.int .i64 (bn : Int), .int .i64 s, .slice A' q c'] A' q c' vs bn (serGo bn [] (l.take k)))) (fun i _ => nL - (intOf i).toNat)
  case atStart => exact ⟨0, 0, 0, none, [], Nat.zero_le _, rfl, HS0⟩
  case round =>
    clear HS0
    obtain ⟨k, q, c', A', vs, hk, rfl, HS⟩ := hrel
    obtain ⟨wo, hwo⟩ : ∃ wo : World, wo = wr := ⟨_, rfl⟩
    subst hwo
    have hso := HS.out.chg.size
    have HOLo := Lib.hid (own_chg HOL.out HS.out.chg (fun b hb => .inr (by have := (HOL.out.lt b hb).1; omega)))
    by_cases hlt : k < nL
    · obtain ⟨gl, y0, y1, y2, y3, y4, y5, y6, hAL, hgl, hgll, hx, _, hc0, hc1, hc2, hc3, hc4, hc5, hc6, _⟩ := own_ent_at HOLo.out hlt
      subst hAL
      obtain ⟨_, hr0, hr1, ht0, ht1⟩ := HMEM.out _ (List.mem_of_getElem? hx)
      have HT := Lib.hid (serGo_take bn l hx [])
      simp only [E.race, E.boat] at hr0 hr1 ht0 ht1
      obtain ⟨rn, rfl⟩ := int_up y0 hr0
      obtain ⟨tn, rfl⟩ := int_up y1 ht0
      have hrn : rn ≤ 11 := by omega
      have htn : tn < bn := by omega
      clear hx hr0 hr1 ht0 ht1 HOLo
      obtain ⟨wa, hwa, XB, hba, hsa⟩ := one_box wo #[.int .i64 (rn : Int), .int .i64 (tn : Int), .int .i64 y2, .int .i64 y3, .int .i64 y4, .int .i64 y5, .int .i64 y6] 50
      have HXA := Lib.hid XB
      have HSA := Lib.hid (HS.out.below hba)
      clear XB hba
      generalize serGo bn [] (l.take k) = rows0 at *
      have F2 := HS.out.box.f3
      go_wp2_with fail
      rw [← hwa]
      clear hwa hc0 hc1 hc2 hc3 hc4 hc5 hc6 F2 HS
      go_loopw [6] (fun f wr => ∃ (q c' : Nat) (A' : Option Addr) (vs : List Value) (rows : List (List FinishT)), Hid (SerS w2 wr (w.heap.size + 1 + 1) #[.int .i64 (bn : Int), .int .i64 s, .slice A' q c'] A' q c' vs bn rows) ∧ Hid (padR bn rows (rn + 1) = padR bn rows0 (rn + 1)) ∧ Hid (Box wr wo.heap.size #[.int .i64 (rn : Int), .int .i64 (tn : Int), .int .i64 y2, .int .i64 y3, .int .i64 y4, .int .i64 y5, .int .i64 y6] 50)) (fun _ wx => rn + 1 - slLenO (wx.cell? ⟨w.heap.size + 1 + 1, 2, none⟩))
      case atStart => exact ⟨q, c', A', vs, rows0, HSA, Lib.hid rfl, HXA⟩
      case round =>
        clear HSA HXA
        obtain ⟨q, c', A', vs, rows, HS, HP, HXB⟩ := hrel
        obtain ⟨wi, hwi⟩ : ∃ wi : World, wi = wr := ⟨_, rfl⟩
        subst hwi
        have hsi := HS.out.chg.size
        have F0 := (HX0.out.chg (HC2.out.trans HS.out.chg) (.inl (by omega))).f3
        have F3 := HXB.out.f7
        have hql := HS.out.rws.len
        have hq12 := HS.out.good.1
        rw [hql] at hq12
        have HQL := Lib.hid hql
        clear hql
        have F2 := HS.out.box.f3
        by_cases hq : q ≤ rn
        · have hqi : decide ((q : Int) ≤ rn) = true := by simp; omega
          have hof := own_emptyE wi wi.heap.size 128 3 (Nat.le_refl _)
          go_wp2_with fail
          go_loopw [6, 29] (fun f i wr => ∃ (j c3 : Nat) (A3 : Option Addr), j ≤ bn ∧ i = .int .i64 j ∧ f = .slice A3 j c3 ∧ Hid (wr.ownsRow wi.heap.size 128 3 (.slice A3 j c3) j (fins (dncRow j))) ∧ Hid (Below wi.heap.size wi wr)) (fun _ i _ => bn - (intOf i).toNat)
          case atStart => exact ⟨0, 0, _, Nat.zero_le _, rfl, rfl, Lib.hid hof, Lib.hid ((Below.refl _ _).alloc (Nat.le_refl _) _)⟩
          case round =>
            clear hof F0 F3 F2
            obtain ⟨j, c3, A3, hj, rfl, rfl, HF, HB⟩ := hrel
            have hsw := HB.out.size
            have F0 := (HX0.out.chg (HC2.out.trans ((HS.out.below HB.out).chg)) (.inl (by omega))).f3
            by_cases hjb : j < bn
            · go_wp2_with (at_builtin; refine app_fin _ rfl _ _ rfl rfl (own_below HF.out ((Below.refl _ _).alloc (Nat.le_refl _) _)) rfl (heap_alloc_new _ _) (by omega) ?cB ?_; rotate_left; intro g5 c5 w5 hown5 hgr5 _ _)
              · have HF5 := Lib.hid hown5
                have HB5 := Lib.hid ((HB.out.alloc hsw _).grown hgr5 (by simp; omega) (fun k hk => (HF.out.lt k hk).1))
                clear hown5 hgr5
                go_roundw
                case rel => exact ⟨j + 1, _, _, by omega, by go_num, rfl, Lib.hid (by rw [dncRow_snoc]; exact HF5.out), HB5⟩
                case measure => simp [intOf] <;> omega
              · first | omega | (simp; omega)
            · obtain rfl : j = bn := by omega
              have HSW := Lib.hid (HS.out.below HB.out)
              have HXW := Lib.hid (HXB.out.below HB.out)
              have HIN := Lib.hid HS.out.rws.in_
              have F2 := HSW.out.box.f3
              go_wp2_with (at_builtin; refine app_race _ rfl _ _ rfl rfl (own_below HSW.out.rws.outer ((Below.refl _ _).alloc (Nat.le_refl _) _)) rfl (cell_new1 _ _ _) (by omega) ?cR ?_; rotate_left; intro A6 c6 w6 hown6 hgr6; have hdl := dncRow_len j; have HS6 := Lib.hid (HSW.out.app (z := wi.heap.size) (A' := A3) (c' := c3) (ys := dncRow j) hsi HIN.out (by rw [hdl]; exact HF.out) _ hgr6 (by rw [hdl]; exact hown6) (HSW.out.good.snoc (by rw [HQL.out]; omega))); have HX6 := Lib.hid (box_app HXW.out HSW.out.rws.outer (by decide) _ hgr6); clear hown6 hgr6 hdl; have F6 := HS6.out.box.f3)
              · have HP6 := Lib.hid ((padR_step (b := j) (rows := rows) (m := rn + 1) (by rw [HQL.out]; omega)).trans HP.out)
                have HS7 := Lib.hid (HS6.out.put 2 (.slice A6 (q + 1) c6))
                have HX7 := Lib.hid (HX6.out.other (c := w.heap.size + 1 + 1) (i := 2) (by omega) (.slice A6 (q + 1) c6))
                go_roundw
                case rel => exact ⟨_, _, _, _, _, by simpa using HS7, HP6, HX7⟩
                case measure => (have M1 := HS.out.box.cell (i := 2) rfl; have M2 := HS7.out.box.cell (i := 2) rfl; rw [M1, M2]; simp [slLenO, slLen]; omega)
              · first | omega | (simp; omega)
        · have hqi : decide ((q : Int) ≤ rn) = false := by simp; omega
          have hqr : rn < q := by omega
          obtain ⟨v, A2, c2, r, hv, hrow, _, rfl, hor⟩ := HS.out.rws.get hqr
          have hrl : r.length = bn := HS.out.good.2 r (List.mem_of_getElem? hrow)
          obtain ⟨g1, u, rfl, hg1, hg1l, hu, hcy, _⟩ := own_at HS.out.rws.outer hqr
          obtain rfl : Value.slice A2 r.length c2 = u := by rw [hv] at hu; injection hu
          obtain ⟨g2, z0, z1, z2, rfl, hg2, hg2l, _, _, d0, d1, d2, e0, e1, e2⟩ := own_fin_at hor (k := tn) (by omega)
          have hne := own_ne_box hor HXB.out (by decide) g2 rfl
          have hne' : wo.heap.size ≠ g2 := Ne.symm hne
          have HEQ := Lib.hid (show putR bn rows0 ((rn : Int), (tn : Int), y2, y3, y4, y5, y6) = rows.set rn (r.set tn ((tn : Int), y3, y4)) from by
            unfold putR
            simp only [E.race, E.boat, E.code, E.time, Int.toNat_natCast]
            rw [← HP.out, padR_id (by rw [HQL.out]; omega), List.getD_eq_getElem?_getD, hrow]
            rfl)
          have HV := Lib.hid hv; have HROW := Lib.hid hrow; have HTL := Lib.hid (show tn < r.length by omega)
          have HD := Lib.hid (And.intro d0 (And.intro d1 d2)); have HE := Lib.hid (And.intro e0 (And.intro e1 e2)); have HNE := Lib.hid hne'
          rw [hrl] at hcy
          clear hv hrow hu hor hrl hne hne' hg2 hg2l hg1 hg1l d0 d1 d2 e0 e1 e2 HP HQL
          go_wp2_with fail
          go_still_tail 17, (by kernel_rfl)
          change wpList _ _ _ _ _ wi.drew
          obtain ⟨w7, hw7⟩ : ∃ wd : World, wd = wi.drew := ⟨_, rfl⟩
          have hb7 : Below wi.heap.size wi w7 := by rw [hw7]; exact below_drewN' _ wi 1
          have d := HD.out
          have e := HE.out
          replace d : w7.cell? ⟨g2, tn * 3, none⟩ = some (.int .i64 z0) ∧ w7.cell? ⟨g2, tn * 3 + 1, none⟩ = some (.int .i64 z1) ∧ w7.cell? ⟨g2, tn * 3 + 2, none⟩ = some (.int .i64 z2) := by rw [hw7]; exact d
          replace e : w7.frozen? ⟨g2, tn * 3, none⟩ = false ∧ w7.frozen? ⟨g2, tn * 3 + 1, none⟩ = false ∧ w7.frozen? ⟨g2, tn * 3 + 2, none⟩ = false := by rw [hw7]; exact e
          rw [← hw7]
          clear hw7
          have HS7 := HS.out.below hb7
          have HUP := Lib.hid (HS7.upd HV.out HROW.out HTL.out (tn : Int) y3 y4)
          have HTU := Lib.hid HT.out
          obtain ⟨d0, d1, d2⟩ := d
          obtain ⟨e0, e1, e2⟩ := e
          clear HS7 hb7 F0 F3 HD HE HXB HS F2
          go_wp2_with fail
          go_roundw
          case rel => exact ⟨k + 1, q, c', _, vs, by omega, by go_num, Lib.hid (by rw [HTU.out, HEQ.out]; exact HUP.out)⟩
          case measure => simp [intOf] <;> omega
    · obtain rfl : k = nL := by omega
      have ht : l.take k = l := List.take_of_length_le (by rw [HLEN.out]; exact Nat.le_refl _)
      rw [ht] at HS
      clear ht
      have F0 := (HX0.out.chg (HC2.out.trans HS.out.chg) (.inl (by omega))).f3
      have F1 := (HX1.out.chg (HC2.out.trans HS.out.chg) (.inl (by omega))).f3
      have F2 := HS.out.box.f3
      go_wp2_with fail
      refine bodyPost_ret (v := .agg #[.int .i64 (bn : Int), .int .i64 s, .slice A' q c']) (by simp [results, Tryz.results49, go_sem, F1]) rfl ?_
      have hch := put_chg (g := w.heap.size + 1) [.int .i64 (bn : Int), .int .i64 s, .slice A' q c'] 0 (Chg.refl (w.heap.size + 1) (w.heap.size + 1 + 1) wo) (by omega) (by omega)
      exact ⟨A', q, c', vs, rfl, (HS.out.rws.chg hch HS.out.rws.in_ (by omega)).base' (by omega), HS.out.good.sum hbn, below_chg (below_chg (HB1.out.trans (HB2.out.mono HB1.out.size)) HS.out.chg (by omega) (by have := HB1.out.size; omega)) hch (by omega) (by omega)⟩
end Go.Proofs.YtalgdeieejpelaaGreat

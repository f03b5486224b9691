/- Walks: redress is drawn. -/
import Derived.Test.YtalgdeieejpelaaGreatDoorZmj
import Derived.Test.YtalgdeieejpelaaGreatDoorZmf
import Derived.Deep.AppendLies
import Derived.IntWalk
namespace Go.Proofs.YtalgdeieejpelaaGreatDoor
open Go.RowKit Go.Sort
set_option linter.unusedVariables false
set_option maxRecDepth 100000

section
variable {ops : Array Oper} {rest : List Oper} {o : Oper} {a : Act} {K : Act → World → Prop} {Q : Exit → Act → World → Prop} {E : Prop}
theorem app_red (w : World) (hgd : o.guard = none) (s x : Operand)
    (ho : o.op = .call { callee := .builtin .append, args := #[s, x], argTypes := #[34, 34] }) {base n c : Nat} {A : Option Addr} {xs : List RedressT}
    (hs : a.eval s = .slice A n c) (hown : w.ownsRow base 25 4 (.slice A n c) n (reds xs)) {b : Nat} {x0 x1 x2 x3 : Int} (hx : a.eval x = .slice (some ⟨b, 0, none⟩) 1 1)
    (hc : w.heap[b]? = some (.cells #[.int .i64 x0, .int .i64 x1, .int .i64 x2, .int .i64 x3] 25 (0, 0))) (hn : n ≤ 1099511627776) (hbase : base ≤ w.heap.size)
    (h : ∀ g c' w', w'.ownsRow base 25 4 (.slice (some ⟨g, 0, none⟩) (n + 1) c') (n + 1) (reds (xs ++ [(x0, x1, x2, x3)])) → w.grownBy w' (Value.slice A n c).ownBlock → ((Value.slice A n c).ownBlock = some g ∨ g = w.heap.size) → g < w'.heap.size → wpList Tryz.prog ops Q rest (a.put o.dst (.slice (some ⟨g, 0, none⟩) (n + 1) c')) w') :
    wpList Tryz.prog ops Q (o :: rest) a w := by
  obtain ⟨i, hi, hz, hs1, hb1⟩ := info_parts Tryz.info_red
  have e : ∀ (ys : List RedressT), reds ys ++ [.int .i64 x0, .int .i64 x1, .int .i64 x2, .int .i64 x3] = reds (ys ++ [(x0, x1, x2, x3)]) := fun ys => by unfold reds; rw [List.flatMap_append]; rfl
  exact wpList_append_lies w hgd s x 34 ho base 25 i (.agg #[.int .i64 0, .int .i64 0, .int .i64 0, .int .i64 0]) 4 32 Tryz.underlying34 hi hz hs1 hb1 rfl (by decide) (.slice A n c) n (reds xs) hs hown ⟨b, 0, none⟩ 1 1 [.int .i64 x0, .int .i64 x1, .int .i64 x2, .int .i64 x3] hx rfl (World.news_of_block (cs := #[.int .i64 x0, .int .i64 x1, .int .i64 x2, .int .i64 x3]) hc)
    (by intro u hu; simp at hu; rcases hu with rfl | rfl | rfl | rfl <;> rfl) (by decide) (by unfold maxLen; omega) (by omega) hbase _ rfl (by rw [e]; exact h)
end
theorem heap_alloc_set (w : World) (p : Addr) (v : Value) (o : Obj) {b : Nat} (hb : b = w.heap.size) : ((w.setCell p v).alloc o).heap[b]? = some o := by
  subst hb
  have := heap_alloc_new (w.setCell p v) o
  rwa [World.size_setCell] at this
/-- One redress is drawn, where a place has one. -/
def redOne (code : List Int) (t : Tb) (i k : Nat) (out : List RedT) (s : St) : List RedT × St :=
  if (t.cds.getD i []).getD k 0 = 9 then
    (if (nextF code s 4).1 = 0 then (out, (nextF code s 4).2)
    else if (nextF code (nextF code s 4).2 3).1 = 2 ∨ (avgF t i k (1 + (nextF code (nextF code s 4).2 3).1)).2 = false then (out ++ [((i : Int), (k : Int), 3, 10 * (nextF code (nextF code (nextF code s 4).2 3).2 9).1)], (nextF code (nextF code (nextF code s 4).2 3).2 9).2)
    else (out ++ [((i : Int), (k : Int), 1 + (nextF code (nextF code s 4).2 3).1, 0)], (nextF code (nextF code s 4).2 3).2))
  else (out, s)
def redK (code : List Int) (t : Tb) (i : Nat) : Nat → Nat → List RedT → St → List RedT × St
  | 0, _, out, s => (out, s)
  | m + 1, k, out, s => redK code t i m (k + 1) (redOne code t i k out s).1 (redOne code t i k out s).2
def redI (code : List Int) (t : Tb) : Nat → Nat → List RedT → St → List RedT × St
  | 0, _, out, s => (out, s)
  | m + 1, i, out, s => if tableB t = true then redI code t m (i + 1) (redK code t i t.boats.toNat 0 out s).1 (redK code t i t.boats.toNat 0 out s).2 else (out, s)
theorem redK_succ (code : List Int) (t : Tb) (i m k : Nat) (out : List RedT) (s : St) : redK code t i (m + 1) k out s = redK code t i m (k + 1) (redOne code t i k out s).1 (redOne code t i k out s).2 := rfl
theorem redI_succ (code : List Int) (t : Tb) (m i : Nat) (out : List RedT) (s : St) : redI code t (m + 1) i out s = if tableB t = true then redI code t m (i + 1) (redK code t i t.boats.toNat 0 out s).1 (redK code t i t.boats.toNat 0 out s).2 else (out, s) := rfl
def setRed (xs : List RedT) (at_ : Nat) (v : Int) (c : Int × St) : List RedT × St :=
  let x := xs.getD at_ (0, 0, 0, 0)
  if v = 0 then (xs.set at_ (IntKind.i64.wrap (x.1 + 1), x.2.1, x.2.2.1, x.2.2.2), c.2)
  else if v = 2 then (xs.set at_ (x.1, x.2.1, x.2.2.1, 5), c.2)
  else if v = 3 then (xs ++ [x], c.2)
  else (xs, c.2)
def setKind (xs : List RedT) (at_ : Nat) (c : Int × St) : List RedT × St :=
  let x := xs.getD at_ (0, 0, 0, 0)
  (xs.set at_ (x.1, x.2.1, 4 * c.1, x.2.2.2), c.2)
/-- One redress is spoiled now and then. -/
def spoilL (code : List Int) (l : List RedT × St) : List RedT × St :=
  if l.1.length = 0 then l
  else
    let a := nextF code l.2 (l.1.length : Int)
    let b := nextF code a.2 24
    if b.1 = 1 then setKind l.1 a.1.toNat (nextF code b.2 2) else setRed l.1 a.1.toNat b.1 b
theorem spoilL_parts (code : List Int) (l : List RedT × St) (h : ¬ l.1.length = 0) : ∃ a b, a = nextF code l.2 (l.1.length : Int) ∧ b = nextF code a.2 24 ∧ spoilL code l = if b.1 = 1 then setKind l.1 a.1.toNat (nextF code b.2 2) else setRed l.1 a.1.toNat b.1 b := ⟨_, _, rfl, rfl, by unfold spoilL; rw [if_neg h]⟩
def red29 (code : List Int) (s : St) : (Tb × List RedT) × St :=
  let t := tab29 code s
  let l := spoilL code (redI code t.1 t.1.pts.length 0 [] t.2)
  ((t.1, l.1), l.2)
theorem red29_parts (code : List Int) (s : St) : ∃ t l, t = tab29 code s ∧ l = redI code t.1 t.1.pts.length 0 [] t.2 ∧ red29 code s = ((t.1, (spoilL code l).1), (spoilL code l).2) := ⟨_, _, rfl, rfl, rfl⟩
/-- A table and redress are drawn. -/
def RetTL (w0 w : World) (A : Option Addr) (n cap : Nat) (code : List Int) (g : Nat) (r : (Tb × List RedT) × St) (e : Ending) (w' : World) : Prop :=
  ∃ P np cp C nc dc A' m c, e = .returned (.tuple #[.agg #[.int .i64 r.1.1.boats, .slice P np cp, .slice C nc dc], .slice A' m c]) ∧ KRd w' w.heap.size P np C nc r.1.1 ∧ w'.ownsRow w.heap.size 25 4 (.slice A' m c) m (reds r.1.2) ∧ m ≤ 1000 ∧ Src w0 w' A n cap code g r.2 ∧ Chg g (g + 1) w w'
/-- What stands while redress is drawn. -/
structure LS (w0 w w2 W : World) (A : Option Addr) (n cap : Nat) (code : List Int) (g tb : Nat) (P : Option Addr) (np cp : Nat) (C : Option Addr) (nc dc : Nat) (T : Tb) (A' : Option Addr) (m c : Nat) (s : St) (out : List RedT) : Prop where
  d : DS w0 w W A n cap code g s
  bx : Box W w.heap.size #[.int .i64 0, .slice none 0 0, .slice none 0 0] 33
  tx : Box W tb #[.int .i64 T.boats, .slice P np cp, .slice C nc dc] 33
  k : KRd w2 (w.heap.size + 1) P np C nc T
  kc : Chg 0 (w.heap.size + 1) w2 W
  ws : w.heap.size < w2.heap.size
  tl : tb = w2.heap.size
  ow : W.ownsRow (tb + 1) 25 4 (.slice A' m c) m (reds out)
section
variable {w0 w w2 W W' : World} {A P C A' : Option Addr} {n cap g tb np cp nc dc m c : Nat} {code : List Int} {T : Tb} {s s' : St} {out : List RedT}
theorem LS.rd (h : LS w0 w w2 W A n cap code g tb P np cp C nc dc T A' m c s out) : RdT W P np C nc T := h.k W h.kc
theorem LS.turn (h : LS w0 w w2 W A n cap code g tb P np cp C nc dc T A' m c s out) (hs : Src w0 W' A n cap code g s') (hc : Chg g (g + 1) W W') : LS w0 w w2 W' A n cap code g tb P np cp C nc dc T A' m c s' out := by
  have hgl := h.d.gl
  have hws := h.ws
  have htl := h.tl
  exact ⟨h.d.turn hs hc, h.bx.chg hc (.inr hgl), h.tx.chg hc (.inr (by omega)), h.k, h.kc.trans (chg_wide hc (Nat.zero_le _) (by omega)), h.ws, h.tl, own_ne_chg h.ow hc (by omega)⟩
theorem LS.below (h : LS w0 w w2 W A n cap code g tb P np cp C nc dc T A' m c s out) (k : Below W.heap.size W W') : LS w0 w w2 W' A n cap code g tb P np cp C nc dc T A' m c s out :=
  ⟨h.d.below k, h.bx.below k, h.tx.below k, h.k, h.kc.trans (Chg.of_below k), h.ws, h.tl, own_below h.ow k⟩
/-- A redress is appended. -/
theorem LS.app {A1 : Option Addr} {m1 c1 : Nat} {out1 : List RedT} (h : LS w0 w w2 W A n cap code g tb P np cp C nc dc T A' m c s out) (hg : W.grownBy W' (Value.slice A' m c).ownBlock) (ho : W'.ownsRow (tb + 1) 25 4 (.slice A1 m1 c1) m1 (reds out1)) : LS w0 w w2 W' A n cap code g tb P np cp C nc dc T A1 m1 c1 s out1 := by
  have hws := h.ws
  have htl := h.tl
  exact ⟨h.d.grown h.ow (by omega) hg, h.bx.grown hg (fun e => by have := (h.ow.lt _ e).1; omega), h.tx.grown hg (fun e => by have := (h.ow.lt _ e).1; omega), h.k, chg_grown h.kc hg (fun k e => by have := (h.ow.lt k e).1; omega), h.ws, h.tl, ho⟩
/-- A cell of another new box is written. -/
theorem LS.setx {b i : Nat} {v : Value} (h : LS w0 w w2 W A n cap code g tb P np cp C nc dc T A' m c s out) (hb : tb < b) (ho : ∀ k, (Value.slice A' m c).ownBlock = some k → k ≠ b) : LS w0 w w2 (W.setCell ⟨b, i, none⟩ v) A n cap code g tb P np cp C nc dc T A' m c s out := by
  have hws := h.ws
  have htl := h.tl
  have hc : Chg b (b + 1) W (W.setCell ⟨b, i, none⟩ v) := put_chg (g := b) [v] i (Chg.refl b (b + 1) W) (Nat.le_refl _) (by omega)
  have hg : W.grownBy (W.setCell ⟨b, i, none⟩ v) (some b) := grown_set ⟨rfl, rfl, rfl, Nat.le_refl _, fun _ _ _ => rfl⟩ i v
  exact ⟨h.d.put (by omega) i v, h.bx.other (by omega) v, h.tx.other (by omega) v, h.k, chg_grown h.kc hg (fun k e => by injection e with e; omega), h.ws, h.tl, own_chg h.ow hc (fun k e => by have := ho k e; omega)⟩
/-- A cell of one redress is written. -/
theorem LS.put {g5 k j : Nat} (h : LS w0 w w2 W A n cap code g tb P np cp C nc dc T (some ⟨g5, 0, none⟩) m c s out) {x : RedT} (hx : out[k]? = some x) (hj : j < 4) (v : Value) (y : RedT) (hy : redC y = (redC x).set j v) :
    LS w0 w w2 (W.setCell ⟨g5, k * 4 + j, none⟩ v) A n cap code g tb P np cp C nc dc T (some ⟨g5, 0, none⟩) m c s (out.set k y) := by
  have h5 := h.ow.lt g5 rfl
  have hws := h.ws
  have htl := h.tl
  have hg : W.grownBy (W.setCell ⟨g5, k * 4 + j, none⟩ v) (some g5) := grown_set ⟨rfl, rfl, rfl, Nat.le_refl _, fun _ _ _ => rfl⟩ _ v
  exact ⟨h.d.put (by omega) _ _, h.bx.other (by omega) _, h.tx.other (by omega) _, h.k, chg_grown h.kc hg (fun k e => by injection e with e; omega), h.ws, h.tl, own_set1 redC_len h.ow hj hx v y hy⟩
theorem LS.done (h : LS w0 w w2 W A n cap code g tb P np cp C nc dc T A' m c s out) (hm : m ≤ 1000) : RetTL w0 w A n cap code g ((T, out), s) (.returned (.tuple #[.agg #[.int .i64 T.boats, .slice P np cp, .slice C nc dc], .slice A' m c])) (putW W w.heap.size 0 [.int .i64 T.boats, .slice P np cp, .slice C nc dc]) := by
  have hws := h.ws
  have htl := h.tl
  have hput := put_chg (g := w.heap.size) [.int .i64 T.boats, .slice P np cp, .slice C nc dc] 0 (Chg.refl w.heap.size (w.heap.size + 1) W) (Nat.le_refl _) (by omega)
  have hd := h.d.puts [.int .i64 T.boats, .slice P np cp, .slice C nc dc] (b := w.heap.size) (Nat.le_refl _) 0
  exact ⟨_, _, _, _, _, _, _, _, _, rfl, fun w3 h3 => h.k w3 ((h.kc.trans (chg_wide hput (Nat.zero_le _) (Nat.le_refl _))).trans (chg_wide h3 (Nat.le_refl _) (by omega))), own_base (own_chg h.ow hput (fun b hb => .inr (by have := (h.ow.lt b hb).1; omega))) (by omega), hm, hd.src, hd.ch⟩
end
set_option maxHeartbeats 8000000 in
theorem red29_any (w0 : World) (A : Option Addr) (n cap : Nat) (code : List Int) (hcode : Code0 w0 A n code) (g : Nat) (s : St) (w : World) (h : Src w0 w A n cap code g s) :
    Calls Tryz.prog 27 #[.pointer (some ⟨g, 0, none⟩)] w (RetTL w0 w A n cap code g (red29 code s)) := by
  have hgl := h.lt
  have HNX := Lib.hid (fun s k hk w' h => next_any w0 A n cap code hcode g s k hk w' h)
  have HTX := Lib.hid (fun w' h => tab29_any w0 A n cap code hcode g s w' h)
  have hbl := tab29_len code s
  have hbb := tab29_bd code s
  obtain ⟨t, l, ht, hl, ex⟩ := red29_parts code s
  rw [← ht] at HTX hbl hbb
  generalize red29 code s = D at *
  clear ht
  obtain ⟨T, s2⟩ := t
  simp only at hl ex hbl hbb
  have HEX := Lib.hid ex
  have HL := Lib.hid hl
  obtain ⟨wa, hwa, XR, hba, hsa⟩ := one_box w #[.int .i64 0, .slice none 0 0, .slice none 0 0] 33
  have HD0 := Lib.hid (DS.below (w := w) ⟨h, Chg.refl _ _ _, hgl⟩ hba)
  have HX0 := Lib.hid XR
  have hza : wa.heap.size = w.heap.size + 1 := hsa
  clear h hba XR hsa ex hl
  go_enter Tryz.func27, Tryz.ntmps27
  go_wp2_with fail
  rw [← hwa]
  clear hwa
  go_wp2_with fail
  refine (HTX.out _ HD0.out.src).mono ?_
  rintro e w2 ⟨P, np, cp, C, nc, dc, rfl, hkr, _, hs, hc⟩
  simp only at hkr
  have hpl := hkr.rd.pts.len
  have hn12 : np ≤ 12 := by omega
  rw [hza] at hkr
  have HD1 := Lib.hid (HD0.out.turn hs hc)
  have HX1 := Lib.hid (HX0.out.chg hc (.inr (by omega)))
  have hz2 := HX1.out.lt
  obtain ⟨wt, hwt, XT, hbt, hst⟩ := one_box w2 #[.int .i64 T.boats, .slice P np cp, .slice C nc dc] 33
  obtain ⟨tb, htb⟩ : ∃ tb, tb = w2.heap.size := ⟨_, rfl⟩
  rw [← htb] at XT
  have htw : wt.heap.size = tb + 1 := by omega
  have HDT := Lib.hid (HD1.out.below hbt)
  have HXT := Lib.hid (HX1.out.below hbt)
  have HTT := Lib.hid XT
  have HKC := Lib.hid (show Chg 0 (w.heap.size + 1) w2 wt from Chg.of_below hbt)
  have HKR := Lib.hid hkr
  have HTB := Lib.hid htb
  have HWT := Lib.hid hwt
  have hbe := Below.refl wt.heap.size wt
  have HLN := Lib.hid hpl
  clear hs hc HD0 HX0 HTX HD1 HX1 hbt XT hwt htb hst hza hkr hpl
  simp only
  go_wp2_with fail
  rw [← HWT.out]
  (try rw [← HTB.out])
  clear HWT
  go_wp2_with fail
  have hal := (Below.refl wt.heap.size wt).alloc (Nat.le_refl _) (.cells #[] 25)
  have HS0 := Lib.hid (show LS w0 w w2 (wt.alloc (.cells #[] 25)) A n cap code g tb P np cp C nc dc T (some ⟨wt.heap.size, 0, none⟩) 0 0 s2 [] from ⟨HDT.out.below hal, HXT.out.below hal, HTT.out.below hal, HKR.out, HKC.out.trans (Chg.of_below hal), hz2, HTB.out, own_emptyE wt (tb + 1) 25 4 (by omega)⟩)
  rw [htw] at HS0
  clear HDT HXT HTT HKC HKR hal hbe
  generalize wt.alloc (.cells #[] 25) = wta at *
  clear htw
  go_loopw [5, 6] (fun v u wr => ∃ (i m c' : Nat) (A' : Option Addr) (out : List RedT) (s' : St), i ≤ np ∧ m ≤ 16 * i ∧ u = .int .i64 i ∧ v = .slice A' m c' ∧ Hid (redI code T (np - i) i out s' = l) ∧ Hid (LS w0 w w2 wr A n cap code g tb P np cp C nc dc T A' m c' s' out)) (fun _ u _ => np - (intOf u).toNat)
  case atStart => exact ⟨0, 0, 0, _, [], s2, Nat.zero_le _, by omega, rfl, rfl, Lib.hid (by have := HL.out; rw [HLN.out] at this; exact this.symm), HS0⟩
  case round =>
    clear HS0 HL
    obtain ⟨i, m, c', A', out, s', hin, hmi, rfl, rfl, HR, HS⟩ := hrel
    obtain ⟨wo, hwo⟩ : ∃ wo : World, wo = wr := ⟨_, rfl⟩
    subst hwo
    have HIT := Lib.hid (specIsTable_any P np cp C nc dc T wo HS.out.rd)
    by_cases hlt : i < np
    · have hid_ : decide ((i : Int) < (np : Int)) = true := by simpa using hlt
      have FT := HS.out.tx.f3
      cases htb : tableB T with
      | true =>
        rw [htb] at HIT
        have hok := tableB_ok htb
        have hb1 := hok.b1; have hb16 := hok.b2
        obtain ⟨NB, hNB⟩ := int_up T.boats (by omega)
        have hnb16 : NB ≤ 16 := by omega
        have HNB := Lib.hid hNB
        have hr := HR.out
        rw [show np - i = (np - (i + 1)) + 1 from by omega, redI_succ, if_pos htb, hNB, Int.toNat_natCast] at hr
        obtain ⟨Y, hY⟩ : ∃ Y, Y = redK code T i NB 0 out s' := ⟨_, rfl⟩
        rw [← hY] at hr
        have HR2 := Lib.hid hr
        have HY := Lib.hid hY
        have HOK := Lib.hid hok
        clear hr hok hNB hb1 hb16 HR htb hY
        go_wp2_with fail
        refine HIT.out.mono ?_
        rintro e wi ⟨rfl, hbi⟩
        have HSI := Lib.hid (HS.out.below hbi)
        clear hbi HS HIT FT
        go_wp2_with fail
        go_loopw [5, 7] (fun v u wr => ∃ (k m c' : Nat) (A' : Option Addr) (out : List RedT) (s' : St), k ≤ NB ∧ m ≤ 16 * i + k ∧ u = .int .i64 k ∧ v = .slice A' m c' ∧ Hid (redK code T i (NB - k) k out s' = Y) ∧ Hid (LS w0 w w2 wr A n cap code g tb P np cp C nc dc T A' m c' s' out)) (fun _ u _ => NB - (intOf u).toNat)
        case atStart => exact ⟨0, m, c', A', out, s', Nat.zero_le _, by omega, rfl, rfl, Lib.hid HY.out.symm, HSI⟩
        case round =>
          clear HSI HY hmi
          obtain ⟨k, m, c', A', out, s', hkn, hmk, rfl, rfl, HRK, HS⟩ := hrel
          obtain ⟨wp, hwp⟩ : ∃ wp : World, wp = wr := ⟨_, rfl⟩
          subst hwp
          by_cases hkl : k < NB
          · have hkb : (k : Int) < T.boats := by rw [HNB.out]; omega
            have hkd : decide ((k : Int) < T.boats) = true := by simpa using hkb
            obtain ⟨b, o, A1, c1, p, b', o', A2, c2, q, x1, y, b3, o3, b4, o4, rfl, hC, hd, hd', hc, hc', hA1, hA2, hbp, hbq, hp16, hq16, hx, hy, hx0, hx1, hxc, hyc⟩ := tab_row HS.out.rd HOK.out hlt hkb
            subst hC
            subst hA2
            have hcd : (T.cds.getD i []).getD k 0 = y := by rw [getD_of_drop hd', hy]
            have hrk := HRK.out
            rw [show NB - k = (NB - (k + 1)) + 1 from by omega, redK_succ] at hrk
            have FT := HS.out.tx.f3
            have hinc : i < nc := by have h1 := HS.out.rd.cds.len; have h2 := HS.out.rd.pts.len; have h3 := HOK.out.same; omega
            clear hA1 hc hxc hx hp16 hbp hd hd' hx0 hx1 hy
            by_cases hy9 : y = 9
            · have hy9b : (y != 9) = false := by simp [hy9]
              have H3 := Lib.hid (HNX.out s' 4 (by omega))
              have ho1 : redOne code T i k out s' = (if (nextF code s' 4).1 = 0 then (out, (nextF code s' 4).2)
                  else if (nextF code (nextF code s' 4).2 3).1 = 2 ∨ (avgF T i k (1 + (nextF code (nextF code s' 4).2 3).1)).2 = false then (out ++ [((i : Int), (k : Int), 3, 10 * (nextF code (nextF code (nextF code s' 4).2 3).2 9).1)], (nextF code (nextF code (nextF code s' 4).2 3).2 9).2)
                  else (out ++ [((i : Int), (k : Int), 1 + (nextF code (nextF code s' 4).2 3).1, 0)], (nextF code (nextF code s' 4).2 3).2)) := by unfold redOne; rw [hcd, if_pos hy9]
              rw [ho1] at hrk
              clear ho1 hcd HRK hy9
              generalize nextF code s' 4 = r3 at *
              obtain ⟨v3, s3⟩ := r3
              simp only at hrk
              go_wp2_with fail
              refine (H3.out _ HS.out.d.src).mono ?_
              rintro e w_HS3 ⟨rfl, hs, hc⟩
              have HS3 := Lib.hid (HS.out.turn hs hc)
              clear hs hc HS H3 FT hc' hyc
              simp only
              by_cases hv3 : v3 = 0
              · subst hv3
                rw [if_pos rfl] at hrk
                have HR3 := Lib.hid hrk
                clear hrk
                go_wp2_with fail
                go_roundw
                case rel => exact ⟨k + 1, m, c', A', out, s3, by omega, by omega, by go_num, rfl, HR3, HS3⟩
                case measure => simp [intOf] <;> omega
              have hv3b : (v3 == 0) = false := by simp [hv3]
              rw [if_neg hv3] at hrk
              clear hv3
              have H4 := Lib.hid (HNX.out s3 3 (by omega))
              have q4 := nextF_bd code s3 3 (by omega)
              generalize nextF code s3 3 = r4 at *
              obtain ⟨v4, s4⟩ := r4
              simp only at q4
              simp only at hrk
              have H5 := Lib.hid (HNX.out s4 9 (by omega))
              have q5 := nextF_bd code s4 9 (by omega)
              generalize nextF code s4 9 = r5 at *
              obtain ⟨v5, s5⟩ := r5
              simp only at hrk q5
              have HRK := Lib.hid hrk
              clear hrk
              go_wp2_with fail
              refine (H4.out _ HS3.out.d.src).mono ?_
              rintro e w_HS4 ⟨rfl, hs, hc⟩
              have HS4 := Lib.hid (HS3.out.turn hs hc)
              clear hs hc HS3 H4
              simp only
              have hwr4 : IntKind.i64.wrap (1 + v4) = 1 + v4 := IntWalk.i64_in _ (by omega)
              obtain ⟨wb, hwb, XB, hbb, hsb⟩ := one_box w_HS4 #[.int .i64 i, .int .i64 k, .int .i64 (1 + v4), .int .i64 0] 25
              have HXB := Lib.hid XB
              have HSB := Lib.hid (HS4.out.below hbb)
              have hxl := XB.lt
              have HNE := Lib.hid (show ∀ j, (Value.slice A' m c').ownBlock = some j → j ≠ w_HS4.heap.size from fun j e => by have := (HS4.out.ow.lt j e).2; omega)
              have htx := HS4.out.tx.lt
              have HWB := Lib.hid hwb
              have FT4 := HS4.out.tx.f3
              clear XB hbb HS4 hsb hwb
              go_wp2_with fail
              rw [← HWB.out]
              clear HWB FT4
              obtain ⟨xb, hxb⟩ : ∃ xb, xb = w_HS4.heap.size := ⟨_, rfl⟩
              rw [← hxb] at hxl HXB HNE htx
              (try rw [← hxb])
              clear hwr4
              have HAV := Lib.hid (fun w' h => specAvg_any (some ⟨b, o, none⟩) np cp (some ⟨b', o', none⟩) nc dc T i k (1 + v4) HOK.out hkb w' h)
              have FX := HXB.out.f4
              have FT := HSB.out.tx.f3
              have HXQ := Lib.hid hxb
              clear hxb
              have hrk := HRK.out
              clear HRK
              generalize avgF T (i : Int) (k : Int) (1 + v4) = av at *
              obtain ⟨va, oka⟩ := av
              simp only at hrk
              (try go_wp2_with fail)
              refine (HAV.out _ HSB.out.rd).mono ?_
              rintro e wv ⟨rfl, hbv⟩
              have HSV := Lib.hid (HSB.out.below hbv)
              have HXV := Lib.hid (HXB.out.below hbv)
              clear hbv HSB HXB FX FT HAV
              simp only
              by_cases hv4 : v4 = 2
              · subst hv4
                rw [if_pos (.inl rfl)] at hrk
                simp only at hrk
                have HRK := Lib.hid hrk
                clear hrk
                have FX := HXV.out.f4
                have HSX := Lib.hid (HSV.out.setx (b := xb) (i := 2) (v := .int .i64 3) (by omega) HNE.out)
                have HXX := Lib.hid (show Box (wv.setCell ⟨xb, 2, none⟩ (.int .i64 3)) xb #[.int .i64 i, .int .i64 k, .int .i64 3, .int .i64 0] 25 from by simpa using HXV.out.set 2 (.int .i64 3))
                clear HSV HXV
                obtain ⟨wx, hwx⟩ : ∃ wx, wx = wv.setCell ⟨xb, 2, none⟩ (.int .i64 3) := ⟨_, rfl⟩
                rw [← hwx] at HSX HXX
                have HWX := Lib.hid hwx
                clear hwx
                go_wp2_with fail
                rw [← HWX.out]
                clear HWX FX
                refine (H5.out _ HSX.out.d.src).mono ?_
                rintro e w9 ⟨rfl, hs, hc⟩
                have hgx := HSX.out.d.gl
                have hgx2 := HSX.out.ws
                have hgx3 := HSX.out.tl
                have HSY0 := Lib.hid (HSX.out.turn hs hc)
                have HXY0 := Lib.hid (HXX.out.chg hc (.inr (by omega)))
                have HSY := Lib.hid (HSY0.out.setx (b := xb) (i := 3) (v := .int .i64 (10 * v5)) (by omega) HNE.out)
                have q5a := q5.1
                have q5b := q5.2
                have FX := HXY0.out.f4
                clear hs hc HSX HXX HSY0 H5 hgx hgx2 hgx3 q5
                simp only
                go_wp2_with (at_builtin; refine app_red (x0 := (i : Int)) (x1 := (k : Int)) (x2 := 3) (x3 := 10 * v5) _ rfl _ _ rfl rfl (own_below HSY.out.ow ((Below.refl _ _).alloc (Nat.le_refl _) _)) rfl (heap_alloc_set _ _ _ _ rfl) (by omega) ?cBa ?_; rotate_left; intro g9 c9 wz9 hown9 hgr9 _ _)
                · have HS9 := Lib.hid ((HSY.out.below ((Below.refl _ _).alloc (Nat.le_refl _) _)).app hgr9 hown9)
                  clear hown9 hgr9
                  go_roundw
                  case rel => exact ⟨k + 1, m + 1, _, _, _, s5, by omega, by omega, by go_num, rfl, Lib.hid (HRK.out), HS9⟩
                  case measure => simp [intOf] <;> omega
                · first | omega | (simp; omega)
              cases oka with
              | false =>
                have hv4b : (1 + v4 == 3) = false := by simp; omega
                rw [if_pos (.inr rfl)] at hrk
                simp only at hrk
                have HRK := Lib.hid hrk
                clear hrk hv4
                have FX := HXV.out.f4
                have HSX := Lib.hid (HSV.out.setx (b := xb) (i := 2) (v := .int .i64 3) (by omega) HNE.out)
                have HXX := Lib.hid (show Box (wv.setCell ⟨xb, 2, none⟩ (.int .i64 3)) xb #[.int .i64 i, .int .i64 k, .int .i64 3, .int .i64 0] 25 from by simpa using HXV.out.set 2 (.int .i64 3))
                clear HSV HXV
                obtain ⟨wx, hwx⟩ : ∃ wx, wx = wv.setCell ⟨xb, 2, none⟩ (.int .i64 3) := ⟨_, rfl⟩
                rw [← hwx] at HSX HXX
                have HWX := Lib.hid hwx
                clear hwx
                go_wp2_with fail
                rw [← HWX.out]
                clear HWX FX
                refine (H5.out _ HSX.out.d.src).mono ?_
                rintro e w9 ⟨rfl, hs, hc⟩
                have hgx := HSX.out.d.gl
                have hgx2 := HSX.out.ws
                have hgx3 := HSX.out.tl
                have HSY0 := Lib.hid (HSX.out.turn hs hc)
                have HXY0 := Lib.hid (HXX.out.chg hc (.inr (by omega)))
                have HSY := Lib.hid (HSY0.out.setx (b := xb) (i := 3) (v := .int .i64 (10 * v5)) (by omega) HNE.out)
                have q5a := q5.1
                have q5b := q5.2
                have FX := HXY0.out.f4
                clear hs hc HSX HXX HSY0 H5 hgx hgx2 hgx3 q5
                simp only
                go_wp2_with (at_builtin; refine app_red (x0 := (i : Int)) (x1 := (k : Int)) (x2 := 3) (x3 := 10 * v5) _ rfl _ _ rfl rfl (own_below HSY.out.ow ((Below.refl _ _).alloc (Nat.le_refl _) _)) rfl (heap_alloc_set _ _ _ _ rfl) (by omega) ?cBb ?_; rotate_left; intro g9 c9 wz9 hown9 hgr9 _ _)
                · have HS9 := Lib.hid ((HSY.out.below ((Below.refl _ _).alloc (Nat.le_refl _) _)).app hgr9 hown9)
                  clear hown9 hgr9
                  go_roundw
                  case rel => exact ⟨k + 1, m + 1, _, _, _, s5, by omega, by omega, by go_num, rfl, Lib.hid (HRK.out), HS9⟩
                  case measure => simp [intOf] <;> omega
                · first | omega | (simp; omega)
              | true =>
                have hv4b : (1 + v4 == 3) = false := by simp; omega
                rw [if_neg (by simp [hv4])] at hrk
                simp only at hrk
                have HRK := Lib.hid hrk
                clear hrk hv4 H5
                have FX := HXV.out.f4
                go_wp2_with (at_builtin; refine app_red (x0 := (i : Int)) (x1 := (k : Int)) (x2 := 1 + v4) (x3 := 0) _ rfl _ _ rfl rfl (own_below HSV.out.ow ((Below.refl _ _).alloc (Nat.le_refl _) _)) rfl (heap_alloc_new _ _) (by omega) ?cBc ?_; rotate_left; intro g9 c9 wz9 hown9 hgr9 _ _)
                · have HS9 := Lib.hid ((HSV.out.below ((Below.refl _ _).alloc (Nat.le_refl _) _)).app hgr9 hown9)
                  clear hown9 hgr9
                  go_roundw
                  case rel => exact ⟨k + 1, m + 1, _, _, _, s4, by omega, by omega, by go_num, rfl, Lib.hid (HRK.out), HS9⟩
                  case measure => simp [intOf] <;> omega
                · first | omega | (simp; omega)
            · have hy9b : (y != 9) = true := by simp [hy9]
              rw [show redOne code T i k out s' = (out, s') from by unfold redOne; rw [hcd, if_neg hy9]] at hrk
              have HR3 := Lib.hid hrk
              clear hrk HRK hy9 hcd
              go_wp2_with fail
              go_roundw
              case rel => exact ⟨k + 1, m, c', A', out, s', by omega, by omega, by go_num, rfl, HR3, HS⟩
              case measure => simp [intOf] <;> omega
          · obtain rfl : k = NB := by omega
            have hkd : decide ((k : Int) < T.boats) = false := by have := HNB.out; simp; omega
            have hrk := HRK.out
            rw [Nat.sub_self] at hrk
            rw [show redK code T i 0 k out s' = (out, s') from rfl] at hrk
            have hr2 := HR2.out
            rw [← hrk] at hr2
            have HR3 := Lib.hid hr2
            have FT := HS.out.tx.f3
            clear hr2 hrk HRK HR2
            go_wp2_with fail
            go_roundw
            case rel => exact ⟨i + 1, m, c', A', out, s', by omega, by omega, by go_num, rfl, HR3, HS⟩
            case measure => simp [intOf] <;> omega
      | false =>
        rw [htb] at HIT
        have hr := HR.out
        rw [show np - i = (np - (i + 1)) + 1 from by omega, redI_succ, if_neg (by rw [htb]; simp)] at hr
        have HL := Lib.hid hr
        clear hr HR htb
        go_wp2_with fail
        refine HIT.out.mono ?_
        rintro e wi ⟨rfl, hbi⟩
        have HSI := Lib.hid (HS.out.below hbi)
        clear hbi HS HIT FT
        obtain ⟨wo, hwo⟩ : ∃ wo : World, wo = wi := ⟨_, rfl⟩
        subst hwo
        have HS := HSI
        clear HSI
        have hl := HL.out
        subst hl
        clear HL
        have hlen := own_len_flat redC_len (by decide) HS.out.ow
        have hm192 : m ≤ 192 := by omega
        by_cases hm0 : m = 0
        · subst hm0
          have hsp : spoilL code (out, s') = (out, s') := by unfold spoilL; rw [if_pos hlen]
          have FT9 := HS.out.tx.f3
          have FB9 := HS.out.bx.f3
          go_wp2_with fail
          refine bodyPost_ret (v := .tuple #[.agg #[.int .i64 T.boats, .slice P np cp, .slice C nc dc], .slice A' 0 c']) (by simp [results, Tryz.results27, go_sem, FB9]) rfl ?_
          rw [HEX.out, hsp]
          exact HS.out.done (by omega)
        have hmb : ((m : Int) == 0) = false := by simp; omega
        obtain ⟨a9, b9, ha9, hb9, hsp⟩ := spoilL_parts code (out, s') (by rw [show (out, s').1.length = m from hlen]; exact hm0)
        simp only [hlen] at ha9
        have H6 := Lib.hid (HNX.out s' (m : Int) (by omega))
        have q6 := nextF_bd code s' (m : Int) (by omega)
        rw [← ha9] at H6 q6
        obtain ⟨v6, s6⟩ := a9
        simp only at q6 hb9
        have H7 := Lib.hid (HNX.out s6 24 (by omega))
        rw [← hb9] at H7
        obtain ⟨v7, s7⟩ := b9
        simp only at hsp
        have HSP := Lib.hid hsp
        have HLEN := Lib.hid hlen
        clear ha9 hb9 hsp hlen
        go_wp2_with fail
        refine (H6.out _ HS.out.d.src).mono ?_
        rintro e w6 ⟨rfl, hs, hc⟩
        have HS6 := Lib.hid (HS.out.turn hs hc)
        clear hs hc HS H6
        simp only
        go_wp2_with fail
        refine (H7.out _ HS6.out.d.src).mono ?_
        rintro e w7 ⟨rfl, hs, hc⟩
        have HS7 := Lib.hid (HS6.out.turn hs hc)
        clear hs hc HS6 H7
        simp only
        obtain ⟨j, rfl⟩ := int_up v6 q6.1
        have hjm : j < m := by omega
        obtain ⟨g5, x0, x1, x2, x3, rfl, hg50, hg51, hx, _, c0, c1, c2, c3, f0, f1, f2, f3⟩ := own_red_at HS7.out.ow hjm
        have hgd : out.getD j (0, 0, 0, 0) = (x0, x1, x2, x3) := by simp [List.getD, hx]
        rw [Int.toNat_natCast] at HSP
        by_cases h71 : v7 = 1
        · subst h71
          have hsp := HSP.out
          clear HSP
          rw [if_pos rfl] at hsp
          unfold setKind at hsp
          simp only [hgd] at hsp
          have H8 := Lib.hid (HNX.out s7 2 (by omega))
          have q8 := nextF_bd code s7 2 (by omega)
          generalize nextF code s7 2 = r8 at *
          obtain ⟨v8, s8⟩ := r8
          simp only at hsp q8
          have HSQ := Lib.hid hsp
          have HXJ := Lib.hid hx
          clear hsp hgd c0 c1 c2 c3 f0 f1 f2 f3 hx
          go_wp2_with fail
          refine (H8.out _ HS7.out.d.src).mono ?_
          rintro e w8 ⟨rfl, hs, hc⟩
          have HS8 := Lib.hid (HS7.out.turn hs hc)
          clear hs hc HS7 H8
          simp only
          obtain ⟨g5', y0, y1, y2, y3, hg5e, _, _, _, _, c0, c1, c2, c3, f0, f1, f2, f3⟩ := own_red_at HS8.out.ow hjm
          obtain rfl : g5 = g5' := by injection hg5e with e; injection e
          clear hg5e
          have HSZ := Lib.hid (show LS w0 w w2 (w8.setCell ⟨g5, j * 4 + 2, none⟩ (.int .i64 (4 * v8))) A n cap code g tb P np cp C nc dc T (some ⟨g5, 0, none⟩) m c' s8 (out.set j (x0, x1, 4 * v8, x3)) from HS8.out.put (k := j) (j := 2) HXJ.out (by decide) _ _ rfl)
          have q8a := q8.1
          have q8b := q8.2
          have FB := HS8.out.bx.f3
          have FT := HS8.out.tx.f3
          have hsp := HSQ.out
          clear HSQ q8
          have FT9 := HSZ.out.tx.f3
          have FB9 := HSZ.out.bx.f3
          go_wp2_with fail
          refine bodyPost_ret (v := .tuple #[.agg #[.int .i64 T.boats, .slice P np cp, .slice C nc dc], .slice (some ⟨g5, 0, none⟩) m c']) (by simp [results, Tryz.results27, go_sem, FB9]) rfl ?_
          rw [HEX.out, hsp]
          exact HSZ.out.done (by omega)
        rw [if_neg h71] at HSP
        unfold setRed at HSP
        simp only [hgd] at HSP
        by_cases h70 : v7 = 0
        · subst h70
          rw [if_pos rfl] at HSP
          have HSZ := Lib.hid (show LS w0 w w2 (w7.setCell ⟨g5, j * 4, none⟩ (.int .i64 (wrap64 (x0 + 1)))) A n cap code g tb P np cp C nc dc T (some ⟨g5, 0, none⟩) m c' s7 (out.set j (wrap64 (x0 + 1), x1, x2, x3)) from HS7.out.put (k := j) (j := 0) hx (by decide) _ _ rfl)
          have FB := HS7.out.bx.f3
          have FT := HS7.out.tx.f3
          have hsp := HSP.out
          rw [IntWalk.i64_left] at hsp
          clear HSP hx hgd
          have FT9 := HSZ.out.tx.f3
          have FB9 := HSZ.out.bx.f3
          go_wp2_with fail
          refine bodyPost_ret (v := .tuple #[.agg #[.int .i64 T.boats, .slice P np cp, .slice C nc dc], .slice (some ⟨g5, 0, none⟩) m c']) (by simp [results, Tryz.results27, go_sem, FB9]) rfl ?_
          rw [HEX.out, hsp]
          exact HSZ.out.done (by omega)
        rw [if_neg h70] at HSP
        by_cases h72 : v7 = 2
        · subst h72
          rw [if_pos rfl] at HSP
          have HSZ := Lib.hid (show LS w0 w w2 (w7.setCell ⟨g5, j * 4 + 3, none⟩ (.int .i64 5)) A n cap code g tb P np cp C nc dc T (some ⟨g5, 0, none⟩) m c' s7 (out.set j (x0, x1, x2, 5)) from HS7.out.put (k := j) (j := 3) hx (by decide) _ _ rfl)
          have FB := HS7.out.bx.f3
          have FT := HS7.out.tx.f3
          have hsp := HSP.out
          clear HSP hx hgd
          have FT9 := HSZ.out.tx.f3
          have FB9 := HSZ.out.bx.f3
          go_wp2_with fail
          refine bodyPost_ret (v := .tuple #[.agg #[.int .i64 T.boats, .slice P np cp, .slice C nc dc], .slice (some ⟨g5, 0, none⟩) m c']) (by simp [results, Tryz.results27, go_sem, FB9]) rfl ?_
          rw [HEX.out, hsp]
          exact HSZ.out.done (by omega)
        rw [if_neg h72] at HSP
        have h70b : (v7 == 0) = false := by simp [h70]
        have h71b : (v7 == 1) = false := by simp [h71]
        have h72b : (v7 == 2) = false := by simp [h72]
        by_cases h73 : v7 = 3
        · subst h73
          rw [if_pos rfl] at HSP
          have hsp := HSP.out
          clear HSP hx hgd h70 h71 h72
          have htx9 := HS7.out.tx.lt
          have FT := HS7.out.tx.f3
          have FB := HS7.out.bx.f3
          go_wp2_with (at_builtin; refine app_red (x0 := x0) (x1 := x1) (x2 := x2) (x3 := x3) _ rfl _ _ rfl rfl (own_below HS7.out.ow ((Below.refl _ _).alloc (Nat.le_refl _) _)) rfl (heap_alloc_new _ _) (by omega) ?cE8 ?_; rotate_left; intro g9 c9 w9 hown9 hgr9 _ _; have HS9 := Lib.hid ((HS7.out.below ((Below.refl _ _).alloc (Nat.le_refl _) _)).app hgr9 hown9); clear hown9 hgr9 FT FB; have FT9 := HS9.out.tx.f3; have FB9 := HS9.out.bx.f3)
          · refine bodyPost_ret (v := .tuple #[.agg #[.int .i64 T.boats, .slice P np cp, .slice C nc dc], .slice (some ⟨g9, 0, none⟩) (m + 1) c9]) (by simp [results, Tryz.results27, go_sem, FB9]) rfl ?_
            rw [HEX.out, hsp]
            exact HS9.out.done (by omega)
          · first | omega | (simp; omega)
        rw [if_neg h73] at HSP
        have h73b : (v7 == 3) = false := by simp [h73]
        have hsp := HSP.out
        clear HSP hx hgd h70 h71 h72 h73
        have FT9 := HS7.out.tx.f3
        have FB9 := HS7.out.bx.f3
        go_wp2_with fail
        refine bodyPost_ret (v := .tuple #[.agg #[.int .i64 T.boats, .slice P np cp, .slice C nc dc], .slice (some ⟨g5, 0, none⟩) m c']) (by simp [results, Tryz.results27, go_sem, FB9]) rfl ?_
        rw [HEX.out, hsp]
        exact HS7.out.done (by omega)
    · have hid_ : decide ((i : Int) < (np : Int)) = false := by simpa using hlt
      have FT := HS.out.tx.f3
      have hr := HR.out
      rw [show np - i = 0 from by omega] at hr
      have HL := Lib.hid (show (out, s') = l from hr)
      clear hr HR HIT
      have hl := HL.out
      subst hl
      clear HL
      have hlen := own_len_flat redC_len (by decide) HS.out.ow
      have hm192 : m ≤ 192 := by omega
      by_cases hm0 : m = 0
      · subst hm0
        have hsp : spoilL code (out, s') = (out, s') := by unfold spoilL; rw [if_pos hlen]
        have FT9 := HS.out.tx.f3
        have FB9 := HS.out.bx.f3
        go_wp2_with fail
        refine bodyPost_ret (v := .tuple #[.agg #[.int .i64 T.boats, .slice P np cp, .slice C nc dc], .slice A' 0 c']) (by simp [results, Tryz.results27, go_sem, FB9]) rfl ?_
        rw [HEX.out, hsp]
        exact HS.out.done (by omega)
      have hmb : ((m : Int) == 0) = false := by simp; omega
      obtain ⟨a9, b9, ha9, hb9, hsp⟩ := spoilL_parts code (out, s') (by rw [show (out, s').1.length = m from hlen]; exact hm0)
      simp only [hlen] at ha9
      have H6 := Lib.hid (HNX.out s' (m : Int) (by omega))
      have q6 := nextF_bd code s' (m : Int) (by omega)
      rw [← ha9] at H6 q6
      obtain ⟨v6, s6⟩ := a9
      simp only at q6 hb9
      have H7 := Lib.hid (HNX.out s6 24 (by omega))
      rw [← hb9] at H7
      obtain ⟨v7, s7⟩ := b9
      simp only at hsp
      have HSP := Lib.hid hsp
      have HLEN := Lib.hid hlen
      clear ha9 hb9 hsp hlen
      go_wp2_with fail
      refine (H6.out _ HS.out.d.src).mono ?_
      rintro e w6 ⟨rfl, hs, hc⟩
      have HS6 := Lib.hid (HS.out.turn hs hc)
      clear hs hc HS H6
      simp only
      go_wp2_with fail
      refine (H7.out _ HS6.out.d.src).mono ?_
      rintro e w7 ⟨rfl, hs, hc⟩
      have HS7 := Lib.hid (HS6.out.turn hs hc)
      clear hs hc HS6 H7
      simp only
      obtain ⟨j, rfl⟩ := int_up v6 q6.1
      have hjm : j < m := by omega
      obtain ⟨g5, x0, x1, x2, x3, rfl, hg50, hg51, hx, _, c0, c1, c2, c3, f0, f1, f2, f3⟩ := own_red_at HS7.out.ow hjm
      have hgd : out.getD j (0, 0, 0, 0) = (x0, x1, x2, x3) := by simp [List.getD, hx]
      rw [Int.toNat_natCast] at HSP
      by_cases h71 : v7 = 1
      · subst h71
        have hsp := HSP.out
        clear HSP
        rw [if_pos rfl] at hsp
        unfold setKind at hsp
        simp only [hgd] at hsp
        have H8 := Lib.hid (HNX.out s7 2 (by omega))
        have q8 := nextF_bd code s7 2 (by omega)
        generalize nextF code s7 2 = r8 at *
        obtain ⟨v8, s8⟩ := r8
        simp only at hsp q8
        have HSQ := Lib.hid hsp
        have HXJ := Lib.hid hx
        clear hsp hgd c0 c1 c2 c3 f0 f1 f2 f3 hx
        go_wp2_with fail
        refine (H8.out _ HS7.out.d.src).mono ?_
        rintro e w8 ⟨rfl, hs, hc⟩
        have HS8 := Lib.hid (HS7.out.turn hs hc)
        clear hs hc HS7 H8
        simp only
        obtain ⟨g5', y0, y1, y2, y3, hg5e, _, _, _, _, c0, c1, c2, c3, f0, f1, f2, f3⟩ := own_red_at HS8.out.ow hjm
        obtain rfl : g5 = g5' := by injection hg5e with e; injection e
        clear hg5e
        have HSZ := Lib.hid (show LS w0 w w2 (w8.setCell ⟨g5, j * 4 + 2, none⟩ (.int .i64 (4 * v8))) A n cap code g tb P np cp C nc dc T (some ⟨g5, 0, none⟩) m c' s8 (out.set j (x0, x1, 4 * v8, x3)) from HS8.out.put (k := j) (j := 2) HXJ.out (by decide) _ _ rfl)
        have q8a := q8.1
        have q8b := q8.2
        have FB := HS8.out.bx.f3
        have FT := HS8.out.tx.f3
        have hsp := HSQ.out
        clear HSQ q8
        have FT9 := HSZ.out.tx.f3
        have FB9 := HSZ.out.bx.f3
        go_wp2_with fail
        refine bodyPost_ret (v := .tuple #[.agg #[.int .i64 T.boats, .slice P np cp, .slice C nc dc], .slice (some ⟨g5, 0, none⟩) m c']) (by simp [results, Tryz.results27, go_sem, FB9]) rfl ?_
        rw [HEX.out, hsp]
        exact HSZ.out.done (by omega)
      rw [if_neg h71] at HSP
      unfold setRed at HSP
      simp only [hgd] at HSP
      by_cases h70 : v7 = 0
      · subst h70
        rw [if_pos rfl] at HSP
        have HSZ := Lib.hid (show LS w0 w w2 (w7.setCell ⟨g5, j * 4, none⟩ (.int .i64 (wrap64 (x0 + 1)))) A n cap code g tb P np cp C nc dc T (some ⟨g5, 0, none⟩) m c' s7 (out.set j (wrap64 (x0 + 1), x1, x2, x3)) from HS7.out.put (k := j) (j := 0) hx (by decide) _ _ rfl)
        have FB := HS7.out.bx.f3
        have FT := HS7.out.tx.f3
        have hsp := HSP.out
        rw [IntWalk.i64_left] at hsp
        clear HSP hx hgd
        have FT9 := HSZ.out.tx.f3
        have FB9 := HSZ.out.bx.f3
        go_wp2_with fail
        refine bodyPost_ret (v := .tuple #[.agg #[.int .i64 T.boats, .slice P np cp, .slice C nc dc], .slice (some ⟨g5, 0, none⟩) m c']) (by simp [results, Tryz.results27, go_sem, FB9]) rfl ?_
        rw [HEX.out, hsp]
        exact HSZ.out.done (by omega)
      rw [if_neg h70] at HSP
      by_cases h72 : v7 = 2
      · subst h72
        rw [if_pos rfl] at HSP
        have HSZ := Lib.hid (show LS w0 w w2 (w7.setCell ⟨g5, j * 4 + 3, none⟩ (.int .i64 5)) A n cap code g tb P np cp C nc dc T (some ⟨g5, 0, none⟩) m c' s7 (out.set j (x0, x1, x2, 5)) from HS7.out.put (k := j) (j := 3) hx (by decide) _ _ rfl)
        have FB := HS7.out.bx.f3
        have FT := HS7.out.tx.f3
        have hsp := HSP.out
        clear HSP hx hgd
        have FT9 := HSZ.out.tx.f3
        have FB9 := HSZ.out.bx.f3
        go_wp2_with fail
        refine bodyPost_ret (v := .tuple #[.agg #[.int .i64 T.boats, .slice P np cp, .slice C nc dc], .slice (some ⟨g5, 0, none⟩) m c']) (by simp [results, Tryz.results27, go_sem, FB9]) rfl ?_
        rw [HEX.out, hsp]
        exact HSZ.out.done (by omega)
      rw [if_neg h72] at HSP
      have h70b : (v7 == 0) = false := by simp [h70]
      have h71b : (v7 == 1) = false := by simp [h71]
      have h72b : (v7 == 2) = false := by simp [h72]
      by_cases h73 : v7 = 3
      · subst h73
        rw [if_pos rfl] at HSP
        have hsp := HSP.out
        clear HSP hx hgd h70 h71 h72
        have htx9 := HS7.out.tx.lt
        have FT := HS7.out.tx.f3
        have FB := HS7.out.bx.f3
        go_wp2_with (at_builtin; refine app_red (x0 := x0) (x1 := x1) (x2 := x2) (x3 := x3) _ rfl _ _ rfl rfl (own_below HS7.out.ow ((Below.refl _ _).alloc (Nat.le_refl _) _)) rfl (heap_alloc_new _ _) (by omega) ?cE6 ?_; rotate_left; intro g9 c9 w9 hown9 hgr9 _ _; have HS9 := Lib.hid ((HS7.out.below ((Below.refl _ _).alloc (Nat.le_refl _) _)).app hgr9 hown9); clear hown9 hgr9 FT FB; have FT9 := HS9.out.tx.f3; have FB9 := HS9.out.bx.f3)
        · refine bodyPost_ret (v := .tuple #[.agg #[.int .i64 T.boats, .slice P np cp, .slice C nc dc], .slice (some ⟨g9, 0, none⟩) (m + 1) c9]) (by simp [results, Tryz.results27, go_sem, FB9]) rfl ?_
          rw [HEX.out, hsp]
          exact HS9.out.done (by omega)
        · first | omega | (simp; omega)
      rw [if_neg h73] at HSP
      have h73b : (v7 == 3) = false := by simp [h73]
      have hsp := HSP.out
      clear HSP hx hgd h70 h71 h72 h73
      have FT9 := HS7.out.tx.f3
      have FB9 := HS7.out.bx.f3
      go_wp2_with fail
      refine bodyPost_ret (v := .tuple #[.agg #[.int .i64 T.boats, .slice P np cp, .slice C nc dc], .slice (some ⟨g5, 0, none⟩) m c']) (by simp [results, Tryz.results27, go_sem, FB9]) rfl ?_
      rw [HEX.out, hsp]
      exact HS7.out.done (by omega)
/-- A table and redress are drawn. -/
def RetDR (w : World) (r : Tb × List RedT) (e : Ending) (w' : World) : Prop :=
  ∃ P np cp C nc dc A' m c, e = .returned (.tuple #[.agg #[.int .i64 r.1.boats, .slice P np cp, .slice C nc dc], .slice A' m c]) ∧ KRd w' w.heap.size P np C nc r.1 ∧ w'.ownsRow w.heap.size 25 4 (.slice A' m c) m (reds r.2) ∧ m ≤ 1000 ∧ Below w.heap.size w w'
end Go.Proofs.YtalgdeieejpelaaGreatDoor

/- Walks: drawn net points (chapter 31). -/
import Derived.Test.YtfkllgnenbbccaaMx
import Derived.Test.YtfkllgnenbbccaaWeo
import Derived.Test.YtfkllgnenbbccaaMm
import Derived.Test.YtfkllgnenbbccaaStc
import Derived.Deep.LoopGhost
namespace Go.Proofs.Ytfkllgnenbbccaa
open Go.RowKit
set_option linter.unusedVariables false
set_option maxRecDepth 100000

/-- New integers are drawn, or none. -/
def RetDn (w0 w : World) (A : Option Addr) (n cap : Nat) (code : List Int) (g : Nat) (r : List Int × St) (e : Ending) (w' : World) : Prop :=
  ∃ A1 m c, e = .returned (.slice A1 m c) ∧ w'.ownsRow w.heap.size 2 1 (.slice A1 m c) m (ints r.1) ∧ Src w0 w' A n cap code g r.2 ∧ Chg g (g + 1) w w'
theorem src_put {w0 w : World} {A : Option Addr} {n cap : Nat} {code : List Int} {g : Nat} {s : St} (h : Src w0 w A n cap code g s) {b i : Nat} (hb : g < b) (v : Value) : Src w0 (w.setCell ⟨b, i, none⟩ v) A n cap code g s :=
  h.grown (row := some b) (grown_set ⟨rfl, rfl, rfl, Nat.le_refl _, fun _ _ _ => rfl⟩ i v) (fun k e => by injection e with e; omega)
theorem chg_put {lo hi : Nat} {w w' : World} (h : Chg lo hi w w') {g i : Nat} (h1 : w.heap.size ≤ g) (v : Value) : Chg lo hi w (w'.setCell ⟨g, i, none⟩ v) :=
  ⟨h.os, h.tape, h.output, by simpa [World.setCell] using h.size, fun k hk hn => (Below.heap_setCell _ _ _ _ (by simp; omega)).trans (h.block k hk hn)⟩
theorem src_app {w0 w w' : World} {A : Option Addr} {n cap : Nat} {code : List Int} {g : Nat} {s : St} (h : Src w0 w A n cap code g s) {base e sz m c : Nat} {A1 : Option Addr} {vs : List Value} {o : Obj} (ho : w.ownsRow base e sz (.slice A1 m c) m vs) (hb : g < base) (hg : (w.alloc o).grownBy w' (Value.slice A1 m c).ownBlock) : Src w0 w' A n cap code g s :=
  (h.alloc o).grown hg (fun k e => by have := (ho.lt k e).1; omega)
theorem chg_app {lo hi : Nat} {a w w' : World} (h : Chg lo hi a w) {base e sz m c : Nat} {A1 : Option Addr} {vs : List Value} {o : Obj} (ho : w.ownsRow base e sz (.slice A1 m c) m vs) (hb : a.heap.size ≤ base) (hg : (w.alloc o).grownBy w' (Value.slice A1 m c).ownBlock) : Chg lo hi a w' :=
  chg_grown (chg_alloc h o) hg (fun k e => by have := (ho.lt k e).1; omega)
set_option maxHeartbeats 4000000 in
theorem drawNet_any (w0 : World) (A : Option Addr) (n cap : Nat) (code : List Int) (hcode : Code0 w0 A n code) (g : Nat) (s : St) (w : World) (h : Src w0 w A n cap code g s) :
    Calls Try.prog 71 #[.pointer (some ⟨g, 0, none⟩)] w (RetDn w0 w A n cap code g (netD code s)) := by
  have HN := Lib.hid (fun s k hk w' h => next_any w0 A n cap code hcode g s k hk w' h)
  have hgl := h.lt
  have ho0 := own_empty w w.heap.size 2 (Nat.le_refl _)
  have hs0 := h.alloc (.cells #[] 2)
  have hc0 := chg_alloc (Chg.refl g (g + 1) w) (.cells #[] 2)
  have en : net0D code s = netGo code (1 + (nextF code (nextF code s 40).2 5).1).toNat [] (nextF code s 40).1 (nextF code (nextF code s 40).2 5).2 := rfl
  have ed : netD code s = (netX (nextF code (net0D code s).2 30).1 (net0D code s).1, (nextF code (net0D code s).2 30).2) := rfl
  have hlen := net0D_len code s
  generalize net0D code s = N0 at *
  generalize netD code s = ND at *
  have HED := Lib.hid ed
  have h40 := nextF_bd code s 40 (by omega)
  have H40 := Lib.hid (HN.out s 40 (by omega))
  generalize nextF code s 40 = r0 at *
  obtain ⟨a0, s0⟩ := r0
  simp only at en h40
  have h5 := nextF_bd code s0 5 (by omega)
  have H5 := Lib.hid (HN.out s0 5 (by omega))
  generalize nextF code s0 5 = r1 at *
  obtain ⟨q0, s1⟩ := r1
  simp only at en h5
  obtain ⟨a00, a01⟩ := h40
  obtain ⟨q00, q01⟩ := h5
  obtain ⟨qn, rfl⟩ := int_up q0 q00
  have et : (1 + (qn : Int)).toNat = qn + 1 := by omega
  rw [et] at en
  have HEN := Lib.hid en
  have HS0 := Lib.hid hs0
  have HC0 := Lib.hid hc0
  have HO0 := Lib.hid ho0
  clear ed en et hs0 hc0 ho0 h
  go_enter Try.func71, Try.ntmps71
  go_wp2_with fail
  refine (H40.out _ HS0.out).mono ?_
  rintro e w1 ⟨rfl, hs1, hc1⟩
  have HO1 := Lib.hid (own_ne_chg HO0.out hc1 hgl)
  have HC1 := Lib.hid (HC0.out.trans hc1)
  have HS1 := Lib.hid hs1
  clear hs1 hc1 HS0 HC0 HO0 H40
  go_wp2_with fail
  refine (H5.out _ HS1.out).mono ?_
  rintro e w2 ⟨rfl, hs2, hc2⟩
  have HO2 := Lib.hid (own_ne_chg HO1.out hc2 hgl)
  have HC2 := Lib.hid (HC1.out.trans hc2)
  have HS2 := Lib.hid hs2
  clear hs2 hc2 HS1 HC1 HO1 H5
  simp only
  go_wp2_with fail
  go_loopg [3, 4, 5] (qn + 1) (fun q s3 s4 s5 wr => ∃ (A1 : Option Addr) (m c : Nat) (out : List Int) (a : Int) (s' : St), s3 = .slice A1 m c ∧ s4 = .int .i64 a ∧ s5 = .int .i64 q ∧ 0 ≤ a ∧ a + 60 * q ≤ 400 ∧ m + q ≤ 5 ∧ (∀ x ∈ out, 0 ≤ x ∧ x ≤ 400) ∧ netGo code q out a s' = N0 ∧ wr.ownsRow w.heap.size 2 1 (.slice A1 m c) m (ints out) ∧ Src w0 wr A n cap code g s' ∧ Chg g (g + 1) w wr)
  case atStart => exact ⟨_, 0, 0, [], a0, s1, rfl, rfl, by go_num, a00, by omega, by omega, (fun x hx => by cases hx), HEN.out.symm, HO2.out, HS2.out, HC2.out⟩
  case round =>
    clear HEN HO2 HS2 HC2
    obtain ⟨A1, m, c, out, a, s', rfl, rfl, rfl, ha0, ha1, hm, hbd, hN, ho, hs, hc⟩ := hrel
    obtain ⟨wo, rfl⟩ : ∃ wo : World, wo = wr := ⟨_, rfl⟩
    have hsz := hc.size
    have HBD := Lib.hid hbd
    clear hbd
    have HO := Lib.hid ho
    have HS := Lib.hid hs
    have HC := Lib.hid hc
    by_cases hq : gk = 0
    · subst hq
      have hN : (out, s') = N0 := hN
      subst hN
      have hml := own_len ho
      have h30 := nextF_bd code s' 30 (by omega)
      have H30 := Lib.hid (HN.out s' 30 (by omega))
      simp only at HED hlen
      generalize nextF code s' 30 = r3 at *
      obtain ⟨t, s3⟩ := r3
      simp only at HED h30
      have HML := Lib.hid hml
      rw [hml] at hlen
      obtain ⟨l1, l5⟩ := hlen
      clear ho hs hc hml
      go_wp2_with fail
      refine (H30.out _ HS.out).mono ?_
      rintro e w3 ⟨rfl, hs3, hc3⟩
      simp only
      have ho3 := own_ne_chg HO.out hc3 hgl
      obtain ⟨g1, y, rfl, hg1, _, hy, hcy, hfy⟩ := own_int_at ho3 (k := 0) (by omega)
      have HYM := Lib.hid (List.mem_of_getElem? hy)
      have hyd : out.getD 0 0 = y := by rw [List.getD_eq_getElem?_getD, hy]; rfl
      have HYD := Lib.hid hyd
      have HO3 := Lib.hid ho3
      have HC3 := Lib.hid (HC.out.trans hc3)
      have HS3 := Lib.hid hs3
      clear ho3 hs3 hc3 hy hyd HO HS HC H30
      have HYB := Lib.hid (show ∀ v : Int, (w3.setCell ⟨g1, 0, none⟩ (.int .i64 v)).ownsRow w.heap.size 2 1 (.slice (some ⟨g1, 0, none⟩) m c) m (ints (out.set 0 v)) ∧ Src w0 (w3.setCell ⟨g1, 0, none⟩ (.int .i64 v)) A n cap code g s3 ∧ Chg g (g + 1) w (w3.setCell ⟨g1, 0, none⟩ (.int .i64 v)) from fun v => ⟨own_set HO3.out v, src_put HS3.out (by omega) _, chg_put HC3.out (by omega) _⟩)
      by_cases t0 : t = 0
      · subst t0
        have hyb := HBD.out y (HYM.out)
        obtain ⟨y0, y1⟩ := hyb
        go_wp2_with fail
        go_ret
        rw [HED.out]
        obtain ⟨e1, e2, e3⟩ := HYB.out (y + 100)
        refine ⟨_, _, _, rfl, ?_, e2, e3⟩
        have ex : netX 0 out = out.set 0 (y + 100) := by unfold netX; rw [if_pos rfl, HYD.out]
        simp only
        rw [ex]; exact e1
      · have tb0 : (t == 0) = false := by simpa using t0
        by_cases t1 : t = 1
        · subst t1
          go_wp2_with fail
          go_ret
          rw [HED.out]
          obtain ⟨e1, e2, e3⟩ := HYB.out (-1)
          exact ⟨_, _, _, rfl, e1, e2, e3⟩
        · have tb1 : (t == 1) = false := by simpa using t1
          by_cases t2 : t = 2
          · subst t2
            go_wp2_with fail
            go_ret
            rw [HED.out]
            have hl6 := World.ownsRow_lit (base := w.heap.size) (e := 2) (size := 1) w3 #[.int .i64 1, .int .i64 2, .int .i64 3, .int .i64 4, .int .i64 5, .int .i64 6] 6 (by have := HC3.out.size; omega) (by unfold maxLen; omega) (by simp)
            exact ⟨_, 6, 6, rfl, hl6, HS3.out.alloc _, chg_alloc HC3.out _⟩
          · have tb2 : (t == 2) = false := by simpa using t2
            by_cases t3 : t = 3
            · subst t3
              go_wp2_with fail
              go_ret
              rw [HED.out]
              exact ⟨none, 0, 0, rfl, World.ownsRow_nil _ _ _ _, HS3.out, HC3.out⟩
            · have tb3 : (t == 3) = false := by simpa using t3
              have ex : netX t out = out := by unfold netX; rw [if_neg t0, if_neg t1, if_neg t2, if_neg t3]
              go_wp2_with fail
              go_ret
              rw [HED.out, ex]
              exact ⟨_, _, _, rfl, HO3.out, HS3.out, HC3.out⟩
    · obtain ⟨q, rfl⟩ : ∃ q, gk = q + 1 := ⟨gk - 1, by omega⟩
      rw [netGo] at hN
      have hcq : ((q + 1 : Nat) : Int) = (q : Int) + 1 := by omega
      rw [hcq]
      have eg : gapD code s' = (pickF (nextF code (nextF code (nextF code s' 5).2 60).2 5).1 (10 * (nextF code s' 5).1) (nextF code (nextF code s' 5).2 60).1, (nextF code (nextF code (nextF code s' 5).2 60).2 5).2) := rfl
      have hgb := gapD_bd code s'
      generalize gapD code s' = G at *
      have b1 := nextF_bd code s' 5 (by omega)
      have H1 := Lib.hid (HN.out s' 5 (by omega))
      generalize nextF code s' 5 = r1 at *
      obtain ⟨v1, s1'⟩ := r1
      simp only at eg b1
      have b2 := nextF_bd code s1' 60 (by omega)
      have H2 := Lib.hid (HN.out s1' 60 (by omega))
      generalize nextF code s1' 60 = r2 at *
      obtain ⟨v2, s2'⟩ := r2
      simp only at eg b2
      have b3 := nextF_bd code s2' 5 (by omega)
      have H3 := Lib.hid (HN.out s2' 5 (by omega))
      generalize nextF code s2' 5 = r3 at *
      obtain ⟨v3, s3'⟩ := r3
      simp only at eg b3
      subst eg
      simp only at hN hgb
      have HNN := Lib.hid hN
      have HGB := Lib.hid hgb
      obtain ⟨b10, b11⟩ := b1
      obtain ⟨b20, b21⟩ := b2
      obtain ⟨b30, b31⟩ := b3
      clear hN hgb ho hs hc hcq
      go_wp2_with (at_builtin; refine app_i64 (base := w.heap.size) _ rfl _ _ rfl rfl (HO.out.alloc _) rfl (cell_new1 _ _ _) (by omega) (by simp <;> omega) ?_; intro A2 c2 wa hoa hgra)
      have HOA := Lib.hid hoa
      have HSA := Lib.hid (src_app HS.out HO.out hgl hgra)
      have HCA := Lib.hid (chg_app HC.out HO.out (Nat.le_refl _) hgra)
      clear hoa hgra HO HS HC
      go_wp2_with fail
      refine (H1.out _ HSA.out).mono ?_
      rintro e wb ⟨rfl, hsb, hcb⟩
      simp only
      have HOB := Lib.hid (own_ne_chg HOA.out hcb hgl)
      have HCB := Lib.hid (HCA.out.trans hcb)
      have HSB := Lib.hid hsb
      clear hsb hcb HOA HCA HSA
      go_wp2_with fail
      refine (H2.out _ HSB.out).mono ?_
      rintro e wc ⟨rfl, hsc, hcc⟩
      simp only
      have HOC := Lib.hid (own_ne_chg HOB.out hcc hgl)
      have HCC := Lib.hid (HCB.out.trans hcc)
      have HSC := Lib.hid hsc
      clear hsc hcc HOB HCB HSB
      go_wp2_with fail
      refine (H3.out _ (HSC.out.alloc _)).mono ?_
      rintro e wd ⟨rfl, hsd, hcd⟩
      simp only
      have hgc := HSC.out.lt
      have HOD := Lib.hid (own_ne_chg (own_below HOC.out ((Below.refl _ _).alloc (Nat.le_refl _) (.cells #[.int .i64 0, .int .i64 5, .int .i64 10, .int .i64 (10 * v1), .int .i64 v2] 2))) hcd hgl)
      have HCD := Lib.hid ((chg_alloc HCC.out (.cells #[.int .i64 0, .int .i64 5, .int .i64 10, .int .i64 (10 * v1), .int .i64 v2] 2)).trans hcd)
      have HSD := Lib.hid hsd
      have HLT := Lib.hid (fun (i : Nat) (v : Value) (h : (#[Value.int .i64 0, .int .i64 5, .int .i64 10, .int .i64 (10 * v1), .int .i64 v2] : Array Value)[i]? = some v) => chg_cell hcd (b := wc.heap.size) (i := i) (.inr (by omega)) (cell_top wc _ 2 rfl h))
      clear hsd hcd HOC HCC HSC
      have HBD2 := Lib.hid (show ∀ x ∈ out ++ [a], 0 ≤ x ∧ x ≤ 400 from fun x hx => by
        rcases List.mem_append.1 hx with hx | hx
        · exact HBD.out x hx
        · simp at hx; subst hx; omega)
      rcases (by omega : v3 = 0 ∨ v3 = 1 ∨ v3 = 2 ∨ v3 = 3 ∨ v3 = 4) with rfl | rfl | rfl | rfl | rfl
      · have hp : pickF 0 (10 * v1) v2 = 0 := by simp [pickF]
        have hnn := HNN.out
        have hgb := HGB.out
        rw [hp] at hnn hgb
        obtain ⟨gb0, gb1⟩ := hgb
        have HN2 := Lib.hid hnn
        have hl := HLT.out 0 _ rfl
        clear hp hnn
        go_wp2_with fail
        go_roundg q
        case measure => omega
        case rel => exact ⟨A2, m + 1, c2, out ++ [a], a + (0), s3', rfl, by go_num, by go_num, by omega, by omega, by omega, HBD2.out, HN2.out, HOD.out, HSD.out, HCD.out⟩
      · have hp : pickF 1 (10 * v1) v2 = 5 := by simp [pickF]
        have hnn := HNN.out
        have hgb := HGB.out
        rw [hp] at hnn hgb
        obtain ⟨gb0, gb1⟩ := hgb
        have HN2 := Lib.hid hnn
        have hl := HLT.out 1 _ rfl
        clear hp hnn
        go_wp2_with fail
        go_roundg q
        case measure => omega
        case rel => exact ⟨A2, m + 1, c2, out ++ [a], a + (5), s3', rfl, by go_num, by go_num, by omega, by omega, by omega, HBD2.out, HN2.out, HOD.out, HSD.out, HCD.out⟩
      · have hp : pickF 2 (10 * v1) v2 = 10 := by simp [pickF]
        have hnn := HNN.out
        have hgb := HGB.out
        rw [hp] at hnn hgb
        obtain ⟨gb0, gb1⟩ := hgb
        have HN2 := Lib.hid hnn
        have hl := HLT.out 2 _ rfl
        clear hp hnn
        go_wp2_with fail
        go_roundg q
        case measure => omega
        case rel => exact ⟨A2, m + 1, c2, out ++ [a], a + (10), s3', rfl, by go_num, by go_num, by omega, by omega, by omega, HBD2.out, HN2.out, HOD.out, HSD.out, HCD.out⟩
      · have hp : pickF 3 (10 * v1) v2 = 10 * v1 := by simp [pickF]
        have hnn := HNN.out
        have hgb := HGB.out
        rw [hp] at hnn hgb
        obtain ⟨gb0, gb1⟩ := hgb
        have HN2 := Lib.hid hnn
        have hl := HLT.out 3 _ rfl
        clear hp hnn
        go_wp2_with fail
        go_roundg q
        case measure => omega
        case rel => exact ⟨A2, m + 1, c2, out ++ [a], a + (10 * v1), s3', rfl, by go_num, by go_num, by omega, by omega, by omega, HBD2.out, HN2.out, HOD.out, HSD.out, HCD.out⟩
      · have hp : pickF 4 (10 * v1) v2 = v2 := by simp [pickF]
        have hnn := HNN.out
        have hgb := HGB.out
        rw [hp] at hnn hgb
        obtain ⟨gb0, gb1⟩ := hgb
        have HN2 := Lib.hid hnn
        have hl := HLT.out 4 _ rfl
        clear hp hnn
        go_wp2_with fail
        go_roundg q
        case measure => omega
        case rel => exact ⟨A2, m + 1, c2, out ++ [a], a + (v2), s3', rfl, by go_num, by go_num, by omega, by omega, by omega, HBD2.out, HN2.out, HOD.out, HSD.out, HCD.out⟩
end Go.Proofs.Ytfkllgnenbbccaa

/- Walks: the final order and rank (chapter 31). -/
import Derived.Test.YtfkllgnenbbccaaMt
import Derived.Test.YtfkllgnenbbccaaWk
import Derived.Test.YtfkllgnenbbccaaWq
namespace Go.Proofs.Ytfkllgnenbbccaa
open Go.RowKit
set_option linter.unusedVariables false
set_option maxRecDepth 100000

theorem cmpOrder_any (n : Nat) (pts pls : List Int) (Ap Al : Option Addr) (cp cl : Nat) (b1 b2 : Nat) (W : World) (h1 : W.cell? ⟨b1, 0, none⟩ = some (.slice Ap n cp)) (h2 : W.cell? ⟨b2, 0, none⟩ = some (.slice Al n cl))
    (hp : Rd W 1 Ap n (ints pts)) (hl : Rd W 1 Al n (ints pls)) (bp : ∀ (i : Nat) (x : Int), pts[i]? = some x → 0 ≤ x ∧ x ≤ 1000000) (bl : ∀ (i : Nat) (x : Int), pls[i]? = some x → 1 ≤ x ∧ x ≤ 5) (a b : Int) (ha0 : 0 ≤ a) (ha1 : a < n) (hb0 : 0 ≤ b) (hb1 : b < n) :
    Calls Try.prog 67 #[.int .i64 a, .int .i64 b, .pointer (some ⟨b1, 0, none⟩), .pointer (some ⟨b2, 0, none⟩)] W fun e w' => e = .returned (.int .i64 (ordC pts pls a b)) ∧ Drawn W w' := by
  obtain ⟨i, rfl⟩ := int_up a ha0
  obtain ⟨j, rfl⟩ := int_up b hb0
  have hi : i < n := by omega
  have hj : j < n := by omega
  obtain ⟨bb, oo, x, rfl, hx, _, hcx⟩ := hp.int hi
  obtain ⟨bb', oo', y, hA, hy, _, hcy⟩ := hp.int hj
  obtain ⟨rfl, rfl⟩ : bb = bb' ∧ oo = oo' := by injection hA with hA; injection hA with e1 e2; exact ⟨e1, e2⟩
  obtain ⟨cb, co, u, rfl, hu, _, hcu⟩ := hl.int hi
  obtain ⟨cb', co', v, hA', hv, _, hcv⟩ := hl.int hj
  obtain ⟨rfl, rfl⟩ : cb = cb' ∧ co = co' := by injection hA' with hA'; injection hA' with e1 e2; exact ⟨e1, e2⟩
  have e : ordC pts pls (i : Int) (j : Int) = if x = y then u - v else x - y := by
    unfold ordC
    simp only [Int.toNat_natCast, List.getD_eq_getElem?_getD]
    rw [hx, hy, hu, hv]; rfl
  rw [e]
  obtain ⟨bx0, bx1⟩ := bp _ _ hx
  obtain ⟨by0, by1⟩ := bp _ _ hy
  obtain ⟨bu0, bu1⟩ := bl _ _ hu
  obtain ⟨bv0, bv1⟩ := bl _ _ hv
  clear e hx hy hu hv hA hA' ha0 ha1 hb0 hb1 bp bl hp hl
  have HS1 := Lib.hid (show IntKind.i64.wrap (x - y) = x - y from IntWalk.i64_in _ (by omega))
  have HS2 := Lib.hid (show IntKind.i64.wrap (u - v) = u - v from IntWalk.i64_in _ (by omega))
  by_cases hxy : x = y
  · subst hxy
    rw [if_pos rfl]
    go_enter Try.func67, Try.ntmps67
    go_wp2_with fail
    go_quiet (fail)
    go_wp2_with fail
    have hs2 := HS2.out
    go_quiet (fail)
    clear hs2
    go_wp2_with fail
    go_ret
    exact ⟨rfl, ((Drawn.refl _).step _).step _⟩
  · rw [if_neg hxy]
    have hne : (x != y) = true := by simp [hxy]
    clear hxy
    go_enter Try.func67, Try.ntmps67
    go_wp2_with fail
    go_quiet (fail)
    go_wp2_with fail
    have hs1 := HS1.out
    go_quiet (fail)
    clear hs1
    go_wp2_with fail
    go_ret
    exact ⟨rfl, ((Drawn.refl _).step _).step _⟩

theorem index_any (A : Option Addr) (n c : Nat) (xs : List Int) (v : Int) (w : World) (h : Rd w 1 A n (ints xs)) :
    Calls Try.prog 65 #[.slice A n c, .int .i64 v] w fun e w' => e = .returned (.int .i64 (indexF v 0 xs)) ∧ Drawn w w' := by
  have HN := Lib.hid h.len_int
  have hm := h.le
  go_enter Try.func65, Try.ntmps65
  go_wp2_with fail
  go_loopw [5, 8] (fun _ i wr => ∃ k : Nat, k ≤ n ∧ i = .int .i64 k ∧ Hid (indexF v k (xs.drop k) = indexF v 0 xs) ∧ Drawn w wr) (fun _ i _ => n - (intOf i).toNat)
  case atStart => exact ⟨0, Nat.zero_le _, rfl, rfl, Drawn.refl _⟩
  case round =>
    obtain ⟨k, hk, rfl, HR, hq⟩ := hrel
    by_cases hlt : k < n
    · obtain ⟨b, o, x, rfl, hx, hd, hc⟩ := (h.drawn hq).int hlt
      have HD := Lib.hid hd
      clear hx hd
      by_cases hvx : v = x
      · subst hvx
        go_wp2_with fail
        go_ret
        exact ⟨ret_int (by rw [← HR.out, HD.out, indexF, if_pos rfl]), hq⟩
      · have hne : (v == x) = false := by simpa using hvx
        have HVX := Lib.hid hvx
        clear hvx
        go_wp2_with fail
        go_roundw
        case rel => exact ⟨k + 1, by omega, by go_num, by unfold Hid; rw [← HR.out, HD.out, indexF, if_neg HVX.out], hq⟩
        case measure => simp [intOf]; omega
    · obtain rfl : k = n := by omega
      go_wp2
      go_ret
      exact ⟨ret_int (by rw [← HR.out, List.drop_eq_nil_of_le (by rw [HN.out]; omega)]; rfl), hq⟩

theorem finalOrder_any (A : Option Addr) (n c : Nat) (net : List Int) (factor : Int) (A' : Option Addr) (c' : Nat) (places : List Int) (w : World) (hv : Valid net places factor n) (h : Rd w 1 A n (ints net)) (h' : Rd w 1 A' n (ints places)) :
    Calls Try.prog 50 #[.slice A n c, .int .i64 factor, .slice A' n c'] w (RetCopy w (orderF factor net places)) := by
  have hn5 := hv.n5
  have HNL := Lib.hid hv.nl
  have hpts : ∀ (i : Nat) (x : Int), (ptsF factor net places)[i]? = some x → 0 ≤ x ∧ x ≤ 1000000 := by
    intro i x hx
    have hi := (List.getElem?_eq_some_iff.1 hx).1
    rw [ptsF_len (hv.nl.trans hv.pl.symm), hv.nl] at hi
    have h1 : net[i]? = some (net[i]'(by rw [hv.nl]; exact hi)) := List.getElem?_eq_getElem _
    have h2 : places[i]? = some (places[i]'(by rw [hv.pl]; exact hi)) := List.getElem?_eq_getElem _
    have h3 := ptsF_get (factor := factor) h1 h2
    rw [hx] at h3
    injection h3 with h3
    have b1 := hv.net0 _ _ h1
    have b2 := hv.pl1 _ _ h2
    have b3 := pt_bd hv.f1 hv.f3 b2.1 b2.2
    omega
  have HPTS := Lib.hid hpts
  have HPL := Lib.hid (ptsF_len (factor := factor) (hv.nl.trans hv.pl.symm))
  clear hpts
  unfold orderF
  rw [hv.nl]
  have HV := Lib.hid hv
  clear hv
  generalize hpt : ptsF factor net places = pts at *
  have HFP := Lib.hid (fun W h1 h2 => finalPoints_any A n c net factor A' c' places W HV.out h1 h2)
  rw [hpt] at HFP
  clear hpt
  go_enter Try.func50, Try.ntmps50
  go_wp2_with fail
  obtain ⟨wb, hwb⟩ : ∃ wb, wb = w.alloc (.cells #[.slice A' n c'] 22) := ⟨_, rfl⟩
  have hcb : wb.cell? ⟨w.heap.size, 0, none⟩ = some (.slice A' n c') := by rw [hwb]; exact cell_new1 _ _ _
  have hbb : Below w.heap.size w wb := by rw [hwb]; exact (Below.refl _ _).alloc (Nat.le_refl _) _
  have hsb : w.heap.size < wb.heap.size := by rw [hwb]; simp
  rw [← hwb]
  clear hwb
  refine (HFP.out _ (h.below hbb) (h'.below hbb)).mono ?_
  rintro e w1 ⟨A1, n1, c1, rfl, ho1, _, hb1⟩
  obtain rfl : n = n1 := by have h0 : pts.length = n1 := own_len ho1; have h1 := HPL.out; rw [HNL.out] at h1; omega
  have hsz1 := hb1.size
  obtain ⟨wc, hwc⟩ : ∃ wc, wc = w1.alloc (.cells #[.slice A1 n c1] 22) := ⟨_, rfl⟩
  have hcc : wc.cell? ⟨w1.heap.size, 0, none⟩ = some (.slice A1 n c1) := by rw [hwc]; exact cell_new1 _ _ _
  have hbc : Below w1.heap.size w1 wc := by rw [hwc]; exact (Below.refl _ _).alloc (Nat.le_refl _) _
  have hb2 : Below wb.heap.size wb wc := hb1.trans (hbc.mono hb1.size)
  have hb3 : Below w.heap.size w wc := hbb.trans (hb2.mono hbb.size)
  have hso := sortedIndices_any n (by omega) (some ⟨w1.heap.size, 0, none⟩) (some ⟨w.heap.size, 0, none⟩) (ordC pts places) (ordL pts places) (fun a b => rfl) wc (fun W hW a b ha0 ha1 hb0 hb1' =>
    cmpOrder_any n pts places A1 A' c1 c' w1.heap.size w.heap.size W (Keeps.below hW _ _ hcc) (Keeps.below (hb2.trans (hW.mono hb2.size)) _ _ hcb)
      (own_rd (own_below (own_below ho1 hbc) hW)) (h'.below (hb3.trans (hW.mono hb3.size))) HPTS.out (fun i x hx => HV.out.pl1 i x hx) a b ha0 ha1 hb0 hb1')
  have HSO := Lib.hid hso; have HB3 := Lib.hid hb3; have HW := Lib.hid hwc
  clear hso hb2 hb3 hwc hcc hbc hb1 hcb hbb ho1 hsz1
  go_wp2_with fail
  rw [show w1.alloc (.cells #[.slice A1 n c1] 22) = wc from HW.out.symm]
  refine HSO.out.mono ?_
  rintro e w2 ⟨A2, n2, c2, rfl, ho2, hn2, hb2⟩
  go_wp2_with fail
  go_ret
  exact ⟨_, _, _, rfl, own_base ho2 HB3.out.size, hn2, HB3.out.trans (hb2.mono HB3.out.size)⟩

theorem finalRank_any (A : Option Addr) (n c : Nat) (net : List Int) (factor : Int) (A' : Option Addr) (c' : Nat) (places : List Int) (boat : Int) (hb0 : 0 ≤ boat) (hb1 : boat < n) (hp : isPermB 1 places = true) (w : World) (hv : Valid net places factor n) (h : Rd w 1 A n (ints net)) (h' : Rd w 1 A' n (ints places)) :
    Calls Try.prog 48 #[.slice A n c, .int .i64 factor, .slice A' n c', .int .i64 boat] w fun e w' => e = .returned (.int .i64 (rankF factor net places boat)) ∧ Below w.heap.size w w' := by
  have hn5 := hv.n5
  have hnl := hv.nl
  have hi := index_rank (factor := factor) (hv.pl.trans hv.nl.symm) hp boat hb0 (by omega)
  have hr : 0 ≤ rankF factor net places boat ∧ rankF factor net places boat ≤ 5 := by
    have := before_lt (pts := ptsF factor net places) (pls := places) (n := net.length) hb0 (by omega)
    unfold rankF; omega
  have HFO := Lib.hid (finalOrder_any A n c net factor A' c' places w hv h h')
  have HI := Lib.hid (show IntKind.i64.wrap (indexF boat 0 (orderF factor net places) + 1) = rankF factor net places boat from by rw [hi]; exact IntWalk.i64_in _ (by omega))
  clear hv h h' hi hr hnl
  go_enter Try.func48, Try.ntmps48
  go_wp2_with fail
  refine HFO.out.mono ?_
  rintro e w1 ⟨A1, n1, c1, rfl, ho1, _, hb1⟩
  go_wp2_with fail
  refine (index_any _ _ _ _ _ _ (own_rd ho1)).mono ?_
  rintro e w2 ⟨rfl, hq⟩
  have hi := HI.out
  go_wp2_with fail
  go_ret
  exact ⟨rfl, hb1.trans (hq.below.mono hb1.size)⟩

theorem implFinalOrder_any (A : Option Addr) (n c : Nat) (net : List Int) (factor : Int) (A' : Option Addr) (n' c' : Nat) (places : List Int) (w : World) (h : Rd w 1 A n (ints net)) (h' : Rd w 1 A' n' (ints places)) :
    Calls Try.prog 25 #[.slice A n c, .int .i64 factor, .slice A' n' c'] w (RetI w (finalOrderF net factor places)) := by
  have HN := Lib.hid h.len_int
  have HN' := Lib.hid h'.len_int
  have HB := Lib.hid (placesCode_any A n c net factor A' n' c' places 0 w h h')
  unfold finalOrderF
  by_cases hz : placesCodeF net factor places 0 = 0
  · have hv := valid_of hz
    rw [if_pos hz]
    rw [HN.out] at hv
    have hnn : n' = n := HN'.out.symm.trans hv.pl
    subst hnn
    rw [hz] at HB
    clear hz
    go_enter Try.func25, Try.ntmps25
    go_wp2_with fail
    refine HB.out.mono ?_
    rintro e w1 ⟨rfl, hb1⟩
    go_wp2_with fail
    refine (finalOrder_any _ _ _ _ _ _ _ _ _ hv (h.below hb1) (h'.below hb1)).mono ?_
    rintro e w2 ⟨A2, n2, c2, rfl, ho2, hn2, hb2⟩
    go_wp2_with fail
    go_ret2
    exact ⟨_, _, _, rfl, own_base ho2 hb1.size, hn2, hb1.trans (hb2.mono hb1.size)⟩
  · rw [if_neg hz]
    generalize placesCodeF net factor places 0 = code at *
    have hne : (code != 0) = true := by simp [hz]
    clear hz
    go_enter Try.func25, Try.ntmps25
    go_wp2_with fail
    refine HB.out.mono ?_
    rintro e w1 ⟨rfl, hb1⟩
    go_wp2_with fail
    go_ret2
    exact RetI.nil _ _ _ hb1

/-- Result: two numbers. -/
def Ret2 (w : World) (r : Int × Int) (e : Ending) (w' : World) : Prop := e = .returned (.tuple #[.int .i64 r.1, .int .i64 r.2]) ∧ Below w.heap.size w w'
theorem implFinalRank_any (A : Option Addr) (n c : Nat) (net : List Int) (factor : Int) (A' : Option Addr) (n' c' : Nat) (places : List Int) (boat : Int) (w : World) (h : Rd w 1 A n (ints net)) (h' : Rd w 1 A' n' (ints places)) :
    Calls Try.prog 23 #[.slice A n c, .int .i64 factor, .slice A' n' c', .int .i64 boat] w (Ret2 w (finalRankF net factor places boat)) := by
  have HN := Lib.hid h.len_int
  have HN' := Lib.hid h'.len_int
  have HB := Lib.hid (placesCode_any A n c net factor A' n' c' places boat w h h')
  unfold finalRankF
  by_cases hz : placesCodeF net factor places boat = 0
  · have hv := valid_of hz
    obtain ⟨h1, _, hp⟩ := placesCode_ok hz
    obtain ⟨_, _, _, g4, g5⟩ := medalCode_ok h1
    rw [if_pos hz]
    rw [HN.out] at hv
    have hnn : n' = n := HN'.out.symm.trans hv.pl
    subst hnn
    have g5' : boat < (n' : Int) := by have := HN.out; omega
    have HFR := Lib.hid (fun W h1 h2 => finalRank_any A n' c net factor A' c' places boat g4 g5' hp W hv h1 h2)
    rw [hz] at HB
    clear hz hv hp h1
    generalize rankF factor net places boat = rk at *
    go_enter Try.func23, Try.ntmps23
    go_wp2_with fail
    refine HB.out.mono ?_
    rintro e w1 ⟨rfl, hb1⟩
    go_wp2_with fail
    refine (HFR.out _ (h.below hb1) (h'.below hb1)).mono ?_
    rintro e w2 ⟨rfl, hb2⟩
    go_wp2_with fail
    go_ret2
    exact ⟨rfl, hb1.trans (hb2.mono hb1.size)⟩
  · rw [if_neg hz]
    generalize placesCodeF net factor places boat = code at *
    have hne : (code != 0) = true := by simp [hz]
    clear hz
    go_enter Try.func23, Try.ntmps23
    go_wp2_with fail
    refine HB.out.mono ?_
    rintro e w1 ⟨rfl, hb1⟩
    go_wp2_with fail
    go_ret2
    exact ⟨rfl, hb1⟩
end Go.Proofs.Ytfkllgnenbbccaa

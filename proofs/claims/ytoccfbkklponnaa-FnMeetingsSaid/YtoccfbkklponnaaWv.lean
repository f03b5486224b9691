/- Walks: rounds (chapter 30): how often each two boats have met. -/
import Derived.Test.YtoccfbkklponnaaWu
namespace Go.Proofs.Ytoccfbkklponnaa
open Go.RowKit
set_option linter.unusedVariables false
set_option maxRecDepth 100000

theorem mat_sum (f : Nat → Nat → Nat) (n : Nat) (h : n ≤ 16) : sumLen (mat f n) ≤ 576460752303423488 := by
  have h1 : ∀ x ∈ mat f n, x.length ≤ 16 := by
    intro x hx
    unfold mat at hx
    obtain ⟨i, _, rfl⟩ := List.mem_map.1 hx
    rw [mrow_length]; exact h
  have h2 := sumLen_le h1
  rw [mat_length] at h2
  have : n * 16 ≤ 16 * 16 := Nat.mul_le_mul_right _ h
  omega
theorem rounds_len {rows : List (List Int)} {n : Nat} (h : Rounds rows n) : (rows.getD 0 []).length = n := by
  have h1 := h.m1
  cases rows with
  | nil => simp at h1
  | cons x r => exact h.all_ x (by simp)

/-- How often p and q have met in the first t rounds. -/
def cntN (rows : List (List Int)) (p q t : Nat) : Nat := if p = q then 0 else (rows.take t).countP (sameAt p q)
theorem cntN_le (rows : List (List Int)) (p q t : Nat) : cntN rows p q t ≤ rows.length := by
  unfold cntN
  split
  · omega
  · exact Nat.le_trans List.countP_le_length (by simp; omega)

theorem implMeet_any (A : Option Addr) (m c : Nat) (rows : List (List Int)) (k : Int) (w : World) (h0 : RdRows w A m rows) :
    Calls Try.prog 38 #[.slice A m c, .int .i64 k] w (RetR w (meetCountsF rows k)) := by
  have h := h0; clear h0
  have HM := Lib.hid h.len
  have HC := Lib.hid (roundsCode_any A m c rows k w h)
  by_cases hz : roundsCodeF rows k = 0
  · have hR := rounds_of hz
    have e1 : meetCountsF rows k = (mat (meetN rows) (rows.getD 0 []).length, 0) := by unfold meetCountsF; rw [if_pos hz]
    rw [e1]; clear e1
    rw [hz] at HC; clear hz
    generalize hn : (rows.getD 0 []).length = n at *
    clear hn
    have hm1 := hR.m1; have hm12 := hR.m12; have hn1 := hR.n1; have hn16 := hR.n16
    rw [h.len] at hm1 hm12
    obtain ⟨b, o, A0, c0, x0, rfl, hx0, _, hc0, hrd0⟩ := h.row (k := 0) (by omega)
    have hx0l := hR.all_ x0 (List.mem_of_getElem? hx0)
    simp only [Nat.add_zero, hx0l] at hc0
    clear hx0 hx0l hrd0
    have hmp : 0 < m := by omega
    go_enter Try.func38, Try.ntmps38
    go_wp2_with fail
    refine HC.out.mono ?_
    rintro e w1 ⟨rfl, hq1⟩
    have hc01 := Keeps.below hq1.below _ _ hc0
    have hb1 := hq1.below
    have hs1 := hb1.size
    have hmk := run_make_rows n (by omega)
    have hown := OwnRows.made w1 w.heap.size 22 2 n hs1 (by omega)
    have hb0 : Below w.heap.size w (w1.alloc (.cells (madeCells #[.slice none 0 0] n) 22)) := hb1.alloc hs1 _
    go_wp2_with fail
    go_loopw [27] (fun i wr => ∃ (p : Nat) (vs : List Value), p ≤ n ∧ i = .int .i64 p ∧ OwnRows wr w.heap.size 22 2 (some ⟨w1.heap.size, 0, none⟩) n n vs ((mat (meetN rows) n).take p ++ List.replicate (n - p) []) ∧ Below w.heap.size w wr) (fun i _ => n - (intOf i).toNat)
    case atStart => exact ⟨0, _, Nat.zero_le _, rfl, by simpa using hown, hb0⟩
    case round =>
      clear hown hb0 hmk
      obtain ⟨p, vs, hp, rfl, ho, hb⟩ := hrel
      by_cases hlt : p < n
      · have hbs := hb.size
        rw [fill_open _ _ _ _ hlt] at ho
        obtain ⟨g, u, hg, hg1, hg2, _, hcy, hfy⟩ := own_at ho.outer hlt
        obtain rfl : w1.heap.size = g := by injection hg with hg; injection hg
        clear hg
        have hin := ho.in_
        have hmk2 := run_make_i64 n (by omega)
        have hnew := own_made wr w.heap.size 2 n (.int .i64 0) hbs (by omega)
        rw [← ints_replicate] at hnew
        have hll : (List.replicate n (0 : Int)).length = n := by simp
        have ho1 := (ho.alloc (.cells (madeCells #[.int .i64 0] n) 2)).put (by decide) (k := p) (A' := some ⟨wr.heap.size, 0, none⟩) (c' := n) (ys := List.replicate n 0) (by rw [hll]; exact hnew) (fun u hu b hb hb' => by
          have h2 := hin.2 u hu b hb'
          simp [Value.ownBlock] at hb
          omega)
        rw [hll, fill_set _ _ _ _ _ (by rw [mat_length]; omega)] at ho1
        have hb2 := (hb.alloc hbs (.cells (madeCells #[.int .i64 0] n) 2)).setCell (p := ⟨w1.heap.size, p, none⟩) hg1 (.slice (some ⟨wr.heap.size, 0, none⟩) n n)
        rw [World.setCell_alloc_past _ _ _ _ hg2] at ho1 hb2
        have HO1 := Lib.hid ho1; have HB2 := Lib.hid hb2
        clear ho1 hb2 hnew hll hin ho
        go_wp2_with fail
        clear hmk2 hcy hfy
        obtain ⟨wo, hwo⟩ : ∃ wo : World, wo = (wr.setCell ⟨w1.heap.size, p, none⟩ (.slice (some ⟨wr.heap.size, 0, none⟩) n n)).alloc (.cells (madeCells #[.int .i64 0] n) 2) := ⟨_, rfl⟩
        rw [← hwo] at HO1 HB2
        obtain ⟨wb, hwb⟩ : ∃ wb : Nat, wb = wr.heap.size := ⟨_, rfl⟩
        have HB1 := Lib.hid hb1
        clear hb hb1
        go_loopw [40] (fun i wr => ∃ q : Nat, q ≤ n ∧ i = .int .i64 q ∧ OwnRows wr w.heap.size 22 2 (some ⟨w1.heap.size, 0, none⟩) n n (vs.set p (.slice (some ⟨wb, 0, none⟩) n n)) ((mat (meetN rows) n).take p ++ ((mrow (meetN rows) n p).take q ++ List.replicate (n - q) 0) :: List.replicate (n - (p + 1)) []) ∧ Below w.heap.size w wr) (fun i _ => n - (intOf i).toNat)
        case atStart => exact ⟨0, Nat.zero_le _, rfl, by rw [hwb, ← hwo]; simpa using HO1.out, by rw [← hwo]; exact HB2.out⟩
        case round =>
          clear HO1 HB2 hwo
          obtain ⟨q, hq, rfl, ho, hb⟩ := hrel
          by_cases hltq : q < n
          · rw [fill_open _ q _ _ hltq] at ho
            have HO := Lib.hid ho; have HB := Lib.hid hb
            clear ho hb
            go_wp2_with fail
            obtain ⟨wi, hwi⟩ : ∃ wi : World, wi = wr := ⟨_, rfl⟩
            rw [← hwi] at HO HB
            go_loopw [12, 45] (fun _ i wr => ∃ t : Nat, t ≤ m ∧ i = .int .i64 t ∧ OwnRows wr w.heap.size 22 2 (some ⟨w1.heap.size, 0, none⟩) n n (vs.set p (.slice (some ⟨wb, 0, none⟩) n n)) ((mat (meetN rows) n).take p ++ ((mrow (meetN rows) n p).take q ++ (cntN rows p q t : Int) :: List.replicate (n - (q + 1)) 0) :: List.replicate (n - (p + 1)) []) ∧ Below w.heap.size w wr) (fun _ i _ => m - (intOf i).toNat)
            case atStart => exact ⟨0, Nat.zero_le _, rfl, by rw [← hwi, show (cntN rows p q 0 : Int) = 0 from by simp [cntN]]; exact HO.out, by rw [← hwi]; exact HB.out⟩
            case round =>
              clear HO HB hwi
              obtain ⟨t, ht, rfl, ho, hb⟩ := hrel
              by_cases hltt : t < m
              · obtain ⟨b', o', A', c', r, hb', hr, _, hc, hrd⟩ := (h.below hb).row hltt
                obtain ⟨rfl, rfl⟩ : b = b' ∧ o = o' := by injection hb' with hb'; injection hb' with e1 e2; exact ⟨e1, e2⟩
                have hrl := hR.all_ r (List.mem_of_getElem? hr)
                rw [hrl] at hrd hc
                clear hb'
                by_cases hpq : p = q
                · subst hpq
                  have hne : ((p : Int) != p) = false := by simp
                  have ec : cntN rows p p (t + 1) = cntN rows p p t := by simp [cntN]
                  have EC := Lib.hid ec
                  have HO := Lib.hid ho
                  clear hr hrl ec ho
                  go_wp2
                  go_quiet (fail)
                  go_wp2
                  go_roundw
                  case rel => exact ⟨t + 1, by omega, by go_num, by rw [EC.out]; exact HO.out.drawn ⟨_, rfl⟩, below_drewN hb _⟩
                  case measure => simp [intOf]; omega
                · have hne : ((p : Int) != q) = true := by simp; omega
                  obtain ⟨b1, o1, x, rfl, hx, _, hcx⟩ := hrd.int hlt
                  obtain ⟨b2, o2, y, hb2, hy, _, hcy⟩ := hrd.int hltq
                  obtain ⟨rfl, rfl⟩ : b1 = b2 ∧ o1 = o2 := by injection hb2 with hb2; injection hb2 with e1 e2; exact ⟨e1, e2⟩
                  have ec : cntN rows p q (t + 1) = cntN rows p q t + if sameAt p q r = true then 1 else 0 := by
                    unfold cntN; rw [if_neg hpq, if_neg hpq, countP_snoc _ hr]
                  have hsame : sameAt p q r = decide (x = y) := by unfold sameAt; rw [hx, hy, Bool.eq_iff_iff]; simp
                  have hcl : cntN rows p q t ≤ 12 := by have := cntN_le rows p q t; rw [HM.out] at this; omega
                  rw [hsame] at ec
                  have EC := Lib.hid ec
                  clear hr hrl hb2 hx hy hsame ec
                  by_cases hxy : x = y
                  · subst hxy
                    have hd : (x == x) = true := by simp
                    obtain ⟨v, A2, c2, cur, hv, hcur, _, he, hox⟩ := ho.get hlt
                    have hcur' := hcur
                    rw [fill_get _ _ _ _ (by rw [mat_length]; omega)] at hcur'
                    injection hcur' with hcur'
                    have hcl2 : cur.length = n := by rw [← hcur']; simp [mrow_length]; omega
                    obtain ⟨g2, u2, hg2, _, _, hu2, hcu2, _⟩ := own_at ho.outer hlt
                    obtain rfl : w1.heap.size = g2 := by injection hg2 with hg2; injection hg2
                    obtain rfl : v = u2 := by rw [hv] at hu2; injection hu2
                    obtain ⟨g3, z, hA2, hg31, hg32, hz, hcz, hfz⟩ := own_int_at hox (k := q) (by rw [hcl2]; exact hltq)
                    rw [← hcur', fill_get _ _ _ _ (by rw [mrow_length]; omega)] at hz
                    injection hz with hz
                    subst hz hA2
                    rw [he, hcl2] at hcu2
                    have hst := own_set (k := q) hox ((cntN rows p q t : Int) + 1)
                    rw [he] at hv
                    have ho2 := ho.upd (by decide) hv hcur (ys := cur.set q ((cntN rows p q t : Int) + 1)) (by simp) (grown_set (World.grownBy.refl _ _) q _) (by rw [List.length_set]; exact hst)
                    rw [fill_set _ _ _ _ _ (by rw [mat_length]; omega), ← hcur', fill_set _ _ _ _ _ (by rw [mrow_length]; omega)] at ho2
                    have hb2 := hb.setCell (p := ⟨g3, q, none⟩) hg31 (.int .i64 ((cntN rows p q t : Int) + 1))
                    have HO2 := Lib.hid ho2; have HB2 := Lib.hid hb2
                    clear ho2 hb2 hst hcur hcur' he hv hu2 hg2 hox ho
                    generalize hcc : cntN rows p q t = cc at *
                    have HCC := Lib.hid hcc; clear hcc hcl2
                    go_wp2
                    go_quiet (fail)
                    go_wp2
                    go_roundw
                    case rel => exact ⟨t + 1, by omega, by go_num, by rw [EC.out]; simpa using HO2.out.drawn (w' := (wr.drewN nq).setCell ⟨g3, q, none⟩ (.int .i64 ((cc : Int) + 1))) ⟨nq, rfl⟩, below_drewN HB2.out nq⟩
                    case measure => simp [intOf]; omega
                  · have hd : (x == y) = false := by simpa using hxy
                    have HO := Lib.hid ho
                    clear ho
                    go_wp2
                    go_quiet (fail)
                    go_wp2
                    go_roundw
                    case rel => exact ⟨t + 1, by omega, by go_num, by rw [EC.out]; simpa [hxy] using HO.out.drawn ⟨nq, rfl⟩, below_drewN hb nq⟩
                    case measure => simp [intOf]; omega
              · obtain rfl : t = m := by omega
                go_wp2
                go_roundw
                case rel =>
                  refine ⟨q + 1, by omega, by go_num, ?_, hb⟩
                  have ef : cntN rows p q t = meetN rows p q := by unfold cntN meetN; rw [List.take_of_length_le (by rw [HM.out]; omega)]
                  rw [ef, fill_step _ _ _ _ _ (mrow_get _ hltq)] at ho
                  exact ho
                case measure => simp [intOf]; omega
          · obtain rfl : q = n := by omega
            go_wp2
            go_roundw
            case rel =>
              refine ⟨p + 1, vs.set p (.slice (some ⟨wb, 0, none⟩) q q), by omega, by go_num, ?_, hb⟩
              rw [Nat.sub_self, List.replicate_zero, List.append_nil, List.take_of_length_le (l := mrow (meetN rows) q p) (by rw [mrow_length]; omega), fill_step _ _ _ _ _ (mat_get _ hlt)] at ho
              exact ho
            case measure => simp [intOf]; omega
      · obtain rfl : p = n := by omega
        go_wp2
        go_ret2
        refine ⟨_, _, _, vs, rfl, ?_, mat_sum _ _ hn16, hb⟩
        rw [Nat.sub_self, List.replicate_zero, List.append_nil, List.take_of_length_le (by rw [mat_length]; omega)] at ho
        exact ho
  · have e1 : meetCountsF rows k = ([], roundsCodeF rows k) := by unfold meetCountsF; rw [if_neg hz]
    rw [e1]; clear e1
    generalize roundsCodeF rows k = code at *
    have hne : (code != 0) = true := by simp [hz]
    clear hz
    go_enter Try.func38, Try.ntmps38
    go_wp2_with fail
    refine HC.out.mono ?_
    rintro e w1 ⟨rfl, hq1⟩
    go_wp2_with fail
    go_ret2
    exact RetR.nil _ _ _ hq1.below

theorem mrow_bd (f : Nat → Nat → Nat) (n i : Nat) : (mrow f n i).length = n := mrow_length f n i

theorem specMeet_any (A : Option Addr) (m c : Nat) (rows : List (List Int)) (k : Int) (w : World) (h0 : RdRows w A m rows) :
    Calls Try.prog 37 #[.slice A m c, .int .i64 k] w (RetR w (meetCountsF rows k)) := by
  have h := h0; clear h0
  have HM := Lib.hid h.len
  have HC := Lib.hid (l30Rounds_any A m c rows k w h)
  by_cases hz : roundsCodeF rows k = 0
  · have hR := rounds_of hz
    have e1 : meetCountsF rows k = (mat (meetN rows) (rows.getD 0 []).length, 0) := by unfold meetCountsF; rw [if_pos hz]
    rw [e1]; clear e1
    rw [hz] at HC; clear hz
    generalize hn : (rows.getD 0 []).length = n at *
    clear hn
    have hm1 := hR.m1; have hm12 := hR.m12; have hn1 := hR.n1; have hn16 := hR.n16
    rw [h.len] at hm1 hm12
    obtain ⟨b, o, A0, c0, x0, rfl, hx0, _, hc0, hrd0⟩ := h.row (k := 0) (by omega)
    have hx0l := hR.all_ x0 (List.mem_of_getElem? hx0)
    simp only [Nat.add_zero, hx0l] at hc0
    clear hx0 hx0l hrd0
    have hmp : 0 < m := by omega
    go_enter Try.func37, Try.ntmps37
    go_wp2_with fail
    refine HC.out.mono ?_
    rintro e w1 ⟨rfl, hq1⟩
    have hb1 := hq1.below
    have hs1 := hb1.size
    have hown := OwnRows.empty w1 w.heap.size 22 2 hs1
    have hb0 : Below w.heap.size w (w1.alloc (.cells #[] 22)) := hb1.alloc hs1 _
    go_wp2_with fail
    go_loopw [7, 8] (fun v i wr => ∃ (p cv : Nat) (Av : Option Addr) (vs : List Value), p ≤ n ∧ i = .int .i64 p ∧ v = .slice Av p cv ∧ OwnRows wr w.heap.size 22 2 Av p cv vs ((mat (meetN rows) n).take p) ∧ Below w.heap.size w wr) (fun _ i _ => n - (intOf i).toNat)
    case atStart => exact ⟨0, 0, _, [], Nat.zero_le _, rfl, rfl, hown, hb0⟩
    case round =>
      clear hown hb0
      obtain ⟨p, cv, Av, vs, hp, rfl, rfl, ho, hb⟩ := hrel
      have hcr := Keeps.below hb _ _ hc0
      have hbs := hb.size
      by_cases hlt : p < n
      · have hin := ho.in_
        have HIN := Lib.hid hin
        have HO := Lib.hid ho; have HB := Lib.hid hb
        clear hin ho hb
        go_wp2_with fail
        obtain ⟨wo, hwo⟩ : ∃ wo : World, wo = wr := ⟨_, rfl⟩
        rw [← hwo] at HO HB HIN hbs
        have hwe := Lib.hid hwo
        go_loopw [9, 10] (fun v i wr => ∃ (q cq : Nat) (Aq : Option Addr), q ≤ n ∧ i = .int .i64 q ∧ v = .slice Aq q cq ∧ wr.ownsRow wo.heap.size 2 1 (.slice Aq q cq) q (ints ((mrow (meetN rows) n p).take q)) ∧ Below wo.heap.size wo wr) (fun _ i _ => n - (intOf i).toNat)
        case atStart =>
          rw [← hwo]
          exact ⟨0, 0, _, Nat.zero_le _, rfl, rfl, own_empty _ _ _ (Nat.le_refl _), (Below.refl _ _).alloc (Nat.le_refl _) _⟩
        case round =>
          clear hwo hcr hwe
          obtain ⟨q, cq, Aq, hq, rfl, rfl, hq1', hbq⟩ := hrel
          have hball := HB.out.trans (hbq.mono hbs)
          have hcr := Keeps.below hball _ _ hc0
          have HBQ := Lib.hid hbq; have HOQ := Lib.hid hq1'; have HBALL := Lib.hid hball
          have hsq := hbq.size
          clear hbq hq1'
          by_cases hltq : q < n
          · go_wp2_with fail
            refine (l30Meet_any _ _ _ _ _ p q hR hlt hltq _ (h.below HBALL.out)).mono ?_
            rintro e w3 ⟨rfl, hq3⟩
            have ho3 := hq3.own HOQ.out
            have hb3 := HBQ.out.trans (hq3.below.mono hsq)
            have hs3 := hb3.size
            go_wp2_with (at_builtin; refine app_i64 _ rfl _ _ rfl rfl (ho3.alloc _) rfl (cell_new1 _ _ _) (by omega) ?cB ?_; rotate_left; intro A1 c1 w4 hown1 hgr1)
            · go_roundw
              case rel => exact ⟨q + 1, _, _, by omega, by go_num, rfl, by rw [take_snoc_get (mrow_get _ hltq)]; exact hown1, below_app hb3 hs3 (Nat.le_refl _) ho3 hgr1⟩
              case measure => simp [intOf]; omega
            · simp; omega
          · obtain rfl : q = n := by omega
            have ho2 := HO.out.below HBQ.out
            have hll : (mrow (meetN rows) q p).length = q := mrow_length _ _ _
            have hrow := HOQ.out
            rw [List.take_of_length_le (by omega)] at hrow
            have hlt1 := hrow.lt
            have hrow' : wr.ownsRow w.heap.size 2 1 (.slice Aq (mrow (meetN rows) q p).length cq) (mrow (meetN rows) q p).length (ints (mrow (meetN rows) q p)) := by rw [hll]; exact own_base hrow hbs
            have hap : ∀ u ∈ vs, ∀ b, (Value.slice Aq (mrow (meetN rows) q p).length cq).ownBlock = some b → u.ownBlock ≠ some b := by
              rw [hll]
              intro u hu b hb hb'
              have h1 := hlt1 b hb
              have h2 := HIN.out.2 u hu b hb'
              omega
            have HROW := Lib.hid hrow'; have HAP := Lib.hid hap; have HO2 := Lib.hid ho2; have HLL := Lib.hid hll
            clear ho2 hrow hlt1 hrow' hap hll
            have hou := HO2.out.outer
            go_wp2_with (at_builtin; refine app_row _ rfl _ _ rfl rfl (hou.alloc _) rfl (cell_new1 _ _ _) (by omega) ?cD ?_; rotate_left; intro A1 c1 w4 hown1 hgr1)
            · have ho4 := HO2.out.append (by decide) HROW.out HAP.out _ hgr1 (by rw [HLL.out]; exact hown1)
              have HO4 := Lib.hid ho4
              have hb4 := below_app HBALL.out HBALL.out.size (Nat.le_refl _) hou hgr1
              clear ho4
              go_wp2_with fail
              go_roundw
              case rel => exact ⟨p + 1, _, _, _, by omega, by go_num, rfl, by rw [take_snoc_get (mat_get _ hlt)]; exact HO4.out, hb4⟩
              case measure => simp [intOf]; omega
            · simp; omega
      · obtain rfl : p = n := by omega
        go_wp2
        go_ret2
        refine ⟨_, _, _, vs, rfl, ?_, mat_sum _ _ hn16, hb⟩
        rw [List.take_of_length_le (by rw [mat_length]; omega)] at ho
        exact ho
  · have e1 : meetCountsF rows k = ([], roundsCodeF rows k) := by unfold meetCountsF; rw [if_neg hz]
    rw [e1]; clear e1
    generalize roundsCodeF rows k = code at *
    have hne : (code != 0) = true := by simp [hz]
    clear hz
    go_enter Try.func37, Try.ntmps37
    go_wp2_with fail
    refine HC.out.mono ?_
    rintro e w1 ⟨rfl, hq1⟩
    go_wp2_with fail
    go_ret2
    exact RetR.nil _ _ _ hq1.below
end Go.Proofs.Ytoccfbkklponnaa

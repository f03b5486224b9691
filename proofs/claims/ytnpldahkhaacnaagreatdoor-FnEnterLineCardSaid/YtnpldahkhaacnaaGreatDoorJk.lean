/- Walks: a correction (chapter 33), both sides. -/
import Derived.Test.YtnpldahkhaacnaaGreatDoorJi
namespace Go.Proofs.YtnpldahkhaacnaaGreatDoor
open Go.RowKit Go.Sort Go.Lib
set_option linter.unusedVariables false
set_option maxRecDepth 100000

/-- The boxes of a correction: the register, the entry with its revision, the result. -/
def Bxs (w wr : World) (b s : Int) (A : Option Addr) (n c : Nat) (x0 x1 x3 x4 x5 x6 : Int) (r : Int) : Prop :=
  Box wr w.heap.size #[.int .i64 b, .int .i64 s, .slice A n c] 32 ∧ Box wr (w.heap.size + 1) #[.int .i64 x0, .int .i64 x1, .int .i64 r, .int .i64 x3, .int .i64 x4, .int .i64 x5, .int .i64 x6] 25 ∧ Box wr (w.heap.size + 1 + 1) #[.int .i64 0, .int .i64 0, .slice none 0 0] 32
theorem Bxs.below {w wr w' : World} {b s : Int} {A : Option Addr} {n c : Nat} {x0 x1 x3 x4 x5 x6 r : Int} (h : Bxs w wr b s A n c x0 x1 x3 x4 x5 x6 r) (hb : Below wr.heap.size wr w') : Bxs w w' b s A n c x0 x1 x3 x4 x5 x6 r :=
  ⟨h.1.below hb, h.2.1.below hb, h.2.2.below hb⟩
theorem Bxs.set {w wr : World} {b s : Int} {A : Option Addr} {n c : Nat} {x0 x1 x3 x4 x5 x6 r : Int} (h : Bxs w wr b s A n c x0 x1 x3 x4 x5 x6 r) (r' : Int) : Bxs w (wr.setCell ⟨w.heap.size + 1, 2, none⟩ (.int .i64 r')) b s A n c x0 x1 x3 x4 x5 x6 r' :=
  ⟨h.1.other (by omega) _, by have := h.2.1.set 2 (.int .i64 r'); simpa using this, h.2.2.other (by omega) _⟩
set_option maxHeartbeats 2000000 in
theorem implCorrectEntry_any (b s : Int) (A : Option Addr) (n c : Nat) (xs : List EntryT) (x0 x1 x2 x3 x4 x5 x6 : Int) (w : World) (hr : RegRd w A n c xs) :
    Calls Tryz.prog 104 #[.agg #[.int .i64 b, .int .i64 s, .slice A n c], .agg #[.int .i64 x0, .int .i64 x1, .int .i64 x2, .int .i64 x3, .int .i64 x4, .int .i64 x5, .int .i64 x6]] w (RetReg2 w (corB b s xs (x0, x1, x2, x3, x4, x5, x6)) (corS b s xs (x0, x1, x2, x3, x4, x5, x6)) (corL b s xs (x0, x1, x2, x3, x4, x5, x6)) (corC b s xs (x0, x1, x2, x3, x4, x5, x6))) := by
  have HN := Lib.hid hr.1.len_ent
  have hn63 := hr.1.le
  obtain ⟨w1, hw1, X0, X1, X2, hb1, hs1⟩ := three_boxes w #[.int .i64 b, .int .i64 s, .slice A n c] #[.int .i64 x0, .int .i64 x1, .int .i64 x2, .int .i64 x3, .int .i64 x4, .int .i64 x5, .int .i64 x6] #[.int .i64 0, .int .i64 0, .slice none 0 0] 32 25 32
  have HB_w1 := Lib.hid hb1
  have HX_w1 := Lib.hid (show Bxs w w1 b s A n c x0 x1 x3 x4 x5 x6 x2 from ⟨X0, X1, X2⟩)
  have HR := Lib.hid (fun w' (hb : Below w.heap.size w w') => hr.below hb)
  have HI := Lib.hid (fun w' (hb : Below w.heap.size w w') => implIsRegister_any b s A n c xs w' (hr.below hb))
  have F0 := HX_w1.out.1.f3; have F1 := HX_w1.out.2.1.f7; have F1f := HX_w1.out.2.1.fz (i := 2); have F2 := HX_w1.out.2.2.f3
  clear hb1 X0 X1 X2 hr
  cases hg : regB b s xs with
  | false =>
    rw [hg] at HI
    have hC : corC b s xs (x0, x1, x2, x3, x4, x5, x6) = 1 := by unfold corC; rw [hg]; rfl
    rw [hC, show corB b s xs (x0, x1, x2, x3, x4, x5, x6) = 0 from by unfold corB; rw [hC]; rfl, show corS b s xs (x0, x1, x2, x3, x4, x5, x6) = 0 from by unfold corS; rw [hC]; rfl, show corL b s xs (x0, x1, x2, x3, x4, x5, x6) = [] from by unfold corL; rw [hC]; rfl]
    clear hC hg
    go_enter Tryz.func104, Tryz.ntmps104
    go_wp2_with fail
    rw [← hw1]
    clear hw1
    go_wp2_with fail
    refine (HI.out _ HB_w1.out).mono ?_
    rintro e w2 ⟨rfl, hb_w2⟩
    have HB_w2 := Lib.hid (HB_w1.out.trans (hb_w2.mono HB_w1.out.size))
    have HX_w2 := Lib.hid (HX_w1.out.below hb_w2)
    clear hb_w2 F0 F1 F1f F2 HX_w1 HB_w1
    have F0 := HX_w2.out.1.f3; have F1 := HX_w2.out.2.1.f7; have F1f := HX_w2.out.2.1.fz (i := 2); have F2 := HX_w2.out.2.2.f3
    go_wp2_with fail
    refine bodyPost_ret (v := .tuple #[.agg #[.int .i64 0, .int .i64 0, .slice none 0 0], .int .i64 1]) (by simp [results, Tryz.results104, go_sem, F2]) rfl ?_
    have hch := put_chg (g := w.heap.size + 1 + 1) [.int .i64 0, .int .i64 0, .slice none 0 0] 0 (Chg.refl (w.heap.size + 1 + 1) (w.heap.size + 1 + 1 + 1) w2) (by omega) (by omega)
    exact ⟨none, 0, 0, rfl, World.ownsRow_nil _ _ _ _, by omega, below_chg HB_w2.out hch (by omega) (by omega)⟩
  | true =>
    rw [hg] at HI
    have hOK := regB_ok hg
    have hlen : n ≤ 400 := by have := hOK.len; rw [HN.out] at this; exact this
    have HOK := Lib.hid hOK.okE
    have HKEY := Lib.hid hOK.key
    clear hOK
    by_cases h2 : x2 = 0
    rotate_left
    · have h2b : (x2 != 0) = true := by simp [h2]
      have hC : corC b s xs (x0, x1, x2, x3, x4, x5, x6) = 2 := by unfold corC; rw [if_pos hg, if_neg h2]
      rw [hC, show corB b s xs (x0, x1, x2, x3, x4, x5, x6) = 0 from by unfold corB; rw [hC]; rfl, show corS b s xs (x0, x1, x2, x3, x4, x5, x6) = 0 from by unfold corS; rw [hC]; rfl, show corL b s xs (x0, x1, x2, x3, x4, x5, x6) = [] from by unfold corL; rw [hC]; rfl]
      clear hC hg h2
      go_enter Tryz.func104, Tryz.ntmps104
      go_wp2_with fail
      rw [← hw1]
      clear hw1
      go_wp2_with fail
      refine (HI.out _ HB_w1.out).mono ?_
      rintro e w2 ⟨rfl, hb_w2⟩
      have HB_w2 := Lib.hid (HB_w1.out.trans (hb_w2.mono HB_w1.out.size))
      have HX_w2 := Lib.hid (HX_w1.out.below hb_w2)
      clear hb_w2 F0 F1 F1f F2 HX_w1 HB_w1
      have F0 := HX_w2.out.1.f3; have F1 := HX_w2.out.2.1.f7; have F1f := HX_w2.out.2.1.fz (i := 2); have F2 := HX_w2.out.2.2.f3
      go_wp2_with fail
      refine bodyPost_ret (v := .tuple #[.agg #[.int .i64 0, .int .i64 0, .slice none 0 0], .int .i64 2]) (by simp [results, Tryz.results104, go_sem, F2]) rfl ?_
      have hch := put_chg (g := w.heap.size + 1 + 1) [.int .i64 0, .int .i64 0, .slice none 0 0] 0 (Chg.refl (w.heap.size + 1 + 1) (w.heap.size + 1 + 1 + 1) w2) (by omega) (by omega)
      exact ⟨none, 0, 0, rfl, World.ownsRow_nil _ _ _ _, by omega, below_chg HB_w2.out hch (by omega) (by omega)⟩
    subst h2
    obtain ⟨hc1, hc2, hc3, hc4⟩ := cor_add (x := (x0, x1, 0, x3, x4, x5, x6)) hg rfl
    rw [hc1, hc2, hc3, hc4, show bump xs (x0, x1, 0, x3, x4, x5, x6) = (x0, x1, maxR xs x0 x1 + 1, x3, x4, x5, x6) from rfl]
    clear hc1 hc2 hc3 hc4 hg
    have hm0 := maxR_nn xs x0 x1
    have hm1 := maxR_le HOK.out x0 x1
    go_enter Tryz.func104, Tryz.ntmps104
    go_wp2_with fail
    rw [← hw1]
    clear hw1
    go_wp2_with fail
    refine (HI.out _ HB_w1.out).mono ?_
    rintro e w2 ⟨rfl, hb_w2⟩
    have HB_w2 := Lib.hid (HB_w1.out.trans (hb_w2.mono HB_w1.out.size))
    have HX_w2 := Lib.hid (HX_w1.out.below hb_w2)
    clear hb_w2 F0 F1 F1f F2 HX_w1 HB_w1
    have F0 := HX_w2.out.1.f3; have F1 := HX_w2.out.2.1.f7; have F1f := HX_w2.out.2.1.fz (i := 2); have F2 := HX_w2.out.2.2.f3
    go_wp2_with fail
    go_loopw [19] (fun i wr => ∃ k : Nat, k ≤ n ∧ i = .int .i64 k ∧ Hid (Bxs w wr b s A n c x0 x1 x3 x4 x5 x6 (maxR (xs.take k) x0 x1)) ∧ Hid (Below w.heap.size w wr)) (fun i _ => n - (intOf i).toNat)
    case atStart => exact ⟨0, Nat.zero_le _, rfl, HX_w2, HB_w2⟩
    case round =>
      clear HX_w2 HB_w2 F0 F1 F1f F2
      obtain ⟨k, hk, rfl, HXW, HB⟩ := hrel
      obtain ⟨wo, hwo⟩ : ∃ wo : World, wo = wr := ⟨_, rfl⟩
      subst hwo
      have F0 := HXW.out.1.f3; have F1 := HXW.out.2.1.f7; have F1f := HXW.out.2.1.fz (i := 2); have F2 := HXW.out.2.2.f3
      have hsw := HB.out.size
      by_cases hlt : k < n
      · obtain ⟨b1, o1, y0, y1, y2, y3, y4, y5, y6, rfl, hx, hd, hc0, hc1, hc2, hc3, hc4, hc5, hc6⟩ := (HR.out _ HB.out).1.ent hlt
        have HT := Lib.hid (show maxR (xs.take (k + 1)) x0 x1 = if (y0 == x0 && y1 == x1) = true then max (maxR (xs.take k) x0 x1) y2 else maxR (xs.take k) x0 x1 from by rw [take_snoc hx]; exact maxR_snoc _ _ _ _)
        clear hx hd
        obtain ⟨wa, hwa, XA, hba, hsa⟩ := one_box wo #[.int .i64 y0, .int .i64 y1, .int .i64 y2, .int .i64 y3, .int .i64 y4, .int .i64 y5, .int .i64 y6] 25
        have HXA := Lib.hid (HXW.out.below hba)
        have HBA := Lib.hid (HB.out.trans (hba.mono hsw))
        have hza := HBA.out.size
        clear hba XA
        generalize maxR (xs.take k) x0 x1 = mr at *
        by_cases e0 : y0 = x0
        rotate_left
        · have h0 : (y0 == x0) = false := by simp [e0]
          clear e0
          have HTS := Lib.hid (show maxR (xs.take (k + 1)) x0 x1 = mr from by rw [HT.out, h0, Bool.false_and]; rfl)
          go_wp2_with fail
          rw [← hwa]
          go_roundw
          case rel => exact ⟨k + 1, by omega, by go_num, by rw [HTS.out]; exact HXA, HBA⟩
          case measure => simp [intOf] <;> omega
        · have h0 : (y0 == x0) = true := by simp [e0]
          clear e0
          by_cases e1 : y1 = x1
          rotate_left
          · have h1 : (y1 == x1) = false := by simp [e1]
            clear e1
            have HTS := Lib.hid (show maxR (xs.take (k + 1)) x0 x1 = mr from by rw [HT.out, h1, Bool.and_false]; rfl)
            go_wp2_with fail
            rw [← hwa]
            go_roundw
            case rel => exact ⟨k + 1, by omega, by go_num, by rw [HTS.out]; exact HXA, HBA⟩
            case measure => simp [intOf] <;> omega
          · have h1 : (y1 == x1) = true := by simp [e1]
            clear e1
            have HTS := Lib.hid (show maxR (xs.take (k + 1)) x0 x1 = max mr y2 from by rw [HT.out, h0, h1]; rfl)
            have HXN := Lib.hid ((HXW.out.set (max mr y2)).below (w' := World.alloc _ (.cells #[.int .i64 y0, .int .i64 y1, .int .i64 y2, .int .i64 y3, .int .i64 y4, .int .i64 y5, .int .i64 y6] 25)) ((Below.refl _ _).alloc (Nat.le_refl _) _))
            have HBN := Lib.hid ((HB.out.setCell (p := ⟨w.heap.size + 1, 2, none⟩) (by simp) (.int .i64 (max mr y2))).alloc (by rw [size_set]; exact hsw) (.cells #[.int .i64 y0, .int .i64 y1, .int .i64 y2, .int .i64 y3, .int .i64 y4, .int .i64 y5, .int .i64 y6] 25))
            go_wp2_with fail
            go_roundw
            case rel => exact ⟨k + 1, by omega, by go_num, by rw [HTS.out]; exact HXN, HBN⟩
            case measure => simp [intOf] <;> omega
      · obtain rfl : k = n := by omega
        have ht : xs.take k = xs := List.take_of_length_le (by rw [HN.out]; exact Nat.le_refl _)
        rw [ht] at HXW F1
        clear ht
        have HX_w4 := Lib.hid (HXW.out.set (maxR xs x0 x1 + 1))
        have HB_w4 := Lib.hid (HB.out.setCell (p := ⟨w.heap.size + 1, 2, none⟩) (by simp) (.int .i64 (maxR xs x0 x1 + 1)))
        go_wp2_with fail
        generalize wo.setCell ⟨w.heap.size + 1, 2, none⟩ (.int .i64 (maxR xs x0 x1 + 1)) = w4 at *
        refine (implAddEntry_any b s A _ c xs x0 x1 (maxR xs x0 x1 + 1) x3 x4 x5 x6 _ (HR.out _ HB_w4.out)).mono ?_
        rintro e w6 ⟨A6, n6, c6, rfl, ho6, hn6, hb6⟩
        have HB_w6 := Lib.hid (HB_w4.out.trans (hb6.mono HB_w4.out.size))
        clear F2
        have F2 := (HX_w4.out.below hb6).2.2.f3
        have hlt5 := HX_w4.out.2.2.lt
        go_wp2_with fail
        refine bodyPost_ret (v := .tuple #[.agg #[.int .i64 (addB b s xs (x0, x1, maxR xs x0 x1 + 1, x3, x4, x5, x6)), .int .i64 (addS b s xs (x0, x1, maxR xs x0 x1 + 1, x3, x4, x5, x6)), .slice A6 n6 c6], .int .i64 (addC b s xs (x0, x1, maxR xs x0 x1 + 1, x3, x4, x5, x6))]) (by simp [results, Tryz.results104, go_sem, F2]) rfl ?_
        have hch := put_chg (g := w.heap.size + 1 + 1) [.int .i64 (addB b s xs (x0, x1, maxR xs x0 x1 + 1, x3, x4, x5, x6)), .int .i64 (addS b s xs (x0, x1, maxR xs x0 x1 + 1, x3, x4, x5, x6)), .slice A6 n6 c6] 0 (Chg.refl (w.heap.size + 1 + 1) (w.heap.size + 1 + 1 + 1) w6) (by omega) (by omega)
        exact ⟨A6, n6, c6, rfl, own_base (own_chg ho6 hch (fun b hb => .inr (by have := (ho6.lt b hb).1; omega))) (by omega), hn6, below_chg HB_w6.out hch (by omega) (by omega)⟩
set_option maxHeartbeats 2000000 in
theorem specCorrectEntry_any (b s : Int) (A : Option Addr) (n c : Nat) (xs : List EntryT) (x0 x1 x2 x3 x4 x5 x6 : Int) (w : World) (hr : RegRd w A n c xs) :
    Calls Tryz.prog 163 #[.agg #[.int .i64 b, .int .i64 s, .slice A n c], .agg #[.int .i64 x0, .int .i64 x1, .int .i64 x2, .int .i64 x3, .int .i64 x4, .int .i64 x5, .int .i64 x6]] w (RetReg2 w (corB b s xs (x0, x1, x2, x3, x4, x5, x6)) (corS b s xs (x0, x1, x2, x3, x4, x5, x6)) (corL b s xs (x0, x1, x2, x3, x4, x5, x6)) (corC b s xs (x0, x1, x2, x3, x4, x5, x6))) := by
  have HN := Lib.hid hr.1.len_ent
  have hn63 := hr.1.le
  obtain ⟨w1, hw1, X0, X1, X2, hb1, hs1⟩ := three_boxes w #[.int .i64 b, .int .i64 s, .slice A n c] #[.int .i64 x0, .int .i64 x1, .int .i64 x2, .int .i64 x3, .int .i64 x4, .int .i64 x5, .int .i64 x6] #[.int .i64 0, .int .i64 0, .slice none 0 0] 32 25 32
  have HB_w1 := Lib.hid hb1
  have HX_w1 := Lib.hid (show Bxs w w1 b s A n c x0 x1 x3 x4 x5 x6 x2 from ⟨X0, X1, X2⟩)
  have HR := Lib.hid (fun w' (hb : Below w.heap.size w w') => hr.below hb)
  have HI := Lib.hid (fun w' (hb : Below w.heap.size w w') => specIsRegister_any b s A n c xs w' (hr.below hb))
  have F0 := HX_w1.out.1.f3; have F1 := HX_w1.out.2.1.f7; have F1f := HX_w1.out.2.1.fz (i := 2); have F2 := HX_w1.out.2.2.f3
  clear hb1 X0 X1 X2 hr
  cases hg : regB b s xs with
  | false =>
    rw [hg] at HI
    have hC : corC b s xs (x0, x1, x2, x3, x4, x5, x6) = 1 := by unfold corC; rw [hg]; rfl
    rw [hC, show corB b s xs (x0, x1, x2, x3, x4, x5, x6) = 0 from by unfold corB; rw [hC]; rfl, show corS b s xs (x0, x1, x2, x3, x4, x5, x6) = 0 from by unfold corS; rw [hC]; rfl, show corL b s xs (x0, x1, x2, x3, x4, x5, x6) = [] from by unfold corL; rw [hC]; rfl]
    clear hC hg
    go_enter Tryz.func163, Tryz.ntmps163
    go_wp2_with fail
    rw [← hw1]
    clear hw1
    go_wp2_with fail
    refine (HI.out _ HB_w1.out).mono ?_
    rintro e w2 ⟨rfl, hb_w2⟩
    have HB_w2 := Lib.hid (HB_w1.out.trans (hb_w2.mono HB_w1.out.size))
    have HX_w2 := Lib.hid (HX_w1.out.below hb_w2)
    clear hb_w2 F0 F1 F1f F2 HX_w1 HB_w1
    have F0 := HX_w2.out.1.f3; have F1 := HX_w2.out.2.1.f7; have F1f := HX_w2.out.2.1.fz (i := 2); have F2 := HX_w2.out.2.2.f3
    go_wp2_with fail
    refine bodyPost_ret (v := .tuple #[.agg #[.int .i64 0, .int .i64 0, .slice none 0 0], .int .i64 1]) (by simp [results, Tryz.results163, go_sem, F2]) rfl ?_
    have hch := put_chg (g := w.heap.size + 1 + 1) [.int .i64 0, .int .i64 0, .slice none 0 0] 0 (Chg.refl (w.heap.size + 1 + 1) (w.heap.size + 1 + 1 + 1) w2) (by omega) (by omega)
    exact ⟨none, 0, 0, rfl, World.ownsRow_nil _ _ _ _, by omega, below_chg HB_w2.out hch (by omega) (by omega)⟩
  | true =>
    rw [hg] at HI
    have hOK := regB_ok hg
    have hlen : n ≤ 400 := by have := hOK.len; rw [HN.out] at this; exact this
    have HOK := Lib.hid hOK.okE
    have HKEY := Lib.hid hOK.key
    clear hOK
    by_cases h2 : x2 = 0
    rotate_left
    · have h2b : (x2 != 0) = true := by simp [h2]
      have hC : corC b s xs (x0, x1, x2, x3, x4, x5, x6) = 2 := by unfold corC; rw [if_pos hg, if_neg h2]
      rw [hC, show corB b s xs (x0, x1, x2, x3, x4, x5, x6) = 0 from by unfold corB; rw [hC]; rfl, show corS b s xs (x0, x1, x2, x3, x4, x5, x6) = 0 from by unfold corS; rw [hC]; rfl, show corL b s xs (x0, x1, x2, x3, x4, x5, x6) = [] from by unfold corL; rw [hC]; rfl]
      clear hC hg h2
      go_enter Tryz.func163, Tryz.ntmps163
      go_wp2_with fail
      rw [← hw1]
      clear hw1
      go_wp2_with fail
      refine (HI.out _ HB_w1.out).mono ?_
      rintro e w2 ⟨rfl, hb_w2⟩
      have HB_w2 := Lib.hid (HB_w1.out.trans (hb_w2.mono HB_w1.out.size))
      have HX_w2 := Lib.hid (HX_w1.out.below hb_w2)
      clear hb_w2 F0 F1 F1f F2 HX_w1 HB_w1
      have F0 := HX_w2.out.1.f3; have F1 := HX_w2.out.2.1.f7; have F1f := HX_w2.out.2.1.fz (i := 2); have F2 := HX_w2.out.2.2.f3
      go_wp2_with fail
      refine bodyPost_ret (v := .tuple #[.agg #[.int .i64 0, .int .i64 0, .slice none 0 0], .int .i64 2]) (by simp [results, Tryz.results163, go_sem, F2]) rfl ?_
      have hch := put_chg (g := w.heap.size + 1 + 1) [.int .i64 0, .int .i64 0, .slice none 0 0] 0 (Chg.refl (w.heap.size + 1 + 1) (w.heap.size + 1 + 1 + 1) w2) (by omega) (by omega)
      exact ⟨none, 0, 0, rfl, World.ownsRow_nil _ _ _ _, by omega, below_chg HB_w2.out hch (by omega) (by omega)⟩
    subst h2
    obtain ⟨hc1, hc2, hc3, hc4⟩ := cor_add (x := (x0, x1, 0, x3, x4, x5, x6)) hg rfl
    rw [hc1, hc2, hc3, hc4, show bump xs (x0, x1, 0, x3, x4, x5, x6) = (x0, x1, maxR xs x0 x1 + 1, x3, x4, x5, x6) from rfl]
    clear hc1 hc2 hc3 hc4 hg
    have hm0 := maxR_nn xs x0 x1
    have hm1 := maxR_le HOK.out x0 x1
    go_enter Tryz.func163, Tryz.ntmps163
    go_wp2_with fail
    rw [← hw1]
    clear hw1
    go_wp2_with fail
    refine (HI.out _ HB_w1.out).mono ?_
    rintro e w2 ⟨rfl, hb_w2⟩
    have HB_w2 := Lib.hid (HB_w1.out.trans (hb_w2.mono HB_w1.out.size))
    have HX_w2 := Lib.hid (HX_w1.out.below hb_w2)
    clear hb_w2 F0 F1 F1f F2 HX_w1 HB_w1
    have F0 := HX_w2.out.1.f3; have F1 := HX_w2.out.2.1.f7; have F1f := HX_w2.out.2.1.fz (i := 2); have F2 := HX_w2.out.2.2.f3
    go_wp2_with fail
    have HH := Lib.hid (specHistory_any b s x0 x1 A n c xs w2 (HR.out _ HB_w2.out) hlen HOK.out HKEY.out)
    refine HH.out.mono ?_
    rintro e w3 ⟨A3, n3, c3, rfl, ho3, hn3, hb3⟩
    have HB_w3 := Lib.hid (HB_w2.out.trans (hb3.mono HB_w2.out.size))
    have HX_w3 := Lib.hid (HX_w2.out.below hb3)
    have hl3 := own_len_flat entC_len (by decide) ho3
    have HL3 := Lib.hid hl3
    have HO3 := Lib.hid ho3
    have hs3 := HB_w3.out.size
    have HX_W2L := Lib.hid HX_w2.out.2.1.lt
    clear hb3 ho3 hl3 HH F0 F1 F1f F2 HX_w2
    have F0 := HX_w3.out.1.f3; have F1 := HX_w3.out.2.1.f7; have F1f := HX_w3.out.2.1.fz (i := 2); have F2 := HX_w3.out.2.2.f3
    by_cases h0 : n3 = 0
    · subst h0
      have hR : maxR xs x0 x1 + 1 = 1 := by rw [maxR_none (List.eq_nil_of_length_eq_zero HL3.out)]; rfl
      have HRR := Lib.hid hR
      clear hR
      have HX_w4 := Lib.hid (HX_w3.out.set 1)
      have HB_w4 := Lib.hid (HB_w3.out.setCell (p := ⟨w.heap.size + 1, 2, none⟩) (by simp) (.int .i64 1))
      clear hm0 hm1
      go_wp2_with fail
      generalize w3.setCell ⟨w.heap.size + 1, 2, none⟩ (.int .i64 1) = w4 at *
      refine (specAddEntry_any b s A _ c xs x0 x1 (1) x3 x4 x5 x6 _ (HR.out _ HB_w4.out)).mono ?_
      rintro e w6 ⟨A6, n6, c6, rfl, ho6, hn6, hb6⟩
      have HB_w6 := Lib.hid (HB_w4.out.trans (hb6.mono HB_w4.out.size))
      clear F2
      have F2 := (HX_w4.out.below hb6).2.2.f3
      have hlt5 := HX_w4.out.2.2.lt
      go_wp2_with fail
      refine bodyPost_ret (v := .tuple #[.agg #[.int .i64 (addB b s xs (x0, x1, 1, x3, x4, x5, x6)), .int .i64 (addS b s xs (x0, x1, 1, x3, x4, x5, x6)), .slice A6 n6 c6], .int .i64 (addC b s xs (x0, x1, 1, x3, x4, x5, x6))]) (by simp [results, Tryz.results163, go_sem, F2]) rfl ?_
      rw [HRR.out]
      have hch := put_chg (g := w.heap.size + 1 + 1) [.int .i64 (addB b s xs (x0, x1, 1, x3, x4, x5, x6)), .int .i64 (addS b s xs (x0, x1, 1, x3, x4, x5, x6)), .slice A6 n6 c6] 0 (Chg.refl (w.heap.size + 1 + 1) (w.heap.size + 1 + 1 + 1) w6) (by omega) (by omega)
      exact ⟨A6, n6, c6, rfl, own_base (own_chg ho6 hch (fun b hb => .inr (by have := (ho6.lt b hb).1; omega))) (by omega), hn6, below_chg HB_w6.out hch (by omega) (by omega)⟩
    · obtain ⟨j, rfl⟩ : ∃ j, n3 = j + 1 := ⟨n3 - 1, by omega⟩
      obtain ⟨g9, z0, z1, z2, z3, z4, z5, z6, rfl, hg9, hg9l, hzx, hzd, hz0, hz1, hz2, _⟩ := own_ent_at HO3.out (k := j) (by omega)
      have hR : maxR xs x0 x1 = z2 := maxR_last HKEY.out HOK.out (by rw [HL3.out]; exact hzx)
      rw [hR] at hm0 hm1
      have HRR := Lib.hid (show maxR xs x0 x1 + 1 = z2 + 1 from by rw [hR])
      clear hR
      clear hzx hzd hz0 hz1
      have hw2s := HB_w2.out.size
      have hx2 := F1.2.2.2.2.2.2.2
      have hne : (w.heap.size + 1 = g9) = False := by have := HX_W2L.out; simp; omega
      have HX_w4 := Lib.hid ((HX_w3.out.set 1).set (z2 + 1))
      have HB_w4 := Lib.hid ((HB_w3.out.setCell (p := ⟨w.heap.size + 1, 2, none⟩) (by simp) (.int .i64 1)).setCell (p := ⟨w.heap.size + 1, 2, none⟩) (by simp) (.int .i64 (z2 + 1)))
      go_wp2_with fail
      generalize (w3.setCell ⟨w.heap.size + 1, 2, none⟩ (.int .i64 1)).setCell ⟨w.heap.size + 1, 2, none⟩ (.int .i64 (z2 + 1)) = w4 at *
      refine (specAddEntry_any b s A _ c xs x0 x1 (z2 + 1) x3 x4 x5 x6 _ (HR.out _ HB_w4.out)).mono ?_
      rintro e w6 ⟨A6, n6, c6, rfl, ho6, hn6, hb6⟩
      have HB_w6 := Lib.hid (HB_w4.out.trans (hb6.mono HB_w4.out.size))
      clear F2
      have F2 := (HX_w4.out.below hb6).2.2.f3
      have hlt5 := HX_w4.out.2.2.lt
      go_wp2_with fail
      refine bodyPost_ret (v := .tuple #[.agg #[.int .i64 (addB b s xs (x0, x1, z2 + 1, x3, x4, x5, x6)), .int .i64 (addS b s xs (x0, x1, z2 + 1, x3, x4, x5, x6)), .slice A6 n6 c6], .int .i64 (addC b s xs (x0, x1, z2 + 1, x3, x4, x5, x6))]) (by simp [results, Tryz.results163, go_sem, F2]) rfl ?_
      rw [HRR.out]
      have hch := put_chg (g := w.heap.size + 1 + 1) [.int .i64 (addB b s xs (x0, x1, z2 + 1, x3, x4, x5, x6)), .int .i64 (addS b s xs (x0, x1, z2 + 1, x3, x4, x5, x6)), .slice A6 n6 c6] 0 (Chg.refl (w.heap.size + 1 + 1) (w.heap.size + 1 + 1 + 1) w6) (by omega) (by omega)
      exact ⟨A6, n6, c6, rfl, own_base (own_chg ho6 hch (fun b hb => .inr (by have := (ho6.lt b hb).1; omega))) (by omega), hn6, below_chg HB_w6.out hch (by omega) (by omega)⟩
end Go.Proofs.YtnpldahkhaacnaaGreatDoor

/- Walks: two registers are merged (chapter 33), the program. -/
import Derived.Test.YtdldcjnidajmpaaZme
namespace Go.Proofs.Ytdldcjnidajmpaa
open Go.RowKit Go.Sort Go.Lib
set_option linter.unusedVariables false
set_option maxRecDepth 100000

theorem findMClo_any (xb : Nat) (y0 y1 y2 y3 y4 y5 y6 x0 x1 x2 x3 x4 x5 x6 : Int) (w : World) (X : Box w xb #[.int .i64 x0, .int .i64 x1, .int .i64 x2, .int .i64 x3, .int .i64 x4, .int .i64 x5, .int .i64 x6] 66) :
    Calls Try.prog 107 #[.agg #[.int .i64 y0, .int .i64 y1, .int .i64 y2, .int .i64 y3, .int .i64 y4, .int .i64 y5, .int .i64 y6], .pointer (some ⟨xb, 0, none⟩)] w fun e w' => e = .returned (.bool (sameB (y0, y1, y2, y3, y4, y5, y6) (x0, x1, x2, x3, x4, x5, x6))) ∧ Below w.heap.size w w' := by
  obtain ⟨w1, hw1, Y, hb1, hs1⟩ := one_box w #[.int .i64 y0, .int .i64 y1, .int .i64 y2, .int .i64 y3, .int .i64 y4, .int .i64 y5, .int .i64 y6] 66
  have HC := Lib.hid (sameKey_any y0 y1 y2 y3 y4 y5 y6 x0 x1 x2 x3 x4 x5 x6 w1)
  have HB1 := Lib.hid hb1
  have F0 := X.f7
  clear X Y hb1
  go_enter Try.func107, Try.ntmps107
  go_wp2_with fail
  rw [← hw1]
  clear hw1
  refine HC.out.mono ?_
  rintro e w2 ⟨rfl, hb2⟩
  have HB2 := Lib.hid (HB1.out.trans (hb2.mono HB1.out.size))
  clear hb2 F0
  go_wp2_with fail
  go_ret
  exact ⟨rfl, HB2.out⟩
theorem findM_any (A : Option Addr) (n c : Nat) (xs : List EntryT) (q0 : Value) (p : EntryT → Bool) (w : World) (h : Rd w 7 A n (ents xs))
    (hp : ∀ x0 x1 x2 x3 x4 x5 x6 w', Below w.heap.size w w' → Calls Try.prog 107 #[.agg #[.int .i64 x0, .int .i64 x1, .int .i64 x2, .int .i64 x3, .int .i64 x4, .int .i64 x5, .int .i64 x6], q0] w' fun e w'' => e = .returned (.bool (p (x0, x1, x2, x3, x4, x5, x6))) ∧ Below w'.heap.size w' w'') :
    Calls Try.prog 106 #[.slice A n c, .func (.func 107) #[] #[q0]] w fun e w' => e = .returned (.int .i64 (findEF p 0 xs)) ∧ Below w.heap.size w w' := by
  have HN := Lib.hid h.len_ent
  have hm := h.le
  have HP := Lib.hid hp
  clear hp
  go_enter Try.func106, Try.ntmps106
  go_wp2_with fail
  go_loopw [8] (fun i wr => ∃ k : Nat, k ≤ n ∧ i = .int .i64 k ∧ Hid (findEF p k (xs.drop k) = findEF p 0 xs) ∧ Below w.heap.size w wr) (fun i _ => n - (intOf i).toNat)
  case atStart => exact ⟨0, Nat.zero_le _, rfl, Lib.hid rfl, Below.refl _ _⟩
  case round =>
    obtain ⟨k, hk, rfl, HR, hb⟩ := hrel
    by_cases hlt : k < n
    · obtain ⟨b, o, x0, x1, x2, x3, x4, x5, x6, rfl, hx, hd, hc0, hc1, hc2, hc3, hc4, hc5, hc6⟩ := (h.below hb).ent hlt
      have HD := Lib.hid hd; clear hd hx
      have HB := Lib.hid hb; clear hb
      have HC := Lib.hid (fun w' (hb : Below w.heap.size w w') => HP.out x0 x1 x2 x3 x4 x5 x6 w' hb)
      cases hw : p (x0, x1, x2, x3, x4, x5, x6) with
      | true =>
        rw [hw] at HC
        have HW := Lib.hid hw; clear hw
        go_wp2_with fail
        refine (HC.out _ HB.out).mono ?_
        rintro e w2 ⟨rfl, hb2⟩
        have HB2 := Lib.hid (HB.out.trans (hb2.mono HB.out.size))
        clear hb2 HB HC
        go_wp2_with fail
        go_ret
        exact ⟨ret_int (by rw [← HR.out, HD.out, findEF, if_pos HW.out]), HB2.out⟩
      | false =>
        rw [hw] at HC
        have HW := Lib.hid hw; clear hw
        go_wp2_with fail
        refine (HC.out _ HB.out).mono ?_
        rintro e w2 ⟨rfl, hb2⟩
        have HB2 := Lib.hid (HB.out.trans (hb2.mono HB.out.size))
        clear hb2 HB HC
        go_wp2_with fail
        go_roundw
        case rel => exact ⟨k + 1, by omega, by go_num, Lib.hid (by rw [← HR.out, HD.out, findEF, if_neg (by rw [HW.out]; decide)]), HB2.out⟩
        case measure => simp [intOf] <;> omega
    · obtain rfl : k = n := by omega
      go_wp2_with fail
      go_ret
      exact ⟨ret_int (by rw [← HR.out, List.drop_eq_nil_of_le (by rw [HN.out]; omega), findEF]), hb⟩
theorem mrg_post (w : World) {a s : Int} {xs : List EntryT} {b t : Int} {ys : List EntryT} {k : Int} (h : mrgC a s xs b t ys = k) (hk : k ≠ 0) : RetReg2 w (mrgB a s xs b t ys) (mrgS a s xs b t ys) (mrgL a s xs b t ys) (mrgC a s xs b t ys) = RetReg2 w 0 0 [] k := by
  obtain ⟨h1, h2, h3⟩ := mrg_bad h hk
  rw [h1, h2, h3, h]
theorem mrg_post0 (w : World) {a s : Int} {xs : List EntryT} {b t : Int} {ys : List EntryT} (h : mrgC a s xs b t ys = 0) : RetReg2 w (mrgB a s xs b t ys) (mrgS a s xs b t ys) (mrgL a s xs b t ys) (mrgC a s xs b t ys) = RetReg2 w a s (xs ++ newE xs ys) 0 := by
  obtain ⟨h1, h2, h3⟩ := mrg_good h
  rw [h1, h2, h3, h]
set_option maxHeartbeats 4000000 in
theorem implMerge_any (a s : Int) (A : Option Addr) (n c : Nat) (xs : List EntryT) (b t : Int) (B : Option Addr) (m d : Nat) (ys : List EntryT) (w : World) (hr : RegRd w A n c xs) (hq : RegRd w B m d ys) :
    Calls Try.prog 47 #[.agg #[.int .i64 a, .int .i64 s, .slice A n c], .agg #[.int .i64 b, .int .i64 t, .slice B m d]] w (RetReg2 w (mrgB a s xs b t ys) (mrgS a s xs b t ys) (mrgL a s xs b t ys) (mrgC a s xs b t ys)) := by
  have HN := Lib.hid hr.1.len_ent
  have HM := Lib.hid hq.1.len_ent
  obtain ⟨w1, hw1, X0, X1, X2, hb1, hs1⟩ := three_boxes w #[.int .i64 a, .int .i64 s, .slice A n c] #[.int .i64 b, .int .i64 t, .slice B m d] #[.int .i64 0, .int .i64 0, .slice none 0 0] 51 51 51
  have HB1 := Lib.hid hb1
  have HR := Lib.hid (fun w' (hb : Below w1.heap.size w1 w') => (hr.below hb1).below hb)
  have HQ := Lib.hid (fun w' (hb : Below w1.heap.size w1 w') => (hq.below hb1).below hb)
  have HI := Lib.hid (fun w' (hb : Below w1.heap.size w1 w') => implIsRegister_any a s A n c xs w' ((hr.below hb1).below hb))
  have HJ := Lib.hid (fun w' (hb : Below w1.heap.size w1 w') => implIsRegister_any b t B m d ys w' ((hq.below hb1).below hb))
  have HX0 := Lib.hid X0; have HX1 := Lib.hid X1; have HX2 := Lib.hid X2
  have HB_w1 := Lib.hid (Below.refl w1.heap.size w1)
  have F0 := X0.f3; have F1 := X1.f3; have F2 := X2.f3
  clear hb1 X0 X1 X2 hr hq
  cases hg : regB a s xs with
  | false =>
    rw [hg] at HI
    have hC : mrgC a s xs b t ys = 1 := by unfold mrgC; rw [hg]; rfl
    obtain ⟨hMB, hMS, hML⟩ := mrg_bad hC (by decide)
    rw [hC, hMB, hMS, hML]
    clear hC hMB hMS hML
    clear hg
    go_enter Try.func47, Try.ntmps47
    go_wp2_with fail
    rw [← hw1]
    clear hw1
    go_wp2_with fail
    refine (HI.out _ HB_w1.out).mono ?_
    rintro e w2 ⟨rfl, hb_w2⟩
    have HB_w2 := Lib.hid (HB_w1.out.trans (hb_w2.mono HB_w1.out.size))
    clear hb_w2 F0 F1 F2
    have F0 := (HX0.out.below HB_w2.out).f3
    have F1 := (HX1.out.below HB_w2.out).f3
    have F2 := (HX2.out.below HB_w2.out).f3
    go_wp2_with fail
    refine bodyPost_ret (v := .tuple #[.agg #[.int .i64 0, .int .i64 0, .slice none 0 0], .int .i64 1]) (by simp [results, Try.results47, go_sem, F2]) rfl ?_
    have hch := put_chg (g := w.heap.size + 1 + 1) [.int .i64 0, .int .i64 0, .slice none 0 0] 0 (Chg.refl (w.heap.size + 1 + 1) (w.heap.size + 1 + 1 + 1) w2) (by omega) (by omega)
    exact ⟨none, 0, 0, rfl, World.ownsRow_nil _ _ _ _, by omega, below_chg (HB1.out.trans (HB_w2.out.mono HB1.out.size)) hch (by omega) (by omega)⟩
  | true =>
    rw [hg] at HI
    cases hh : regB b t ys with
    | false =>
      rw [hh] at HJ
      have hC : mrgC a s xs b t ys = 1 := by unfold mrgC; rw [hg, hh]; rfl
      obtain ⟨hMB, hMS, hML⟩ := mrg_bad hC (by decide)
      rw [hC, hMB, hMS, hML]
      clear hC hMB hMS hML
      clear hg hh
      go_enter Try.func47, Try.ntmps47
      go_wp2_with fail
      rw [← hw1]
      clear hw1
      go_wp2_with fail
      refine (HI.out _ HB_w1.out).mono ?_
      rintro e w2 ⟨rfl, hb_w2⟩
      have HB_w2 := Lib.hid (HB_w1.out.trans (hb_w2.mono HB_w1.out.size))
      clear hb_w2 F0 F1 F2
      have F0 := (HX0.out.below HB_w2.out).f3
      have F1 := (HX1.out.below HB_w2.out).f3
      have F2 := (HX2.out.below HB_w2.out).f3
      go_wp2_with fail
      refine (HJ.out _ HB_w2.out).mono ?_
      rintro e w3 ⟨rfl, hb_w3⟩
      have HB_w3 := Lib.hid (HB_w2.out.trans (hb_w3.mono HB_w2.out.size))
      clear hb_w3 F0 F1 F2
      have F0 := (HX0.out.below HB_w3.out).f3
      have F1 := (HX1.out.below HB_w3.out).f3
      have F2 := (HX2.out.below HB_w3.out).f3
      go_wp2_with fail
      refine bodyPost_ret (v := .tuple #[.agg #[.int .i64 0, .int .i64 0, .slice none 0 0], .int .i64 1]) (by simp [results, Try.results47, go_sem, F2]) rfl ?_
      have hch := put_chg (g := w.heap.size + 1 + 1) [.int .i64 0, .int .i64 0, .slice none 0 0] 0 (Chg.refl (w.heap.size + 1 + 1) (w.heap.size + 1 + 1 + 1) w3) (by omega) (by omega)
      exact ⟨none, 0, 0, rfl, World.ownsRow_nil _ _ _ _, by omega, below_chg (HB1.out.trans (HB_w3.out.mono HB1.out.size)) hch (by omega) (by omega)⟩
    | true =>
      rw [hh] at HJ
      by_cases e1 : a = b
      rotate_left
      · have e1b : (a != b) = true := by simp [e1]
        have hC : mrgC a s xs b t ys = 5 := by unfold mrgC; rw [hg, hh, Bool.and_self, if_pos rfl, if_neg (fun h => e1 h.1)]
        obtain ⟨hMB, hMS, hML⟩ := mrg_bad hC (by decide)
        rw [hC, hMB, hMS, hML]
        clear hC hMB hMS hML
        clear hg hh e1
        go_enter Try.func47, Try.ntmps47
        go_wp2_with fail
        rw [← hw1]
        clear hw1
        go_wp2_with fail
        refine (HI.out _ HB_w1.out).mono ?_
        rintro e w2 ⟨rfl, hb_w2⟩
        have HB_w2 := Lib.hid (HB_w1.out.trans (hb_w2.mono HB_w1.out.size))
        clear hb_w2 F0 F1 F2
        have F0 := (HX0.out.below HB_w2.out).f3
        have F1 := (HX1.out.below HB_w2.out).f3
        have F2 := (HX2.out.below HB_w2.out).f3
        go_wp2_with fail
        refine (HJ.out _ HB_w2.out).mono ?_
        rintro e w3 ⟨rfl, hb_w3⟩
        have HB_w3 := Lib.hid (HB_w2.out.trans (hb_w3.mono HB_w2.out.size))
        clear hb_w3 F0 F1 F2
        have F0 := (HX0.out.below HB_w3.out).f3
        have F1 := (HX1.out.below HB_w3.out).f3
        have F2 := (HX2.out.below HB_w3.out).f3
        go_wp2_with fail
        refine bodyPost_ret (v := .tuple #[.agg #[.int .i64 0, .int .i64 0, .slice none 0 0], .int .i64 5]) (by simp [results, Try.results47, go_sem, F2]) rfl ?_
        have hch := put_chg (g := w.heap.size + 1 + 1) [.int .i64 0, .int .i64 0, .slice none 0 0] 0 (Chg.refl (w.heap.size + 1 + 1) (w.heap.size + 1 + 1 + 1) w3) (by omega) (by omega)
        exact ⟨none, 0, 0, rfl, World.ownsRow_nil _ _ _ _, by omega, below_chg (HB1.out.trans (HB_w3.out.mono HB1.out.size)) hch (by omega) (by omega)⟩
      by_cases e2 : s = t
      rotate_left
      · have e2b : (s != t) = true := by simp [e2]
        have hC : mrgC a s xs b t ys = 5 := by unfold mrgC; rw [hg, hh, Bool.and_self, if_pos rfl, if_neg (fun h => e2 h.2)]
        obtain ⟨hMB, hMS, hML⟩ := mrg_bad hC (by decide)
        rw [hC, hMB, hMS, hML]
        clear hC hMB hMS hML
        clear hg hh e2
        subst e1
        go_enter Try.func47, Try.ntmps47
        go_wp2_with fail
        rw [← hw1]
        clear hw1
        go_wp2_with fail
        refine (HI.out _ HB_w1.out).mono ?_
        rintro e w2 ⟨rfl, hb_w2⟩
        have HB_w2 := Lib.hid (HB_w1.out.trans (hb_w2.mono HB_w1.out.size))
        clear hb_w2 F0 F1 F2
        have F0 := (HX0.out.below HB_w2.out).f3
        have F1 := (HX1.out.below HB_w2.out).f3
        have F2 := (HX2.out.below HB_w2.out).f3
        go_wp2_with fail
        refine (HJ.out _ HB_w2.out).mono ?_
        rintro e w3 ⟨rfl, hb_w3⟩
        have HB_w3 := Lib.hid (HB_w2.out.trans (hb_w3.mono HB_w2.out.size))
        clear hb_w3 F0 F1 F2
        have F0 := (HX0.out.below HB_w3.out).f3
        have F1 := (HX1.out.below HB_w3.out).f3
        have F2 := (HX2.out.below HB_w3.out).f3
        go_wp2_with fail
        refine bodyPost_ret (v := .tuple #[.agg #[.int .i64 0, .int .i64 0, .slice none 0 0], .int .i64 5]) (by simp [results, Try.results47, go_sem, F2]) rfl ?_
        have hch := put_chg (g := w.heap.size + 1 + 1) [.int .i64 0, .int .i64 0, .slice none 0 0] 0 (Chg.refl (w.heap.size + 1 + 1) (w.heap.size + 1 + 1 + 1) w3) (by omega) (by omega)
        exact ⟨none, 0, 0, rfl, World.ownsRow_nil _ _ _ _, by omega, below_chg (HB1.out.trans (HB_w3.out.mono HB1.out.size)) hch (by omega) (by omega)⟩
      subst e1
      subst e2
      have hOK := regB_ok hg
      have hlen : n ≤ 400 := by have := hOK.len; rw [HN.out] at this; exact this
      have hlm : m ≤ 400 := by have := (regB_ok hh).len; rw [HM.out] at this; exact this
      have HKEY := Lib.hid hOK.key
      have HG := Lib.hid (show (regB a s xs && regB a s ys) = true from by rw [hg, hh]; rfl)
      clear hOK hg hh
      go_enter Try.func47, Try.ntmps47
      go_wp2_with fail
      rw [← hw1]
      clear hw1
      go_wp2_with fail
      refine (HI.out _ HB_w1.out).mono ?_
      rintro e w2 ⟨rfl, hb_w2⟩
      have HB_w2 := Lib.hid (HB_w1.out.trans (hb_w2.mono HB_w1.out.size))
      clear hb_w2 F0 F1 F2
      have F0 := (HX0.out.below HB_w2.out).f3
      have F1 := (HX1.out.below HB_w2.out).f3
      have F2 := (HX2.out.below HB_w2.out).f3
      go_wp2_with fail
      refine (HJ.out _ HB_w2.out).mono ?_
      rintro e w3 ⟨rfl, hb_w3⟩
      have HB_w3 := Lib.hid (HB_w2.out.trans (hb_w3.mono HB_w2.out.size))
      clear hb_w3 F0 F1 F2
      have F0 := (HX0.out.below HB_w3.out).f3
      have F1 := (HX1.out.below HB_w3.out).f3
      have F2 := (HX2.out.below HB_w3.out).f3
      go_wp2_with fail
      have HZ := Lib.hid HB_w3.out.size
      have hoe : (w3.alloc (.cells #[] 66)).ownsRow w1.heap.size 66 7 (.slice (some ⟨w3.heap.size, 0, none⟩) 0 0) 0 (ents (newE xs (ys.take 0))) := own_emptyE w3 w1.heap.size 66 7 HB_w3.out.size
      have hbe : Below w1.heap.size w1 (w3.alloc (.cells #[] 66)) := HB_w3.out.alloc HB_w3.out.size _
      go_loopw [6, 36] (fun s i wr => ∃ (k q c' : Nat) (A' : Option Addr), k ≤ m ∧ q ≤ k ∧ i = .int .i64 k ∧ s = .slice A' q c' ∧ Hid (wr.ownsRow w1.heap.size 66 7 (.slice A' q c') q (ents (newE xs (ys.take k)))) ∧ Hid (Below w1.heap.size w1 wr) ∧ Hid (∀ y ∈ ys.take k, hasB xs y = true → y ∈ xs)) (fun _ i _ => m - (intOf i).toNat)
      case atStart => exact ⟨0, 0, _, _, Nat.zero_le _, Nat.zero_le _, rfl, rfl, Lib.hid hoe, Lib.hid hbe, Lib.hid (fun y hy => by simp at hy)⟩
      case round =>
        clear hoe hbe F0 F1 F2
        obtain ⟨k, q, c', A', hk, hqk, rfl, rfl, HO, HB_wo, HALL⟩ := hrel
        obtain ⟨wo, hwo⟩ : ∃ wo : World, wo = wr := ⟨_, rfl⟩
        subst hwo
        have F0 := (HX0.out.below HB_wo.out).f3
        have F1 := (HX1.out.below HB_wo.out).f3
        have F2 := (HX2.out.below HB_wo.out).f3
        have hsw := HB_wo.out.size
        by_cases hlt : k < m
        · obtain ⟨b1, o1, y0, y1, y2, y3, y4, y5, y6, rfl, hx, hd, hc0, hc1, hc2, hc3, hc4, hc5, hc6⟩ := (HQ.out _ HB_wo.out).1.ent hlt
          have HX := Lib.hid hx
          have HT := Lib.hid (show newE xs (ys.take (k + 1)) = if hasB xs (y0, y1, y2, y3, y4, y5, y6) = true then newE xs (ys.take k) else newE xs (ys.take k) ++ [(y0, y1, y2, y3, y4, y5, y6)] from by rw [take_snoc hx]; exact newE_snoc _ _ _)
          have HTA := Lib.hid (show ys.take (k + 1) = ys.take k ++ [(y0, y1, y2, y3, y4, y5, y6)] from take_snoc hx)
          clear hx hd
          obtain ⟨wa, hwa, XA, hba, hsa⟩ := one_box wo #[.int .i64 y0, .int .i64 y1, .int .i64 y2, .int .i64 y3, .int .i64 y4, .int .i64 y5, .int .i64 y6] 66
          have HXA := Lib.hid XA
          have HB_wa := Lib.hid (HB_wo.out.trans (hba.mono hsw))
          have HOA := Lib.hid (own_below HO.out hba)
          clear hba XA
          have HF := Lib.hid (findM_any A n c xs (.pointer (some ⟨wo.heap.size, 0, none⟩)) (fun e => sameB e (y0, y1, y2, y3, y4, y5, y6)) wa (HR.out _ HB_wa.out).1 (fun z0 z1 z2 z3 z4 z5 z6 w2 hb2 => findMClo_any wo.heap.size z0 z1 z2 z3 z4 z5 z6 y0 y1 y2 y3 y4 y5 y6 w2 (HXA.out.below hb2)))
          cases hh : hasB xs (y0, y1, y2, y3, y4, y5, y6) with
          | false =>
            have HTS := Lib.hid (show newE xs (ys.take (k + 1)) = newE xs (ys.take k) ++ [(y0, y1, y2, y3, y4, y5, y6)] from by rw [HT.out, hh]; simp)
            have HAN := Lib.hid (show ∀ y ∈ ys.take (k + 1), hasB xs y = true → y ∈ xs from by
              rw [HTA.out]
              intro y hy h1
              rcases List.mem_append.1 hy with h2 | h2
              · exact HALL.out y h2 h1
              · rw [List.mem_singleton.1 h2, hh] at h1; cases h1)
            rw [findEF_neg hh] at HF
            clear hh HT HTA
            go_wp2_with fail
            rw [← hwa]
            clear hwa
            clear F0 F1 F2 hc0 hc1 hc2 hc3 hc4 hc5 hc6
            go_wp2_with fail
            refine HF.out.mono ?_
            rintro e' w6 ⟨rfl, hb6⟩
            have HB_w6 := Lib.hid (HB_wa.out.trans (hb6.mono HB_wa.out.size))
            have HX6 := Lib.hid (HXA.out.below hb6)
            have HO6 := Lib.hid (own_below HOA.out hb6)
            clear hb6 HF HXA HOA
            have F0 := (HX0.out.below HB_w6.out).f3
            have F1 := (HX1.out.below HB_w6.out).f3
            have F2 := (HX2.out.below HB_w6.out).f3
            have F3 := HX6.out.f7
            go_wp2_with fail
            go_region
            clear F3
            obtain ⟨w7, hw7⟩ : ∃ wd : World, wd = w6.drew := ⟨_, rfl⟩
            have hb7 : Below w6.heap.size w6 w7 := by rw [hw7]; exact below_drewN' _ w6 1
            rw [← hw7]
            clear hw7
            have HB_w7 := Lib.hid (HB_w6.out.trans (hb7.mono HB_w6.out.size))
            have HX7 := Lib.hid (HX6.out.below hb7)
            have HO7 := Lib.hid (own_below HO6.out hb7)
            have hz7 := HB_w7.out.size
            clear hb7 F0 F1 F2 HO6 HX6
            have F0 := (HX0.out.below HB_w7.out).f3
            have F1 := (HX1.out.below HB_w7.out).f3
            have F2 := (HX2.out.below HB_w7.out).f3
            have F3 := HX7.out.f7
            go_wp2_with (at_builtin; refine app_ent (x0 := y0) (x1 := y1) (x2 := y2) (x3 := y3) (x4 := y4) (x5 := y5) (x6 := y6) _ rfl _ _ rfl rfl (own_below HO7.out ((Below.refl _ _).alloc (Nat.le_refl _) _)) rfl ?cC (by omega) ?cB ?_; rotate_left 2; intro g1 c1 wn hown1 hgr1 hg1 hgl1)
            · have HON := Lib.hid hown1
              have HBN := Lib.hid (show Below w1.heap.size w1 wn from (HB_w7.out.alloc hz7 _).grown hgr1 (by simp; omega) (fun k hk => (HO7.out.lt k hk).1))
              clear hown1 hgr1 hg1
              go_roundw
              case rel => exact ⟨k + 1, q + 1, _, _, by omega, by omega, by go_num, rfl, Lib.hid (by rw [HTS.out]; exact HON.out), HBN, HAN⟩
              case measure => simp [intOf] <;> omega
            · exact Box.new _ _ _
            · simp; omega
          | true =>
            have HTS := Lib.hid (show newE xs (ys.take (k + 1)) = newE xs (ys.take k) from by rw [HT.out, hh]; rfl)
            obtain ⟨k9, e9, hi9, hk9, he9, hiff⟩ := key_at HKEY.out hh
            rw [HN.out] at hk9
            rw [hi9] at HF
            clear hi9 HT
            go_wp2_with fail
            rw [← hwa]
            clear hwa
            clear F0 F1 F2 hc0 hc1 hc2 hc3 hc4 hc5 hc6
            go_wp2_with fail
            refine HF.out.mono ?_
            rintro e' w6 ⟨rfl, hb6⟩
            have HB_w6 := Lib.hid (HB_wa.out.trans (hb6.mono HB_wa.out.size))
            have HX6 := Lib.hid (HXA.out.below hb6)
            have HO6 := Lib.hid (own_below HOA.out hb6)
            clear hb6 HF HXA HOA
            have F0 := (HX0.out.below HB_w6.out).f3
            have F1 := (HX1.out.below HB_w6.out).f3
            have F2 := (HX2.out.below HB_w6.out).f3
            have F3 := HX6.out.f7
            obtain ⟨b2, o2, z0, z1, z2, z3, z4, z5, z6, rfl, hz, hzd, hz0, hz1, hz2, hz3, hz4, hz5, hz6⟩ := (HR.out _ HB_w6.out).1.ent hk9
            obtain rfl : e9 = (z0, z1, z2, z3, z4, z5, z6) := by rw [he9] at hz; injection hz
            have HIFF := Lib.hid hiff
            clear hz hzd he9 hiff
            have hk9i : decide ((k9 : Int) < 0) = false := by simp
            by_cases e0 : z0 = y0
            rotate_left
            · have hC : mrgC a s xs a s ys = 5 := by unfold mrgC; rw [HG.out, if_pos rfl, if_pos ⟨rfl, rfl⟩, clashB_at HX.out hh (fun hm => e0 (by have := HIFF.out.2 hm; simp only [Prod.mk.injEq] at this; omega)), if_pos rfl]
              have HE := Lib.hid (mrg_post w hC (by decide))
              clear hC hh
              go_wp2_with fail
              go_region
              obtain ⟨w7, hw7⟩ : ∃ wd : World, wd = w6.drew := ⟨_, rfl⟩
              have hb7 : Below w6.heap.size w6 w7 := by rw [hw7]; exact below_drewN' _ w6 1
              rw [← hw7]
              clear hw7
              have HB_w7 := Lib.hid (HB_w6.out.trans (hb7.mono HB_w6.out.size))
              have HX7 := Lib.hid (HX6.out.below hb7)
              have HO7 := Lib.hid (own_below HO6.out hb7)
              have hz7 := HB_w7.out.size
              clear hz0 hz1 hz2 hz3 hz4 hz5 hz6 hb7 F0 F1 F2 HO6 HX6
              have F0 := (HX0.out.below HB_w7.out).f3
              have F1 := (HX1.out.below HB_w7.out).f3
              have F2 := (HX2.out.below HB_w7.out).f3
              go_wp2_with fail
              refine bodyPost_ret (v := .tuple #[.agg #[.int .i64 0, .int .i64 0, .slice none 0 0], .int .i64 5]) (by simp [results, Try.results47, go_sem, F2]) rfl ?_
              rw [HE.out]
              have hch := put_chg (g := w.heap.size + 1 + 1) [.int .i64 0, .int .i64 0, .slice none 0 0] 0 (Chg.refl (w.heap.size + 1 + 1) (w.heap.size + 1 + 1 + 1) w7) (by omega) (by omega)
              exact ⟨none, 0, 0, rfl, World.ownsRow_nil _ _ _ _, by omega, below_chg (HB1.out.trans (HB_w7.out.mono HB1.out.size)) hch (by omega) (by omega)⟩
            subst e0
            by_cases e1 : z1 = y1
            rotate_left
            · have hC : mrgC a s xs a s ys = 5 := by unfold mrgC; rw [HG.out, if_pos rfl, if_pos ⟨rfl, rfl⟩, clashB_at HX.out hh (fun hm => e1 (by have := HIFF.out.2 hm; simp only [Prod.mk.injEq] at this; omega)), if_pos rfl]
              have HE := Lib.hid (mrg_post w hC (by decide))
              clear hC hh
              go_wp2_with fail
              go_region
              obtain ⟨w7, hw7⟩ : ∃ wd : World, wd = w6.drew := ⟨_, rfl⟩
              have hb7 : Below w6.heap.size w6 w7 := by rw [hw7]; exact below_drewN' _ w6 1
              rw [← hw7]
              clear hw7
              have HB_w7 := Lib.hid (HB_w6.out.trans (hb7.mono HB_w6.out.size))
              have HX7 := Lib.hid (HX6.out.below hb7)
              have HO7 := Lib.hid (own_below HO6.out hb7)
              have hz7 := HB_w7.out.size
              clear hz0 hz1 hz2 hz3 hz4 hz5 hz6 hb7 F0 F1 F2 HO6 HX6
              have F0 := (HX0.out.below HB_w7.out).f3
              have F1 := (HX1.out.below HB_w7.out).f3
              have F2 := (HX2.out.below HB_w7.out).f3
              go_wp2_with fail
              refine bodyPost_ret (v := .tuple #[.agg #[.int .i64 0, .int .i64 0, .slice none 0 0], .int .i64 5]) (by simp [results, Try.results47, go_sem, F2]) rfl ?_
              rw [HE.out]
              have hch := put_chg (g := w.heap.size + 1 + 1) [.int .i64 0, .int .i64 0, .slice none 0 0] 0 (Chg.refl (w.heap.size + 1 + 1) (w.heap.size + 1 + 1 + 1) w7) (by omega) (by omega)
              exact ⟨none, 0, 0, rfl, World.ownsRow_nil _ _ _ _, by omega, below_chg (HB1.out.trans (HB_w7.out.mono HB1.out.size)) hch (by omega) (by omega)⟩
            subst e1
            by_cases e2 : z2 = y2
            rotate_left
            · have hC : mrgC a s xs a s ys = 5 := by unfold mrgC; rw [HG.out, if_pos rfl, if_pos ⟨rfl, rfl⟩, clashB_at HX.out hh (fun hm => e2 (by have := HIFF.out.2 hm; simp only [Prod.mk.injEq] at this; omega)), if_pos rfl]
              have HE := Lib.hid (mrg_post w hC (by decide))
              clear hC hh
              go_wp2_with fail
              go_region
              obtain ⟨w7, hw7⟩ : ∃ wd : World, wd = w6.drew := ⟨_, rfl⟩
              have hb7 : Below w6.heap.size w6 w7 := by rw [hw7]; exact below_drewN' _ w6 1
              rw [← hw7]
              clear hw7
              have HB_w7 := Lib.hid (HB_w6.out.trans (hb7.mono HB_w6.out.size))
              have HX7 := Lib.hid (HX6.out.below hb7)
              have HO7 := Lib.hid (own_below HO6.out hb7)
              have hz7 := HB_w7.out.size
              clear hz0 hz1 hz2 hz3 hz4 hz5 hz6 hb7 F0 F1 F2 HO6 HX6
              have F0 := (HX0.out.below HB_w7.out).f3
              have F1 := (HX1.out.below HB_w7.out).f3
              have F2 := (HX2.out.below HB_w7.out).f3
              go_wp2_with fail
              refine bodyPost_ret (v := .tuple #[.agg #[.int .i64 0, .int .i64 0, .slice none 0 0], .int .i64 5]) (by simp [results, Try.results47, go_sem, F2]) rfl ?_
              rw [HE.out]
              have hch := put_chg (g := w.heap.size + 1 + 1) [.int .i64 0, .int .i64 0, .slice none 0 0] 0 (Chg.refl (w.heap.size + 1 + 1) (w.heap.size + 1 + 1 + 1) w7) (by omega) (by omega)
              exact ⟨none, 0, 0, rfl, World.ownsRow_nil _ _ _ _, by omega, below_chg (HB1.out.trans (HB_w7.out.mono HB1.out.size)) hch (by omega) (by omega)⟩
            subst e2
            by_cases e3 : z3 = y3
            rotate_left
            · have hC : mrgC a s xs a s ys = 5 := by unfold mrgC; rw [HG.out, if_pos rfl, if_pos ⟨rfl, rfl⟩, clashB_at HX.out hh (fun hm => e3 (by have := HIFF.out.2 hm; simp only [Prod.mk.injEq] at this; omega)), if_pos rfl]
              have HE := Lib.hid (mrg_post w hC (by decide))
              clear hC hh
              go_wp2_with fail
              go_region
              obtain ⟨w7, hw7⟩ : ∃ wd : World, wd = w6.drew := ⟨_, rfl⟩
              have hb7 : Below w6.heap.size w6 w7 := by rw [hw7]; exact below_drewN' _ w6 1
              rw [← hw7]
              clear hw7
              have HB_w7 := Lib.hid (HB_w6.out.trans (hb7.mono HB_w6.out.size))
              have HX7 := Lib.hid (HX6.out.below hb7)
              have HO7 := Lib.hid (own_below HO6.out hb7)
              have hz7 := HB_w7.out.size
              clear hz0 hz1 hz2 hz3 hz4 hz5 hz6 hb7 F0 F1 F2 HO6 HX6
              have F0 := (HX0.out.below HB_w7.out).f3
              have F1 := (HX1.out.below HB_w7.out).f3
              have F2 := (HX2.out.below HB_w7.out).f3
              go_wp2_with fail
              refine bodyPost_ret (v := .tuple #[.agg #[.int .i64 0, .int .i64 0, .slice none 0 0], .int .i64 5]) (by simp [results, Try.results47, go_sem, F2]) rfl ?_
              rw [HE.out]
              have hch := put_chg (g := w.heap.size + 1 + 1) [.int .i64 0, .int .i64 0, .slice none 0 0] 0 (Chg.refl (w.heap.size + 1 + 1) (w.heap.size + 1 + 1 + 1) w7) (by omega) (by omega)
              exact ⟨none, 0, 0, rfl, World.ownsRow_nil _ _ _ _, by omega, below_chg (HB1.out.trans (HB_w7.out.mono HB1.out.size)) hch (by omega) (by omega)⟩
            subst e3
            by_cases e4 : z4 = y4
            rotate_left
            · have hC : mrgC a s xs a s ys = 5 := by unfold mrgC; rw [HG.out, if_pos rfl, if_pos ⟨rfl, rfl⟩, clashB_at HX.out hh (fun hm => e4 (by have := HIFF.out.2 hm; simp only [Prod.mk.injEq] at this; omega)), if_pos rfl]
              have HE := Lib.hid (mrg_post w hC (by decide))
              clear hC hh
              go_wp2_with fail
              go_region
              obtain ⟨w7, hw7⟩ : ∃ wd : World, wd = w6.drew := ⟨_, rfl⟩
              have hb7 : Below w6.heap.size w6 w7 := by rw [hw7]; exact below_drewN' _ w6 1
              rw [← hw7]
              clear hw7
              have HB_w7 := Lib.hid (HB_w6.out.trans (hb7.mono HB_w6.out.size))
              have HX7 := Lib.hid (HX6.out.below hb7)
              have HO7 := Lib.hid (own_below HO6.out hb7)
              have hz7 := HB_w7.out.size
              clear hz0 hz1 hz2 hz3 hz4 hz5 hz6 hb7 F0 F1 F2 HO6 HX6
              have F0 := (HX0.out.below HB_w7.out).f3
              have F1 := (HX1.out.below HB_w7.out).f3
              have F2 := (HX2.out.below HB_w7.out).f3
              go_wp2_with fail
              refine bodyPost_ret (v := .tuple #[.agg #[.int .i64 0, .int .i64 0, .slice none 0 0], .int .i64 5]) (by simp [results, Try.results47, go_sem, F2]) rfl ?_
              rw [HE.out]
              have hch := put_chg (g := w.heap.size + 1 + 1) [.int .i64 0, .int .i64 0, .slice none 0 0] 0 (Chg.refl (w.heap.size + 1 + 1) (w.heap.size + 1 + 1 + 1) w7) (by omega) (by omega)
              exact ⟨none, 0, 0, rfl, World.ownsRow_nil _ _ _ _, by omega, below_chg (HB1.out.trans (HB_w7.out.mono HB1.out.size)) hch (by omega) (by omega)⟩
            subst e4
            by_cases e5 : z5 = y5
            rotate_left
            · have hC : mrgC a s xs a s ys = 5 := by unfold mrgC; rw [HG.out, if_pos rfl, if_pos ⟨rfl, rfl⟩, clashB_at HX.out hh (fun hm => e5 (by have := HIFF.out.2 hm; simp only [Prod.mk.injEq] at this; omega)), if_pos rfl]
              have HE := Lib.hid (mrg_post w hC (by decide))
              clear hC hh
              go_wp2_with fail
              go_region
              obtain ⟨w7, hw7⟩ : ∃ wd : World, wd = w6.drew := ⟨_, rfl⟩
              have hb7 : Below w6.heap.size w6 w7 := by rw [hw7]; exact below_drewN' _ w6 1
              rw [← hw7]
              clear hw7
              have HB_w7 := Lib.hid (HB_w6.out.trans (hb7.mono HB_w6.out.size))
              have HX7 := Lib.hid (HX6.out.below hb7)
              have HO7 := Lib.hid (own_below HO6.out hb7)
              have hz7 := HB_w7.out.size
              clear hz0 hz1 hz2 hz3 hz4 hz5 hz6 hb7 F0 F1 F2 HO6 HX6
              have F0 := (HX0.out.below HB_w7.out).f3
              have F1 := (HX1.out.below HB_w7.out).f3
              have F2 := (HX2.out.below HB_w7.out).f3
              go_wp2_with fail
              refine bodyPost_ret (v := .tuple #[.agg #[.int .i64 0, .int .i64 0, .slice none 0 0], .int .i64 5]) (by simp [results, Try.results47, go_sem, F2]) rfl ?_
              rw [HE.out]
              have hch := put_chg (g := w.heap.size + 1 + 1) [.int .i64 0, .int .i64 0, .slice none 0 0] 0 (Chg.refl (w.heap.size + 1 + 1) (w.heap.size + 1 + 1 + 1) w7) (by omega) (by omega)
              exact ⟨none, 0, 0, rfl, World.ownsRow_nil _ _ _ _, by omega, below_chg (HB1.out.trans (HB_w7.out.mono HB1.out.size)) hch (by omega) (by omega)⟩
            subst e5
            by_cases e6 : z6 = y6
            rotate_left
            · have hC : mrgC a s xs a s ys = 5 := by unfold mrgC; rw [HG.out, if_pos rfl, if_pos ⟨rfl, rfl⟩, clashB_at HX.out hh (fun hm => e6 (by have := HIFF.out.2 hm; simp only [Prod.mk.injEq] at this; omega)), if_pos rfl]
              have HE := Lib.hid (mrg_post w hC (by decide))
              clear hC hh
              go_wp2_with fail
              go_region
              obtain ⟨w7, hw7⟩ : ∃ wd : World, wd = w6.drew := ⟨_, rfl⟩
              have hb7 : Below w6.heap.size w6 w7 := by rw [hw7]; exact below_drewN' _ w6 1
              rw [← hw7]
              clear hw7
              have HB_w7 := Lib.hid (HB_w6.out.trans (hb7.mono HB_w6.out.size))
              have HX7 := Lib.hid (HX6.out.below hb7)
              have HO7 := Lib.hid (own_below HO6.out hb7)
              have hz7 := HB_w7.out.size
              clear hz0 hz1 hz2 hz3 hz4 hz5 hz6 hb7 F0 F1 F2 HO6 HX6
              have F0 := (HX0.out.below HB_w7.out).f3
              have F1 := (HX1.out.below HB_w7.out).f3
              have F2 := (HX2.out.below HB_w7.out).f3
              go_wp2_with fail
              refine bodyPost_ret (v := .tuple #[.agg #[.int .i64 0, .int .i64 0, .slice none 0 0], .int .i64 5]) (by simp [results, Try.results47, go_sem, F2]) rfl ?_
              rw [HE.out]
              have hch := put_chg (g := w.heap.size + 1 + 1) [.int .i64 0, .int .i64 0, .slice none 0 0] 0 (Chg.refl (w.heap.size + 1 + 1) (w.heap.size + 1 + 1 + 1) w7) (by omega) (by omega)
              exact ⟨none, 0, 0, rfl, World.ownsRow_nil _ _ _ _, by omega, below_chg (HB1.out.trans (HB_w7.out.mono HB1.out.size)) hch (by omega) (by omega)⟩
            subst e6
            have HAN := Lib.hid (show ∀ y ∈ ys.take (k + 1), hasB xs y = true → y ∈ xs from by
              rw [HTA.out]
              intro y hy h1
              rcases List.mem_append.1 hy with h2 | h2
              · exact HALL.out y h2 h1
              · rw [List.mem_singleton.1 h2]; exact HIFF.out.1 rfl)
            clear hh
            go_wp2_with fail
            go_region
            obtain ⟨w7, hw7⟩ : ∃ wd : World, wd = w6.drew := ⟨_, rfl⟩
            have hb7 : Below w6.heap.size w6 w7 := by rw [hw7]; exact below_drewN' _ w6 1
            rw [← hw7]
            clear hw7
            have HB_w7 := Lib.hid (HB_w6.out.trans (hb7.mono HB_w6.out.size))
            have HX7 := Lib.hid (HX6.out.below hb7)
            have HO7 := Lib.hid (own_below HO6.out hb7)
            have hz7 := HB_w7.out.size
            clear hz0 hz1 hz2 hz3 hz4 hz5 hz6 hb7 F0 F1 F2 HO6 HX6
            have F0 := (HX0.out.below HB_w7.out).f3
            have F1 := (HX1.out.below HB_w7.out).f3
            have F2 := (HX2.out.below HB_w7.out).f3
            go_wp2_with fail
            go_roundw
            case rel => exact ⟨k + 1, q, _, _, by omega, by omega, by go_num, rfl, Lib.hid (by rw [HTS.out]; exact HO7.out), HB_w7, HAN⟩
            case measure => simp [intOf] <;> omega
        · obtain rfl : k = m := by omega
          have ht : ys.take k = ys := List.take_of_length_le (by rw [HM.out]; exact Nat.le_refl _)
          rw [ht] at HO HALL
          clear ht
          have hcl := clashB_none HALL.out
          have hql := own_len_flat entC_len (by decide) HO.out
          have HRO := Lib.hid (own_rd HO.out)
          by_cases h4 : 400 < n + q
          · have h4i : decide ((n : Int) + q > 400) = true := by simp; omega
            have hC : mrgC a s xs a s ys = 3 := by unfold mrgC; rw [HG.out, if_pos rfl, if_pos ⟨rfl, rfl⟩, hcl, if_neg (by decide), HN.out, hql, if_pos h4]
            have HE := Lib.hid (mrg_post w hC (by decide))
            clear hC hcl hql h4
            go_wp2_with fail
            refine bodyPost_ret (v := .tuple #[.agg #[.int .i64 0, .int .i64 0, .slice none 0 0], .int .i64 3]) (by simp [results, Try.results47, go_sem, F2]) rfl ?_
            rw [HE.out]
            have hch := put_chg (g := w.heap.size + 1 + 1) [.int .i64 0, .int .i64 0, .slice none 0 0] 0 (Chg.refl (w.heap.size + 1 + 1) (w.heap.size + 1 + 1 + 1) wo) (by omega) (by omega)
            exact ⟨none, 0, 0, rfl, World.ownsRow_nil _ _ _ _, by omega, below_chg (HB1.out.trans (HB_wo.out.mono HB1.out.size)) hch (by omega) (by omega)⟩
          · have h4i : decide ((n : Int) + q > 400) = false := by simp; omega
            have hC : mrgC a s xs a s ys = 0 := by unfold mrgC; rw [HG.out, if_pos rfl, if_pos ⟨rfl, rfl⟩, hcl, if_neg (by decide), HN.out, hql, if_neg h4]
            have HE := Lib.hid (mrg_post0 w hC)
            clear hC hcl
            go_wp2_with fail
            refine (withEntries_any a s A n c xs A' q c' (newE xs ys) wo (HR.out _ HB_wo.out).1 HRO.out (by omega)).mono ?_
            rintro e w6 ⟨A6, n6, c6, rfl, ho6, hn6, hb6⟩
            have HB_w6 := Lib.hid (HB_wo.out.trans (hb6.mono HB_wo.out.size))
            clear F2
            have F2 := (HX2.out.below HB_w6.out).f3
            go_wp2_with fail
            refine bodyPost_ret (v := .tuple #[.agg #[.int .i64 a, .int .i64 s, .slice A6 n6 c6], .int .i64 0]) (by simp [results, Try.results47, go_sem, F2]) rfl ?_
            rw [HE.out]
            have hsz := HB_wo.out.size
            have hch := put_chg (g := w.heap.size + 1 + 1) [.int .i64 a, .int .i64 s, .slice A6 n6 c6] 0 (Chg.refl (w.heap.size + 1 + 1) (w.heap.size + 1 + 1 + 1) w6) (by omega) (by omega)
            exact ⟨A6, n6, c6, rfl, own_base (own_chg ho6 hch (fun b hb => .inr (by have := (ho6.lt b hb).1; omega))) (by omega), hn6, below_chg (HB1.out.trans (HB_w6.out.mono HB1.out.size)) hch (by omega) (by omega)⟩
end Go.Proofs.Ytdldcjnidajmpaa

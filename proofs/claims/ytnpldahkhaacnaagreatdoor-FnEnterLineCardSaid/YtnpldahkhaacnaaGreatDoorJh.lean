/- Walks: an entry is added (chapter 33), both sides. -/
import Derived.Test.YtnpldahkhaacnaaGreatDoorZmf
namespace Go.Proofs.YtnpldahkhaacnaaGreatDoor
open Go.RowKit Go.Sort Go.Lib
set_option linter.unusedVariables false
set_option maxRecDepth 100000

theorem addClo_any (xb : Nat) (y0 y1 y2 y3 y4 y5 y6 x0 x1 x2 x3 x4 x5 x6 : Int) (w : World) (X : Box w xb #[.int .i64 x0, .int .i64 x1, .int .i64 x2, .int .i64 x3, .int .i64 x4, .int .i64 x5, .int .i64 x6] 25) :
    Calls Tryz.prog 220 #[.agg #[.int .i64 y0, .int .i64 y1, .int .i64 y2, .int .i64 y3, .int .i64 y4, .int .i64 y5, .int .i64 y6], .pointer (some ⟨xb, 0, none⟩)] w fun e w' => e = .returned (.bool (sameB (y0, y1, y2, y3, y4, y5, y6) (x0, x1, x2, x3, x4, x5, x6))) ∧ Below w.heap.size w w' := by
  obtain ⟨w1, hw1, Y, hb1, hs1⟩ := one_box w #[.int .i64 y0, .int .i64 y1, .int .i64 y2, .int .i64 y3, .int .i64 y4, .int .i64 y5, .int .i64 y6] 25
  have HC := Lib.hid (sameKey_any y0 y1 y2 y3 y4 y5 y6 x0 x1 x2 x3 x4 x5 x6 w1)
  have HB1 := Lib.hid hb1
  have F0 := X.f7
  clear X Y hb1
  go_enter Tryz.func220, Tryz.ntmps220
  go_wp2_with fail
  rw [← hw1]
  clear hw1
  refine HC.out.mono ?_
  rintro e w2 ⟨rfl, hb2⟩
  have HB2 := Lib.hid (HB1.out.trans (hb2.mono HB1.out.size))
  clear hb2 F0
  go_wp2_with fail
  go_ret
  exact ⟨rfl, HB2.out⟩
/-- The first element for which p holds. -/
def findEF (p : EntryT → Bool) : Nat → List EntryT → Int
  | _, [] => -1
  | i, x :: r => if p x = true then (i : Int) else findEF p (i + 1) r
theorem findEF_any (p : EntryT → Bool) (i : Nat) (xs : List EntryT) : decide (0 ≤ findEF p i xs) = xs.any p := by
  induction xs generalizing i with
  | nil => rfl
  | cons x r ih =>
    unfold findEF
    by_cases h : p x = true
    · rw [if_pos h, List.any_cons, h]; simp
    · rw [if_neg h, ih, List.any_cons]; simp [h]
theorem findE_any (A : Option Addr) (n c : Nat) (xs : List EntryT) (q0 : Value) (p : EntryT → Bool) (w : World) (h : Rd w 7 A n (ents xs))
    (hp : ∀ x0 x1 x2 x3 x4 x5 x6 w', Below w.heap.size w w' → Calls Tryz.prog 220 #[.agg #[.int .i64 x0, .int .i64 x1, .int .i64 x2, .int .i64 x3, .int .i64 x4, .int .i64 x5, .int .i64 x6], q0] w' fun e w'' => e = .returned (.bool (p (x0, x1, x2, x3, x4, x5, x6))) ∧ Below w'.heap.size w' w'') :
    Calls Tryz.prog 274 #[.slice A n c, .func (.func 220) #[] #[q0]] w fun e w' => e = .returned (.int .i64 (findEF p 0 xs)) ∧ Below w.heap.size w w' := by
  have HN := Lib.hid h.len_ent
  have hm := h.le
  have HP := Lib.hid hp
  clear hp
  go_enter Tryz.func274, Tryz.ntmps274
  go_wp2_with fail
  go_loopw [8] (fun i wr => ∃ k : Nat, k ≤ n ∧ i = .int .i64 k ∧ Hid (findEF p k (xs.drop k) = findEF p 0 xs) ∧ Below w.heap.size w wr) (fun i _ => n - (intOf i).toNat)
  case atStart => exact ⟨0, Nat.zero_le _, rfl, Lib.hid rfl, Below.refl _ _⟩
  case round =>
    obtain ⟨k, hk, rfl, HR, hb⟩ := hrel
    by_cases hlt : k < n
    · obtain ⟨b, o, x0, x1, x2, x3, x4, x5, x6, rfl, hx, hd, hc0, hc1, hc2, hc3, hc4, hc5, hc6⟩ := (h.below hb).ent hlt
      have HD := Lib.hid hd; clear hd hx
      have HB := Lib.hid hb; clear hb
      have HC := Lib.hid (fun w' (hb : Below w.heap.size w w') => HP.out x0 x1 x2 x3 x4 x5 x6 w' hb)
      cases hw : p (x0, x1, x2, x3, x4, x5, x6) with
      | true =>
        rw [hw] at HC
        have HW := Lib.hid hw; clear hw
        go_wp2_with fail
        refine (HC.out _ HB.out).mono ?_
        rintro e w2 ⟨rfl, hb2⟩
        have HB2 := Lib.hid (HB.out.trans (hb2.mono HB.out.size))
        clear hb2 HB HC
        go_wp2_with fail
        go_ret
        exact ⟨ret_int (by rw [← HR.out, HD.out, findEF, if_pos HW.out]), HB2.out⟩
      | false =>
        rw [hw] at HC
        have HW := Lib.hid hw; clear hw
        go_wp2_with fail
        refine (HC.out _ HB.out).mono ?_
        rintro e w2 ⟨rfl, hb2⟩
        have HB2 := Lib.hid (HB.out.trans (hb2.mono HB.out.size))
        clear hb2 HB HC
        go_wp2_with fail
        go_roundw
        case rel => exact ⟨k + 1, by omega, by go_num, Lib.hid (by rw [← HR.out, HD.out, findEF, if_neg (by rw [HW.out]; decide)]), HB2.out⟩
        case measure => simp [intOf] <;> omega
    · obtain rfl : k = n := by omega
      go_wp2_with fail
      go_ret
      exact ⟨ret_int (by rw [← HR.out, List.drop_eq_nil_of_le (by rw [HN.out]; omega), findEF]), hb⟩
theorem findEC_any (A : Option Addr) (n c : Nat) (xs : List EntryT) (q0 : Value) (p : EntryT → Bool) (w : World) (h : Rd w 7 A n (ents xs))
    (hp : ∀ x0 x1 x2 x3 x4 x5 x6 w', Below w.heap.size w w' → Calls Tryz.prog 220 #[.agg #[.int .i64 x0, .int .i64 x1, .int .i64 x2, .int .i64 x3, .int .i64 x4, .int .i64 x5, .int .i64 x6], q0] w' fun e w'' => e = .returned (.bool (p (x0, x1, x2, x3, x4, x5, x6))) ∧ Below w'.heap.size w' w'') :
    Calls Tryz.prog 219 #[.slice A n c, .func (.func 220) #[] #[q0]] w fun e w' => e = .returned (.bool (xs.any p)) ∧ Below w.heap.size w w' := by
  have E := Lib.hid (findEF_any p 0 xs)
  have HC := Lib.hid (findE_any A n c xs q0 p w h hp)
  clear h hp
  generalize findEF p 0 xs = r at *
  go_enter Tryz.func219, Tryz.ntmps219
  go_wp2_with fail
  refine HC.out.mono ?_
  rintro e w2 ⟨rfl, hb2⟩
  go_wp2_with fail
  go_ret
  exact ⟨ret_bool E.out, hb2⟩
theorem one_entry_rd {w : World} {V : Nat} {x0 x1 x2 x3 x4 x5 x6 : Int} (h : Box w V #[.int .i64 x0, .int .i64 x1, .int .i64 x2, .int .i64 x3, .int .i64 x4, .int .i64 x5, .int .i64 x6] 25) : Rd w 7 (some ⟨V, 0, none⟩) 1 (ents [(x0, x1, x2, x3, x4, x5, x6)]) :=
  ⟨rfl, by omega, fun _ => ⟨V, 0, rfl, fun i u hu => by rw [Nat.zero_add]; exact h.cell (by simpa [ents, entC] using hu)⟩⟩
def addC (b s : Int) (xs : List EntryT) (x : EntryT) : Int := if regB b s xs = true then (if (entB b x && revB (E.rev x)) = true then (if hasB xs x = true then 5 else if xs.length = 400 then 3 else 0) else 2) else 1
def addB (b s : Int) (xs : List EntryT) (x : EntryT) : Int := if addC b s xs x = 0 then b else 0
def addS (b s : Int) (xs : List EntryT) (x : EntryT) : Int := if addC b s xs x = 0 then s else 0
def addL (b s : Int) (xs : List EntryT) (x : EntryT) : List EntryT := if addC b s xs x = 0 then xs ++ [x] else []
/-- A register and a code. -/
def RetReg2 (w : World) (b s : Int) (l : List EntryT) (code : Int) (e : Ending) (w' : World) : Prop :=
  ∃ A n c, e = .returned (.tuple #[.agg #[.int .i64 b, .int .i64 s, .slice A n c], .int .i64 code]) ∧ w'.ownsRow w.heap.size 25 7 (.slice A n c) n (ents l) ∧ n ≤ 1048576 ∧ Below w.heap.size w w'
set_option maxHeartbeats 2000000 in
theorem specAddEntry_any (b s : Int) (A : Option Addr) (n c : Nat) (xs : List EntryT) (x0 x1 x2 x3 x4 x5 x6 : Int) (w : World) (hr : RegRd w A n c xs) :
    Calls Tryz.prog 236 #[.agg #[.int .i64 b, .int .i64 s, .slice A n c], .agg #[.int .i64 x0, .int .i64 x1, .int .i64 x2, .int .i64 x3, .int .i64 x4, .int .i64 x5, .int .i64 x6]] w (RetReg2 w (addB b s xs (x0, x1, x2, x3, x4, x5, x6)) (addS b s xs (x0, x1, x2, x3, x4, x5, x6)) (addL b s xs (x0, x1, x2, x3, x4, x5, x6)) (addC b s xs (x0, x1, x2, x3, x4, x5, x6))) := by
  have HN := Lib.hid hr.1.len_ent
  obtain ⟨w1, hw1, X0, X1, X2, hb1, hs1⟩ := three_boxes w #[.int .i64 b, .int .i64 s, .slice A n c] #[.int .i64 x0, .int .i64 x1, .int .i64 x2, .int .i64 x3, .int .i64 x4, .int .i64 x5, .int .i64 x6] #[.int .i64 0, .int .i64 0, .slice none 0 0] 32 25 32
  have HB1 := Lib.hid hb1
  have HR := Lib.hid (fun w' (hb : Below w1.heap.size w1 w') => (hr.below hb1).below hb)
  have HI := Lib.hid (fun w' (hb : Below w1.heap.size w1 w') => specIsRegister_any b s A n c xs w' ((hr.below hb1).below hb))
  have HX0 := Lib.hid X0; have HX1 := Lib.hid X1; have HX2 := Lib.hid X2
  have HB_w1 := Lib.hid (Below.refl w1.heap.size w1)
  have F0 := X0.f3; have F1 := X1.f7; have F2 := X2.f3
  clear hb1 X0 X1 X2 hr
  cases hg : regB b s xs with
  | false =>
    rw [hg] at HI
    have hC : addC b s xs (x0, x1, x2, x3, x4, x5, x6) = 1 := by unfold addC; rw [hg]; rfl
    rw [hC, show addB b s xs (x0, x1, x2, x3, x4, x5, x6) = 0 from by unfold addB; rw [hC]; rfl, show addS b s xs (x0, x1, x2, x3, x4, x5, x6) = 0 from by unfold addS; rw [hC]; rfl, show addL b s xs (x0, x1, x2, x3, x4, x5, x6) = [] from by unfold addL; rw [hC]; rfl]
    clear hC hg
    go_enter Tryz.func236, Tryz.ntmps236
    go_wp2_with fail
    rw [← hw1]
    clear hw1
    go_wp2_with fail
    refine (HI.out _ HB_w1.out).mono ?_
    rintro e w2 ⟨rfl, hb_w2⟩
    have HB_w2 := Lib.hid (HB_w1.out.trans (hb_w2.mono HB_w1.out.size))
    clear hb_w2 F0 F1 F2
    have F0 := (HX0.out.below HB_w2.out).f3
    have F1 := (HX1.out.below HB_w2.out).f7
    have F2 := (HX2.out.below HB_w2.out).f3
    go_wp2_with fail
    refine bodyPost_ret (v := .tuple #[.agg #[.int .i64 0, .int .i64 0, .slice none 0 0], .int .i64 1]) (by simp [results, Tryz.results236, go_sem, F2]) rfl ?_
    have hch := put_chg (g := w.heap.size + 1 + 1) [.int .i64 0, .int .i64 0, .slice none 0 0] 0 (Chg.refl (w.heap.size + 1 + 1) (w.heap.size + 1 + 1 + 1) w2) (by omega) (by omega)
    exact ⟨none, 0, 0, rfl, World.ownsRow_nil _ _ _ _, by omega, below_chg (HB1.out.trans (HB_w2.out.mono HB1.out.size)) hch (by omega) (by omega)⟩
  | true =>
    rw [hg] at HI
    have hOK := regB_ok hg
    have hb16 : 1 ≤ b ∧ b ≤ 16 := ⟨hOK.b1, hOK.b2⟩
    have hlen : n ≤ 400 := by have := hOK.len; rw [HN.out] at this; exact this
    clear hOK
    cases hev : (entB b (x0, x1, x2, x3, x4, x5, x6) && revB (E.rev (x0, x1, x2, x3, x4, x5, x6))) with
    | false =>
      have HE := Lib.hid (fun w => l33Entry_lit hb16.1 hb16.2 hev w)
      have hC : addC b s xs (x0, x1, x2, x3, x4, x5, x6) = 2 := by unfold addC; rw [hg, hev]; rfl
      rw [hC, show addB b s xs (x0, x1, x2, x3, x4, x5, x6) = 0 from by unfold addB; rw [hC]; rfl, show addS b s xs (x0, x1, x2, x3, x4, x5, x6) = 0 from by unfold addS; rw [hC]; rfl, show addL b s xs (x0, x1, x2, x3, x4, x5, x6) = [] from by unfold addL; rw [hC]; rfl]
      clear hC hg hev
      go_enter Tryz.func236, Tryz.ntmps236
      go_wp2_with fail
      rw [← hw1]
      clear hw1
      go_wp2_with fail
      refine (HI.out _ HB_w1.out).mono ?_
      rintro e w2 ⟨rfl, hb_w2⟩
      have HB_w2 := Lib.hid (HB_w1.out.trans (hb_w2.mono HB_w1.out.size))
      clear hb_w2 F0 F1 F2
      have F0 := (HX0.out.below HB_w2.out).f3
      have F1 := (HX1.out.below HB_w2.out).f7
      have F2 := (HX2.out.below HB_w2.out).f3
      go_wp2_with fail
      refine (HE.out _).mono ?_
      rintro e w3 ⟨rfl, hb_w3⟩
      have HB_w3 := Lib.hid (HB_w2.out.trans (hb_w3.mono HB_w2.out.size))
      clear hb_w3 F0 F1 F2
      have F0 := (HX0.out.below HB_w3.out).f3
      have F1 := (HX1.out.below HB_w3.out).f7
      have F2 := (HX2.out.below HB_w3.out).f3
      go_wp2_with fail
      refine bodyPost_ret (v := .tuple #[.agg #[.int .i64 0, .int .i64 0, .slice none 0 0], .int .i64 2]) (by simp [results, Tryz.results236, go_sem, F2]) rfl ?_
      have hch := put_chg (g := w.heap.size + 1 + 1) [.int .i64 0, .int .i64 0, .slice none 0 0] 0 (Chg.refl (w.heap.size + 1 + 1) (w.heap.size + 1 + 1 + 1) w3) (by omega) (by omega)
      exact ⟨none, 0, 0, rfl, World.ownsRow_nil _ _ _ _, by omega, below_chg (HB1.out.trans (HB_w3.out.mono HB1.out.size)) hch (by omega) (by omega)⟩
    | true =>
      have HE := Lib.hid (fun w => l33Entry_lit hb16.1 hb16.2 hev w)
      have hskip : True := trivial
      · clear hskip
        have HF := Lib.hid (fun w' (hb : Below w1.heap.size w1 w') => l33Has_any A n c xs x0 x1 x2 x3 x4 x5 x6 w' (HR.out w' hb).1)
        cases hh : hasB xs (x0, x1, x2, x3, x4, x5, x6) with
        | true =>
          rw [hh] at HF
          have hC : addC b s xs (x0, x1, x2, x3, x4, x5, x6) = 5 := by unfold addC; rw [hg, hev, hh]; rfl
          rw [hC, show addB b s xs (x0, x1, x2, x3, x4, x5, x6) = 0 from by unfold addB; rw [hC]; rfl, show addS b s xs (x0, x1, x2, x3, x4, x5, x6) = 0 from by unfold addS; rw [hC]; rfl, show addL b s xs (x0, x1, x2, x3, x4, x5, x6) = [] from by unfold addL; rw [hC]; rfl]
          clear hC hg hev hh
          go_enter Tryz.func236, Tryz.ntmps236
          go_wp2_with fail
          rw [← hw1]
          clear hw1
          go_wp2_with fail
          refine (HI.out _ HB_w1.out).mono ?_
          rintro e w2 ⟨rfl, hb_w2⟩
          have HB_w2 := Lib.hid (HB_w1.out.trans (hb_w2.mono HB_w1.out.size))
          clear hb_w2 F0 F1 F2
          have F0 := (HX0.out.below HB_w2.out).f3
          have F1 := (HX1.out.below HB_w2.out).f7
          have F2 := (HX2.out.below HB_w2.out).f3
          go_wp2_with fail
          refine (HE.out _).mono ?_
          rintro e w3 ⟨rfl, hb_w3⟩
          have HB_w3 := Lib.hid (HB_w2.out.trans (hb_w3.mono HB_w2.out.size))
          clear hb_w3 F0 F1 F2
          have F0 := (HX0.out.below HB_w3.out).f3
          have F1 := (HX1.out.below HB_w3.out).f7
          have F2 := (HX2.out.below HB_w3.out).f3
          go_wp2_with fail
          refine (HF.out _ HB_w3.out).mono ?_
          rintro e w4 ⟨rfl, hb_w4⟩
          have HB_w4 := Lib.hid (HB_w3.out.trans (hb_w4.mono HB_w3.out.size))
          clear hb_w4 F0 F1 F2
          have F0 := (HX0.out.below HB_w4.out).f3
          have F1 := (HX1.out.below HB_w4.out).f7
          have F2 := (HX2.out.below HB_w4.out).f3
          go_wp2_with fail
          refine bodyPost_ret (v := .tuple #[.agg #[.int .i64 0, .int .i64 0, .slice none 0 0], .int .i64 5]) (by simp [results, Tryz.results236, go_sem, F2]) rfl ?_
          have hch := put_chg (g := w.heap.size + 1 + 1) [.int .i64 0, .int .i64 0, .slice none 0 0] 0 (Chg.refl (w.heap.size + 1 + 1) (w.heap.size + 1 + 1 + 1) w4) (by omega) (by omega)
          exact ⟨none, 0, 0, rfl, World.ownsRow_nil _ _ _ _, by omega, below_chg (HB1.out.trans (HB_w4.out.mono HB1.out.size)) hch (by omega) (by omega)⟩
        | false =>
          rw [hh] at HF
          by_cases h4 : n = 400
          · have hxl : xs.length = 400 := by rw [HN.out]; exact h4
            have hC : addC b s xs (x0, x1, x2, x3, x4, x5, x6) = 3 := by unfold addC; rw [hg, hev, hh, if_pos rfl, if_pos rfl, if_neg (by decide), if_pos hxl]
            rw [hC, show addB b s xs (x0, x1, x2, x3, x4, x5, x6) = 0 from by unfold addB; rw [hC]; rfl, show addS b s xs (x0, x1, x2, x3, x4, x5, x6) = 0 from by unfold addS; rw [hC]; rfl, show addL b s xs (x0, x1, x2, x3, x4, x5, x6) = [] from by unfold addL; rw [hC]; rfl]
            clear hC hg hev hh hxl
            subst h4
            go_enter Tryz.func236, Tryz.ntmps236
            go_wp2_with fail
            rw [← hw1]
            clear hw1
            go_wp2_with fail
            refine (HI.out _ HB_w1.out).mono ?_
            rintro e w2 ⟨rfl, hb_w2⟩
            have HB_w2 := Lib.hid (HB_w1.out.trans (hb_w2.mono HB_w1.out.size))
            clear hb_w2 F0 F1 F2
            have F0 := (HX0.out.below HB_w2.out).f3
            have F1 := (HX1.out.below HB_w2.out).f7
            have F2 := (HX2.out.below HB_w2.out).f3
            go_wp2_with fail
            refine (HE.out _).mono ?_
            rintro e w3 ⟨rfl, hb_w3⟩
            have HB_w3 := Lib.hid (HB_w2.out.trans (hb_w3.mono HB_w2.out.size))
            clear hb_w3 F0 F1 F2
            have F0 := (HX0.out.below HB_w3.out).f3
            have F1 := (HX1.out.below HB_w3.out).f7
            have F2 := (HX2.out.below HB_w3.out).f3
            go_wp2_with fail
            refine (HF.out _ HB_w3.out).mono ?_
            rintro e w4 ⟨rfl, hb_w4⟩
            have HB_w4 := Lib.hid (HB_w3.out.trans (hb_w4.mono HB_w3.out.size))
            clear hb_w4 F0 F1 F2
            have F0 := (HX0.out.below HB_w4.out).f3
            have F1 := (HX1.out.below HB_w4.out).f7
            have F2 := (HX2.out.below HB_w4.out).f3
            go_wp2_with fail
            refine bodyPost_ret (v := .tuple #[.agg #[.int .i64 0, .int .i64 0, .slice none 0 0], .int .i64 3]) (by simp [results, Tryz.results236, go_sem, F2]) rfl ?_
            have hch := put_chg (g := w.heap.size + 1 + 1) [.int .i64 0, .int .i64 0, .slice none 0 0] 0 (Chg.refl (w.heap.size + 1 + 1) (w.heap.size + 1 + 1 + 1) w4) (by omega) (by omega)
            exact ⟨none, 0, 0, rfl, World.ownsRow_nil _ _ _ _, by omega, below_chg (HB1.out.trans (HB_w4.out.mono HB1.out.size)) hch (by omega) (by omega)⟩
          · have hxl : ¬ (xs.length = 400) := by rw [HN.out]; exact h4
            have h4i : ((n : Int) == 400) = false := by simp; omega
            have hC : addC b s xs (x0, x1, x2, x3, x4, x5, x6) = 0 := by unfold addC; rw [hg, hev, hh, if_pos rfl, if_pos rfl, if_neg (by decide), if_neg hxl]
            rw [hC, show addB b s xs (x0, x1, x2, x3, x4, x5, x6) = b from by unfold addB; rw [hC]; rfl, show addS b s xs (x0, x1, x2, x3, x4, x5, x6) = s from by unfold addS; rw [hC]; rfl, show addL b s xs (x0, x1, x2, x3, x4, x5, x6) = xs ++ [(x0, x1, x2, x3, x4, x5, x6)] from by unfold addL; rw [hC]; rfl]
            clear hC hg hev hh hxl
            go_enter Tryz.func236, Tryz.ntmps236
            go_wp2_with fail
            rw [← hw1]
            clear hw1
            go_wp2_with fail
            refine (HI.out _ HB_w1.out).mono ?_
            rintro e w2 ⟨rfl, hb_w2⟩
            have HB_w2 := Lib.hid (HB_w1.out.trans (hb_w2.mono HB_w1.out.size))
            clear hb_w2 F0 F1 F2
            have F0 := (HX0.out.below HB_w2.out).f3
            have F1 := (HX1.out.below HB_w2.out).f7
            have F2 := (HX2.out.below HB_w2.out).f3
            go_wp2_with fail
            refine (HE.out _).mono ?_
            rintro e w3 ⟨rfl, hb_w3⟩
            have HB_w3 := Lib.hid (HB_w2.out.trans (hb_w3.mono HB_w2.out.size))
            clear hb_w3 F0 F1 F2
            have F0 := (HX0.out.below HB_w3.out).f3
            have F1 := (HX1.out.below HB_w3.out).f7
            have F2 := (HX2.out.below HB_w3.out).f3
            go_wp2_with fail
            refine (HF.out _ HB_w3.out).mono ?_
            rintro e w4 ⟨rfl, hb_w4⟩
            have HB_w4 := Lib.hid (HB_w3.out.trans (hb_w4.mono HB_w3.out.size))
            clear hb_w4 F0 F1 F2
            have F0 := (HX0.out.below HB_w4.out).f3
            have F1 := (HX1.out.below HB_w4.out).f7
            have F2 := (HX2.out.below HB_w4.out).f3
            go_wp2_with fail
            refine (l33Add_any b s A n c xs x0 x1 x2 x3 x4 x5 x6 w4 (HR.out _ HB_w4.out).1 (by omega)).mono ?_
            rintro e w6 ⟨A6, n6, c6, rfl, ho6, hn6, hb6⟩
            have HB_w6 := Lib.hid (HB_w4.out.trans (hb6.mono HB_w4.out.size))
            clear F2
            have F2 := (HX2.out.below HB_w6.out).f3
            have hsz5 := HB_w4.out.size
            go_wp2_with fail
            refine bodyPost_ret (v := .tuple #[.agg #[.int .i64 b, .int .i64 s, .slice A6 n6 c6], .int .i64 0]) (by simp [results, Tryz.results236, go_sem, F2]) rfl ?_
            have hch := put_chg (g := w.heap.size + 1 + 1) [.int .i64 b, .int .i64 s, .slice A6 n6 c6] 0 (Chg.refl (w.heap.size + 1 + 1) (w.heap.size + 1 + 1 + 1) w6) (by omega) (by omega)
            exact ⟨A6, n6, c6, rfl, own_base (own_chg ho6 hch (fun b hb => .inr (by have := (ho6.lt b hb).1; omega))) (by omega), hn6, below_chg (HB1.out.trans (HB_w6.out.mono HB1.out.size)) hch (by omega) (by omega)⟩
set_option maxHeartbeats 2000000 in
theorem implAddEntry_any (b s : Int) (A : Option Addr) (n c : Nat) (xs : List EntryT) (x0 x1 x2 x3 x4 x5 x6 : Int) (w : World) (hr : RegRd w A n c xs) :
    Calls Tryz.prog 148 #[.agg #[.int .i64 b, .int .i64 s, .slice A n c], .agg #[.int .i64 x0, .int .i64 x1, .int .i64 x2, .int .i64 x3, .int .i64 x4, .int .i64 x5, .int .i64 x6]] w (RetReg2 w (addB b s xs (x0, x1, x2, x3, x4, x5, x6)) (addS b s xs (x0, x1, x2, x3, x4, x5, x6)) (addL b s xs (x0, x1, x2, x3, x4, x5, x6)) (addC b s xs (x0, x1, x2, x3, x4, x5, x6))) := by
  have HN := Lib.hid hr.1.len_ent
  obtain ⟨w1, hw1, X0, X1, X2, hb1, hs1⟩ := three_boxes w #[.int .i64 b, .int .i64 s, .slice A n c] #[.int .i64 x0, .int .i64 x1, .int .i64 x2, .int .i64 x3, .int .i64 x4, .int .i64 x5, .int .i64 x6] #[.int .i64 0, .int .i64 0, .slice none 0 0] 32 25 32
  have HB1 := Lib.hid hb1
  have HR := Lib.hid (fun w' (hb : Below w1.heap.size w1 w') => (hr.below hb1).below hb)
  have HI := Lib.hid (fun w' (hb : Below w1.heap.size w1 w') => implIsRegister_any b s A n c xs w' ((hr.below hb1).below hb))
  have HX0 := Lib.hid X0; have HX1 := Lib.hid X1; have HX2 := Lib.hid X2
  have HB_w1 := Lib.hid (Below.refl w1.heap.size w1)
  have F0 := X0.f3; have F1 := X1.f7; have F2 := X2.f3
  clear hb1 X0 X1 X2 hr
  cases hg : regB b s xs with
  | false =>
    rw [hg] at HI
    have hC : addC b s xs (x0, x1, x2, x3, x4, x5, x6) = 1 := by unfold addC; rw [hg]; rfl
    rw [hC, show addB b s xs (x0, x1, x2, x3, x4, x5, x6) = 0 from by unfold addB; rw [hC]; rfl, show addS b s xs (x0, x1, x2, x3, x4, x5, x6) = 0 from by unfold addS; rw [hC]; rfl, show addL b s xs (x0, x1, x2, x3, x4, x5, x6) = [] from by unfold addL; rw [hC]; rfl]
    clear hC hg
    go_enter Tryz.func148, Tryz.ntmps148
    go_wp2_with fail
    rw [← hw1]
    clear hw1
    go_wp2_with fail
    refine (HI.out _ HB_w1.out).mono ?_
    rintro e w2 ⟨rfl, hb_w2⟩
    have HB_w2 := Lib.hid (HB_w1.out.trans (hb_w2.mono HB_w1.out.size))
    clear hb_w2 F0 F1 F2
    have F0 := (HX0.out.below HB_w2.out).f3
    have F1 := (HX1.out.below HB_w2.out).f7
    have F2 := (HX2.out.below HB_w2.out).f3
    go_wp2_with fail
    refine bodyPost_ret (v := .tuple #[.agg #[.int .i64 0, .int .i64 0, .slice none 0 0], .int .i64 1]) (by simp [results, Tryz.results148, go_sem, F2]) rfl ?_
    have hch := put_chg (g := w.heap.size + 1 + 1) [.int .i64 0, .int .i64 0, .slice none 0 0] 0 (Chg.refl (w.heap.size + 1 + 1) (w.heap.size + 1 + 1 + 1) w2) (by omega) (by omega)
    exact ⟨none, 0, 0, rfl, World.ownsRow_nil _ _ _ _, by omega, below_chg (HB1.out.trans (HB_w2.out.mono HB1.out.size)) hch (by omega) (by omega)⟩
  | true =>
    rw [hg] at HI
    have hOK := regB_ok hg
    have hb16 : 1 ≤ b ∧ b ≤ 16 := ⟨hOK.b1, hOK.b2⟩
    have hlen : n ≤ 400 := by have := hOK.len; rw [HN.out] at this; exact this
    clear hOK
    cases he : entB b (x0, x1, x2, x3, x4, x5, x6) with
    | false =>
      have HE := Lib.hid (fun w => isEntry_lit hb16.1 hb16.2 he w)
      have hC : addC b s xs (x0, x1, x2, x3, x4, x5, x6) = 2 := by unfold addC; rw [hg, he]; rfl
      rw [hC, show addB b s xs (x0, x1, x2, x3, x4, x5, x6) = 0 from by unfold addB; rw [hC]; rfl, show addS b s xs (x0, x1, x2, x3, x4, x5, x6) = 0 from by unfold addS; rw [hC]; rfl, show addL b s xs (x0, x1, x2, x3, x4, x5, x6) = [] from by unfold addL; rw [hC]; rfl]
      clear hC hg he
      go_enter Tryz.func148, Tryz.ntmps148
      go_wp2_with fail
      rw [← hw1]
      clear hw1
      go_wp2_with fail
      refine (HI.out _ HB_w1.out).mono ?_
      rintro e w2 ⟨rfl, hb_w2⟩
      have HB_w2 := Lib.hid (HB_w1.out.trans (hb_w2.mono HB_w1.out.size))
      clear hb_w2 F0 F1 F2
      have F0 := (HX0.out.below HB_w2.out).f3
      have F1 := (HX1.out.below HB_w2.out).f7
      have F2 := (HX2.out.below HB_w2.out).f3
      go_wp2_with fail
      refine (HE.out _).mono ?_
      rintro e w3 ⟨rfl, hb_w3⟩
      have HB_w3 := Lib.hid (HB_w2.out.trans (hb_w3.mono HB_w2.out.size))
      clear hb_w3 F0 F1 F2
      have F0 := (HX0.out.below HB_w3.out).f3
      have F1 := (HX1.out.below HB_w3.out).f7
      have F2 := (HX2.out.below HB_w3.out).f3
      go_wp2_with fail
      refine bodyPost_ret (v := .tuple #[.agg #[.int .i64 0, .int .i64 0, .slice none 0 0], .int .i64 2]) (by simp [results, Tryz.results148, go_sem, F2]) rfl ?_
      have hch := put_chg (g := w.heap.size + 1 + 1) [.int .i64 0, .int .i64 0, .slice none 0 0] 0 (Chg.refl (w.heap.size + 1 + 1) (w.heap.size + 1 + 1 + 1) w3) (by omega) (by omega)
      exact ⟨none, 0, 0, rfl, World.ownsRow_nil _ _ _ _, by omega, below_chg (HB1.out.trans (HB_w3.out.mono HB1.out.size)) hch (by omega) (by omega)⟩
    | true =>
      have HE := Lib.hid (fun w => isEntry_lit hb16.1 hb16.2 he w)
      cases hv : revB x2 with
      | false =>
        have HV := Lib.hid (fun w => isRevision_lit hv w)
        have hC : addC b s xs (x0, x1, x2, x3, x4, x5, x6) = 2 := by unfold addC; rw [hg, he, show revB (E.rev (x0, x1, x2, x3, x4, x5, x6)) = false from hv]; rfl
        rw [hC, show addB b s xs (x0, x1, x2, x3, x4, x5, x6) = 0 from by unfold addB; rw [hC]; rfl, show addS b s xs (x0, x1, x2, x3, x4, x5, x6) = 0 from by unfold addS; rw [hC]; rfl, show addL b s xs (x0, x1, x2, x3, x4, x5, x6) = [] from by unfold addL; rw [hC]; rfl]
        clear hC hg he hv
        go_enter Tryz.func148, Tryz.ntmps148
        go_wp2_with fail
        rw [← hw1]
        clear hw1
        go_wp2_with fail
        refine (HI.out _ HB_w1.out).mono ?_
        rintro e w2 ⟨rfl, hb_w2⟩
        have HB_w2 := Lib.hid (HB_w1.out.trans (hb_w2.mono HB_w1.out.size))
        clear hb_w2 F0 F1 F2
        have F0 := (HX0.out.below HB_w2.out).f3
        have F1 := (HX1.out.below HB_w2.out).f7
        have F2 := (HX2.out.below HB_w2.out).f3
        go_wp2_with fail
        refine (HE.out _).mono ?_
        rintro e w3 ⟨rfl, hb_w3⟩
        have HB_w3 := Lib.hid (HB_w2.out.trans (hb_w3.mono HB_w2.out.size))
        clear hb_w3 F0 F1 F2
        have F0 := (HX0.out.below HB_w3.out).f3
        have F1 := (HX1.out.below HB_w3.out).f7
        have F2 := (HX2.out.below HB_w3.out).f3
        go_wp2_with (go_at_call 54; (with_reducible refine (HV.out _).mono ?_); rintro e w' ⟨rfl, rfl⟩)
        refine bodyPost_ret (v := .tuple #[.agg #[.int .i64 0, .int .i64 0, .slice none 0 0], .int .i64 2]) (by simp [results, Tryz.results148, go_sem, F2]) rfl ?_
        have hch := put_chg (g := w.heap.size + 1 + 1) [.int .i64 0, .int .i64 0, .slice none 0 0] 0 (Chg.refl (w.heap.size + 1 + 1) (w.heap.size + 1 + 1 + 1) w3) (by omega) (by omega)
        exact ⟨none, 0, 0, rfl, World.ownsRow_nil _ _ _ _, by omega, below_chg (HB1.out.trans (HB_w3.out.mono HB1.out.size)) hch (by omega) (by omega)⟩
      | true =>
        have HV := Lib.hid (fun w => isRevision_lit hv w)
        have hev : (entB b (x0, x1, x2, x3, x4, x5, x6) && revB (E.rev (x0, x1, x2, x3, x4, x5, x6))) = true := by rw [he]; exact hv
        clear he hv
        have HF := Lib.hid (fun w' (hb : Below w1.heap.size w1 w') => findEC_any A n c xs (.pointer (some ⟨w.heap.size + 1, 0, none⟩)) (fun y => sameB y (x0, x1, x2, x3, x4, x5, x6)) w' (HR.out w' hb).1 (fun y0 y1 y2 y3 y4 y5 y6 w2 hb2 => addClo_any (w.heap.size + 1) y0 y1 y2 y3 y4 y5 y6 x0 x1 x2 x3 x4 x5 x6 w2 (HX1.out.below (hb.trans (hb2.mono hb.size)))))
        cases hh : hasB xs (x0, x1, x2, x3, x4, x5, x6) with
        | true =>
          rw [show xs.any (fun y => sameB y (x0, x1, x2, x3, x4, x5, x6)) = true from hh] at HF
          have hC : addC b s xs (x0, x1, x2, x3, x4, x5, x6) = 5 := by unfold addC; rw [hg, hev, hh]; rfl
          rw [hC, show addB b s xs (x0, x1, x2, x3, x4, x5, x6) = 0 from by unfold addB; rw [hC]; rfl, show addS b s xs (x0, x1, x2, x3, x4, x5, x6) = 0 from by unfold addS; rw [hC]; rfl, show addL b s xs (x0, x1, x2, x3, x4, x5, x6) = [] from by unfold addL; rw [hC]; rfl]
          clear hC hg hev hh
          go_enter Tryz.func148, Tryz.ntmps148
          go_wp2_with fail
          rw [← hw1]
          clear hw1
          go_wp2_with fail
          refine (HI.out _ HB_w1.out).mono ?_
          rintro e w2 ⟨rfl, hb_w2⟩
          have HB_w2 := Lib.hid (HB_w1.out.trans (hb_w2.mono HB_w1.out.size))
          clear hb_w2 F0 F1 F2
          have F0 := (HX0.out.below HB_w2.out).f3
          have F1 := (HX1.out.below HB_w2.out).f7
          have F2 := (HX2.out.below HB_w2.out).f3
          go_wp2_with fail
          refine (HE.out _).mono ?_
          rintro e w3 ⟨rfl, hb_w3⟩
          have HB_w3 := Lib.hid (HB_w2.out.trans (hb_w3.mono HB_w2.out.size))
          clear hb_w3 F0 F1 F2
          have F0 := (HX0.out.below HB_w3.out).f3
          have F1 := (HX1.out.below HB_w3.out).f7
          have F2 := (HX2.out.below HB_w3.out).f3
          go_wp2_with (go_at_call 54; (with_reducible refine (HV.out _).mono ?_); rintro e w' ⟨rfl, rfl⟩)
          refine (HF.out _ HB_w3.out).mono ?_
          rintro e w4 ⟨rfl, hb_w4⟩
          have HB_w4 := Lib.hid (HB_w3.out.trans (hb_w4.mono HB_w3.out.size))
          clear hb_w4 F0 F1 F2
          have F0 := (HX0.out.below HB_w4.out).f3
          have F1 := (HX1.out.below HB_w4.out).f7
          have F2 := (HX2.out.below HB_w4.out).f3
          go_wp2_with fail
          refine bodyPost_ret (v := .tuple #[.agg #[.int .i64 0, .int .i64 0, .slice none 0 0], .int .i64 5]) (by simp [results, Tryz.results148, go_sem, F2]) rfl ?_
          have hch := put_chg (g := w.heap.size + 1 + 1) [.int .i64 0, .int .i64 0, .slice none 0 0] 0 (Chg.refl (w.heap.size + 1 + 1) (w.heap.size + 1 + 1 + 1) w4) (by omega) (by omega)
          exact ⟨none, 0, 0, rfl, World.ownsRow_nil _ _ _ _, by omega, below_chg (HB1.out.trans (HB_w4.out.mono HB1.out.size)) hch (by omega) (by omega)⟩
        | false =>
          rw [show xs.any (fun y => sameB y (x0, x1, x2, x3, x4, x5, x6)) = false from hh] at HF
          by_cases h4 : n = 400
          · have hxl : xs.length = 400 := by rw [HN.out]; exact h4
            have hC : addC b s xs (x0, x1, x2, x3, x4, x5, x6) = 3 := by unfold addC; rw [hg, hev, hh, if_pos rfl, if_pos rfl, if_neg (by decide), if_pos hxl]
            rw [hC, show addB b s xs (x0, x1, x2, x3, x4, x5, x6) = 0 from by unfold addB; rw [hC]; rfl, show addS b s xs (x0, x1, x2, x3, x4, x5, x6) = 0 from by unfold addS; rw [hC]; rfl, show addL b s xs (x0, x1, x2, x3, x4, x5, x6) = [] from by unfold addL; rw [hC]; rfl]
            clear hC hg hev hh hxl
            subst h4
            go_enter Tryz.func148, Tryz.ntmps148
            go_wp2_with fail
            rw [← hw1]
            clear hw1
            go_wp2_with fail
            refine (HI.out _ HB_w1.out).mono ?_
            rintro e w2 ⟨rfl, hb_w2⟩
            have HB_w2 := Lib.hid (HB_w1.out.trans (hb_w2.mono HB_w1.out.size))
            clear hb_w2 F0 F1 F2
            have F0 := (HX0.out.below HB_w2.out).f3
            have F1 := (HX1.out.below HB_w2.out).f7
            have F2 := (HX2.out.below HB_w2.out).f3
            go_wp2_with fail
            refine (HE.out _).mono ?_
            rintro e w3 ⟨rfl, hb_w3⟩
            have HB_w3 := Lib.hid (HB_w2.out.trans (hb_w3.mono HB_w2.out.size))
            clear hb_w3 F0 F1 F2
            have F0 := (HX0.out.below HB_w3.out).f3
            have F1 := (HX1.out.below HB_w3.out).f7
            have F2 := (HX2.out.below HB_w3.out).f3
            go_wp2_with (go_at_call 54; (with_reducible refine (HV.out _).mono ?_); rintro e w' ⟨rfl, rfl⟩)
            refine (HF.out _ HB_w3.out).mono ?_
            rintro e w4 ⟨rfl, hb_w4⟩
            have HB_w4 := Lib.hid (HB_w3.out.trans (hb_w4.mono HB_w3.out.size))
            clear hb_w4 F0 F1 F2
            have F0 := (HX0.out.below HB_w4.out).f3
            have F1 := (HX1.out.below HB_w4.out).f7
            have F2 := (HX2.out.below HB_w4.out).f3
            go_wp2_with fail
            refine bodyPost_ret (v := .tuple #[.agg #[.int .i64 0, .int .i64 0, .slice none 0 0], .int .i64 3]) (by simp [results, Tryz.results148, go_sem, F2]) rfl ?_
            have hch := put_chg (g := w.heap.size + 1 + 1) [.int .i64 0, .int .i64 0, .slice none 0 0] 0 (Chg.refl (w.heap.size + 1 + 1) (w.heap.size + 1 + 1 + 1) w4) (by omega) (by omega)
            exact ⟨none, 0, 0, rfl, World.ownsRow_nil _ _ _ _, by omega, below_chg (HB1.out.trans (HB_w4.out.mono HB1.out.size)) hch (by omega) (by omega)⟩
          · have hxl : ¬ (xs.length = 400) := by rw [HN.out]; exact h4
            have h4i : ((n : Int) == 400) = false := by simp; omega
            have hC : addC b s xs (x0, x1, x2, x3, x4, x5, x6) = 0 := by unfold addC; rw [hg, hev, hh, if_pos rfl, if_pos rfl, if_neg (by decide), if_neg hxl]
            rw [hC, show addB b s xs (x0, x1, x2, x3, x4, x5, x6) = b from by unfold addB; rw [hC]; rfl, show addS b s xs (x0, x1, x2, x3, x4, x5, x6) = s from by unfold addS; rw [hC]; rfl, show addL b s xs (x0, x1, x2, x3, x4, x5, x6) = xs ++ [(x0, x1, x2, x3, x4, x5, x6)] from by unfold addL; rw [hC]; rfl]
            clear hC hg hev hh hxl
            go_enter Tryz.func148, Tryz.ntmps148
            go_wp2_with fail
            rw [← hw1]
            clear hw1
            go_wp2_with fail
            refine (HI.out _ HB_w1.out).mono ?_
            rintro e w2 ⟨rfl, hb_w2⟩
            have HB_w2 := Lib.hid (HB_w1.out.trans (hb_w2.mono HB_w1.out.size))
            clear hb_w2 F0 F1 F2
            have F0 := (HX0.out.below HB_w2.out).f3
            have F1 := (HX1.out.below HB_w2.out).f7
            have F2 := (HX2.out.below HB_w2.out).f3
            go_wp2_with fail
            refine (HE.out _).mono ?_
            rintro e w3 ⟨rfl, hb_w3⟩
            have HB_w3 := Lib.hid (HB_w2.out.trans (hb_w3.mono HB_w2.out.size))
            clear hb_w3 F0 F1 F2
            have F0 := (HX0.out.below HB_w3.out).f3
            have F1 := (HX1.out.below HB_w3.out).f7
            have F2 := (HX2.out.below HB_w3.out).f3
            go_wp2_with (go_at_call 54; (with_reducible refine (HV.out _).mono ?_); rintro e w' ⟨rfl, rfl⟩)
            refine (HF.out _ HB_w3.out).mono ?_
            rintro e w4 ⟨rfl, hb_w4⟩
            have HB_w4 := Lib.hid (HB_w3.out.trans (hb_w4.mono HB_w3.out.size))
            clear hb_w4 F0 F1 F2
            have F0 := (HX0.out.below HB_w4.out).f3
            have F1 := (HX1.out.below HB_w4.out).f7
            have F2 := (HX2.out.below HB_w4.out).f3
            go_wp2_with fail
            obtain ⟨w5, hw5, X5, hb5, hs5⟩ := one_box w4 #[.int .i64 x0, .int .i64 x1, .int .i64 x2, .int .i64 x3, .int .i64 x4, .int .i64 x5, .int .i64 x6] 25
            rw [← hw5]
            have HB_w5 := Lib.hid (HB_w4.out.trans (hb5.mono HB_w4.out.size))
            refine (withEntries_any b s A n c xs (some ⟨w4.heap.size, 0, none⟩) 1 1 [(x0, x1, x2, x3, x4, x5, x6)] w5 (HR.out _ HB_w5.out).1 (one_entry_rd X5) (by omega)).mono ?_
            clear hw5 X5 hb5
            rintro e w6 ⟨A6, n6, c6, rfl, ho6, hn6, hb6⟩
            have HB_w6 := Lib.hid (HB_w5.out.trans (hb6.mono HB_w5.out.size))
            clear F2
            have F2 := (HX2.out.below HB_w6.out).f3
            have hsz5 := HB_w5.out.size
            go_wp2_with fail
            refine bodyPost_ret (v := .tuple #[.agg #[.int .i64 b, .int .i64 s, .slice A6 n6 c6], .int .i64 0]) (by simp [results, Tryz.results148, go_sem, F2]) rfl ?_
            have hch := put_chg (g := w.heap.size + 1 + 1) [.int .i64 b, .int .i64 s, .slice A6 n6 c6] 0 (Chg.refl (w.heap.size + 1 + 1) (w.heap.size + 1 + 1 + 1) w6) (by omega) (by omega)
            exact ⟨A6, n6, c6, rfl, own_base (own_chg ho6 hch (fun b hb => .inr (by have := (ho6.lt b hb).1; omega))) (by omega), hn6, below_chg (HB1.out.trans (HB_w6.out.mono HB1.out.size)) hch (by omega) (by omega)⟩
end Go.Proofs.YtnpldahkhaacnaaGreatDoor

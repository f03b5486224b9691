/- Walks: two registers are merged (chapter 33), the reference. -/
import Derived.Test.YtdldcjnidajmpaaJm
namespace Go.Proofs.Ytdldcjnidajmpaa
open Go.RowKit Go.Sort Go.Lib
set_option linter.unusedVariables false
set_option maxRecDepth 100000

theorem own_ne_box {w : World} {base e s n g : Nat} {v : Value} {xs : List Value} {vs : Array Value} {t : TypeId} (h : w.ownsRow base e s v n xs) (X : Box w g vs t) (hne : e ≠ t) : ∀ b, v.ownBlock = some b → b ≠ g := by
  intro b hb
  rcases h.2 with ⟨rfl, _⟩ | ⟨g1, cap, cur, rfl, _, hh, _⟩
  · simp [Value.ownBlock] at hb
  · simp [Value.ownBlock] at hb
    subst hb
    rintro rfl
    unfold Box at X
    rw [hh] at X
    injection X with X
    injection X with _ ht
    exact hne ht
/-- The state of the register that grows: its box at g, its entries. -/
structure OutS (w0 w : World) (g : Nat) (a s : Int) (A : Option Addr) (q c : Nat) (l : List EntryT) : Prop where
  box : Box w g #[.int .i64 a, .int .i64 s, .slice A q c] 51
  own : w.ownsRow w0.heap.size 66 7 (.slice A q c) q (ents l)
  ge : w0.heap.size ≤ g
  below : Below w0.heap.size w0 w
theorem OutS.step {w0 w w' : World} {g q c : Nat} {a s : Int} {A : Option Addr} {l : List EntryT} (h : OutS w0 w g a s A q c l) (k : Below w.heap.size w w') : OutS w0 w' g a s A q c l :=
  ⟨h.box.below k, own_below h.own k, h.ge, h.below.trans (k.mono h.below.size)⟩
theorem OutS.make {w0 w : World} {g q c : Nat} {a s : Int} {A : Option Addr} {l : List EntryT} {v0 v1 v2 : Value} (X : Box w g #[v0, v1, v2] 51) (ho : w.ownsRow w0.heap.size 66 7 (.slice A q c) q (ents l))
    (hg : w0.heap.size ≤ g) (hb : Below w0.heap.size w0 w) : OutS w0 (((w.setCell ⟨g, 0, none⟩ (.int .i64 a)).setCell ⟨g, 1, none⟩ (.int .i64 s)).setCell ⟨g, 2, none⟩ (.slice A q c)) g a s A q c l := by
  have hch := put_chg (g := g) [.int .i64 a, .int .i64 s, .slice A q c] 0 (Chg.refl g (g + 1) w) (by omega) (by omega)
  have hne := own_ne_box ho X (by decide)
  have hsz := hb.size
  refine ⟨?_, own_chg ho hch (fun b hb => by have := hne b hb; omega), hg, below_chg hb hch (by omega) (by omega)⟩
  have := ((X.set 0 (.int .i64 a)).set 1 (.int .i64 s)).set 2 (.slice A q c)
  simpa using this
set_option maxHeartbeats 4000000 in
theorem specMerge_any (a s : Int) (A : Option Addr) (n c : Nat) (xs : List EntryT) (b t : Int) (B : Option Addr) (m d : Nat) (ys : List EntryT) (w : World) (hr : RegRd w A n c xs) (hq : RegRd w B m d ys) :
    Calls Try.prog 46 #[.agg #[.int .i64 a, .int .i64 s, .slice A n c], .agg #[.int .i64 b, .int .i64 t, .slice B m d]] w (RetReg2 w (mrgB a s xs b t ys) (mrgS a s xs b t ys) (mrgL a s xs b t ys) (mrgC a s xs b t ys)) := by
  have HN := Lib.hid hr.1.len_ent
  have HM := Lib.hid hq.1.len_ent
  obtain ⟨w1, hw1, X0, X1, X2, hb1, hs1⟩ := three_boxes w #[.int .i64 a, .int .i64 s, .slice A n c] #[.int .i64 b, .int .i64 t, .slice B m d] #[.int .i64 0, .int .i64 0, .slice none 0 0] 51 51 51
  have HB1 := Lib.hid hb1
  have HR := Lib.hid (fun w' (hb : Below w1.heap.size w1 w') => (hr.below hb1).below hb)
  have HQ := Lib.hid (fun w' (hb : Below w1.heap.size w1 w') => (hq.below hb1).below hb)
  have HI := Lib.hid (fun w' (hb : Below w1.heap.size w1 w') => specIsRegister_any a s A n c xs w' ((hr.below hb1).below hb))
  have HJ := Lib.hid (fun w' (hb : Below w1.heap.size w1 w') => specIsRegister_any b t B m d ys w' ((hq.below hb1).below hb))
  have HX0 := Lib.hid X0; have HX1 := Lib.hid X1; have HX2 := Lib.hid X2
  have HB_w1 := Lib.hid (Below.refl w1.heap.size w1)
  have F0 := X0.f3; have F1 := X1.f3; have F2 := X2.f3
  clear hb1 X0 X1 X2 hr hq
  cases hg : regB a s xs with
  | false =>
    rw [hg] at HI
    have hC : mrgC a s xs b t ys = 1 := by unfold mrgC; rw [hg]; rfl
    obtain ⟨hMB, hMS, hML⟩ := mrg_bad hC (by decide)
    rw [hC, hMB, hMS, hML]
    clear hC hMB hMS hML
    clear hg
    go_enter Try.func46, Try.ntmps46
    go_wp2_with fail
    rw [← hw1]
    clear hw1
    go_wp2_with fail
    refine (HI.out _ HB_w1.out).mono ?_
    rintro e w2 ⟨rfl, hb_w2⟩
    have HB_w2 := Lib.hid (HB_w1.out.trans (hb_w2.mono HB_w1.out.size))
    clear hb_w2 F0 F1 F2
    have F0 := (HX0.out.below HB_w2.out).f3
    have F1 := (HX1.out.below HB_w2.out).f3
    have F2 := (HX2.out.below HB_w2.out).f3
    go_wp2_with fail
    refine bodyPost_ret (v := .tuple #[.agg #[.int .i64 0, .int .i64 0, .slice none 0 0], .int .i64 1]) (by simp [results, Try.results46, go_sem, F2]) rfl ?_
    have hch := put_chg (g := w.heap.size + 1 + 1) [.int .i64 0, .int .i64 0, .slice none 0 0] 0 (Chg.refl (w.heap.size + 1 + 1) (w.heap.size + 1 + 1 + 1) w2) (by omega) (by omega)
    exact ⟨none, 0, 0, rfl, World.ownsRow_nil _ _ _ _, by omega, below_chg (HB1.out.trans (HB_w2.out.mono HB1.out.size)) hch (by omega) (by omega)⟩
  | true =>
    rw [hg] at HI
    cases hh : regB b t ys with
    | false =>
      rw [hh] at HJ
      have hC : mrgC a s xs b t ys = 1 := by unfold mrgC; rw [hg, hh]; rfl
      obtain ⟨hMB, hMS, hML⟩ := mrg_bad hC (by decide)
      rw [hC, hMB, hMS, hML]
      clear hC hMB hMS hML
      clear hg hh
      go_enter Try.func46, Try.ntmps46
      go_wp2_with fail
      rw [← hw1]
      clear hw1
      go_wp2_with fail
      refine (HI.out _ HB_w1.out).mono ?_
      rintro e w2 ⟨rfl, hb_w2⟩
      have HB_w2 := Lib.hid (HB_w1.out.trans (hb_w2.mono HB_w1.out.size))
      clear hb_w2 F0 F1 F2
      have F0 := (HX0.out.below HB_w2.out).f3
      have F1 := (HX1.out.below HB_w2.out).f3
      have F2 := (HX2.out.below HB_w2.out).f3
      go_wp2_with fail
      refine (HJ.out _ HB_w2.out).mono ?_
      rintro e w3 ⟨rfl, hb_w3⟩
      have HB_w3 := Lib.hid (HB_w2.out.trans (hb_w3.mono HB_w2.out.size))
      clear hb_w3 F0 F1 F2
      have F0 := (HX0.out.below HB_w3.out).f3
      have F1 := (HX1.out.below HB_w3.out).f3
      have F2 := (HX2.out.below HB_w3.out).f3
      go_wp2_with fail
      refine bodyPost_ret (v := .tuple #[.agg #[.int .i64 0, .int .i64 0, .slice none 0 0], .int .i64 1]) (by simp [results, Try.results46, go_sem, F2]) rfl ?_
      have hch := put_chg (g := w.heap.size + 1 + 1) [.int .i64 0, .int .i64 0, .slice none 0 0] 0 (Chg.refl (w.heap.size + 1 + 1) (w.heap.size + 1 + 1 + 1) w3) (by omega) (by omega)
      exact ⟨none, 0, 0, rfl, World.ownsRow_nil _ _ _ _, by omega, below_chg (HB1.out.trans (HB_w3.out.mono HB1.out.size)) hch (by omega) (by omega)⟩
    | true =>
      rw [hh] at HJ
      by_cases e1 : a = b
      rotate_left
      · have e1b : (a != b) = true := by simp [e1]
        have hC : mrgC a s xs b t ys = 5 := by unfold mrgC; rw [hg, hh, Bool.and_self, if_pos rfl, if_neg (fun h => e1 h.1)]
        obtain ⟨hMB, hMS, hML⟩ := mrg_bad hC (by decide)
        rw [hC, hMB, hMS, hML]
        clear hC hMB hMS hML
        clear hg hh e1
        go_enter Try.func46, Try.ntmps46
        go_wp2_with fail
        rw [← hw1]
        clear hw1
        go_wp2_with fail
        refine (HI.out _ HB_w1.out).mono ?_
        rintro e w2 ⟨rfl, hb_w2⟩
        have HB_w2 := Lib.hid (HB_w1.out.trans (hb_w2.mono HB_w1.out.size))
        clear hb_w2 F0 F1 F2
        have F0 := (HX0.out.below HB_w2.out).f3
        have F1 := (HX1.out.below HB_w2.out).f3
        have F2 := (HX2.out.below HB_w2.out).f3
        go_wp2_with fail
        refine (HJ.out _ HB_w2.out).mono ?_
        rintro e w3 ⟨rfl, hb_w3⟩
        have HB_w3 := Lib.hid (HB_w2.out.trans (hb_w3.mono HB_w2.out.size))
        clear hb_w3 F0 F1 F2
        have F0 := (HX0.out.below HB_w3.out).f3
        have F1 := (HX1.out.below HB_w3.out).f3
        have F2 := (HX2.out.below HB_w3.out).f3
        go_wp2_with fail
        refine bodyPost_ret (v := .tuple #[.agg #[.int .i64 0, .int .i64 0, .slice none 0 0], .int .i64 5]) (by simp [results, Try.results46, go_sem, F2]) rfl ?_
        have hch := put_chg (g := w.heap.size + 1 + 1) [.int .i64 0, .int .i64 0, .slice none 0 0] 0 (Chg.refl (w.heap.size + 1 + 1) (w.heap.size + 1 + 1 + 1) w3) (by omega) (by omega)
        exact ⟨none, 0, 0, rfl, World.ownsRow_nil _ _ _ _, by omega, below_chg (HB1.out.trans (HB_w3.out.mono HB1.out.size)) hch (by omega) (by omega)⟩
      by_cases e2 : s = t
      rotate_left
      · have e2b : (s != t) = true := by simp [e2]
        have hC : mrgC a s xs b t ys = 5 := by unfold mrgC; rw [hg, hh, Bool.and_self, if_pos rfl, if_neg (fun h => e2 h.2)]
        obtain ⟨hMB, hMS, hML⟩ := mrg_bad hC (by decide)
        rw [hC, hMB, hMS, hML]
        clear hC hMB hMS hML
        clear hg hh e2
        subst e1
        go_enter Try.func46, Try.ntmps46
        go_wp2_with fail
        rw [← hw1]
        clear hw1
        go_wp2_with fail
        refine (HI.out _ HB_w1.out).mono ?_
        rintro e w2 ⟨rfl, hb_w2⟩
        have HB_w2 := Lib.hid (HB_w1.out.trans (hb_w2.mono HB_w1.out.size))
        clear hb_w2 F0 F1 F2
        have F0 := (HX0.out.below HB_w2.out).f3
        have F1 := (HX1.out.below HB_w2.out).f3
        have F2 := (HX2.out.below HB_w2.out).f3
        go_wp2_with fail
        refine (HJ.out _ HB_w2.out).mono ?_
        rintro e w3 ⟨rfl, hb_w3⟩
        have HB_w3 := Lib.hid (HB_w2.out.trans (hb_w3.mono HB_w2.out.size))
        clear hb_w3 F0 F1 F2
        have F0 := (HX0.out.below HB_w3.out).f3
        have F1 := (HX1.out.below HB_w3.out).f3
        have F2 := (HX2.out.below HB_w3.out).f3
        go_wp2_with fail
        refine bodyPost_ret (v := .tuple #[.agg #[.int .i64 0, .int .i64 0, .slice none 0 0], .int .i64 5]) (by simp [results, Try.results46, go_sem, F2]) rfl ?_
        have hch := put_chg (g := w.heap.size + 1 + 1) [.int .i64 0, .int .i64 0, .slice none 0 0] 0 (Chg.refl (w.heap.size + 1 + 1) (w.heap.size + 1 + 1 + 1) w3) (by omega) (by omega)
        exact ⟨none, 0, 0, rfl, World.ownsRow_nil _ _ _ _, by omega, below_chg (HB1.out.trans (HB_w3.out.mono HB1.out.size)) hch (by omega) (by omega)⟩
      subst e1
      subst e2
      have hOK := regB_ok hg
      have hlen : n ≤ 400 := by have := hOK.len; rw [HN.out] at this; exact this
      have hlm : m ≤ 400 := by have := (regB_ok hh).len; rw [HM.out] at this; exact this
      have HKEY := Lib.hid hOK.key
      have HG := Lib.hid (show (regB a s xs && regB a s ys) = true from by rw [hg, hh]; rfl)
      clear hOK hg hh
      go_enter Try.func46, Try.ntmps46
      go_wp2_with fail
      rw [← hw1]
      clear hw1
      go_wp2_with fail
      refine (HI.out _ HB_w1.out).mono ?_
      rintro e w2 ⟨rfl, hb_w2⟩
      have HB_w2 := Lib.hid (HB_w1.out.trans (hb_w2.mono HB_w1.out.size))
      clear hb_w2 F0 F1 F2
      have F0 := (HX0.out.below HB_w2.out).f3
      have F1 := (HX1.out.below HB_w2.out).f3
      have F2 := (HX2.out.below HB_w2.out).f3
      go_wp2_with fail
      refine (HJ.out _ HB_w2.out).mono ?_
      rintro e w3 ⟨rfl, hb_w3⟩
      have HB_w3 := Lib.hid (HB_w2.out.trans (hb_w3.mono HB_w2.out.size))
      clear hb_w3 F0 F1 F2
      have F0 := (HX0.out.below HB_w3.out).f3
      have F1 := (HX1.out.below HB_w3.out).f3
      have F2 := (HX2.out.below HB_w3.out).f3
      go_wp2_with fail
      go_cut [6] (fun p wx => ∃ (g c' : Nat) (A' : Option Addr), p = .pointer (some ⟨g, 0, none⟩) ∧ Hid (OutS w1 wx g a s A' n c' xs))
      case first =>
        obtain ⟨S, hSE, hSI⟩ : ∃ S : World → Prop, (∀ w2, S w2 → (w2.cell? ⟨w.heap.size, 0, none⟩ = some (.int .i64 a) ∧ w2.cell? ⟨w.heap.size, 1, none⟩ = some (.int .i64 s) ∧ w2.cell? ⟨w.heap.size, 2, none⟩ = some (.slice A n c))) ∧ (∀ wz9, Below w1.heap.size w1 wz9 → S wz9) :=
          ⟨fun w2 => w2.cell? ⟨w.heap.size, 0, none⟩ = some (.int .i64 a) ∧ w2.cell? ⟨w.heap.size, 1, none⟩ = some (.int .i64 s) ∧ w2.cell? ⟨w.heap.size, 2, none⟩ = some (.slice A n c), fun _ h => h, fun wz9 hb => ⟨(HX0.out.below hb).cell rfl, (HX0.out.below hb).cell rfl, (HX0.out.below hb).cell rfl⟩⟩
        have HSE := Lib.hid hSE; have HSI := Lib.hid hSI
        clear hSE hSI F0 F1 F2
        refine wp_region_T2 (n := 11) S (fun _ => false) (by kernel_rfl) rfl ?_
        intro ops HOPS
        have hS := HSI.out _ (HB_w3.out.trans ((below_drewN' _ w3 1).mono HB_w3.out.size))
        refine wpAnyT_take 0 (.pointer (some ⟨w.heap.size, 0, none⟩)) (by rw [HOPS.out]; rfl) (by rw [HOPS.out]; kernel_rfl) (by exact fun _ _ _ h => h) (by rfl) (fun w1 hS => by obtain ⟨q0, q1, q2⟩ := HSE.out _ hS; go_simp) hS ?_
        go_simp
        refine wpAnyT_take 1 (.int .i64 a) (by rw [HOPS.out]; rfl) (by rw [HOPS.out]; kernel_rfl) (by exact fun _ _ _ h => h) (by rfl) (fun w1 hS => by obtain ⟨q0, q1, q2⟩ := HSE.out _ hS; go_simp) hS ?_
        go_simp
        refine wpAnyT_take 2 (.pointer (some ⟨w.heap.size, 1, none⟩)) (by rw [HOPS.out]; rfl) (by rw [HOPS.out]; kernel_rfl) (by exact fun _ _ _ h => h) (by rfl) (fun w1 hS => by obtain ⟨q0, q1, q2⟩ := HSE.out _ hS; go_simp) hS ?_
        go_simp
        refine wpAnyT_take 3 (.int .i64 s) (by rw [HOPS.out]; rfl) (by rw [HOPS.out]; kernel_rfl) (by exact fun _ _ _ h => h) (by rfl) (fun w1 hS => by obtain ⟨q0, q1, q2⟩ := HSE.out _ hS; go_simp) hS ?_
        go_simp
        refine wpAnyT_take 5 (.pointer (some ⟨w.heap.size, 2, none⟩)) (by rw [HOPS.out]; rfl) (by rw [HOPS.out]; kernel_rfl) (by exact fun _ _ _ h => h) (by rfl) (fun w1 hS => by obtain ⟨q0, q1, q2⟩ := HSE.out _ hS; go_simp) hS ?_
        go_simp
        refine wpAnyT_take 6 (.slice A n c) (by rw [HOPS.out]; rfl) (by rw [HOPS.out]; kernel_rfl) (by exact fun _ _ _ h => h) (by rfl) (fun w1 hS => by obtain ⟨q0, q1, q2⟩ := HSE.out _ hS; go_simp) hS ?_
        go_simp
        replace hS : S w3.drew := hS
        obtain ⟨wd, hwd⟩ : ∃ wd : World, wd = w3.drew := ⟨_, rfl⟩
        have HB_wd := Lib.hid (HB_w3.out.trans ((show Below w3.heap.size w3 wd from by rw [hwd]; exact below_drewN' _ w3 1).mono HB_w3.out.size))
        rw [← hwd] at hS ⊢
        clear hwd
        refine wpAnyT_two 4 9 (by rw [HOPS.out]; rfl) (by rw [HOPS.out]; rfl) (by rw [HOPS.out]; kernel_rfl) ?_ ?_
        · skip
          intro K' hK
          have HK := Lib.hid hK
          clear hK
          go_simp
          refine HK.out _ _ (.inr (HSI.out _ (HB_wd.out.alloc HB_wd.out.size _))) ?_
          clear HK
          have oe_wa := own_emptyE wd w1.heap.size 66 7 HB_wd.out.size
          obtain ⟨wa, hw_wa, XX_wa, hb_wa, hs_wa⟩ := one_box wd #[] 66
          rw [← hw_wa] at oe_wa ⊢
          clear hw_wa
          have HB_wa := Lib.hid (HB_wd.out.trans (hb_wa.mono HB_wd.out.size))
          have HO := Lib.hid oe_wa
          clear XX_wa oe_wa hs_wa
          go_simp
          refine wpAnyT_two 7 9 (by rw [HOPS.out]; rfl) (by rw [HOPS.out]; rfl) (by rw [HOPS.out]; kernel_rfl) ?_ ?_
          · skip
            intro K' hK
            have HK := Lib.hid hK
            clear hK
            refine step_apps _ (by rfl) _ _ (by rfl) (xs := []) (by rfl) HO.out (by rfl) (HR.out _ HB_wa.out).1 (by omega) HB_wa.out.size ?_
            intro A7 c7 wb ho_wb hg_wb
            simp only [Nat.zero_add, List.nil_append] at ho_wb ⊢
            have HB_wb := Lib.hid (HB_wa.out.grown hg_wb HB_wa.out.size (fun k hk => (HO.out.lt k hk).1))
            replace HO := Lib.hid ho_wb
            clear ho_wb hg_wb
            refine HK.out _ _ (.inr (HSI.out _ HB_wb.out)) ?_
            clear HK
            go_simp
            refine wpAnyT_take 8 (.agg #[.int .i64 a, .int .i64 s, .slice A7 n c7]) (by rw [HOPS.out]; rfl) (by rw [HOPS.out]; kernel_rfl) (by exact fun _ _ _ h => h) (by rfl) (fun w1 hS => by go_simp) (HSI.out _ HB_wb.out) ?_
            go_simp
            refine wpAnyT_one 9 (by rw [HOPS.out]; rfl) (by rw [HOPS.out]; kernel_rfl) ?_
            intro K' hK
            have HK := Lib.hid hK
            clear hK
            go_simp
            refine HK.out _ _ (.inr (HSI.out _ (HB_wb.out.alloc HB_wb.out.size _))) ?_
            clear HK
            obtain ⟨wz, hw_wz, XX_wz, hb_wz, hs_wz⟩ := one_box wb #[.int .i64 0, .int .i64 0, .slice none 0 0] 51
            rw [← hw_wz]
            clear hw_wz hs_wz
            have HB_wz := Lib.hid (HB_wb.out.trans (hb_wz.mono HB_wb.out.size))
            have HX := Lib.hid XX_wz
            have HGE := Lib.hid HB_wb.out.size
            clear XX_wz
            replace HO := Lib.hid (own_below HO.out hb_wz)
            go_simp
            have HOUT := Lib.hid (OutS.make (a := a) (s := s) HX.out HO.out HGE.out HB_wz.out)
            have FG := HX.out.f3
            refine wpAnyT_one 10 (by rw [HOPS.out]; rfl) (by rw [HOPS.out]; kernel_rfl) ?_
            intro K' hK
            have HK := Lib.hid hK
            clear hK
            go_simp
            refine HK.out _ _ (.inr (HSI.out _ HOUT.out.below)) ?_
            clear HK
            go_simp
            refine wpAnyT_done (by rw [HOPS.out]; kernel_rfl) ?_ _
            go_wp2_with fail
            go_meet
            exact ⟨wb.heap.size, c7, A7, rfl, HOUT⟩
          · skip
            intro K' hK
            have HK := Lib.hid hK
            clear hK
            go_simp
            refine HK.out _ _ (.inr (HSI.out _ (HB_wa.out.alloc HB_wa.out.size _))) ?_
            clear HK
            obtain ⟨wb, hw_wb, XX_wb, hb_wb, hs_wb⟩ := one_box wa #[.int .i64 0, .int .i64 0, .slice none 0 0] 51
            rw [← hw_wb]
            clear hw_wb hs_wb
            have HB_wb := Lib.hid (HB_wa.out.trans (hb_wb.mono HB_wa.out.size))
            have HX := Lib.hid XX_wb
            have HGE := Lib.hid HB_wa.out.size
            clear XX_wb
            replace HO := Lib.hid (own_below HO.out hb_wb)
            go_simp
            refine wpAnyT_one 7 (by rw [HOPS.out]; rfl) (by rw [HOPS.out]; kernel_rfl) ?_
            intro K' hK
            have HK := Lib.hid hK
            clear hK
            refine step_apps _ (by rfl) _ _ (by rfl) (xs := []) (by rfl) HO.out (by rfl) (HR.out _ HB_wb.out).1 (by omega) HB_wb.out.size ?_
            intro A7 c7 wc ho_wc hg_wc
            simp only [Nat.zero_add, List.nil_append] at ho_wc ⊢
            have HB_wc := Lib.hid (HB_wb.out.grown hg_wc HB_wb.out.size (fun k hk => (HO.out.lt k hk).1))
            have hnb_wc := own_ne_box HO.out HX.out (by decide)
            replace HX := Lib.hid (HX.out.grown hg_wc (fun e => hnb_wc _ e rfl))
            clear hnb_wc
            replace HO := Lib.hid ho_wc
            clear ho_wc hg_wc
            refine HK.out _ _ (.inr (HSI.out _ HB_wc.out)) ?_
            clear HK
            go_simp
            refine wpAnyT_take 8 (.agg #[.int .i64 a, .int .i64 s, .slice A7 n c7]) (by rw [HOPS.out]; rfl) (by rw [HOPS.out]; kernel_rfl) (by exact fun _ _ _ h => h) (by rfl) (fun w1 hS => by go_simp) (HSI.out _ HB_wc.out) ?_
            go_simp
            have HOUT := Lib.hid (OutS.make (a := a) (s := s) HX.out HO.out HGE.out HB_wc.out)
            have FG := HX.out.f3
            refine wpAnyT_one 10 (by rw [HOPS.out]; rfl) (by rw [HOPS.out]; kernel_rfl) ?_
            intro K' hK
            have HK := Lib.hid hK
            clear hK
            go_simp
            refine HK.out _ _ (.inr (HSI.out _ HOUT.out.below)) ?_
            clear HK
            go_simp
            refine wpAnyT_done (by rw [HOPS.out]; kernel_rfl) ?_ _
            go_wp2_with fail
            go_meet
            exact ⟨wa.heap.size, c7, A7, rfl, HOUT⟩
        · skip
          intro K' hK
          have HK := Lib.hid hK
          clear hK
          go_simp
          refine HK.out _ _ (.inr (HSI.out _ (HB_wd.out.alloc HB_wd.out.size _))) ?_
          clear HK
          obtain ⟨wa, hw_wa, XX_wa, hb_wa, hs_wa⟩ := one_box wd #[.int .i64 0, .int .i64 0, .slice none 0 0] 51
          rw [← hw_wa]
          clear hw_wa hs_wa
          have HB_wa := Lib.hid (HB_wd.out.trans (hb_wa.mono HB_wd.out.size))
          have HX := Lib.hid XX_wa
          have HGE := Lib.hid HB_wd.out.size
          clear XX_wa
          go_simp
          refine wpAnyT_one 4 (by rw [HOPS.out]; rfl) (by rw [HOPS.out]; kernel_rfl) ?_
          intro K' hK
          have HK := Lib.hid hK
          clear hK
          go_simp
          refine HK.out _ _ (.inr (HSI.out _ (HB_wa.out.alloc HB_wa.out.size _))) ?_
          clear HK
          have oe_wb := own_emptyE wa w1.heap.size 66 7 HB_wa.out.size
          obtain ⟨wb, hw_wb, XX_wb, hb_wb, hs_wb⟩ := one_box wa #[] 66
          rw [← hw_wb] at oe_wb ⊢
          clear hw_wb
          have HB_wb := Lib.hid (HB_wa.out.trans (hb_wb.mono HB_wa.out.size))
          have HO := Lib.hid oe_wb
          clear XX_wb oe_wb hs_wb
          replace HX := Lib.hid (HX.out.below hb_wb)
          go_simp
          refine wpAnyT_one 7 (by rw [HOPS.out]; rfl) (by rw [HOPS.out]; kernel_rfl) ?_
          intro K' hK
          have HK := Lib.hid hK
          clear hK
          refine step_apps _ (by rfl) _ _ (by rfl) (xs := []) (by rfl) HO.out (by rfl) (HR.out _ HB_wb.out).1 (by omega) HB_wb.out.size ?_
          intro A7 c7 wc ho_wc hg_wc
          simp only [Nat.zero_add, List.nil_append] at ho_wc ⊢
          have HB_wc := Lib.hid (HB_wb.out.grown hg_wc HB_wb.out.size (fun k hk => (HO.out.lt k hk).1))
          have hnb_wc := own_ne_box HO.out HX.out (by decide)
          replace HX := Lib.hid (HX.out.grown hg_wc (fun e => hnb_wc _ e rfl))
          clear hnb_wc
          replace HO := Lib.hid ho_wc
          clear ho_wc hg_wc
          refine HK.out _ _ (.inr (HSI.out _ HB_wc.out)) ?_
          clear HK
          go_simp
          refine wpAnyT_take 8 (.agg #[.int .i64 a, .int .i64 s, .slice A7 n c7]) (by rw [HOPS.out]; rfl) (by rw [HOPS.out]; kernel_rfl) (by exact fun _ _ _ h => h) (by rfl) (fun w1 hS => by go_simp) (HSI.out _ HB_wc.out) ?_
          go_simp
          have HOUT := Lib.hid (OutS.make (a := a) (s := s) HX.out HO.out HGE.out HB_wc.out)
          have FG := HX.out.f3
          refine wpAnyT_one 10 (by rw [HOPS.out]; rfl) (by rw [HOPS.out]; kernel_rfl) ?_
          intro K' hK
          have HK := Lib.hid hK
          clear hK
          go_simp
          refine HK.out _ _ (.inr (HSI.out _ HOUT.out.below)) ?_
          clear HK
          go_simp
          refine wpAnyT_done (by rw [HOPS.out]; kernel_rfl) ?_ _
          go_wp2_with fail
          go_meet
          exact ⟨wd.heap.size, c7, A7, rfl, HOUT⟩
      obtain ⟨g, c0', A0', rfl, HOUT⟩ := hcut
      clear F0 F1 F2
      go_wp2_with fail
      go_loopw [7] (fun i wr => ∃ (k q c' : Nat) (A' : Option Addr), k ≤ m ∧ q ≤ n + k ∧ i = .int .i64 k ∧ Hid (OutS w1 wr g a s A' q c' (xs ++ newE xs (ys.take k))) ∧ Hid (∀ y ∈ ys.take k, hasB xs y = true → y ∈ xs)) (fun i _ => m - (intOf i).toNat)
      case atStart => exact ⟨0, n, c0', A0', Nat.zero_le _, by omega, rfl, Lib.hid (by have := HOUT.out; simpa [newE] using this), Lib.hid (fun y hy => by simp at hy)⟩
      case round =>
        clear HOUT
        obtain ⟨k, q, c', A', hk, hqk, rfl, HS, HALL⟩ := hrel
        obtain ⟨wo, hwo⟩ : ∃ wo : World, wo = wr := ⟨_, rfl⟩
        subst hwo
        have HB_wo := Lib.hid HS.out.below
        have F0 := (HX0.out.below HB_wo.out).f3
        have F1 := (HX1.out.below HB_wo.out).f3
        have F2 := (HX2.out.below HB_wo.out).f3
        have hsw := HB_wo.out.size
        by_cases hlt : k < m
        · obtain ⟨b1, o1, y0, y1, y2, y3, y4, y5, y6, rfl, hx, hd, hc0, hc1, hc2, hc3, hc4, hc5, hc6⟩ := (HQ.out _ HB_wo.out).1.ent hlt
          have HX := Lib.hid hx
          have HT := Lib.hid (show newE xs (ys.take (k + 1)) = if hasB xs (y0, y1, y2, y3, y4, y5, y6) = true then newE xs (ys.take k) else newE xs (ys.take k) ++ [(y0, y1, y2, y3, y4, y5, y6)] from by rw [take_snoc hx]; exact newE_snoc _ _ _)
          have HTA := Lib.hid (show ys.take (k + 1) = ys.take k ++ [(y0, y1, y2, y3, y4, y5, y6)] from take_snoc hx)
          clear hx hd
          go_wp2_with fail
          go_loopw [8, 9] (fun b8 i wr => ∃ j : Nat, j ≤ n ∧ i = .int .i64 j ∧ b8 = .bool (decide ((y0, y1, y2, y3, y4, y5, y6) ∈ xs.take j)) ∧ Hid (OutS w1 wr g a s A' q c' (xs ++ newE xs (ys.take k)))) (fun _ i _ => n - (intOf i).toNat)
          case atStart => exact ⟨0, Nat.zero_le _, rfl, by simp, HS⟩
          case round =>
            clear HS F0 F1 F2 hc0 hc1 hc2 hc3 hc4 hc5 hc6
            obtain ⟨j, hj, rfl, rfl, HS⟩ := hrel
            obtain ⟨wi, hwi⟩ : ∃ wi : World, wi = wr := ⟨_, rfl⟩
            subst hwi
            have HB_wi := Lib.hid HS.out.below
            have F0 := (HX0.out.below HB_wi.out).f3
            have F1 := (HX1.out.below HB_wi.out).f3
            have F2 := (HX2.out.below HB_wi.out).f3
            obtain ⟨b1', o1', t0, t1, t2, t3, t4, t5, t6, hB', hx', _, hc0, hc1, hc2, hc3, hc4, hc5, hc6⟩ := (HQ.out _ HB_wi.out).1.ent hlt
            obtain ⟨rfl, rfl⟩ : b1 = b1' ∧ o1 = o1' := by injection hB' with e; injection e with e1 e2; exact ⟨e1, e2⟩
            obtain ⟨rfl, rfl, rfl, rfl, rfl, rfl, rfl⟩ : y0 = t0 ∧ y1 = t1 ∧ y2 = t2 ∧ y3 = t3 ∧ y4 = t4 ∧ y5 = t5 ∧ y6 = t6 := by rw [HX.out] at hx'; injection hx' with e; simpa only [Prod.mk.injEq] using e
            clear hB' hx'
            by_cases hjn : j < n
            · obtain ⟨b2, o2, z0, z1, z2, z3, z4, z5, z6, hA2, hz, hzd, hz0, hz1, hz2, hz3, hz4, hz5, hz6⟩ := (HR.out _ HB_wi.out).1.ent hjn
              subst hA2
              have HTJ := Lib.hid (show xs.take (j + 1) = xs.take j ++ [(z0, z1, z2, z3, z4, z5, z6)] from take_snoc hz)
              clear hz hzd
              by_cases hin : (y0, y1, y2, y3, y4, y5, y6) ∈ xs.take j
              · have HD := Lib.hid (show decide ((y0, y1, y2, y3, y4, y5, y6) ∈ xs.take (j + 1)) = true from by rw [decide_eq_true_eq, HTJ.out]; exact List.mem_append_left _ hin)
                have hdi := decide_eq_true hin
                rw [hdi]
                clear hin hdi
                go_wp2_with fail
                go_region
                obtain ⟨w7, hw7⟩ : ∃ wd : World, wd = wi.drew := ⟨_, rfl⟩
                have HS7 := Lib.hid (HS.out.step (show Below wi.heap.size wi w7 from by rw [hw7]; exact below_drewN' _ wi 1))
                rw [← hw7]
                clear hw7
                go_wp2_with fail
                go_roundw
                case rel => exact ⟨j + 1, by omega, by go_num, by rw [HD.out], HS7⟩
                case measure => simp [intOf] <;> omega
              · have hdi := decide_eq_false hin
                rw [hdi]
                clear hdi
                have HIN := Lib.hid hin
                by_cases e0 : z0 = y0
                rotate_left
                · have HD := Lib.hid (show decide ((y0, y1, y2, y3, y4, y5, y6) ∈ xs.take (j + 1)) = false from by rw [decide_eq_false_iff_not, HTJ.out]; intro hm; rcases List.mem_append.1 hm with h | h; exact HIN.out h; have := List.mem_singleton.1 h; simp only [Prod.mk.injEq] at this; omega)
                  go_wp2_with fail
                  go_region
                  obtain ⟨w7, hw7⟩ : ∃ wd : World, wd = wi.drew := ⟨_, rfl⟩
                  have HS7 := Lib.hid (HS.out.step (show Below wi.heap.size wi w7 from by rw [hw7]; exact below_drewN' _ wi 1))
                  rw [← hw7]
                  clear hw7
                  go_wp2_with fail
                  go_roundw
                  case rel => exact ⟨j + 1, by omega, by go_num, by rw [HD.out], HS7⟩
                  case measure => simp [intOf] <;> omega
                subst e0
                by_cases e1 : z1 = y1
                rotate_left
                · have HD := Lib.hid (show decide ((z0, y1, y2, y3, y4, y5, y6) ∈ xs.take (j + 1)) = false from by rw [decide_eq_false_iff_not, HTJ.out]; intro hm; rcases List.mem_append.1 hm with h | h; exact HIN.out h; have := List.mem_singleton.1 h; simp only [Prod.mk.injEq] at this; omega)
                  go_wp2_with fail
                  go_region
                  obtain ⟨w7, hw7⟩ : ∃ wd : World, wd = wi.drew := ⟨_, rfl⟩
                  have HS7 := Lib.hid (HS.out.step (show Below wi.heap.size wi w7 from by rw [hw7]; exact below_drewN' _ wi 1))
                  rw [← hw7]
                  clear hw7
                  go_wp2_with fail
                  go_roundw
                  case rel => exact ⟨j + 1, by omega, by go_num, by rw [HD.out], HS7⟩
                  case measure => simp [intOf] <;> omega
                subst e1
                by_cases e2 : z2 = y2
                rotate_left
                · have HD := Lib.hid (show decide ((z0, z1, y2, y3, y4, y5, y6) ∈ xs.take (j + 1)) = false from by rw [decide_eq_false_iff_not, HTJ.out]; intro hm; rcases List.mem_append.1 hm with h | h; exact HIN.out h; have := List.mem_singleton.1 h; simp only [Prod.mk.injEq] at this; omega)
                  go_wp2_with fail
                  go_region
                  obtain ⟨w7, hw7⟩ : ∃ wd : World, wd = wi.drew := ⟨_, rfl⟩
                  have HS7 := Lib.hid (HS.out.step (show Below wi.heap.size wi w7 from by rw [hw7]; exact below_drewN' _ wi 1))
                  rw [← hw7]
                  clear hw7
                  go_wp2_with fail
                  go_roundw
                  case rel => exact ⟨j + 1, by omega, by go_num, by rw [HD.out], HS7⟩
                  case measure => simp [intOf] <;> omega
                subst e2
                by_cases e3 : z3 = y3
                rotate_left
                · have HD := Lib.hid (show decide ((z0, z1, z2, y3, y4, y5, y6) ∈ xs.take (j + 1)) = false from by rw [decide_eq_false_iff_not, HTJ.out]; intro hm; rcases List.mem_append.1 hm with h | h; exact HIN.out h; have := List.mem_singleton.1 h; simp only [Prod.mk.injEq] at this; omega)
                  go_wp2_with fail
                  go_region
                  obtain ⟨w7, hw7⟩ : ∃ wd : World, wd = wi.drew := ⟨_, rfl⟩
                  have HS7 := Lib.hid (HS.out.step (show Below wi.heap.size wi w7 from by rw [hw7]; exact below_drewN' _ wi 1))
                  rw [← hw7]
                  clear hw7
                  go_wp2_with fail
                  go_roundw
                  case rel => exact ⟨j + 1, by omega, by go_num, by rw [HD.out], HS7⟩
                  case measure => simp [intOf] <;> omega
                subst e3
                by_cases e4 : z4 = y4
                rotate_left
                · have HD := Lib.hid (show decide ((z0, z1, z2, z3, y4, y5, y6) ∈ xs.take (j + 1)) = false from by rw [decide_eq_false_iff_not, HTJ.out]; intro hm; rcases List.mem_append.1 hm with h | h; exact HIN.out h; have := List.mem_singleton.1 h; simp only [Prod.mk.injEq] at this; omega)
                  go_wp2_with fail
                  go_region
                  obtain ⟨w7, hw7⟩ : ∃ wd : World, wd = wi.drew := ⟨_, rfl⟩
                  have HS7 := Lib.hid (HS.out.step (show Below wi.heap.size wi w7 from by rw [hw7]; exact below_drewN' _ wi 1))
                  rw [← hw7]
                  clear hw7
                  go_wp2_with fail
                  go_roundw
                  case rel => exact ⟨j + 1, by omega, by go_num, by rw [HD.out], HS7⟩
                  case measure => simp [intOf] <;> omega
                subst e4
                by_cases e5 : z5 = y5
                rotate_left
                · have HD := Lib.hid (show decide ((z0, z1, z2, z3, z4, y5, y6) ∈ xs.take (j + 1)) = false from by rw [decide_eq_false_iff_not, HTJ.out]; intro hm; rcases List.mem_append.1 hm with h | h; exact HIN.out h; have := List.mem_singleton.1 h; simp only [Prod.mk.injEq] at this; omega)
                  go_wp2_with fail
                  go_region
                  obtain ⟨w7, hw7⟩ : ∃ wd : World, wd = wi.drew := ⟨_, rfl⟩
                  have HS7 := Lib.hid (HS.out.step (show Below wi.heap.size wi w7 from by rw [hw7]; exact below_drewN' _ wi 1))
                  rw [← hw7]
                  clear hw7
                  go_wp2_with fail
                  go_roundw
                  case rel => exact ⟨j + 1, by omega, by go_num, by rw [HD.out], HS7⟩
                  case measure => simp [intOf] <;> omega
                subst e5
                by_cases e6 : z6 = y6
                rotate_left
                · have HD := Lib.hid (show decide ((z0, z1, z2, z3, z4, z5, y6) ∈ xs.take (j + 1)) = false from by rw [decide_eq_false_iff_not, HTJ.out]; intro hm; rcases List.mem_append.1 hm with h | h; exact HIN.out h; have := List.mem_singleton.1 h; simp only [Prod.mk.injEq] at this; omega)
                  go_wp2_with fail
                  go_region
                  obtain ⟨w7, hw7⟩ : ∃ wd : World, wd = wi.drew := ⟨_, rfl⟩
                  have HS7 := Lib.hid (HS.out.step (show Below wi.heap.size wi w7 from by rw [hw7]; exact below_drewN' _ wi 1))
                  rw [← hw7]
                  clear hw7
                  go_wp2_with fail
                  go_roundw
                  case rel => exact ⟨j + 1, by omega, by go_num, by rw [HD.out], HS7⟩
                  case measure => simp [intOf] <;> omega
                subst e6
                have HD := Lib.hid (show decide ((z0, z1, z2, z3, z4, z5, z6) ∈ xs.take (j + 1)) = true from by rw [decide_eq_true_eq, HTJ.out]; simp)
                go_wp2_with fail
                go_region
                obtain ⟨w7, hw7⟩ : ∃ wd : World, wd = wi.drew := ⟨_, rfl⟩
                have HS7 := Lib.hid (HS.out.step (show Below wi.heap.size wi w7 from by rw [hw7]; exact below_drewN' _ wi 1))
                rw [← hw7]
                clear hw7
                go_wp2_with fail
                go_roundw
                case rel => exact ⟨j + 1, by omega, by go_num, by rw [HD.out], HS7⟩
                case measure => simp [intOf] <;> omega
            · obtain rfl : j = n := by omega
              have htj : xs.take j = xs := List.take_of_length_le (by rw [HN.out]; exact Nat.le_refl _)
              rw [htj]
              clear htj
              have hsw := HB_wi.out.size
              by_cases hin : (y0, y1, y2, y3, y4, y5, y6) ∈ xs
              · have hdi := decide_eq_true hin
                rw [hdi]
                have hhs := hasB_mem hin
                have HTS := Lib.hid (show newE xs (ys.take (k + 1)) = newE xs (ys.take k) from by rw [HT.out, hhs]; rfl)
                have HAN := Lib.hid (show ∀ y ∈ ys.take (k + 1), hasB xs y = true → y ∈ xs from by
                  rw [HTA.out]
                  intro y hy h1
                  rcases List.mem_append.1 hy with h2 | h2
                  · exact HALL.out y h2 h1
                  · rw [List.mem_singleton.1 h2]; exact hin)
                clear hin hdi hhs
                go_wp2_with fail
                go_roundw
                case rel => exact ⟨k + 1, q, c', A', by omega, by omega, by go_num, Lib.hid (by rw [HTS.out]; exact HS.out), HAN⟩
                case measure => simp [intOf] <;> omega
              · have hdi := decide_eq_false hin
                rw [hdi]
                clear hdi
                have HH := Lib.hid (fun w' (hb : Below w1.heap.size w1 w') => l33Has_any A j c xs y0 y1 y2 y3 y4 y5 y6 w' (HR.out w' hb).1)
                cases hhs : hasB xs (y0, y1, y2, y3, y4, y5, y6) with
                | true =>
                  rw [hhs] at HH
                  have hC : mrgC a s xs a s ys = 5 := by unfold mrgC; rw [HG.out, if_pos rfl, if_pos ⟨rfl, rfl⟩, clashB_at HX.out hhs hin, if_pos rfl]
                  have HE := Lib.hid (mrg_post w hC (by decide))
                  clear hC hhs hin
                  go_wp2_with fail
                  go_still_tail 7, (by kernel_rfl)
                  change wpList _ _ _ _ _ wi.drew
                  obtain ⟨w7, hw7⟩ : ∃ wd : World, wd = wi.drew := ⟨_, rfl⟩
                  have HB_w7 := Lib.hid (HB_wi.out.trans ((show Below wi.heap.size wi w7 from by rw [hw7]; exact below_drewN' _ wi 1).mono HB_wi.out.size))
                  rw [← hw7]
                  clear hw7
                  go_wp2_with fail
                  refine (HH.out _ HB_w7.out).mono ?_
                  rintro e w8 ⟨rfl, hb8⟩
                  have HB_w8 := Lib.hid (HB_w7.out.trans (hb8.mono HB_w7.out.size))
                  clear hb8 F0 F1 F2 hc0 hc1 hc2 hc3 hc4 hc5 hc6
                  have F0 := (HX0.out.below HB_w8.out).f3
                  have F1 := (HX1.out.below HB_w8.out).f3
                  have F2 := (HX2.out.below HB_w8.out).f3
                  go_wp2_with fail
                  refine bodyPost_ret (v := .tuple #[.agg #[.int .i64 0, .int .i64 0, .slice none 0 0], .int .i64 5]) (by simp [results, Try.results46, go_sem, F2]) rfl ?_
                  rw [HE.out]
                  have hsz := HB_w8.out.size
                  have hch := put_chg (g := w.heap.size + 1 + 1) [.int .i64 0, .int .i64 0, .slice none 0 0] 0 (Chg.refl (w.heap.size + 1 + 1) (w.heap.size + 1 + 1 + 1) w8) (by omega) (by omega)
                  exact ⟨none, 0, 0, rfl, World.ownsRow_nil _ _ _ _, by omega, below_chg (HB1.out.trans (HB_w8.out.mono HB1.out.size)) hch (by omega) (by omega)⟩
                | false =>
                  rw [hhs] at HH
                  have HTS := Lib.hid (show newE xs (ys.take (k + 1)) = newE xs (ys.take k) ++ [(y0, y1, y2, y3, y4, y5, y6)] from by rw [HT.out, hhs]; simp)
                  have HAN := Lib.hid (show ∀ y ∈ ys.take (k + 1), hasB xs y = true → y ∈ xs from by
                    rw [HTA.out]
                    intro y hy h1
                    rcases List.mem_append.1 hy with h2 | h2
                    · exact HALL.out y h2 h1
                    · rw [List.mem_singleton.1 h2, hhs] at h1; cases h1)
                  clear hhs hin
                  go_wp2_with fail
                  go_still_tail 7, (by kernel_rfl)
                  change wpList _ _ _ _ _ wi.drew
                  obtain ⟨w7, hw7⟩ : ∃ wd : World, wd = wi.drew := ⟨_, rfl⟩
                  have HS7 := Lib.hid (HS.out.step (show Below wi.heap.size wi w7 from by rw [hw7]; exact below_drewN' _ wi 1))
                  rw [← hw7]
                  clear hw7
                  go_wp2_with fail
                  refine (HH.out _ HS7.out.below).mono ?_
                  rintro e w8 ⟨rfl, hb8⟩
                  have HS8 := Lib.hid (HS7.out.step hb8)
                  have HB_w8 := Lib.hid HS8.out.below
                  clear hb8 F0 F1 F2 hc0 hc1 hc2 hc3 hc4 hc5 hc6
                  have F0 := (HX0.out.below HB_w8.out).f3
                  have F1 := (HX1.out.below HB_w8.out).f3
                  have F2 := (HX2.out.below HB_w8.out).f3
                  have F3 := HS8.out.box.f3
                  obtain ⟨b1', o1', t0, t1, t2, t3, t4, t5, t6, hB', hx', _, hc0, hc1, hc2, hc3, hc4, hc5, hc6⟩ := (HQ.out _ HB_w8.out).1.ent hlt
                  obtain ⟨rfl, rfl⟩ : b1 = b1' ∧ o1 = o1' := by injection hB' with e; injection e with e1 e2; exact ⟨e1, e2⟩
                  obtain ⟨rfl, rfl, rfl, rfl, rfl, rfl, rfl⟩ : y0 = t0 ∧ y1 = t1 ∧ y2 = t2 ∧ y3 = t3 ∧ y4 = t4 ∧ y5 = t5 ∧ y6 = t6 := by rw [HX.out] at hx'; injection hx' with e; simpa only [Prod.mk.injEq] using e
                  clear hB' hx'
                  go_wp2_with fail
                  go_still_tail 6, (by kernel_rfl)
                  change wpList _ _ _ _ _ w8.drew
                  obtain ⟨w9, hw9⟩ : ∃ wd : World, wd = w8.drew := ⟨_, rfl⟩
                  have HS9 := Lib.hid (HS8.out.step (show Below w8.heap.size w8 w9 from by rw [hw9]; exact below_drewN' _ w8 1))
                  rw [← hw9]
                  clear hw9
                  go_wp2_with fail
                  refine (l33Add_any a s A' q c' (xs ++ newE xs (ys.take k)) y0 y1 y2 y3 y4 y5 y6 w9 (own_rd HS9.out.own) (by omega)).mono ?_
                  rintro e w10 ⟨A6, n6, c6, rfl, ho6, hn6, hb10⟩
                  have HS10 := Lib.hid (HS9.out.step hb10)
                  have HO10 := Lib.hid (own_base ho6 HS9.out.below.size)
                  have hq6 : n6 = q + 1 := by
                    have h1 := own_len_flat entC_len (by decide) ho6
                    have h2 := own_len_flat entC_len (by decide) HS9.out.own
                    rw [List.length_append] at h1
                    rw [h2] at h1
                    simpa using h1.symm
                  clear ho6 hb10 F0 F1 F2 F3 hc0 hc1 hc2 hc3 hc4 hc5 hc6 HS7 HS8 HB_w8
                  subst hq6
                  have F3 := HS10.out.box.f3
                  have HOUT := Lib.hid (OutS.make (a := a) (s := s) HS10.out.box HO10.out HS10.out.ge HS10.out.below)
                  go_wp2_with fail
                  go_roundw
                  case rel => exact ⟨k + 1, q + 1, c6, A6, by omega, by omega, by go_num, Lib.hid (by rw [HTS.out, ← List.append_assoc]; exact HOUT.out), HAN⟩
                  case measure => simp [intOf] <;> omega
        · obtain rfl : k = m := by omega
          have ht : ys.take k = ys := List.take_of_length_le (by rw [HM.out]; exact Nat.le_refl _)
          rw [ht] at HS HALL
          clear ht
          have hcl := clashB_none HALL.out
          have hql := own_len_flat entC_len (by decide) HS.out.own
          rw [List.length_append] at hql
          have F3 := HS.out.box.f3
          by_cases h4 : 400 < q
          · have h4i : decide ((q : Int) > 400) = true := by simp; omega
            have hC : mrgC a s xs a s ys = 3 := by unfold mrgC; rw [HG.out, if_pos rfl, if_pos ⟨rfl, rfl⟩, hcl, if_neg (by decide), hql, if_pos h4]
            have HE := Lib.hid (mrg_post w hC (by decide))
            clear hC hcl hql h4
            go_wp2_with fail
            refine bodyPost_ret (v := .tuple #[.agg #[.int .i64 0, .int .i64 0, .slice none 0 0], .int .i64 3]) (by simp [results, Try.results46, go_sem, F2]) rfl ?_
            rw [HE.out]
            have hsz := HB_wo.out.size
            have hch := put_chg (g := w.heap.size + 1 + 1) [.int .i64 0, .int .i64 0, .slice none 0 0] 0 (Chg.refl (w.heap.size + 1 + 1) (w.heap.size + 1 + 1 + 1) wo) (by omega) (by omega)
            exact ⟨none, 0, 0, rfl, World.ownsRow_nil _ _ _ _, by omega, below_chg (HB1.out.trans (HB_wo.out.mono HB1.out.size)) hch (by omega) (by omega)⟩
          · have h4i : decide ((q : Int) > 400) = false := by simp; omega
            have hC : mrgC a s xs a s ys = 0 := by unfold mrgC; rw [HG.out, if_pos rfl, if_pos ⟨rfl, rfl⟩, hcl, if_neg (by decide), hql, if_neg h4]
            have HE := Lib.hid (mrg_post0 w hC)
            clear hC hcl hql
            go_wp2_with fail
            refine bodyPost_ret (v := .tuple #[.agg #[.int .i64 a, .int .i64 s, .slice A' q c'], .int .i64 0]) (by simp [results, Try.results46, go_sem, F2]) rfl ?_
            rw [HE.out]
            have ho6 := HS.out.own
            have hsz1 := HB1.out.size
            have hch := put_chg (g := w.heap.size + 1 + 1) [.int .i64 a, .int .i64 s, .slice A' q c'] 0 (Chg.refl (w.heap.size + 1 + 1) (w.heap.size + 1 + 1 + 1) wo) (by omega) (by omega)
            exact ⟨A', q, c', rfl, own_base (own_chg ho6 hch (fun b hb => .inr (by have := (ho6.lt b hb).1; omega))) (by omega), by omega, below_chg (HB1.out.trans (HB_wo.out.mono HB1.out.size)) hch (by omega) (by omega)⟩
end Go.Proofs.Ytdldcjnidajmpaa

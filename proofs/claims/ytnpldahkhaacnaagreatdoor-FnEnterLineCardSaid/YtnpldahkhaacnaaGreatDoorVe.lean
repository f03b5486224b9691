/- Walks: two lines of the console (chapter 34). -/
import Derived.Test.YtnpldahkhaacnaaGreatDoorVl
import Derived.Test.YtnpldahkhaacnaaGreatDoorQzb
import Derived.Test.YtnpldahkhaacnaaGreatDoorJk
import Derived.Test.YtnpldahkhaacnaaGreatDoorZma
import Derived.IntWalk
namespace Go.Proofs.YtnpldahkhaacnaaGreatDoor
open Go.RowKit Go.Sort
set_option linter.unusedVariables false
set_option maxRecDepth 100000

theorem cell_belD {w w' : World} {b i : Nat} {v : Value} (h : w.cell? ⟨b, i, none⟩ = some v) (k : Below w.heap.size w w') : w'.cell? ⟨b, i, none⟩ = some v := (k.cell (p := ⟨b, i, none⟩) (cell_lt h)).trans h
theorem str_lit (l m : List UInt8) : ((str l).toList == m) = (l == m) := by rw [ByteArray.toList_eq, str_list]
theorem dec16 : dec 16 = [49, 54] := by rw [dec_big (by decide), dec_small (by decide)]; decide
theorem dec0 : dec 0 = [48] := by rw [dec_small (by decide)]; decide
theorem short16 : shortF [49, 54] = (16, true) := by have := shortF_dec (n := 16) (by decide); rwa [dec16] at this
theorem short0 : shortF [48] = (0, true) := by have := shortF_dec (n := 0) (by decide); rwa [dec0] at this
def openW : List UInt8 := [111, 112, 101, 110]
/-- The console's desk. -/
def deskC (op : Bool) (b s : Int) (A : Option Addr) (n c : Nat) : Array Value := #[.bool op, .int .i64 b, .int .i64 s, .slice A n c, .slice none 0 0]
theorem answer_ok (s : ByteArray) (w : World) : Calls Tryz.prog 105 #[.string s, .int .i64 0] w fun e w' => e = .returned (.string s) ∧ w' = w := by
  go_enter Tryz.func105, Tryz.ntmps105
  go_wp2_with fail
  go_ret
  exact ⟨rfl, rfl⟩
theorem numbers_open (w : World) : Calls Tryz.prog 106 #[.string (str openW)] w fun e w' => e = .returned (.int .i64 2) ∧ w' = w := by
  have hw_standing : ((str openW).toList == [115, 116, 97, 110, 100, 105, 110, 103]) = false := (str_lit openW [115, 116, 97, 110, 100, 105, 110, 103]).trans (by decide)
  have hw_ranks : ((str openW).toList == [114, 97, 110, 107, 115]) = false := (str_lit openW [114, 97, 110, 107, 115]).trans (by decide)
  have hw_lead : ((str openW).toList == [108, 101, 97, 100]) = false := (str_lit openW [108, 101, 97, 100]).trans (by decide)
  have hw_net : ((str openW).toList == [110, 101, 116]) = false := (str_lit openW [110, 101, 116]).trans (by decide)
  have hw_points : ((str openW).toList == [112, 111, 105, 110, 116, 115]) = false := (str_lit openW [112, 111, 105, 110, 116, 115]).trans (by decide)
  have hw_race : ((str openW).toList == [114, 97, 99, 101]) = false := (str_lit openW [114, 97, 99, 101]).trans (by decide)
  have hw_open : ((str openW).toList == [111, 112, 101, 110]) = true := (str_lit openW [111, 112, 101, 110]).trans (by decide)
  go_enter Tryz.func106, Tryz.ntmps106
  go_wp2_with fail
  go_ret
  exact ⟨rfl, rfl⟩
theorem Box.f5 {w : World} {b : Nat} {t : TypeId} {x0 x1 x2 x3 x4 : Value} (h : Box w b #[x0, x1, x2, x3, x4] t) : w.cell? ⟨b, 0, none⟩ = some x0 ∧ w.cell? ⟨b, 1, none⟩ = some x1 ∧ w.cell? ⟨b, 2, none⟩ = some x2 ∧ w.cell? ⟨b, 3, none⟩ = some x3 ∧ w.cell? ⟨b, 4, none⟩ = some x4 ∧ w.frozen? ⟨b, 0, none⟩ = false ∧ w.frozen? ⟨b, 1, none⟩ = false ∧ w.frozen? ⟨b, 2, none⟩ = false ∧ w.frozen? ⟨b, 3, none⟩ = false ∧ w.frozen? ⟨b, 4, none⟩ = false ∧ b < w.heap.size :=
  ⟨h.cell rfl, h.cell rfl, h.cell rfl, h.cell rfl, h.cell rfl, h.fz, h.fz, h.fz, h.fz, h.fz, h.lt⟩
set_option maxHeartbeats 4000000 in
theorem openLine_any (d : Nat) (x0 x1 x2 x3 x4 : Value) (A : Option Addr) (n c : Nat) (w : World) (hd : Box w d #[x0, x1, x2, x3, x4] 61) (hr : Rd w 1 A n (ints [16, 0])) :
    Calls Tryz.prog 107 #[.pointer (some ⟨d, 0, none⟩), .slice A n c] w fun e w' => ∃ s, e = .returned (.string s) ∧ Box w' d (deskC true 16 0 none 0 0) 61 ∧ Chg d (d + 1) w w' := by
  have hn : n = 2 := by have := hr.len; simp [ints] at this; omega
  subst hn
  obtain ⟨bb, oo, y0, rfl, hy0, -, hc0⟩ := hr.int (k := 0) (by omega)
  obtain ⟨bb', oo', y1, hA, hy1, -, hc1⟩ := hr.int (k := 1) (by omega)
  injection hA with hA
  injection hA with e1 e2
  subst e1 e2
  obtain rfl : y0 = 16 := by simpa using hy0.symm
  obtain rfl : y1 = 0 := by simpa using hy1.symm
  have hdl := hd.lt
  have HD := Lib.hid hd
  have HC0 := Lib.hid (show w.cell? ⟨bb, oo, none⟩ = some (.int .i64 16) from by simpa using hc0); have HC1 := Lib.hid hc1
  have HI := Lib.hid (fun w' => implIsRegister_any 16 0 none 0 0 [] w' ⟨⟨rfl, by omega, fun h => by omega⟩, Nat.le_refl _⟩)
  rw [show regB 16 0 [] = true from by decide] at HI
  clear hd hr hc0 hc1 hy0 hy1
  go_enter Tryz.func107, Tryz.ntmps107
  go_wp2_with fail
  obtain ⟨S, hSE, hSI⟩ : ∃ S : World → Prop, (∀ w9, S w9 → (w9.cell? ⟨bb, oo, none⟩ = some (.int .i64 16) ∧ w9.cell? ⟨bb, oo + 1, none⟩ = some (.int .i64 0))) ∧ (∀ w9, Below w.heap.size w w9 → S w9) :=
    ⟨fun w9 => Below w.heap.size w w9, fun _ hb => ⟨cell_belD HC0.out hb, cell_belD HC1.out hb⟩, fun _ h => h⟩
  have HSE := Lib.hid hSE; have HSI := Lib.hid hSI
  clear hSE hSI
  refine wp_region_T2 (n := 9) S (fun j => decide (8 ≤ j)) (by kernel_rfl) rfl ?_
  intro ops HOPS
  obtain ⟨wd, hwd, hbd⟩ : ∃ wd : World, wd = w.drew ∧ Below w.heap.size w wd := ⟨_, rfl, below_drewN' _ w 1⟩
  rw [← hwd]
  clear hwd
  have hS := HSI.out _ hbd
  refine wpAnyT_take 0 (.slice (some ⟨bb, oo, none⟩) 2 c) (by rw [HOPS.out]; rfl) (by rw [HOPS.out]; kernel_rfl) (by exact fun _ _ _ h => h) (by rfl) (fun w1 hS => by go_simp) hS ?_
  go_simp
  refine wpAnyT_take 1 (.pointer (some ⟨bb, oo, none⟩)) (by rw [HOPS.out]; rfl) (by rw [HOPS.out]; kernel_rfl) (by exact fun _ _ _ h => h) (by rfl) (fun w1 hS => by go_simp) hS ?_
  go_simp
  refine wpAnyT_take 2 (.int .i64 16) (by rw [HOPS.out]; rfl) (by rw [HOPS.out]; kernel_rfl) (by exact fun _ _ _ h => h) (by rfl) (fun w1 hS => by obtain ⟨k0, k1⟩ := HSE.out _ hS; go_simp) hS ?_
  go_simp
  refine wpAnyT_take 3 (.slice (some ⟨bb, oo, none⟩) 2 c) (by rw [HOPS.out]; rfl) (by rw [HOPS.out]; kernel_rfl) (by exact fun _ _ _ h => h) (by rfl) (fun w1 hS => by go_simp) hS ?_
  go_simp
  refine wpAnyT_take 4 (.pointer (some ⟨bb, oo + 1, none⟩)) (by rw [HOPS.out]; rfl) (by rw [HOPS.out]; kernel_rfl) (by exact fun _ _ _ h => h) (by rfl) (fun w1 hS => by go_simp) hS ?_
  go_simp
  refine wpAnyT_take 5 (.int .i64 0) (by rw [HOPS.out]; rfl) (by rw [HOPS.out]; kernel_rfl) (by exact fun _ _ _ h => h) (by rfl) (fun w1 hS => by obtain ⟨k0, k1⟩ := HSE.out _ hS; go_simp) hS ?_
  go_simp
  refine wpAnyT_take 6 (.agg #[.int .i64 16, .int .i64 0, .slice none 0 0]) (by rw [HOPS.out]; rfl) (by rw [HOPS.out]; kernel_rfl) (by exact fun _ _ _ h => h) (by rfl) (fun w1 hS => by go_simp) hS ?_
  go_simp
  refine wpAnyT_one 7 (by rw [HOPS.out]; rfl) (by rw [HOPS.out]; kernel_rfl) ?_
  intro K' hK
  have HK := Lib.hid hK
  clear hK
  go_simp
  refine HK.out _ _ (.inr (HSI.out _ (hbd.alloc hbd.size _))) ?_
  clear HK
  obtain ⟨wa, hwa, XA, hba, hsa⟩ := one_box wd #[.int .i64 0, .int .i64 0, .slice none 0 0] 32
  rw [← hwa]
  clear hwa
  have FA := XA.f3
  go_simp
  refine wpAnyT_one 8 (by rw [HOPS.out]; rfl) (by rw [HOPS.out]; kernel_rfl) ?_
  intro K' hK
  have HK := Lib.hid hK
  clear hK
  go_simp
  refine HK.out _ _ (.inl (by decide)) ?_
  clear HK
  go_simp
  refine wpAnyT_done (by rw [HOPS.out]; kernel_rfl) ?_ _
  clear FA
  obtain ⟨w2, hw2⟩ : ∃ w2 : World, w2 = ((wa.setCell ⟨wd.heap.size, 0, none⟩ (.int .i64 16)).setCell ⟨wd.heap.size, 1, none⟩ (.int .i64 0)).setCell ⟨wd.heap.size, 2, none⟩ (.slice none 0 0) := ⟨_, rfl⟩
  have hba2 := hbd.trans (hba.mono hbd.size)
  have hzd := hbd.size
  have hb2 : Below w.heap.size w w2 := by rw [hw2]; exact ((hba2.setCell (p := ⟨wd.heap.size, 0, none⟩) hzd _).setCell (p := ⟨wd.heap.size, 1, none⟩) hzd _).setCell (p := ⟨wd.heap.size, 2, none⟩) hzd _
  have X2 : Box w2 wd.heap.size #[.int .i64 16, .int .i64 0, .slice none 0 0] 32 := by rw [hw2]; have := ((XA.set 0 (.int .i64 16)).set 1 (.int .i64 0)).set 2 (.slice none 0 0); simpa using this
  rw [← hw2]
  clear hw2 XA hba hba2 hS hbd
  have HX2 := Lib.hid X2
  have HB2 := Lib.hid hb2
  have F2 := X2.f3
  clear X2 hb2
  go_wp2_with fail
  clear F2
  refine (HI.out _).mono ?_
  rintro e w3 ⟨rfl, hb3⟩
  have HB3 := Lib.hid (HB2.out.trans (hb3.mono HB2.out.size))
  have F3 := (HX2.out.below hb3).f3
  have HD3 := Lib.hid (HD.out.below HB3.out)
  have FD := HD3.out.f5
  clear hb3
  go_wp2_with fail
  have hdl3 := HD3.out.lt
  go_ret
  refine ⟨_, rfl, ?_, ?_⟩
  · have := ((((HD3.out.set 0 (.bool true)).set 1 (.int .i64 16)).set 2 (.int .i64 0)).set 3 (.slice none 0 0)).set 4 (.slice none 0 0)
    simpa [deskC] using this
  · (repeat refine chg_set ?_ (Nat.le_refl _) (by omega) _); exact Chg.of_below HB3.out
set_option maxHeartbeats 8000000 in
theorem exec_open (d : Nat) (x0 x1 x2 x3 x4 : Value) (w : World) (hd : Box w d #[x0, x1, x2, x3, x4] 61) (HL : ∀ w', Below w.heap.size w w' → Libs w') :
    Calls Tryz.prog 71 #[.pointer (some ⟨d, 0, none⟩), .string (str openL)] w fun e w' => ∃ s : List UInt8, e = .returned (.string (str s)) ∧ Box w' d (deskC true 16 0 none 0 0) 61 ∧ Chg d (d + 1) w w' := by
  have HW := Lib.hid (wordsOfC_any (str openL) (by rw [str_size]; decide) w (HL w (Below.refl _ _)).max)
  rw [str_list, open_words] at HW
  have HLL := Lib.hid HL
  have HD := Lib.hid hd
  have hdl := hd.lt
  clear HL hd
  have hw0 : str openW = str openW := rfl
  have hw_start : ((str openW).toList == [115, 116, 97, 114, 116]) = false := (str_lit openW [115, 116, 97, 114, 116]).trans (by decide)
  have hw_correct : ((str openW).toList == [99, 111, 114, 114, 101, 99, 116]) = false := (str_lit openW [99, 111, 114, 114, 101, 99, 116]).trans (by decide)
  have hw_enter : ((str openW).toList == [101, 110, 116, 101, 114]) = false := (str_lit openW [101, 110, 116, 101, 114]).trans (by decide)
  have hw_rule : ((str openW).toList == [114, 117, 108, 101]) = false := (str_lit openW [114, 117, 108, 101]).trans (by decide)
  have hw_open : ((str openW).toList == [111, 112, 101, 110]) = true := (str_lit openW [111, 112, 101, 110]).trans (by decide)
  go_enter Tryz.func71, Tryz.ntmps71
  go_wp2_with fail
  refine HW.out.mono ?_
  rintro e w1 ⟨A, n, c, rfl, hr, hb, hnc⟩
  have hn : n = 3 := by have := hr.len; simp [strs] at this; omega
  subst hn
  obtain ⟨bb, oo, rfl, hc⟩ := hr.pos (by omega)
  have hc0 : w1.cell? ⟨bb, oo, none⟩ = some (.string (str openW)) := by have h := hc 0 _ rfl; simp only [Nat.add_zero] at h; exact h
  have HB1 := Lib.hid hb
  have HD1 := Lib.hid (HD.out.below hb)
  have HR1 := Lib.hid (hr.dropS 1 (by omega))
  have hc1 : c ≠ 1 := by omega
  have hcd : decide (1 < c) = true := decide_eq_true (by omega)
  clear hb hr hc HW HD
  have HSH := Lib.hid (fun A' h => shorts_any A' 2 (c - 1) [[49, 54], [48]] w1 h (by omega) (by intro x hx; simp at hx; rcases hx with rfl | rfl <;> simp) (fun w2 h2 => HLL.out _ (HB1.out.trans (h2.mono HB1.out.size))))
  go_wp2_with fail
  refine (HSH.out _ HR1.out).mono ?_
  rintro e w2 ⟨A2, n2, c2, rfl, hr2, hb2⟩
  have ha : allShort [[49, 54], [48]] = true := by unfold allShort; simp only [List.all_cons, List.all_nil]; rw [short16, short0]; rfl
  rw [ha]
  have hr2 := hr2 ha
  rw [show (([[49, 54], [48]] : List (List UInt8)).map fun w => (shortF w).1) = [16, 0] from by simp only [List.map_cons, List.map_nil]; rw [short16, short0]] at hr2
  have hn2 : n2 = 2 := by have := hr2.len; simp [ints] at this; omega
  subst hn2
  have HR2 := Lib.hid hr2
  have HD2 := Lib.hid (HD1.out.below hb2)
  have HB2 := Lib.hid (HB1.out.trans (hb2.mono HB1.out.size))
  clear hb2 hr2 HR1 HSH hc0
  go_wp2_with fail
  refine (numbers_open _).mono ?_
  rintro e w' ⟨rfl, rfl⟩
  go_wp2_with fail
  refine (openLine_any d _ _ _ _ _ _ _ _ _ HD2.out HR2.out).mono ?_
  rintro e w3 ⟨s3, rfl, hx3, hc3⟩
  have HX3 := Lib.hid hx3
  have HC3 := Lib.hid (Chg.trans (Chg.of_below HB2.out) hc3)
  clear hx3 hc3
  go_wp2_with fail
  go_ret
  exact ⟨s3.data.toList, by rw [str_data]; rfl, HX3.out, HC3.out⟩
theorem cor_first {r b c t : Int} (h : ValidE r b c t) : corC 16 0 [] (r, b, 0, c, t, 0, 0) = 0 ∧ corB 16 0 [] (r, b, 0, c, t, 0, 0) = 16 ∧ corS 16 0 [] (r, b, 0, c, t, 0, 0) = 0 ∧ corL 16 0 [] (r, b, 0, c, t, 0, 0) = [(r, b, 1, c, t, 0, 0)] := by
  have hb : bump [] (r, b, 0, c, t, 0, 0) = (r, b, 1, c, t, 0, 0) := rfl
  have hc : corC 16 0 [] (r, b, 0, c, t, 0, 0) = 0 := by
    unfold corC
    rw [if_pos (by decide), if_pos rfl, hb]
    unfold addC
    rw [if_pos (by decide)]
    have h1 := withinB_iff.1 h.1
    have h2 := finW_ok h.2
    have he : entB 16 (r, b, 1, c, t, 0, 0) = true := by
      have hf := h.2
      have hfb : finB (b, c, t) = true := by
        unfold finW at hf
        unfold finB
        simp only [Bool.and_eq_true] at hf
        by_cases h0 : c = 0
        · rw [if_pos h0] at hf ⊢
          exact hf.2
        · rw [if_neg h0] at hf ⊢
          rw [hf.2, withinB_iff.2 (show (1 : Int) ≤ c ∧ c ≤ 9 by omega)]
          rfl
      unfold entB
      simp only [E.race, E.boat, E.code, E.time, E.kind, E.points]
      rw [withinB_iff.2 h1, withinB_iff.2 (show (0 : Int) ≤ b ∧ b ≤ 16 - 1 by omega), hfb]
      rfl
    rw [if_pos (by rw [he]; rfl), if_neg (by simp [hasB]), if_neg (by simp)]
  refine ⟨hc, ?_, ?_, ?_⟩
  · unfold corB; rw [if_pos hc]
  · unfold corS; rw [if_pos hc]
  · unfold corL; rw [if_pos hc, hb]; rfl
end Go.Proofs.YtnpldahkhaacnaaGreatDoor

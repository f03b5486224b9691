/- The walk of FnEnterLine. -/
import Derived.Test.YtnpldahkhaacnaaGreatDoorVh
import Derived.Test.YtnpldahkhaacnaaGreatDoorVg
import Derived.Test.YtnpldahkhaacnaaGreatDoorZmc
import Derived.Lib.QuietBelow
namespace Go.Proofs.YtnpldahkhaacnaaGreatDoor
open Go.RowKit Go.Sort
set_option linter.unusedVariables false
set_option maxRecDepth 100000

theorem cat_txt (r b c t : Int) : (⟨#[111, 112, 101, 110, 32, 49, 54, 32, 48, 10]⟩ : ByteArray) ++ str (enterS r b c t) ++ ⟨#[10]⟩ = str (txtL r b c t) := by
  have e1 : (⟨#[111, 112, 101, 110, 32, 49, 54, 32, 48, 10]⟩ : ByteArray) = str (openL ++ [10]) := rfl
  have e2 : (⟨#[10]⟩ : ByteArray) = str [10] := rfl
  rw [e1, e2, str_add, str_add]
  unfold txtL
  congr 1
theorem set_alloc {w : World} {b i : Nat} {v : Value} {o : Obj} (h : b < w.heap.size) : (w.alloc o).setCell ⟨b, i, none⟩ v = (w.setCell ⟨b, i, none⟩ v).alloc o := by
  unfold World.alloc World.setCell
  simp only
  congr 1
  apply Array.ext_getElem?
  intro j
  simp only [Array.getElem?_modify, Array.getElem?_push, Array.size_modify]
  by_cases e : j = w.heap.size
  · subst e
    simp [show ¬ b = w.heap.size by omega]
  · simp [e]
theorem fz7 {w : World} {b : Nat} {vs : Array Value} {t : TypeId} (h : Box w b vs t) : w.frozen? ⟨b, 2, none⟩ = false := h.fz
theorem str_empty {L : List UInt8} : (str L).toList.isEmpty = L.isEmpty := by rw [ByteArray.toList_eq, str_list]
set_option maxHeartbeats 16000000 in
theorem fnEnterLine_walk (a0 : Option Addr) (len0 cap0 : Nat) (z0 : List Int) (w : World) (HL0 : ∀ w', Below w.heap.size w w' → Libs w') (v0 : IsRow .u8 w a0 len0 cap0 z0) :
    Calls Tryz.prog 3 #[.slice a0 len0 cap0] w fun e w' => e = .returned (.bool true) ∧ Below w.heap.size w w' := by
  have hle := v0.lenle
  have HL := Lib.hid HL0
  clear HL0
  by_cases hbig : 4096 < len0
  · have hd : decide (4096 < len0) = true := by simpa using hbig
    have HB := Lib.hid (big_any a0 len0 cap0 hle w)
    rw [hd] at HB
    clear hd v0
    go_enter Tryz.func3, Tryz.ntmps3
    go_wp2_with fail
    refine HB.out.mono ?_
    rintro e w' ⟨rfl, rfl⟩
    go_wp2_with fail
    go_ret
    exact ⟨rfl, Below.refl _ _⟩
  have hd : decide (4096 < len0) = false := by simpa using hbig
  have HB := Lib.hid (big_any a0 len0 cap0 hle w)
  rw [hd] at HB
  clear hd
  have hcode := code0_of v0 (by omega)
  generalize z0.take len0 = code at hcode
  clear v0
  have HX1 := Lib.hid (fun W hb => drawEL_any w a0 len0 cap0 code hcode W hb)
  clear hcode
  go_enter Tryz.func3, Tryz.ntmps3
  go_wp2_with fail
  refine HB.out.mono ?_
  rintro e w' ⟨rfl, rfl⟩
  go_wp2_with fail
  refine (HX1.out _ (Below.refl _ _)).mono ?_
  rintro e W1 ⟨x0, x1, x2, x3, x4, x5, x6, rfl, hb⟩
  have B_W1 := Lib.hid (hb)
  have z_W1 := hb.size
  clear hb
  try simp only
  obtain ⟨W2, hw, Xx, hb, hs⟩ := one_box W1 #[.int .i64 x0, .int .i64 x1, .int .i64 x2, .int .i64 x3, .int .i64 x4, .int .i64 x5, .int .i64 x6] 25
  replace Xx := Lib.hid Xx
  have B_W2 := Lib.hid (B_W1.out.trans (hb.mono B_W1.out.size))
  have z_W2 := hb.size
  have l_x := Xx.out.lt
  have e_W2 : W2.heap.size = W1.heap.size + 1 := hs
  replace e_W2 := Lib.hid e_W2
  have HW_W2 := Lib.hid hw
  clear hb hs hw
  go_wp2_with fail
  rw [← HW_W2.out]
  clear HW_W2
  refine (implEnter_any x0 x1 x2 x3 x4 x5 x6 _ (fun w' hb => (HL.out _ (B_W2.out.trans (hb.mono B_W2.out.size))).pow)).mono ?_
  rintro e W3 ⟨rfl, hb⟩
  have B_W3 := Lib.hid (B_W2.out.trans (hb.mono B_W2.out.size))
  have z_W3 := hb.size
  replace Xx := Lib.hid (Xx.out.below hb)
  clear hb
  try simp only
  have Fx := Xx.out.f7
  go_wp2_with fail
  clear Fx
  refine (specEnter_any x0 x1 x2 x3 x4 x5 x6 _).mono ?_
  rintro e W4 ⟨rfl, hb⟩
  have B_W4 := Lib.hid (B_W3.out.trans (hb.mono B_W3.out.size))
  have z_W4 := hb.size
  replace Xx := Lib.hid (Xx.out.below hb)
  clear hb
  try simp only
  have hst : ((str (enterS x0 x1 x3 x4)).toList == (str (enterS x0 x1 x3 x4)).toList) = true := by simp
  clear HX1
  go_wp2_with fail
  have hlen := enter_len (r := x0) (b := x1) (c := x3) (t := x4)
  refine (implReadEL_any (str (enterS x0 x1 x3 x4)) (by rw [str_size]; omega) _ (fun w' hb => HL.out _ (B_W4.out.trans (hb.mono B_W4.out.size)))).mono ?_
  rintro e W5 ⟨r, b, c, t, ok, rfl, hxl, hb⟩
  have B_W5 := Lib.hid (B_W4.out.trans (hb.mono B_W4.out.size))
  have z_W5 := hb.size
  replace Xx := Lib.hid (Xx.out.below hb)
  clear hb
  try simp only
  rw [str_list] at hxl
  obtain ⟨W6, hw, Xy, hb, hs⟩ := one_box W5 #[.int .i64 r, .int .i64 b, .int .i64 0, .int .i64 c, .int .i64 t, .int .i64 0, .int .i64 0] 25
  replace Xy := Lib.hid Xy
  have B_W6 := Lib.hid (B_W5.out.trans (hb.mono B_W5.out.size))
  have z_W6 := hb.size
  replace Xx := Lib.hid (Xx.out.below hb)
  have l_y := Xy.out.lt
  have e_W6 : W6.heap.size = W5.heap.size + 1 := hs
  replace e_W6 := Lib.hid e_W6
  have HW_W6 := Lib.hid hw
  clear hb hs hw
  by_cases hne : enterS x0 x1 x3 x4 = []
  · have hok : ok = false := by
      cases ok with
      | false => rfl
      | true =>
        obtain ⟨hv, he⟩ := hxl.1 rfl
        exact absurd (he.symm.trans hne) (enterS_yes hv)
    subst hok
    have hem : (str (enterS x0 x1 x3 x4)).toList.isEmpty = true := by rw [str_empty, hne]; rfl
    clear hxl hne hst
    go_wp2_with fail
    go_ret
    rw [← HW_W6.out]
    exact ⟨rfl, B_W6.out⟩
  have hv : ValidE x0 x1 x3 x4 := enterS_valid hne
  obtain ⟨rfl, rfl, rfl, rfl, rfl⟩ := xl_unique hxl (show XL (enterS x0 x1 x3 x4) x0 x1 x3 x4 true from ⟨fun _ => ⟨hv, rfl⟩, fun h => by cases h⟩)
  have hem : (str (enterS r b c t)).toList.isEmpty = false := by
    rw [str_empty]
    cases hh : enterS r b c t with
    | nil => exact absurd hh hne
    | cons a l => rfl
  have HCAT := Lib.hid (cat_txt r b c t)
  have HV := Lib.hid hv
  clear hxl hne hv hst hlen
  have Fx := Xx.out.f7
  have Fy := Xy.out.f7
  rw [HW_W6.out] at Fx Fy
  have n1 : (r != r) = false := by simp
  have n2 : (b != b) = false := by simp
  have n3 : (c != c) = false := by simp
  have n4 : (t != t) = false := by simp
  have z1 : (str (enterS r b c t)).size ≤ 60 := by rw [str_size]; exact enter_len
  have z2 : ((⟨#[111, 112, 101, 110, 32, 49, 54, 32, 48, 10]⟩ : ByteArray) ++ str (enterS r b c t)).size ≤ 70 := by
    have e1 : (⟨#[111, 112, 101, 110, 32, 49, 54, 32, 48, 10]⟩ : ByteArray) = str (openL ++ [10]) := rfl
    rw [e1, str_add, str_size, List.length_append]
    have h1 := enter_len (r := r) (b := b) (c := c) (t := t)
    have h2 : (openL ++ [10]).length = 10 := rfl
    omega
  go_wp2_with fail
  rw [← HW_W6.out]
  clear HW_W6 Fx Fy
  rw [HCAT.out]
  clear Xx
  refine (consReg_two r b c t HV.out _ (fun w' hb => HL.out _ (B_W6.out.trans (hb.mono B_W6.out.size)))).mono ?_
  rintro e W7 ⟨A5, c5, rfl, o5, hb⟩
  have B_W7 := Lib.hid (B_W6.out.trans (hb.mono B_W6.out.size))
  have z_W7 := hb.size
  replace Xy := Lib.hid (Xy.out.below hb)
  have O5 := Lib.hid o5
  clear hb
  try simp only
  obtain ⟨wS, hwS⟩ : ∃ wz : World, wz = W7.setCell ⟨W5.heap.size, 2, none⟩ (.int .i64 1) := ⟨_, rfl⟩
  have hc : Chg (W5.heap.size) (W5.heap.size + 1) W7 wS := by rw [hwS]; refine chg_set ?_ (by omega) (by omega) _; exact Chg.refl _ _ _
  have YY : Box wS (W5.heap.size) #[.int .i64 r, .int .i64 b, .int .i64 1, .int .i64 c, .int .i64 t, .int .i64 0, .int .i64 0] 25 := by rw [hwS]; have := Xy.out.set 2 (.int .i64 1); simpa using this
  have hss : wS.heap.size = W7.heap.size := by rw [hwS]; simp [World.setCell]
  have OS := own_chg O5.out hc (fun q hq => .inr (by have := (O5.out.lt q hq).1; omega))
  have BS := below_chg B_W7.out hc (by omega) B_W7.out.size
  obtain ⟨wT, hwT, XT, hbT, -⟩ := one_box wS #[.int .i64 16, .int .i64 0, .slice A5 1 c5] 32
  rw [hss] at XT
  have HQ := Lib.hid XT
  have HO := Lib.hid (own_below OS hbT)
  have HYY := Lib.hid (YY.below hbT)
  have B_T := Lib.hid (BS.trans (hbT.mono BS.size))
  rw [hwS] at hwT
  have HW2 := Lib.hid hwT
  clear hwS hc YY hss OS BS XT hbT hwT
  obtain ⟨W8, hw, Xq, hb, hs⟩ := one_box W7 #[.int .i64 16, .int .i64 0, .slice A5 1 c5] 32
  replace Xq := Lib.hid Xq
  have B_W8 := Lib.hid (B_W7.out.trans (hb.mono B_W7.out.size))
  have z_W8 := hb.size
  replace O5 := Lib.hid (own_below O5.out hb)
  replace Xy := Lib.hid (Xy.out.below hb)
  have l_q := Xq.out.lt
  have e_W8 : W8.heap.size = W7.heap.size + 1 := hs
  replace e_W8 := Lib.hid e_W8
  have HW_W8 := Lib.hid hw
  clear hb hs hw
  have Fq := Xq.out.f3
  have Fy := Xy.out.f7
  have Fyz := fz7 Xy.out
  rw [HW_W8.out] at Fq Fy Fyz
  go_wp2_with fail
  refine gen_world (p := fun wz => Code.wp Tryz.prog _ _ _ wz) (fun wz => wz = wT) (by first | (rw [HW2.out]; done) | (rw [HW2.out]; exact set_alloc (by omega))) ?_
  intro wz hz
  rw [hz]
  clear HW2 Fq Fy Fyz HW_W8 hz
  obtain ⟨g5, y0, y1, y2, y3, y4, y5, y6, rfl, -, -, hx, -, d0, d1, d2, d3, d4, d5, d6, -⟩ := own_ent_at HO.out (k := 0) (by omega)
  simp only [List.getElem?_cons_zero, Option.some.injEq, Prod.mk.injEq] at hx
  obtain ⟨rfl, rfl, rfl, rfl, rfl, rfl, rfl⟩ := hx
  simp only [Nat.zero_mul, Nat.zero_add] at d0 d1 d2 d3 d4 d5 d6
  have kq0 := cell_regrown (HQ.out.cell (i := 2) rfl)
  have kq1 := cell_regrown (d0)
  have kq2 := cell_regrown (d1)
  have kq3 := cell_regrown (d2)
  have kq4 := cell_regrown (d3)
  have kq5 := cell_regrown (d4)
  have kq6 := cell_regrown (d5)
  have kq7 := cell_regrown (d6)
  have kq8 := cell_regrown (HYY.out.cell (i := 0) rfl)
  have kq9 := cell_regrown (HYY.out.cell (i := 1) rfl)
  have kq10 := cell_regrown (HYY.out.cell (i := 2) rfl)
  have kq11 := cell_regrown (HYY.out.cell (i := 3) rfl)
  have kq12 := cell_regrown (HYY.out.cell (i := 4) rfl)
  have kq13 := cell_regrown (HYY.out.cell (i := 5) rfl)
  have kq14 := cell_regrown (HYY.out.cell (i := 6) rfl)
  refine wp_region_quiet_below (by kernel_rfl) (by kernel_rfl) ?_
  repeat (first | go_big_quiet_step ((fail)) | quiet_step ((fail)))
  refine wpQuiet_nil ?_
  intro _ hw'
  obtain ⟨⟨dq, osq⟩, hw''⟩ := hw'
  subst hw''
  obtain ⟨wE, hq0, hE⟩ : ∃ wnew, wnew = grow (redrawn wT dq) osq ∧ Below wT.heap.size wT wnew := ⟨_, rfl, below_regrown _ _ _⟩
  rw [← hq0]
  clear hq0 kq0 kq1 kq2 kq3 kq4 kq5 kq6 kq7 kq8 kq9 kq10 kq11 kq12 kq13 kq14
  go_wp2_with fail
  go_ret
  exact ⟨rfl, B_T.out.trans (hE.mono B_T.out.size)⟩
end Go.Proofs.YtnpldahkhaacnaaGreatDoor

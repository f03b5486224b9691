/- Walks: points of sailing, tacks (chapter 8). -/
import Derived.Test.YtpaamhkgokkgpaaGh
import Derived.Test.YtpaamhkgokkgpaaGr
import Derived.Deep.RegionHeld3
namespace Go.Proofs.Ytpaamhkgokkgpaa
open Go.RowKit
set_option linter.unusedVariables false
set_option maxRecDepth 100000

def crossF (a b c d : Int) : Int := a * d - b * c
def dotF (a b c d : Int) : Int := a * c + b * d
/-- The point of sailing: wind (x, y), heading (hx, hy). -/
def sailF (x y hx hy : Int) : Int :=
  if max (crossF hx hy x y) (-crossF hx hy x y) > max (dotF hx hy x y) (-dotF hx hy x y) ∨ dotF hx hy x y = 0 then 2 else if dotF hx hy x y < 0 then 1 else 3
def tackF (x y hx hy : Int) : Int := if crossF hx hy x y < 0 then 1 else if crossF hx hy x y > 0 then 2 else 0
theorem unit_mul {h x : Int} (h1 : -1 ≤ h) (h2 : h ≤ 1) (x1 : -1000 ≤ x) (x2 : x ≤ 1000) : -1000 ≤ h * x ∧ h * x ≤ 1000 := by
  rcases (show h = -1 ∨ h = 0 ∨ h = 1 by omega) with e | e | e <;> rw [e] <;> omega
theorem alloc2 (w : World) (o1 o2 : Obj) : Below w.heap.size w ((w.alloc o1).alloc o2) := ((Below.refl _ _).alloc (Nat.le_refl _) o1).alloc (by simp) o2
structure Small (x y hx hy : Int) : Prop where
  x1 : -1000 ≤ x
  x2 : x ≤ 1000
  y1 : -1000 ≤ y
  y2 : y ≤ 1000
  a1 : -1 ≤ hx
  a2 : hx ≤ 1
  b1 : -1 ≤ hy
  b2 : hy ≤ 1
theorem scalar_any (x y hx hy : Int) (hs : Small x y hx hy) (w : World) :
    Calls Try.prog 94 #[.agg #[.int .i64 x, .int .i64 y], .agg #[.int .i64 hx, .int .i64 hy]] w fun e w' => e = .returned (.int .i64 (dotF hx hy x y)) ∧ Below w.heap.size w w' := by
  have m1 := unit_mul hs.a1 hs.a2 hs.x1 hs.x2
  have m2 := unit_mul hs.a1 hs.a2 hs.y1 hs.y2
  have m3 := unit_mul hs.b1 hs.b2 hs.x1 hs.x2
  have m4 := unit_mul hs.b1 hs.b2 hs.y1 hs.y2
  obtain ⟨m1a, m1b⟩ := m1
  obtain ⟨m2a, m2b⟩ := m2
  obtain ⟨m3a, m3b⟩ := m3
  obtain ⟨m4a, m4b⟩ := m4
  have HB := Lib.hid (fun o1 o2 => alloc2 w o1 o2)
  go_enter Try.func94, Try.ntmps94
  go_wp2_with fail
  go_ret
  exact ⟨rfl, HB.out _ _⟩
theorem l01Cross_any (x y hx hy : Int) (hs : Small x y hx hy) (w : World) :
    Calls Try.prog 90 #[.agg #[.int .i64 hx, .int .i64 hy], .agg #[.int .i64 x, .int .i64 y]] w fun e w' => e = .returned (.int .i64 (crossF hx hy x y)) ∧ Below w.heap.size w w' := by
  have m1 := unit_mul hs.a1 hs.a2 hs.x1 hs.x2
  have m2 := unit_mul hs.a1 hs.a2 hs.y1 hs.y2
  have m3 := unit_mul hs.b1 hs.b2 hs.x1 hs.x2
  have m4 := unit_mul hs.b1 hs.b2 hs.y1 hs.y2
  obtain ⟨m1a, m1b⟩ := m1
  obtain ⟨m2a, m2b⟩ := m2
  obtain ⟨m3a, m3b⟩ := m3
  obtain ⟨m4a, m4b⟩ := m4
  have HB := Lib.hid (fun o1 o2 => alloc2 w o1 o2)
  go_enter Try.func90, Try.ntmps90
  go_wp2_with fail
  go_ret
  exact ⟨rfl, HB.out _ _⟩
theorem l01Dot_any (x y hx hy : Int) (hs : Small x y hx hy) (w : World) :
    Calls Try.prog 92 #[.agg #[.int .i64 hx, .int .i64 hy], .agg #[.int .i64 x, .int .i64 y]] w fun e w' => e = .returned (.int .i64 (dotF hx hy x y)) ∧ Below w.heap.size w w' := by
  have m1 := unit_mul hs.a1 hs.a2 hs.x1 hs.x2
  have m2 := unit_mul hs.a1 hs.a2 hs.y1 hs.y2
  have m3 := unit_mul hs.b1 hs.b2 hs.x1 hs.x2
  have m4 := unit_mul hs.b1 hs.b2 hs.y1 hs.y2
  obtain ⟨m1a, m1b⟩ := m1
  obtain ⟨m2a, m2b⟩ := m2
  obtain ⟨m3a, m3b⟩ := m3
  obtain ⟨m4a, m4b⟩ := m4
  have HB := Lib.hid (fun o1 o2 => alloc2 w o1 o2)
  go_enter Try.func92, Try.ntmps92
  go_wp2_with fail
  go_ret
  exact ⟨rfl, HB.out _ _⟩
theorem l08Vector_any (x y : Int) (w : World) :
    Calls Try.prog 91 #[.agg #[.int .i64 x, .int .i64 y]] w fun e w' => e = .returned (.agg #[.int .i64 x, .int .i64 y]) ∧ Below w.heap.size w w' := by
  have HB := Lib.hid (fun o1 o2 => alloc2 w o1 o2)
  go_enter Try.func91, Try.ntmps91
  go_wp2_with fail
  exact bodyPost_ret (v := .agg #[.int .i64 x, .int .i64 y]) (by simp [results, Try.results91, go_sem]) rfl ⟨rfl, HB.out _ _⟩
theorem l01Abs_any (a : Int) (h0 : -1000000 ≤ a) (h1 : a ≤ 1000000) (w : World) :
    Calls Try.prog 89 #[.int .i64 a] w fun e w' => e = .returned (.int .i64 (max a (-a))) ∧ w = w' := by
  go_enter Try.func89, Try.ntmps89
  go_wp2_with fail
  all_goals
    go_ret
    exact ⟨ret_int (by first | rfl | omega | (split <;> omega)), rfl⟩
theorem l01Sign_any (a : Int) (w : World) :
    Calls Try.prog 93 #[.int .i64 a] w fun e w' => e = .returned (.int .i64 (if a > 0 then 1 else if a < 0 then -1 else 0)) ∧ w = w' := by
  obtain ⟨r, hr⟩ : ∃ r : Int, r = if a > 0 then 1 else if a < 0 then -1 else 0 := ⟨_, rfl⟩
  rw [← hr]
  have HR := Lib.hid hr
  clear hr
  by_cases h1 : 0 < a
  · go_enter Try.func93, Try.ntmps93
    go_wp2_with fail
    go_ret
    exact ⟨ret_int (by rw [HR.out, if_pos h1]), rfl⟩
  · by_cases h2 : a < 0
    · go_enter Try.func93, Try.ntmps93
      go_wp2_with fail
      go_ret
      exact ⟨ret_int (by rw [HR.out, if_neg (by omega), if_pos h2]), rfl⟩
    · go_enter Try.func93, Try.ntmps93
      go_wp2_with fail
      go_ret
      exact ⟨ret_int (by rw [HR.out, if_neg (by omega), if_neg (by omega)]), rfl⟩
theorem tackOf_any (x y hx hy : Int) (hs : Small x y hx hy) (w : World) :
    Calls Try.prog 83 #[.agg #[.int .i64 x, .int .i64 y], .agg #[.int .i64 hx, .int .i64 hy]] w fun e w' => e = .returned (.int .i64 (tackF x y hx hy)) ∧ Below w.heap.size w w' := by
  have m1 := unit_mul hs.a1 hs.a2 hs.x1 hs.x2
  have m2 := unit_mul hs.a1 hs.a2 hs.y1 hs.y2
  have m3 := unit_mul hs.b1 hs.b2 hs.x1 hs.x2
  have m4 := unit_mul hs.b1 hs.b2 hs.y1 hs.y2
  obtain ⟨m1a, m1b⟩ := m1
  obtain ⟨m2a, m2b⟩ := m2
  obtain ⟨m3a, m3b⟩ := m3
  obtain ⟨m4a, m4b⟩ := m4
  have HB := Lib.hid (fun o1 o2 => alloc2 w o1 o2)
  have hr : tackF x y hx hy = if hx * y - hy * x < 0 then 1 else if hx * y - hy * x > 0 then 2 else 0 := rfl
  generalize tackF x y hx hy = r at *
  have HR := Lib.hid hr
  clear hr
  by_cases h1 : hx * y - hy * x < 0
  · go_enter Try.func83, Try.ntmps83
    go_wp2_with fail
    go_ret
    exact ⟨ret_int (by rw [HR.out, if_pos h1]), HB.out _ _⟩
  · by_cases h2 : 0 < hx * y - hy * x
    · go_enter Try.func83, Try.ntmps83
      go_wp2_with fail
      go_ret
      exact ⟨ret_int (by rw [HR.out, if_neg (by omega), if_pos h2]), HB.out _ _⟩
    · go_enter Try.func83, Try.ntmps83
      go_wp2_with fail
      go_ret
      exact ⟨ret_int (by rw [HR.out, if_neg (by omega), if_neg (by omega)]), HB.out _ _⟩
set_option maxHeartbeats 1000000 in
theorem sailOf_any (x y hx hy : Int) (hs : Small x y hx hy) (w : World) :
    Calls Try.prog 82 #[.agg #[.int .i64 x, .int .i64 y], .agg #[.int .i64 hx, .int .i64 hy]] w fun e w' => e = .returned (.int .i64 (sailF x y hx hy)) ∧ Below w.heap.size w w' := by
  have HSC := Lib.hid (fun w => scalar_any x y hx hy hs w)
  have m1 := unit_mul hs.a1 hs.a2 hs.x1 hs.x2
  have m2 := unit_mul hs.a1 hs.a2 hs.y1 hs.y2
  have m3 := unit_mul hs.b1 hs.b2 hs.x1 hs.x2
  have m4 := unit_mul hs.b1 hs.b2 hs.y1 hs.y2
  obtain ⟨m1a, m1b⟩ := m1
  obtain ⟨m2a, m2b⟩ := m2
  obtain ⟨m3a, m3b⟩ := m3
  obtain ⟨m4a, m4b⟩ := m4
  have hr : sailF x y hx hy = if max (hx * y - hy * x) (-(hx * y - hy * x)) > max (dotF hx hy x y) (-dotF hx hy x y) ∨ dotF hx hy x y = 0 then 2 else if dotF hx hy x y < 0 then 1 else 3 := rfl
  have hd1 : -2000 ≤ dotF hx hy x y := by unfold dotF; omega
  have hd2 : dotF hx hy x y ≤ 2000 := by unfold dotF; omega
  have q1 : IntKind.i64.wrap (hx * y - hy * x) = hx * y - hy * x := IntWalk.i64_in _ (by omega)
  have q2 : IntKind.i64.wrap (hx * y) = hx * y := IntWalk.i64_in _ (by omega)
  have q3 : IntKind.i64.wrap (hy * x) = hy * x := IntWalk.i64_in _ (by omega)
  have hC1 : -2000 ≤ hx * y - hy * x := by omega
  have hC2 : hx * y - hy * x ≤ 2000 := by omega
  generalize sailF x y hx hy = r at *
  generalize dotF hx hy x y = d at *
  obtain ⟨C, hC⟩ : ∃ C, C = hx * y - hy * x := ⟨_, rfl⟩
  rw [← hC] at q1 hr hC1 hC2
  rw [hC] at q1
  have q1' : IntKind.i64.wrap (hx * y - hy * x) = C := by rw [q1, hC]
  have hmC : (C < 0 ∧ max C (-C) = -C) ∨ (0 ≤ C ∧ max C (-C) = C) := by
    by_cases h : C < 0
    · exact .inl ⟨h, Int.max_eq_right (by omega)⟩
    · exact .inr ⟨by omega, Int.max_eq_left (by omega)⟩
  have hmD : (d < 0 ∧ max d (-d) = -d) ∨ (0 ≤ d ∧ max d (-d) = d) := by
    by_cases h : d < 0
    · exact .inl ⟨h, Int.max_eq_right (by omega)⟩
    · exact .inr ⟨by omega, Int.max_eq_left (by omega)⟩
  generalize max C (-C) = MC at *
  generalize max d (-d) = MD at *
  have HMC := Lib.hid hmC
  have HMD := Lib.hid hmD
  have HR := Lib.hid hr
  clear hr hs q1 hC hmC hmD
  go_enter Try.func82, Try.ntmps82
  go_wp2_with fail
  obtain ⟨wb, hwb⟩ : ∃ wb, wb = (w.alloc (.cells #[.int .i64 x, .int .i64 y] 65)).alloc (.cells #[.int .i64 hx, .int .i64 hy] 91) := ⟨_, rfl⟩
  rw [← hwb]
  have hb0 : Below w.heap.size w wb := by rw [hwb]; exact alloc2 _ _ _
  have hsz : w.heap.size + 1 < wb.heap.size := by rw [hwb]; simp
  have c0 : wb.cell? ⟨w.heap.size, 0, none⟩ = some (.int .i64 x) := by rw [hwb]; exact cell_under _ _ (by simp) (cell_top _ _ _ rfl rfl)
  have c1 : wb.cell? ⟨w.heap.size, 1, none⟩ = some (.int .i64 y) := by rw [hwb]; exact cell_under _ _ (by simp) (cell_top _ _ _ rfl rfl)
  have c2 : wb.cell? ⟨w.heap.size + 1, 0, none⟩ = some (.int .i64 hx) := by rw [hwb]; exact cell_top _ _ _ (by simp) rfl
  have c3 : wb.cell? ⟨w.heap.size + 1, 1, none⟩ = some (.int .i64 hy) := by rw [hwb]; exact cell_top _ _ _ (by simp) rfl
  clear hwb
  have HSR := Lib.hid (show ∀ w1, Below wb.heap.size wb w1 → (w1.cell? ⟨w.heap.size, 0, none⟩ = some (.int .i64 x) ∧ w1.cell? ⟨w.heap.size, 1, none⟩ = some (.int .i64 y) ∧ w1.cell? ⟨w.heap.size + 1, 0, none⟩ = some (.int .i64 hx) ∧ w1.cell? ⟨w.heap.size + 1, 1, none⟩ = some (.int .i64 hy) ∧ Below wb.heap.size wb w1) from fun w1 hb => ⟨(hb.cell (p := ⟨w.heap.size, 0, none⟩) (show w.heap.size < wb.heap.size by omega)).trans c0, (hb.cell (p := ⟨w.heap.size, 1, none⟩) (show w.heap.size < wb.heap.size by omega)).trans c1, (hb.cell (p := ⟨w.heap.size + 1, 0, none⟩) (show w.heap.size + 1 < wb.heap.size by omega)).trans c2, (hb.cell (p := ⟨w.heap.size + 1, 1, none⟩) (show w.heap.size + 1 < wb.heap.size by omega)).trans c3, hb⟩)
  go_region_held3 (fun w1 => w1.cell? ⟨w.heap.size, 0, none⟩ = some (.int .i64 x) ∧ w1.cell? ⟨w.heap.size, 1, none⟩ = some (.int .i64 y) ∧ w1.cell? ⟨w.heap.size + 1, 0, none⟩ = some (.int .i64 hx) ∧ w1.cell? ⟨w.heap.size + 1, 1, none⟩ = some (.int .i64 hy) ∧ Below wb.heap.size wb w1) (first | exact HSR.out _ HBq | exact HSR.out _ ((Drawn.refl _).step 1).below | exact HSR.out _ (Drawn.refl _).below | assumption) (first | (go_at_call 94; have hq := (‹_ ∧ _ ∧ _ ∧ _ ∧ Below wb.heap.size wb _›).2.2.2.2; refine (HSC.out _).mono ?_; rintro e wq ⟨rfl, hbq⟩; have HBq := hq.trans (hbq.mono hq.size)))
  clear q1' q2 q3 c0 c1 c2 c3
  have HBF := Lib.hid (hb0.trans (HBq.mono hb0.size))
  clear HBq hb0 hsz HSR
  rcases Int.lt_trichotomy d 0 with hd | hd | hd
  · have hz : (d == 0) = false := by simp; omega
    by_cases hc : C < 0
    · by_cases he : -d < -C
      all_goals
        go_wp2_with fail
        all_goals
          go_ret
          exact ⟨ret_int (by have z1 := HMC.out; have z2 := HMD.out; rw [HR.out]; split <;> (try split) <;> omega), HBF.out⟩
    · by_cases he : -d < C
      all_goals
        go_wp2_with fail
        all_goals
          go_ret
          exact ⟨ret_int (by have z1 := HMC.out; have z2 := HMD.out; rw [HR.out]; split <;> (try split) <;> omega), HBF.out⟩
  · subst hd
    by_cases hc : C < 0
    all_goals
      go_wp2_with fail
      all_goals
        go_ret
        exact ⟨ret_int (by have z1 := HMC.out; have z2 := HMD.out; rw [HR.out]; simp), HBF.out⟩
  · have hz : (d == 0) = false := by simp; omega
    by_cases hc : C < 0
    · by_cases he : d < -C
      all_goals
        go_wp2_with fail
        all_goals
          go_ret
          exact ⟨ret_int (by have z1 := HMC.out; have z2 := HMD.out; rw [HR.out]; split <;> (try split) <;> omega), HBF.out⟩
    · by_cases he : d < C
      all_goals
        go_wp2_with fail
        all_goals
          go_ret
          exact ⟨ret_int (by have z1 := HMC.out; have z2 := HMD.out; rw [HR.out]; split <;> (try split) <;> omega), HBF.out⟩
theorem sail_alt (C d : Int) : (if max C (-C) > max d (-d) ∨ d = 0 then 2 else if d < 0 then 1 else 3 : Int) = if d < 0 ∧ max C (-C) ≤ -d then 1 else if d > 0 ∧ max C (-C) ≤ d then 3 else 2 := by
  split
  · split
    · omega
    · split <;> omega
  · split <;> split <;> (try split) <;> omega
set_option maxHeartbeats 1000000 in
theorem l08Sail_any (x y hx hy : Int) (hs : Small x y hx hy) (w : World) :
    Calls Try.prog 79 #[.agg #[.int .i64 x, .int .i64 y], .agg #[.int .i64 hx, .int .i64 hy]] w fun e w' => e = .returned (.int .i64 (sailF x y hx hy)) ∧ Below w.heap.size w w' := by
  have HV := Lib.hid (fun w => l08Vector_any x y w)
  have HCR := Lib.hid (fun w => l01Cross_any x y hx hy hs w)
  have HDO := Lib.hid (fun w => l01Dot_any x y hx hy hs w)
  have m1 := unit_mul hs.a1 hs.a2 hs.x1 hs.x2
  have m2 := unit_mul hs.a1 hs.a2 hs.y1 hs.y2
  have m3 := unit_mul hs.b1 hs.b2 hs.x1 hs.x2
  have m4 := unit_mul hs.b1 hs.b2 hs.y1 hs.y2
  obtain ⟨m1a, m1b⟩ := m1
  obtain ⟨m2a, m2b⟩ := m2
  obtain ⟨m3a, m3b⟩ := m3
  obtain ⟨m4a, m4b⟩ := m4
  have hr : sailF x y hx hy = if max (crossF hx hy x y) (-crossF hx hy x y) > max (dotF hx hy x y) (-dotF hx hy x y) ∨ dotF hx hy x y = 0 then 2 else if dotF hx hy x y < 0 then 1 else 3 := rfl
  rw [sail_alt] at hr
  have hd1 : -2000 ≤ dotF hx hy x y := by unfold dotF; omega
  have hd2 : dotF hx hy x y ≤ 2000 := by unfold dotF; omega
  have hc1 : -2000 ≤ crossF hx hy x y := by unfold crossF; omega
  have hc2 : crossF hx hy x y ≤ 2000 := by unfold crossF; omega
  generalize sailF x y hx hy = r at *
  generalize dotF hx hy x y = d at *
  generalize crossF hx hy x y = C at *
  have HAB := Lib.hid (fun w => l01Abs_any C (by omega) (by omega) w)
  have hM1 : 0 ≤ max C (-C) := by omega
  have hM2 : max C (-C) ≤ 2000 := by omega
  generalize max C (-C) = M at *
  have HR := Lib.hid hr
  clear hr hs m1a m1b m2a m2b m3a m3b m4a m4b
  go_enter Try.func79, Try.ntmps79
  go_wp2_with fail
  obtain ⟨wb, hwb⟩ : ∃ wb, wb = (w.alloc (.cells #[.int .i64 x, .int .i64 y] 65)).alloc (.cells #[.int .i64 hx, .int .i64 hy] 91) := ⟨_, rfl⟩
  rw [← hwb]
  have hb0 : Below w.heap.size w wb := by rw [hwb]; exact alloc2 _ _ _
  have hsz : w.heap.size + 1 < wb.heap.size := by rw [hwb]; simp
  have c0 : wb.cell? ⟨w.heap.size, 0, none⟩ = some (.int .i64 x) := by rw [hwb]; exact cell_under _ _ (by simp) (cell_top _ _ _ rfl rfl)
  have c1 : wb.cell? ⟨w.heap.size, 1, none⟩ = some (.int .i64 y) := by rw [hwb]; exact cell_under _ _ (by simp) (cell_top _ _ _ rfl rfl)
  have c2 : wb.cell? ⟨w.heap.size + 1, 0, none⟩ = some (.int .i64 hx) := by rw [hwb]; exact cell_top _ _ _ (by simp) rfl
  have c3 : wb.cell? ⟨w.heap.size + 1, 1, none⟩ = some (.int .i64 hy) := by rw [hwb]; exact cell_top _ _ _ (by simp) rfl
  clear hwb
  have HSR := Lib.hid (show ∀ w1, Below wb.heap.size wb w1 → (w1.cell? ⟨w.heap.size, 0, none⟩ = some (.int .i64 x) ∧ w1.cell? ⟨w.heap.size, 1, none⟩ = some (.int .i64 y) ∧ w1.cell? ⟨w.heap.size + 1, 0, none⟩ = some (.int .i64 hx) ∧ w1.cell? ⟨w.heap.size + 1, 1, none⟩ = some (.int .i64 hy) ∧ Below wb.heap.size wb w1) from fun w1 hb => ⟨(hb.cell (p := ⟨w.heap.size, 0, none⟩) (show w.heap.size < wb.heap.size by omega)).trans c0, (hb.cell (p := ⟨w.heap.size, 1, none⟩) (show w.heap.size < wb.heap.size by omega)).trans c1, (hb.cell (p := ⟨w.heap.size + 1, 0, none⟩) (show w.heap.size + 1 < wb.heap.size by omega)).trans c2, (hb.cell (p := ⟨w.heap.size + 1, 1, none⟩) (show w.heap.size + 1 < wb.heap.size by omega)).trans c3, hb⟩)
  go_region_held3 (fun w1 => w1.cell? ⟨w.heap.size, 0, none⟩ = some (.int .i64 x) ∧ w1.cell? ⟨w.heap.size, 1, none⟩ = some (.int .i64 y) ∧ w1.cell? ⟨w.heap.size + 1, 0, none⟩ = some (.int .i64 hx) ∧ w1.cell? ⟨w.heap.size + 1, 1, none⟩ = some (.int .i64 hy) ∧ Below wb.heap.size wb w1) (first | exact HSR.out _ HBq | exact HSR.out _ ((Drawn.refl _).step 1).below | exact HSR.out _ (Drawn.refl _).below | assumption) (first | (go_at_call 91; have hq := (‹_ ∧ _ ∧ _ ∧ _ ∧ Below wb.heap.size wb _›).2.2.2.2; refine (HV.out _).mono ?_; rintro e wq ⟨rfl, hbq⟩; have HBq := hq.trans (hbq.mono hq.size)) | (go_at_call 90; have hq := (‹_ ∧ _ ∧ _ ∧ _ ∧ Below wb.heap.size wb _›).2.2.2.2; refine (HCR.out _).mono ?_; rintro e wq ⟨rfl, hbq⟩; have HBq := hq.trans (hbq.mono hq.size)) | (go_at_call 92; have hq := (‹_ ∧ _ ∧ _ ∧ _ ∧ Below wb.heap.size wb _›).2.2.2.2; refine (HDO.out _).mono ?_; rintro e wq ⟨rfl, hbq⟩; have HBq := hq.trans (hbq.mono hq.size)) | (go_at_call 89; have hq := (‹_ ∧ _ ∧ _ ∧ _ ∧ Below wb.heap.size wb _›).2.2.2.2; refine (HAB.out _).mono ?_; rintro e w' ⟨rfl, rfl⟩; have HBq := hq))
  all_goals
    clear c0 c1 c2 c3
    have HBF := Lib.hid (hb0.trans (HBq.mono hb0.size))
    clear HBq HSR
    by_cases hd : d < 0
    all_goals
      by_cases hd2 : d > 0
      all_goals
        by_cases he : M ≤ d
        all_goals
          by_cases he2 : M ≤ -d
          all_goals
            go_wp2_with fail
            all_goals
              go_ret
              exact ⟨ret_int (by rw [HR.out]; split <;> (try split) <;> omega), HBF.out⟩
set_option maxHeartbeats 1000000 in
theorem l08Tack_any (x y hx hy : Int) (hs : Small x y hx hy) (w : World) :
    Calls Try.prog 80 #[.agg #[.int .i64 x, .int .i64 y], .agg #[.int .i64 hx, .int .i64 hy]] w fun e w' => e = .returned (.int .i64 (tackF x y hx hy)) ∧ Below w.heap.size w w' := by
  have HV := Lib.hid (fun w => l08Vector_any x y w)
  have HCR := Lib.hid (fun w => l01Cross_any x y hx hy hs w)
  have hr : tackF x y hx hy = if crossF hx hy x y < 0 then 1 else if crossF hx hy x y > 0 then 2 else 0 := rfl
  generalize tackF x y hx hy = r at *
  generalize crossF hx hy x y = C at *
  have HSG := Lib.hid (fun w => l01Sign_any C w)
  have hS : (0 < C ∧ (if C > 0 then 1 else if C < 0 then -1 else 0 : Int) = 1) ∨ (C < 0 ∧ (if C > 0 then 1 else if C < 0 then -1 else 0 : Int) = -1) ∨ (C = 0 ∧ (if C > 0 then 1 else if C < 0 then -1 else 0 : Int) = 0) := by
    split
    · exact .inl ⟨by omega, rfl⟩
    · split
      · exact .inr (.inl ⟨by omega, rfl⟩)
      · exact .inr (.inr ⟨by omega, rfl⟩)
  generalize (if C > 0 then 1 else if C < 0 then -1 else 0 : Int) = S at *
  have HR := Lib.hid hr
  clear hr hs
  rcases hS with ⟨h1, rfl⟩ | ⟨h1, rfl⟩ | ⟨h1, rfl⟩
  all_goals
    have HC1 := Lib.hid h1
    clear h1
    go_enter Try.func80, Try.ntmps80
    go_wp2_with fail
    obtain ⟨wb, hwb⟩ : ∃ wb, wb = (w.alloc (.cells #[.int .i64 x, .int .i64 y] 65)).alloc (.cells #[.int .i64 hx, .int .i64 hy] 91) := ⟨_, rfl⟩
    rw [← hwb]
    have hb0 : Below w.heap.size w wb := by rw [hwb]; exact alloc2 _ _ _
    have hsz : w.heap.size + 1 < wb.heap.size := by rw [hwb]; simp
    have c0 : wb.cell? ⟨w.heap.size, 0, none⟩ = some (.int .i64 x) := by rw [hwb]; exact cell_under _ _ (by simp) (cell_top _ _ _ rfl rfl)
    have c1 : wb.cell? ⟨w.heap.size, 1, none⟩ = some (.int .i64 y) := by rw [hwb]; exact cell_under _ _ (by simp) (cell_top _ _ _ rfl rfl)
    have c2 : wb.cell? ⟨w.heap.size + 1, 0, none⟩ = some (.int .i64 hx) := by rw [hwb]; exact cell_top _ _ _ (by simp) rfl
    have c3 : wb.cell? ⟨w.heap.size + 1, 1, none⟩ = some (.int .i64 hy) := by rw [hwb]; exact cell_top _ _ _ (by simp) rfl
    clear hwb
    have HSR := Lib.hid (show ∀ w1, Below wb.heap.size wb w1 → (w1.cell? ⟨w.heap.size, 0, none⟩ = some (.int .i64 x) ∧ w1.cell? ⟨w.heap.size, 1, none⟩ = some (.int .i64 y) ∧ w1.cell? ⟨w.heap.size + 1, 0, none⟩ = some (.int .i64 hx) ∧ w1.cell? ⟨w.heap.size + 1, 1, none⟩ = some (.int .i64 hy) ∧ Below wb.heap.size wb w1) from fun w1 hb => ⟨(hb.cell (p := ⟨w.heap.size, 0, none⟩) (show w.heap.size < wb.heap.size by omega)).trans c0, (hb.cell (p := ⟨w.heap.size, 1, none⟩) (show w.heap.size < wb.heap.size by omega)).trans c1, (hb.cell (p := ⟨w.heap.size + 1, 0, none⟩) (show w.heap.size + 1 < wb.heap.size by omega)).trans c2, (hb.cell (p := ⟨w.heap.size + 1, 1, none⟩) (show w.heap.size + 1 < wb.heap.size by omega)).trans c3, hb⟩)
    go_region_held3 (fun w1 => w1.cell? ⟨w.heap.size, 0, none⟩ = some (.int .i64 x) ∧ w1.cell? ⟨w.heap.size, 1, none⟩ = some (.int .i64 y) ∧ w1.cell? ⟨w.heap.size + 1, 0, none⟩ = some (.int .i64 hx) ∧ w1.cell? ⟨w.heap.size + 1, 1, none⟩ = some (.int .i64 hy) ∧ Below wb.heap.size wb w1) (first | exact HSR.out _ HBq | exact HSR.out _ ((Drawn.refl _).step 1).below | exact HSR.out _ (Drawn.refl _).below | assumption) (first | (go_at_call 91; have hq := (‹_ ∧ _ ∧ _ ∧ _ ∧ Below wb.heap.size wb _›).2.2.2.2; refine (HV.out _).mono ?_; rintro e wq ⟨rfl, hbq⟩; have HBq := hq.trans (hbq.mono hq.size)) | (go_at_call 90; have hq := (‹_ ∧ _ ∧ _ ∧ _ ∧ Below wb.heap.size wb _›).2.2.2.2; refine (HCR.out _).mono ?_; rintro e wq ⟨rfl, hbq⟩; have HBq := hq.trans (hbq.mono hq.size)) | (go_at_call 93; have hq := (‹_ ∧ _ ∧ _ ∧ _ ∧ Below wb.heap.size wb _›).2.2.2.2; refine (HSG.out _).mono ?_; rintro e w' ⟨rfl, rfl⟩; have HBq := hq))
    clear c0 c1 c2 c3
    have HBF := Lib.hid (hb0.trans (HBq.mono hb0.size))
    clear HBq HSR
    go_wp2_with fail
    go_ret
    exact ⟨ret_int (by have z := HC1.out; rw [HR.out]; split <;> (try split) <;> omega), HBF.out⟩
end Go.Proofs.Ytpaamhkgokkgpaa

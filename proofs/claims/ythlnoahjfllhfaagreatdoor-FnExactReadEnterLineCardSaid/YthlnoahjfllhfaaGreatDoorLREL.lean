/- The walk of FnExactReadEnterLine. -/
import Derived.Test.YthlnoahjfllhfaaGreatDoorQzb
namespace Go.Proofs.YthlnoahjfllhfaaGreatDoor
open Go.RowKit Go.Sort
set_option linter.unusedVariables false
set_option maxRecDepth 100000

set_option maxHeartbeats 2000000 in
theorem eqEnt_same (r b v c t k p : Int) (w : World) :
    Calls Tryz.prog 6 #[.agg #[.int .i64 r, .int .i64 b, .int .i64 v, .int .i64 c, .int .i64 t, .int .i64 k, .int .i64 p], .agg #[.int .i64 r, .int .i64 b, .int .i64 v, .int .i64 c, .int .i64 t, .int .i64 k, .int .i64 p]] w fun e w' => e = .returned (.bool true) ∧ Below w.heap.size w w' := by
  have hb : ∀ o1 o2, Below w.heap.size w ((w.alloc o1).alloc o2) := fun o1 o2 => ((Below.refl _ _).alloc (Nat.le_refl _) _).alloc (by simp) _
  have HB := Lib.hid hb; clear hb
  go_enter Tryz.func6, Tryz.ntmps6
  go_wp2_with fail
  go_ret
  exact ⟨rfl, HB.out _ _⟩
set_option maxHeartbeats 4000000 in
theorem fnExactReadEnterLine_walk (s : ByteArray) (w : World) (HL : ∀ w', Below w.heap.size w w' → Libs w') :
    Calls Tryz.prog 3 #[.string s] w fun e w' => e = .returned (.bool true) ∧ Below w.heap.size w w' := by
  by_cases hbig : 1048576 < s.size
  · have hb : decide ((1048576 : Int) < (s.size : Int)) = true := by simp; omega
    go_enter Tryz.func3, Tryz.ntmps3
    go_wp2_with fail
    go_ret
    exact ⟨rfl, Below.refl _ _⟩
  have hb : decide ((1048576 : Int) < (s.size : Int)) = false := by simp; omega
  have HS := Lib.hid (fun w' => specReadEL_any s (by omega) w')
  have HI := Lib.hid (fun w' (hb : Below w.heap.size w w') => implReadEL_any s (by omega) w' (fun w2 h2 => HL w2 (hb.trans (h2.mono hb.size))))
  clear HL hbig
  go_enter Tryz.func3, Tryz.ntmps3
  go_wp2_with fail
  refine (HS.out _).mono ?_
  rintro e w1 ⟨r, b, c, t, ok, rfl, hx, hb1⟩
  have HXA := Lib.hid hx
  have HB1 := Lib.hid hb1
  obtain ⟨w2, hw2, X2, hb2, hs2⟩ := one_box w1 #[.int .i64 r, .int .i64 b, .int .i64 0, .int .i64 c, .int .i64 t, .int .i64 0, .int .i64 0] 23
  have HB2 := Lib.hid (HB1.out.trans (hb2.mono HB1.out.size))
  have HX2 := Lib.hid X2
  have HW2 := Lib.hid hw2
  clear hx hb1 hb2 X2 hw2 hs2
  go_wp2_with fail
  rw [← HW2.out]
  clear HW2
  refine (HI.out _ HB2.out).mono ?_
  rintro e w3 ⟨r', b', c', t', ok', rfl, hx', hb3⟩
  obtain ⟨rfl, rfl, rfl, rfl, rfl⟩ := xl_unique HXA.out hx'
  have HB3 := Lib.hid (HB2.out.trans (hb3.mono HB2.out.size))
  have HX3 := Lib.hid (HX2.out.below hb3)
  obtain ⟨w4, hw4, X4, hb4, hs4⟩ := one_box w3 #[.int .i64 r, .int .i64 b, .int .i64 0, .int .i64 c, .int .i64 t, .int .i64 0, .int .i64 0] 23
  have HB4 := Lib.hid (HB3.out.trans (hb4.mono HB3.out.size))
  have HX4 := Lib.hid (HX3.out.below hb4)
  have HY4 := Lib.hid X4
  have HW4 := Lib.hid hw4
  have FX := HX3.out.f7
  have hkk : (ok != ok) = false := by simp
  clear hb3 hb4 X4 hw4 hs4 HX2 hx' HXA
  go_wp2_with fail
  rw [← HW4.out]
  clear HW4 FX
  refine (eqEnt_same r b 0 c t 0 0 w4).mono ?_
  rintro e w5 ⟨rfl, hb5⟩
  have HB5 := Lib.hid (HB4.out.trans (hb5.mono HB4.out.size))
  clear hb5
  go_wp2_with fail
  go_ret
  exact ⟨rfl, HB5.out⟩
end Go.Proofs.YthlnoahjfllhfaaGreatDoor

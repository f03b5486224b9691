/- The walk of FnExactReadRedress. -/
import Derived.Test.YthlnoahjfllhfaaDoorQq
namespace Go.Proofs.YthlnoahjfllhfaaDoor
open Go.RowKit Go.Sort
set_option linter.unusedVariables false
set_option maxRecDepth 100000

theorem eqRed_same (r b k p : Int) (w : World) :
    Calls Tryd.prog 10 #[.agg #[.int .i64 r, .int .i64 b, .int .i64 k, .int .i64 p], .agg #[.int .i64 r, .int .i64 b, .int .i64 k, .int .i64 p]] w fun e w' => e = .returned (.bool true) ∧ Below w.heap.size w w' := by
  have hb : ∀ o1 o2, Below w.heap.size w ((w.alloc o1).alloc o2) := fun o1 o2 => ((Below.refl _ _).alloc (Nat.le_refl _) _).alloc (by simp) _
  have HB := Lib.hid hb; clear hb
  go_enter Tryd.func10, Tryd.ntmps10
  go_wp2_with fail
  go_ret
  exact ⟨rfl, HB.out _ _⟩
set_option maxHeartbeats 2000000 in
theorem fnExactReadRedress_walk (s : ByteArray) (w : World) (HL : ∀ w', Below w.heap.size w w' → Libs w') :
    Calls Tryd.prog 4 #[.string s] w fun e w' => e = .returned (.bool true) ∧ Below w.heap.size w w' := by
  by_cases hbig : 1048576 < s.size
  · have hb : decide ((1048576 : Int) < (s.size : Int)) = true := by simp; omega
    go_enter Tryd.func4, Tryd.ntmps4
    go_wp2_with fail
    go_ret
    exact ⟨rfl, Below.refl _ _⟩
  have hb : decide ((1048576 : Int) < (s.size : Int)) = false := by simp; omega
  have HS := Lib.hid (fun w' => specRead_any s (by omega) w')
  have HI := Lib.hid (fun w' (hb : Below w.heap.size w w') => implRead_any s (by omega) w' (fun w2 h2 => HL w2 (hb.trans (h2.mono hb.size))))
  rw [impl_spec] at HI
  generalize specR s.data.toList = R at *
  unfold RetRd at HS HI
  generalize outR R = D at *
  obtain ⟨⟨r, b, k, p⟩, ok⟩ := D
  simp only at HS HI
  have hkk : (ok != ok) = false := by simp
  clear HL hbig
  go_enter Tryd.func4, Tryd.ntmps4
  go_wp2_with fail
  refine (HS.out _).mono ?_
  rintro e w1 ⟨rfl, hb1⟩
  have HB1 := Lib.hid hb1
  obtain ⟨w2, hw2, X2, hb2, hs2⟩ := one_box w1 #[.int .i64 r, .int .i64 b, .int .i64 k, .int .i64 p] 29
  have HB2 := Lib.hid (HB1.out.trans (hb2.mono HB1.out.size))
  have HX2 := Lib.hid X2
  have HW2 := Lib.hid hw2
  clear hb1 hb2 X2 hw2 hs2
  go_wp2_with fail
  rw [← HW2.out]
  clear HW2
  refine (HI.out _ HB2.out).mono ?_
  rintro e w3 ⟨rfl, hb3⟩
  have HB3 := Lib.hid (HB2.out.trans (hb3.mono HB2.out.size))
  have HX3 := Lib.hid (HX2.out.below hb3)
  obtain ⟨w4, hw4, X4, hb4, hs4⟩ := one_box w3 #[.int .i64 r, .int .i64 b, .int .i64 k, .int .i64 p] 29
  have HB4 := Lib.hid (HB3.out.trans (hb4.mono HB3.out.size))
  have HX4 := Lib.hid (HX3.out.below hb4)
  have HY4 := Lib.hid X4
  have HW4 := Lib.hid hw4
  have FX := HX3.out.f4
  clear hb3 hb4 X4 hw4 hs4 HX2
  go_wp2_with fail
  rw [← HW4.out]
  clear HW4 FX
  refine (eqRed_same r b k p w4).mono ?_
  rintro e w5 ⟨rfl, hb5⟩
  have HB5 := Lib.hid (HB4.out.trans (hb5.mono HB4.out.size))
  clear hb5
  go_wp2_with fail
  go_ret
  exact ⟨rfl, HB5.out⟩
end Go.Proofs.YthlnoahjfllhfaaDoor

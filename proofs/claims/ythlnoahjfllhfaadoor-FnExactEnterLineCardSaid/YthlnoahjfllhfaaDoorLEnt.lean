/- The walk of FnExactEnterLine. -/
import Derived.Test.YthlnoahjfllhfaaDoorQf
import Derived.Test.YthlnoahjfllhfaaDoorQg
namespace Go.Proofs.YthlnoahjfllhfaaDoor
open Go.RowKit Go.Sort
set_option linter.unusedVariables false
set_option maxRecDepth 100000

set_option maxHeartbeats 2000000 in
theorem fnExactEnterLine_walk (x0 x1 x2 x3 x4 x5 x6 : Int) (w : World) (ht : ∀ w', Below w.heap.size w w' → Pow w') :
    Calls Tryd.prog 3 #[.agg #[.int .i64 x0, .int .i64 x1, .int .i64 x2, .int .i64 x3, .int .i64 x4, .int .i64 x5, .int .i64 x6]] w fun e w' => e = .returned (.bool true) ∧ Below w.heap.size w w' := by
  have HT := Lib.hid (fun w' => toEntry_any x0 x1 x2 x3 x4 x5 x6 w')
  have HS := Lib.hid (fun w' => specEnter_any x0 x1 x2 x3 x4 x5 x6 w')
  have HI := Lib.hid (fun w' (hb : Below w.heap.size w w') => implEnter_any x0 x1 x2 x3 x4 x5 x6 w' (fun w2 h2 => ht w2 (hb.trans (h2.mono hb.size))))
  obtain ⟨wa, hwa, XR, hba, hsa⟩ := one_box w #[.int .i64 x0, .int .i64 x1, .int .i64 x2, .int .i64 x3, .int .i64 x4, .int .i64 x5, .int .i64 x6] 23
  have HWA := Lib.hid hwa
  have HX := Lib.hid XR
  have HBA := Lib.hid hba
  clear XR hba hsa hwa ht
  generalize str (enterS x0 x1 x3 x4) = Z at *
  go_enter Tryd.func3, Tryd.ntmps3
  go_wp2_with fail
  rw [← HWA.out]
  clear HWA
  refine (HT.out _).mono ?_
  rintro e w1 ⟨rfl, hb⟩
  have HB1 := Lib.hid (HBA.out.trans (hb.mono HBA.out.size))
  have HX1 := Lib.hid (HX.out.below hb)
  clear hb HX HBA
  go_wp2_with fail
  refine (HS.out _).mono ?_
  rintro e w2 ⟨rfl, hb⟩
  have HB2 := Lib.hid (HB1.out.trans (hb.mono HB1.out.size))
  have HX2 := Lib.hid (HX1.out.below hb)
  clear hb HX1 HB1
  have FX := HX2.out.f7
  go_wp2_with fail
  clear FX
  refine (HT.out _).mono ?_
  rintro e w3 ⟨rfl, hb⟩
  have HB3 := Lib.hid (HB2.out.trans (hb.mono HB2.out.size))
  clear hb HX2 HB2
  go_wp2_with fail
  refine (HI.out _ HB3.out).mono ?_
  rintro e w4 ⟨rfl, hb⟩
  have HB4 := Lib.hid (HB3.out.trans (hb.mono HB3.out.size))
  clear hb HB3
  go_wp2_with fail
  go_ret
  exact ⟨rfl, HB4.out⟩
end Go.Proofs.YthlnoahjfllhfaaDoor

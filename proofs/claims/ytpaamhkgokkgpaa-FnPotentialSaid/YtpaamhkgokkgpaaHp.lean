/- Plain: a route's way (chapter 32): no Go in sight. -/
import Derived.Test.YtpaamhkgokkgpaaHm
import Derived.Test.YtpaamhkgokkgpaaGj
import Derived.Test.YtpaamhkgokkgpaaHf
namespace Go.Proofs.Ytpaamhkgokkgpaa
open Go.RowKit
set_option linter.unusedVariables false

theorem gridB_of {W H : Int} {xs : List (Int × Int)} (h : GridOk W H xs) : gridB W H xs = true := by
  unfold gridB
  simp only [Bool.and_eq_true, decide_eq_true_eq, List.all_eq_true, withinB_iff]
  exact ⟨⟨⟨⟨h.w1, h.w2⟩, h.h1, h.h2⟩, h.len⟩, h.all⟩
theorem arc_in {W H : Int} {xs : List (Int × Int)} {u d v : Nat} (hu : u < xs.length) (hd : d < 8) (hm : moveB W H xs u d = true) (hv : nbF W H u d = v) : (u, v, takeF xs u d) ∈ arcsF W H xs := by
  refine List.mem_flatMap.2 ⟨u, List.mem_range.2 hu, List.mem_filterMap.2 ⟨d, List.mem_range.2 hd, ?_⟩⟩
  unfold arcF; rw [if_pos hm, hv]; rfl
/-- One step of a route. -/
theorem route_step {W H : Int} {xs : List (Int × Int)} (hg : GridOk W H xs) {d : Int} {r cs : List Int} {u : Nat} {t : Int} {R : List Int × Int} (hu : u < xs.length) (h : routeL W H xs (d :: r) cs u t = some R) :
    0 ≤ d ∧ d ≤ 7 ∧ ∃ v : Nat, nbF W H u d = v ∧ v < xs.length ∧ moveOfF W H xs u d = (takeF xs u d, 0) ∧ nbOfF W H xs u d = ((v : Int), 0) ∧ 1 ≤ takeF xs u d ∧ takeF xs u d ≤ 2520 ∧
      (u, v, takeF xs u d) ∈ arcsF W H xs ∧ ∃ cs', routeL W H xs r cs' v (t + takeF xs u d) = some R := by
  rw [routeL] at h
  split at h
  · rename_i hb
    simp only [Bool.and_eq_true] at hb
    obtain ⟨d0, d1⟩ := withinB_iff.1 hb.1
    have hl := hg.len
    obtain ⟨n1, n2⟩ := nb_cell (cell := u) (d := d) hg.w1 hg.h1 (moveB_nb hb.2)
    obtain ⟨k1, k2⟩ := moveF_bd (cell := u) (d := d) hg hb.2 (by omega) (by omega)
    obtain ⟨v, hv⟩ := int_up _ n1
    obtain ⟨dn, rfl⟩ := int_up d d0
    have hz : gcodeF W H xs u = 0 := by
      unfold gcodeF
      rw [if_pos (gridB_of hg), if_pos (withinB_iff.2 ⟨by omega, by omega⟩)]
    rw [hv] at h n1 n2
    refine ⟨d0, d1, v, hv, by omega, ?_, ?_, k1, k2, arc_in hu (by omega) hb.2 hv, _, h⟩
    · unfold moveOfF
      rw [if_pos hz]
      simp [hb.1, hb.2]
    · unfold nbOfF
      rw [if_pos hz, hb.1, moveB_nb hb.2, hv]; rfl
  · cases h
end Go.Proofs.Ytpaamhkgokkgpaa

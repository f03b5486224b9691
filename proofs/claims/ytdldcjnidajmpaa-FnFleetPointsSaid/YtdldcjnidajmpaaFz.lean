/- Plain: one fleet alone, and no scheme: the points are those of the race. -/
import Derived.Test.YtdldcjnidajmpaaRv
import Derived.Test.YtdldcjnidajmpaaFu
namespace Go.Proofs.Ytdldcjnidajmpaa
open Go.RowKit
set_option linter.unusedVariables false

theorem ofFleet_zeros : ∀ (fs : List FinishT), ofFleet 0 fs (List.replicate fs.length 0) = fs := by
  intro fs
  induction fs with
  | nil => rfl
  | cons f r ih =>
    show (if (0 : Int) = 0 then f :: ofFleet 0 r (List.replicate r.length 0) else ofFleet 0 r (List.replicate r.length 0)) = f :: r
    rw [if_pos rfl, ih]
theorem race_one (fs : List FinishT) : racePointsF fs 0 = pointsL (fs.length : Int) fs (List.replicate fs.length 0) := by
  apply List.ext_getElem
  · simp [racePointsF, pointsL]
  · intro i h1 h2
    have hi : i < fs.length := by simpa [racePointsF] using h1
    have hg : fs.getD i (0, 0, 0) = fs[i] := by rw [List.getD_eq_getElem?_getD, List.getElem?_eq_getElem hi]; rfl
    have hz : (List.replicate fs.length (0 : Int)).getD i 0 = 0 := by rw [List.getD_eq_getElem?_getD, List.getElem?_replicate, if_pos hi]; rfl
    simp only [racePointsF, pointsL, List.getElem_map, List.getElem_range, ptF]
    rw [hz, hg, ofFleet_zeros]
    generalize fs[i] = f
    unfold pointF codePointsF placeF
    by_cases h0 : f.2.1 = 0
    · rw [if_pos h0, if_pos h0, if_pos h0]
    · rw [if_neg h0, if_neg h0]
      by_cases h9 : f.2.1 = 9
      · rw [if_pos h9, if_pos h9]
      · rw [if_neg h9, if_neg h9]
        simp [gone]
end Go.Proofs.Ytdldcjnidajmpaa

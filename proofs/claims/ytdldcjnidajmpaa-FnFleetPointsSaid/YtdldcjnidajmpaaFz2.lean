/- Plain: one fleet alone: its size, its points. -/
import Derived.Test.YtdldcjnidajmpaaFz
namespace Go.Proofs.Ytdldcjnidajmpaa
open Go.RowKit
set_option linter.unusedVariables false

theorem countF_zeros : ∀ (n c : Nat), c + n ≤ 1000 → countF (List.replicate n 0) [(c : Int)] = [((c + n : Nat) : Int)] := by
  intro n
  induction n with
  | zero => intro c _; rfl
  | succ n ih =>
    intro c h
    have e : wrap64 ((c : Int) + 1) = ((c + 1 : Nat) : Int) := by rw [IntWalk.wrap64_in _ (by omega)]; omega
    have e2 : countF (List.replicate (n + 1) 0) [(c : Int)] = countF (List.replicate n 0) [wrap64 ((c : Int) + 1)] := by rw [List.replicate_succ, countF]; simp
    rw [e2, e, ih (c + 1) (by omega), Nat.add_assoc, Nat.add_comm 1 n]
theorem zeros_code {n : Nat} (h1 : 1 ≤ n) (h2 : n ≤ 16) : fleetsCodeF (List.replicate n 0) 1 = 0 := by
  unfold fleetsCodeF fleetsB
  rw [if_pos (withinB_iff.2 (by omega)), if_pos]
  rw [List.length_replicate, withinB_iff.2 (by omega), Bool.true_and, List.all_eq_true]
  intro x hx
  obtain ⟨_, rfl⟩ := List.mem_replicate.1 hx
  exact withinB_iff.2 (by omega)
/-- One fleet alone: the points of the race without a scheme. -/
theorem one_fleet {n : Nat} {fs : List FinishT} (h : raceB (n : Int) fs = true) : fleetPointsL fs (List.replicate n 0) 1 = (racePointsF fs 0, 0) := by
  have ok := raceB_ok h
  have hl := ok.len
  have h1 := ok.b1
  have h2 := ok.b2
  obtain rfl : fs.length = n := by omega
  unfold fleetPointsL
  rw [if_pos (zeros_code (by omega) (by omega)), List.length_replicate, if_pos h, race_one]
  have hc : countF (List.replicate fs.length 0) (List.replicate (1 : Int).toNat 0) = [(fs.length : Int)] := by
    have := countF_zeros fs.length 0 (by omega)
    rw [Nat.zero_add] at this
    exact this
  rw [hc]
  have hx : largestF [(fs.length : Int)] = fs.length := by unfold largestF; simp only [List.foldl_cons, List.foldl_nil]; omega
  rw [hx]
end Go.Proofs.Ytdldcjnidajmpaa

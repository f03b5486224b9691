/- Walks: the library's iterator over rows, from the last to the first. -/
import Derived.Test.YtalgdeieejpelaaZx
import Derived.Test.YtalgdeieejpelaaBx
import Derived.RangeFuncNested
import Derived.RangeFuncBound
import Derived.RangeFuncCalls
import Derived.RangeFuncLeaves
import Derived.Shelf.Abstract
import Derived.OwnWalkIn
import Derived.TacticsInMore
import Derived.LoopNIn
import Derived.LoopIn
namespace Go.Proofs.Ytalgdeieejpelaa
open Go.RowKit Go.Shelf
set_option linter.unusedVariables false
set_option maxRecDepth 100000
attribute [local go_sem] Oper.semAt_some

/-- What has come behind k rounds of len: len - 1, len - 2, .. -/
def revN (len k : Nat) : List Nat := (List.range k).map fun j => len - 1 - j
theorem revN_succ (len k : Nat) : revN len (k + 1) = revN len k ++ [len - 1 - k] := by unfold revN; rw [List.range_succ, List.map_append]; rfl
theorem revN_len (len k : Nat) : (revN len k).length = k := by simp [revN]
theorem revN_mem {len k x : Nat} : x ∈ revN len k ↔ ∃ j, j < k ∧ x = len - 1 - j := by
  unfold revN
  rw [List.mem_map]
  constructor
  · rintro ⟨j, hj, rfl⟩
    exact ⟨j, List.mem_range.1 hj, rfl⟩
  · rintro ⟨j, hj, rfl⟩
    exact ⟨j, List.mem_range.2 hj, rfl⟩
/-- A place below len. -/
abbrev Pl (len : Nat) := { k : Nat // k < len }
def encP (len : Nat) (rv : Nat → Value) (x : Pl len) : Array Value := #[.int .i64 (x.1 : Int), rv x.1]
set_option maxHeartbeats 2000000 in
theorem back1_in (F : Fence) (n : Nat) (hF : F.fn 57) (hro : F.round = none) (hn : 1 ≤ n) (l Bs n₀ : Nat) (A : Option Addr) (len cap : Nat) (hlen : len ≤ 1048576) (rv : Nat → Value) (J Jx : List (Pl len) → World → Prop) (W : World)
    (hY : ∀ pre x W, J pre W → pre.length < len → YieldAt F (n - 1) Try.prog l (encP len rv x) W fun e W' =>
      (e = .returned (.bool true) ∧ J (pre ++ [x]) W' ∧ Below n₀ W W') ∨ (e = .returned (.bool false) ∧ Jx (pre ++ [x]) W'))
    (hBn : Bs < n₀) (hBs : W.cell? ⟨Bs, 0, none⟩ = some (.slice A len cap)) (hc : ∀ b o, A = some ⟨b, o, none⟩ → ∀ j, j < len → b < n₀ ∧ W.cell? ⟨b, o + j, none⟩ = some (rv j)) (hA : 0 < len → ∃ b o, A = some ⟨b, o, none⟩) (h0 : J [] W) :
    CallsIn F n Try.prog 57 #[.func (.yield l) #[] #[], .pointer (some ⟨Bs, 0, none⟩)] W fun e W' => (∃ v, e = .returned v) ∧
      ((∃ ys, ys.map (·.1) = revN len len ∧ J ys W') ∨ (∃ pre, (∃ k, k < len ∧ pre.map (·.1) = revN len (k + 1)) ∧ Jx pre W')) := by
  refine callsIn_of_wp Try.func57 rfl hF ?_ hro
  simp only [Try.ntmps57, List.size_toArray, List.length_cons, List.length_nil, Nat.reduceAdd, Nat.reduceSub, Array.replicate_succ, Array.replicate_zero, List.push_toArray, List.append_toArray, List.nil_append, List.cons_append]
  gi_wp2
  gi_loopw [3] (fun i wr => ∃ (z : Int) (pre : List (Pl len)), i = .int .i64 z ∧ -1 ≤ z ∧ z ≤ (len : Int) - 1 ∧ pre.map (·.1) = revN len ((len : Int) - 1 - z).toNat ∧ J pre wr ∧ Below n₀ W wr) (fun i _ => (intOf i + 1).toNat)
  case atStart => exact ⟨(len : Int) - 1, [], by first | rfl | go_num, by omega, by omega, by rw [show ((len : Int) - 1 - ((len : Int) - 1)).toNat = 0 by omega]; rfl, h0, Below.refl _ _⟩
  case round =>
    obtain ⟨z, pre, rfl, hz1, hz2, hp, hJs, hnx⟩ := hrel
    have HP := Lib.hid hp
    clear hp
    have hbs := (hnx.cell (p := ⟨Bs, 0, none⟩) hBn).trans hBs
    by_cases hpos : 0 ≤ z
    · obtain ⟨j, rfl⟩ := int_up z hpos
      have hjl : j < len := by omega
      obtain ⟨b, o, rfl⟩ := hA (by omega)
      obtain ⟨hbn, hcj⟩ := hc b o rfl j hjl
      have hcw := (hnx.cell (p := ⟨b, o + j, none⟩) hbn).trans hcj
      have hpl : pre.length < len := by
        have := congrArg List.length HP.out
        rw [List.length_map, revN_len] at this
        omega
      obtain ⟨fn, tmps, assign, body, hy, hR⟩ := hY pre ⟨j, hjl⟩ wr hJs hpl
      have hpn : (pre ++ [(⟨j, hjl⟩ : Pl len)]).map (·.1) = revN len (len - 1 - j + 1) := by
        rw [List.map_append, HP.out, show ((len : Int) - 1 - (j : Int)).toNat = len - 1 - j by omega, revN_succ]
        congr 1
        show [j] = [len - 1 - (len - 1 - j)]
        congr 1
        omega
      have HPN := Lib.hid hpn
      have HNX := Lib.hid hnx
      simp only [encP] at hy
      have hd0 : decide ((0 : Int) ≤ (j : Int)) = true := by simp
      clear hcj hpl hpn hnx hpos hJs
      gi_wp2
      refine hR.mono ?_
      rintro e W3 (⟨rfl, hJ3, hk3⟩ | ⟨rfl, hJx3⟩)
      · gi_wp2
        go_roundw
        case rel => exact ⟨(j : Int) - 1, pre ++ [⟨j, hjl⟩], by first | rfl | go_num, by omega, by omega, by rw [HPN.out]; congr 1; omega, hJ3, HNX.out.trans hk3⟩
        case measure => simp [intOf] <;> omega
      · gi_wp2
        refine bodyPost_ret (results_none rfl _ _ _) rfl ?_
        exact ⟨⟨_, rfl⟩, .inr ⟨_, ⟨len - 1 - j, by omega, HPN.out⟩, hJx3⟩⟩
    · have hz : z = -1 := by omega
      subst hz
      have hp2 := HP.out
      rw [show ((len : Int) - 1 - (-1)).toNat = len by omega] at hp2
      have HP2 := Lib.hid hp2
      clear hp2 HP
      gi_wp2
      go_end0
      exact ⟨⟨_, rfl⟩, .inl ⟨_, HP2.out, hJs⟩⟩
set_option maxHeartbeats 1000000 in
theorem backward_in (F : Fence) (n : Nat) (hF : F.fn 51) (hro : F.round = none) (A : Option Addr) (len cap : Nat) (w : World) :
    CallsIn F n Try.prog 51 #[.slice A len cap] w fun e w' => e = .returned (.func (.func 57) #[] #[.pointer (some ⟨w.heap.size, 0, none⟩)]) ∧ w' = w.alloc (.cells #[.slice A len cap] 22) := by
  refine callsIn_of_wp Try.func51 rfl hF ?_ hro
  simp only [Try.ntmps51, List.size_toArray, List.length_cons, List.length_nil, Nat.reduceAdd, Nat.reduceSub, Array.replicate_succ, Array.replicate_zero, List.push_toArray, List.append_toArray, List.nil_append, List.cons_append]
  gi_wp2
  go_ret
  exact ⟨rfl, rfl⟩
theorem backward_stops (F : Fence) (n : Nat) (hF : F.fn 57) (hro : F.round = none) (hn : 1 ≤ n) (Bs n₀ : Nat) (A : Option Addr) (len cap : Nat) (hlen : len ≤ 1048576) (rv : Nat → Value) (w : World) (hBn : Bs < n₀) (hn₀ : n₀ ≤ w.heap.size)
    (hBs : w.cell? ⟨Bs, 0, none⟩ = some (.slice A len cap)) (hc : ∀ b o, A = some ⟨b, o, none⟩ → ∀ j, j < len → b < n₀ ∧ w.cell? ⟨b, o + j, none⟩ = some (rv j)) (hA : 0 < len → ∃ b o, A = some ⟨b, o, none⟩) :
    SeqStopsK F n Try.prog 57 #[.pointer (some ⟨Bs, 0, none⟩)] (encP len rv) (Below n₀) (fun ys => ys.map (·.1) = revN len len) (fun pre => ∃ k, k < len ∧ pre.map (·.1) = revN len (k + 1)) len w := fun l J Jx W hW hJ _ hY h0 =>
  back1_in F n hF hro hn l Bs n₀ A len cap hlen rv J Jx W hY hBn ((hW.cell (p := ⟨Bs, 0, none⟩) (show Bs < w.heap.size by omega)).trans hBs) (fun b o e j hj => ⟨(hc b o e j hj).1, (hW.cell (p := ⟨b, o + j, none⟩) (show b < w.heap.size by have := (hc b o e j hj).1; omega)).trans (hc b o e j hj).2⟩) hA h0
end Go.Proofs.Ytalgdeieejpelaa

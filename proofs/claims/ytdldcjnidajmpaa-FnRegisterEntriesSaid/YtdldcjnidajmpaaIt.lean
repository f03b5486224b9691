/- Walks: the library's iterator over entries, and what collects it. -/
import Derived.Test.YtdldcjnidajmpaaEc
import Derived.Test.YtdldcjnidajmpaaBx
import Derived.RangeFuncNested
import Derived.RangeFuncBound
import Derived.RangeFuncCalls
import Derived.RangeFuncLeaves
import Derived.Shelf.Abstract
import Derived.OwnWalkIn
import Derived.TacticsInMore
import Derived.LoopNIn
import Derived.LoopIn
import Derived.Maps.AppendAt
namespace Go.Proofs.Ytdldcjnidajmpaa
open Go.RowKit Go.Shelf
set_option linter.unusedVariables false
set_option maxRecDepth 100000
attribute [local go_sem] Oper.semAt_some

def aggE (x : EntryT) : Array Value := #[.agg (entC x).toArray]
set_option maxHeartbeats 2000000 in
/-- The closure of slices.Values: each element is handed on, for every loop body that keeps what lay below n₀. -/
theorem values1_in (F : Fence) (n : Nat) (hF : F.fn 131) (hro : F.round = none) (hn : 1 ≤ n) (l Bs n₀ : Nat) (A : Option Addr) (len cap : Nat) (xs : List EntryT) (J Jx : List EntryT → World → Prop) (W : World) (hJ : AbidesFrom W.heap.size J)
    (hY : ∀ pre x W, J pre W → pre.length < len → YieldAt F (n - 1) Try.prog l (aggE x) W fun e W' =>
      (e = .returned (.bool true) ∧ J (pre ++ [x]) W' ∧ Below n₀ W W') ∨ (e = .returned (.bool false) ∧ Jx (pre ++ [x]) W'))
    (hn₀ : n₀ ≤ W.heap.size) (hBs : W.cell? ⟨Bs, 0, none⟩ = some (.slice A len cap)) (hr : Rd W 7 A len (ents xs)) (hb : 0 < len → ∀ b o, A = some ⟨b, o, none⟩ → b < n₀) (h0 : J [] W) :
    CallsIn F n Try.prog 131 #[.func (.yield l) #[] #[], .pointer (some ⟨Bs, 0, none⟩)] W fun e W' => (∃ v, e = .returned v) ∧
      ((∃ ys, ys = xs ∧ J ys W') ∨ (∃ pre, pre <+: xs ∧ Jx pre W')) := by
  have hl := hr.len_ent
  have hle := hr.le
  refine callsIn_of_wp Try.func131 rfl hF ?_ hro
  simp only [Try.ntmps131, List.size_toArray, List.length_cons, List.length_nil, Nat.reduceAdd, Nat.reduceSub, Array.replicate_succ, Array.replicate_zero, List.push_toArray, List.append_toArray, List.nil_append, List.cons_append]
  gi_wp2
  gi_loopw [7] (fun i wr => ∃ k : Nat, k ≤ len ∧ i = .int .i64 k ∧ J (xs.take k) wr ∧ Below n₀ W wr) (fun i _ => len - (intOf i).toNat)
  case atStart => exact ⟨0, Nat.zero_le _, rfl, h0, Below.refl _ _⟩
  case round =>
    obtain ⟨k, hk, rfl, hJs, hnx⟩ := hrel
    have HL := Lib.hid hl
    clear hl
    by_cases hlt : k < len
    · obtain ⟨b, o, x0, x1, x2, x3, x4, x5, x6, rfl, hx, hd, hc0, hc1, hc2, hc3, hc4, hc5, hc6⟩ := hr.ent hlt
      have hbn := hb (by omega) b o rfl
      have hsn := take_snoc_get hx
      have HSN := Lib.hid hsn
      have e0 := (hnx.cell (p := ⟨b, o + k * 7, none⟩) hbn).trans hc0
      have e1 := (hnx.cell (p := ⟨b, o + k * 7 + 1, none⟩) hbn).trans hc1
      have e2 := (hnx.cell (p := ⟨b, o + k * 7 + 2, none⟩) hbn).trans hc2
      have e3 := (hnx.cell (p := ⟨b, o + k * 7 + 3, none⟩) hbn).trans hc3
      have e4 := (hnx.cell (p := ⟨b, o + k * 7 + 4, none⟩) hbn).trans hc4
      have e5 := (hnx.cell (p := ⟨b, o + k * 7 + 5, none⟩) hbn).trans hc5
      have e6 := (hnx.cell (p := ⟨b, o + k * 7 + 6, none⟩) hbn).trans hc6
      have hJa := hJ _ _ (wr.alloc (.cells #[.int .i64 x0, .int .i64 x1, .int .i64 x2, .int .i64 x3, .int .i64 x4, .int .i64 x5, .int .i64 x6] 66)) none hJs (World.grownBy_alloc _ _ _) (fun r e => by cases e)
      obtain ⟨fn, tmps, assign, body, hy, hR⟩ := hY _ (x0, x1, x2, x3, x4, x5, x6) _ hJa (by rw [List.length_take, HL.out]; omega)
      simp only [aggE, entC] at hy
      have hwn : n₀ ≤ wr.heap.size := Nat.le_trans hn₀ hnx.size
      have HNX := Lib.hid hnx
      clear hx hd hc0 hc1 hc2 hc3 hc4 hc5 hc6 hsn hnx hJs hJa
      gi_wp2
      refine hR.mono ?_
      rintro e W3 (⟨rfl, hJ3, hk3⟩ | ⟨rfl, hJx3⟩)
      · gi_wp2
        go_roundw
        case rel => exact ⟨k + 1, by omega, by go_num, by rw [HSN.out]; exact hJ3, HNX.out.trans (((Below.refl n₀ wr).alloc hwn _).trans hk3)⟩
        case measure => simp [intOf] <;> omega
      · gi_wp2
        refine bodyPost_ret (results_none rfl _ _ _) rfl ?_
        exact ⟨⟨_, rfl⟩, .inr ⟨_, by rw [← HSN.out]; exact List.take_prefix _ _, hJx3⟩⟩
    · obtain rfl : k = len := by omega
      have ht : xs.take k = xs := List.take_of_length_le (by rw [HL.out]; exact Nat.le_refl _)
      rw [ht] at hJs
      clear ht
      gi_wp2
      go_end0
      exact ⟨⟨_, rfl⟩, .inl ⟨_, rfl, hJs⟩⟩

set_option maxHeartbeats 1000000 in
/-- slices.Values: the slice value is boxed; the function value captures the box. -/
theorem values_in (F : Fence) (n : Nat) (hF : F.fn 93) (hro : F.round = none) (A : Option Addr) (len cap : Nat) (w : World) :
    CallsIn F n Try.prog 93 #[.slice A len cap] w fun e w' => e = .returned (.func (.func 131) #[] #[.pointer (some ⟨w.heap.size, 0, none⟩)]) ∧ w' = w.alloc (.cells #[.slice A len cap] 49) := by
  refine callsIn_of_wp Try.func93 rfl hF ?_ hro
  simp only [Try.ntmps93, List.size_toArray, List.length_cons, List.length_nil, Nat.reduceAdd, Nat.reduceSub, Array.replicate_succ, Array.replicate_zero, List.push_toArray, List.append_toArray, List.nil_append, List.cons_append]
  gi_wp2
  go_ret
  exact ⟨rfl, rfl⟩

/-- What slices.Values hands back goes through all elements. -/
theorem values_stops (F : Fence) (n : Nat) (hF : F.fn 131) (hro : F.round = none) (hn : 1 ≤ n) (Bs n₀ : Nat) (A : Option Addr) (len cap : Nat) (xs : List EntryT) (w : World) (hBs : Bs < w.heap.size) (hn₀ : n₀ ≤ w.heap.size)
    (hc : w.cell? ⟨Bs, 0, none⟩ = some (.slice A len cap)) (hr : Rd w 7 A len (ents xs)) (hb : 0 < len → ∀ b o, A = some ⟨b, o, none⟩ → b < n₀) :
    SeqStopsK F n Try.prog 131 #[.pointer (some ⟨Bs, 0, none⟩)] aggE (Below n₀) (fun ys => ys = xs) (fun pre => pre <+: xs) len w := fun l J Jx W hW hJ _ hY h0 =>
  values1_in F n hF hro hn l Bs n₀ A len cap xs J Jx W hJ hY (Nat.le_trans hn₀ hW.size) ((hW.cell (p := ⟨Bs, 0, none⟩) hBs).trans hc) (hr.below hW) hb h0
end Go.Proofs.Ytdldcjnidajmpaa

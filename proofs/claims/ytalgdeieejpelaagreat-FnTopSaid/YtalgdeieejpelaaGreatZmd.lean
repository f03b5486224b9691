/- General and plain lemmas, and light walks (merged): Zy Zk Th Ti. -/
import Derived.Test.YtalgdeieejpelaaGreatZx
import Derived.Test.YtalgdeieejpelaaGreatZma
import Derived.Test.YtalgdeieejpelaaGreatZmi
import Derived.Deep.AppendLies
import Derived.RangeFuncNested
import Derived.RangeFuncBound
import Derived.RangeFuncCalls
import Derived.RangeFuncLeaves
import Derived.Shelf.Abstract
import Derived.OwnWalkIn
import Derived.TacticsInMore
import Derived.LoopNIn
import Derived.LoopIn
/- Appending a number to an own row, and where the new row lies; what else stands. -/
namespace Go.Proofs.YtalgdeieejpelaaGreat
open Go.RowKit Go.Sort
set_option linter.unusedVariables false

theorem Tryz.info_num : (Tryz.prog.info? 2).map (fun i => (i.zero, i.size, i.bytes)) = some (some (.int .i64 0), 1, 8) := by kernel_rfl
theorem app_num {ops : Array Oper} {rest : List Oper} {o : Oper} {a : Act} {Q : Exit → Act → World → Prop} (w : World) (hgd : o.guard = none) (s x : Operand)
    (ho : o.op = .call { callee := .builtin .append, args := #[s, x], argTypes := #[25, 25] }) {base n c : Nat} {A : Option Addr} {xs : List Int} {y : Int}
    (hs : a.eval s = .slice A n c) (hown : w.ownsRow base 2 1 (.slice A n c) n (ints xs)) {b : Nat} (hx : a.eval x = .slice (some ⟨b, 0, none⟩) 1 1)
    (hc : w.heap[b]? = some (.cells #[.int .i64 y] 2 (0, 0))) (hn : n ≤ 1099511627776) (hbase : base ≤ w.heap.size)
    (h : ∀ g c' w', w'.ownsRow base 2 1 (.slice (some ⟨g, 0, none⟩) (n + 1) c') (n + 1) (ints (xs ++ [y])) → w.grownBy w' (Value.slice A n c).ownBlock → ((Value.slice A n c).ownBlock = some g ∨ g = w.heap.size) → g < w'.heap.size → wpList Tryz.prog ops Q rest (a.put o.dst (.slice (some ⟨g, 0, none⟩) (n + 1) c')) w') :
    wpList Tryz.prog ops Q (o :: rest) a w := by
  obtain ⟨i, hi, hz, hs1, hb1⟩ := info_parts Tryz.info_num
  have e : ints xs ++ [.int .i64 y] = ints (xs ++ [y]) := by rw [ints_append]; rfl
  exact wpList_append_lies w hgd s x 25 ho base 2 i (.int .i64 0) 1 8 Tryz.underlying25 hi hz hs1 hb1 rfl (by decide) (.slice A n c) n (ints xs) hs hown ⟨b, 0, none⟩ 1 1 [.int .i64 y] hx rfl (World.news_of_block (cs := #[.int .i64 y]) hc)
    (by intro u hu; simp at hu; subst hu; rfl) (by decide) (by unfold maxLen; omega) (by omega) hbase _ rfl (by rw [e]; exact h)
/-- A row that lies in block g0 of the old world or is new has grown: all else of the old world stands. -/
theorem chg_grow1 {a w w' : World} {g0 g : Nat} {v : Value} (h : Chg g0 (g0 + 1) a w) (hg : w.grownBy w' v.ownBlock) (hv : v.ownBlock = some g) (hr : g = g0 ∨ a.heap.size ≤ g) : Chg g0 (g0 + 1) a w' := by
  rw [hv] at hg
  refine ⟨hg.os.trans h.os, hg.tape.trans h.tape, hg.output.trans h.output, Nat.le_trans h.size hg.size, fun k hk hn => ?_⟩
  have hne : ¬ (some k = some g) := by intro e; injection e with e; omega
  exact (hg.block k (Nat.lt_of_lt_of_le hk h.size) hne).trans (h.block k hk hn)
theorem chg_bel {lo hi : Nat} {a w w' : World} (h : Chg lo hi a w) (k : Below w.heap.size w w') : Chg lo hi a w' := h.trans (Chg.of_below k)
theorem chg_wide2 {lo hi : Nat} {a w w' : World} (h : Chg lo hi a w) {g : Nat} (k : Chg g (g + 1) w w') (hr : (lo ≤ g ∧ g < hi) ∨ a.heap.size ≤ g) : Chg lo hi a w' :=
  ⟨k.os.trans h.os, k.tape.trans h.tape, k.output.trans h.output, Nat.le_trans h.size k.size, fun j hj hn => (k.block j (Nat.lt_of_lt_of_le hj h.size) (by omega)).trans (h.block j hj hn)⟩
/-- Result: new memory that holds numbers, in a block. -/
def RetG (w : World) (xs : List Int) (e : Ending) (w' : World) : Prop :=
  ∃ g n c, e = .returned (.slice (some ⟨g, 0, none⟩) n c) ∧ w'.ownsRow w.heap.size 2 1 (.slice (some ⟨g, 0, none⟩) n c) n (ints xs) ∧ n ≤ 1000 ∧ Below w.heap.size w w'
theorem col_at {rows : List (List Int)} {k bt : Nat} {p : List Int} {x : Int} (hd : rows.drop k = p :: rows.drop (k + 1)) (hx : p.getD bt 0 = x) : atI (colOf rows (bt : Int)) (k : Int) = x := by
  have h0 : (rows.drop k)[0]? = some p := by rw [hd]; rfl
  rw [List.getElem?_drop, Nat.add_zero] at h0
  unfold atI colOf
  rw [Int.toNat_natCast, List.getD_eq_getElem?_getD, List.getElem?_map, h0]
  show (some (atI p (bt : Int))).getD 0 = x
  unfold atI
  rw [Int.toNat_natCast, ← hx]
  rfl
theorem getD_of_drop2 {α : Type} {xs r : List α} {k : Nat} {x d : α} (h : xs.drop k = x :: r) : xs.getD k d = x := by
  have h0 : (xs.drop k)[0]? = some x := by rw [h]; rfl
  rw [List.getElem?_drop, Nat.add_zero] at h0
  rw [List.getD_eq_getElem?_getD, h0]
  rfl
end Go.Proofs.YtalgdeieejpelaaGreat

/- Walks: the library's iterator over rows, from the last to the first. -/
namespace Go.Proofs.YtalgdeieejpelaaGreat
open Go.RowKit Go.Shelf
set_option linter.unusedVariables false
set_option maxRecDepth 100000
attribute [local go_sem] Oper.semAt_some

/-- What has come behind k rounds of len: len - 1, len - 2, .. -/
def revN (len k : Nat) : List Nat := (List.range k).map fun j => len - 1 - j
theorem revN_succ (len k : Nat) : revN len (k + 1) = revN len k ++ [len - 1 - k] := by unfold revN; rw [List.range_succ, List.map_append]; rfl
theorem revN_len (len k : Nat) : (revN len k).length = k := by simp [revN]
theorem revN_mem {len k x : Nat} : x ∈ revN len k ↔ ∃ j, j < k ∧ x = len - 1 - j := by
  unfold revN
  rw [List.mem_map]
  constructor
  · rintro ⟨j, hj, rfl⟩
    exact ⟨j, List.mem_range.1 hj, rfl⟩
  · rintro ⟨j, hj, rfl⟩
    exact ⟨j, List.mem_range.2 hj, rfl⟩
/-- A place below len. -/
abbrev Pl (len : Nat) := { k : Nat // k < len }
def encP (len : Nat) (rv : Nat → Value) (x : Pl len) : Array Value := #[.int .i64 (x.1 : Int), rv x.1]
set_option maxHeartbeats 2000000 in
theorem back1_in (F : Fence) (n : Nat) (hF : F.fn 115) (hro : F.round = none) (hn : 1 ≤ n) (l Bs n₀ : Nat) (A : Option Addr) (len cap : Nat) (hlen : len ≤ 1048576) (rv : Nat → Value) (J Jx : List (Pl len) → World → Prop) (W : World)
    (hY : ∀ pre x W, J pre W → pre.length < len → YieldAt F (n - 1) Tryz.prog l (encP len rv x) W fun e W' =>
      (e = .returned (.bool true) ∧ J (pre ++ [x]) W' ∧ Below n₀ W W') ∨ (e = .returned (.bool false) ∧ Jx (pre ++ [x]) W'))
    (hBn : Bs < n₀) (hBs : W.cell? ⟨Bs, 0, none⟩ = some (.slice A len cap)) (hc : ∀ b o, A = some ⟨b, o, none⟩ → ∀ j, j < len → b < n₀ ∧ W.cell? ⟨b, o + j, none⟩ = some (rv j)) (hA : 0 < len → ∃ b o, A = some ⟨b, o, none⟩) (h0 : J [] W) :
    CallsIn F n Tryz.prog 115 #[.func (.yield l) #[] #[], .pointer (some ⟨Bs, 0, none⟩)] W fun e W' => (∃ v, e = .returned v) ∧
      ((∃ ys, ys.map (·.1) = revN len len ∧ J ys W') ∨ (∃ pre, (∃ k, k < len ∧ pre.map (·.1) = revN len (k + 1)) ∧ Jx pre W')) := by
  refine callsIn_of_wp Tryz.func115 rfl hF ?_ hro
  simp only [Tryz.ntmps115, List.size_toArray, List.length_cons, List.length_nil, Nat.reduceAdd, Nat.reduceSub, Array.replicate_succ, Array.replicate_zero, List.push_toArray, List.append_toArray, List.nil_append, List.cons_append]
  gi_wp2
  gi_loopw [3] (fun i wr => ∃ (z : Int) (pre : List (Pl len)), i = .int .i64 z ∧ -1 ≤ z ∧ z ≤ (len : Int) - 1 ∧ pre.map (·.1) = revN len ((len : Int) - 1 - z).toNat ∧ J pre wr ∧ Below n₀ W wr) (fun i _ => (intOf i + 1).toNat)
  case atStart => exact ⟨(len : Int) - 1, [], by first | rfl | go_num, by omega, by omega, by rw [show ((len : Int) - 1 - ((len : Int) - 1)).toNat = 0 by omega]; rfl, h0, Below.refl _ _⟩
  case round =>
    obtain ⟨z, pre, rfl, hz1, hz2, hp, hJs, hnx⟩ := hrel
    have HP := Lib.hid hp
    clear hp
    have hbs := (hnx.cell (p := ⟨Bs, 0, none⟩) hBn).trans hBs
    by_cases hpos : 0 ≤ z
    · obtain ⟨j, rfl⟩ := int_up z hpos
      have hjl : j < len := by omega
      obtain ⟨b, o, rfl⟩ := hA (by omega)
      obtain ⟨hbn, hcj⟩ := hc b o rfl j hjl
      have hcw := (hnx.cell (p := ⟨b, o + j, none⟩) hbn).trans hcj
      have hpl : pre.length < len := by
        have := congrArg List.length HP.out
        rw [List.length_map, revN_len] at this
        omega
      obtain ⟨fn, tmps, assign, body, hy, hR⟩ := hY pre ⟨j, hjl⟩ wr hJs hpl
      have hpn : (pre ++ [(⟨j, hjl⟩ : Pl len)]).map (·.1) = revN len (len - 1 - j + 1) := by
        rw [List.map_append, HP.out, show ((len : Int) - 1 - (j : Int)).toNat = len - 1 - j by omega, revN_succ]
        congr 1
        show [j] = [len - 1 - (len - 1 - j)]
        congr 1
        omega
      have HPN := Lib.hid hpn
      have HNX := Lib.hid hnx
      simp only [encP] at hy
      have hd0 : decide ((0 : Int) ≤ (j : Int)) = true := by simp
      clear hcj hpl hpn hnx hpos hJs
      gi_wp2
      refine hR.mono ?_
      rintro e W3 (⟨rfl, hJ3, hk3⟩ | ⟨rfl, hJx3⟩)
      · gi_wp2
        go_roundw
        case rel => exact ⟨(j : Int) - 1, pre ++ [⟨j, hjl⟩], by first | rfl | go_num, by omega, by omega, by rw [HPN.out]; congr 1; omega, hJ3, HNX.out.trans hk3⟩
        case measure => simp [intOf] <;> omega
      · gi_wp2
        refine bodyPost_ret (results_none rfl _ _ _) rfl ?_
        exact ⟨⟨_, rfl⟩, .inr ⟨_, ⟨len - 1 - j, by omega, HPN.out⟩, hJx3⟩⟩
    · have hz : z = -1 := by omega
      subst hz
      have hp2 := HP.out
      rw [show ((len : Int) - 1 - (-1)).toNat = len by omega] at hp2
      have HP2 := Lib.hid hp2
      clear hp2 HP
      gi_wp2
      go_end0
      exact ⟨⟨_, rfl⟩, .inl ⟨_, HP2.out, hJs⟩⟩
set_option maxHeartbeats 1000000 in
theorem backward_in (F : Fence) (n : Nat) (hF : F.fn 95) (hro : F.round = none) (A : Option Addr) (len cap : Nat) (w : World) :
    CallsIn F n Tryz.prog 95 #[.slice A len cap] w fun e w' => e = .returned (.func (.func 115) #[] #[.pointer (some ⟨w.heap.size, 0, none⟩)]) ∧ w' = w.alloc (.cells #[.slice A len cap] 51) := by
  refine callsIn_of_wp Tryz.func95 rfl hF ?_ hro
  simp only [Tryz.ntmps95, List.size_toArray, List.length_cons, List.length_nil, Nat.reduceAdd, Nat.reduceSub, Array.replicate_succ, Array.replicate_zero, List.push_toArray, List.append_toArray, List.nil_append, List.cons_append]
  gi_wp2
  go_ret
  exact ⟨rfl, rfl⟩
theorem backward_stops (F : Fence) (n : Nat) (hF : F.fn 115) (hro : F.round = none) (hn : 1 ≤ n) (Bs n₀ : Nat) (A : Option Addr) (len cap : Nat) (hlen : len ≤ 1048576) (rv : Nat → Value) (w : World) (hBn : Bs < n₀) (hn₀ : n₀ ≤ w.heap.size)
    (hBs : w.cell? ⟨Bs, 0, none⟩ = some (.slice A len cap)) (hc : ∀ b o, A = some ⟨b, o, none⟩ → ∀ j, j < len → b < n₀ ∧ w.cell? ⟨b, o + j, none⟩ = some (rv j)) (hA : 0 < len → ∃ b o, A = some ⟨b, o, none⟩) :
    SeqStopsK F n Tryz.prog 115 #[.pointer (some ⟨Bs, 0, none⟩)] (encP len rv) (Below n₀) (fun ys => ys.map (·.1) = revN len len) (fun pre => ∃ k, k < len ∧ pre.map (·.1) = revN len (k + 1)) len w := fun l J Jx W hW hJ _ hY h0 =>
  back1_in F n hF hro hn l Bs n₀ A len cap hlen rv J Jx W hY hBn ((hW.cell (p := ⟨Bs, 0, none⟩) (show Bs < w.heap.size by omega)).trans hBs) (fun b o e j hj => ⟨(hc b o e j hj).1, (hW.cell (p := ⟨b, o + j, none⟩) (show b < w.heap.size by have := (hc b o e j hj).1; omega)).trans (hc b o e j hj).2⟩) hA h0
end Go.Proofs.YtalgdeieejpelaaGreat

/- Walks: codes and open redress of the program (chapter 29). -/
namespace Go.Proofs.YtalgdeieejpelaaGreat
open Go.RowKit Go.Sort
set_option linter.unusedVariables false
set_option maxRecDepth 100000

/-- The first element for which p holds. -/
def givenF (p : RedressT → Bool) : Nat → List RedressT → Int
  | _, [] => -1
  | i, x :: r => if p x = true then (i : Int) else givenF p (i + 1) r
theorem givenF_any (p : RedressT → Bool) (i : Nat) (xs : List RedressT) : decide (0 ≤ givenF p i xs) = xs.any p := by
  induction xs generalizing i with
  | nil => rfl
  | cons x r ih =>
    unfold givenF
    by_cases h : p x = true
    · rw [if_pos h, List.any_cons, h]; simp
    · rw [if_neg h, ih, List.any_cons]; simp [h]
end Go.Proofs.YtalgdeieejpelaaGreat

/- Walks: open redress (chapter 29), both sides. -/
namespace Go.Proofs.YtalgdeieejpelaaGreat
open Go.RowKit Go.Sort
set_option linter.unusedVariables false
set_option maxRecDepth 100000

theorem own_box_ne {w : World} {base e s n b : Nat} {v : Value} {xs : List Value} {vs : Array Value} {t : TypeId} (h : w.ownsRow base e s v n xs) (hb : Box w b vs t) (hne : e ≠ t) : v.ownBlock ≠ some b := by
  intro hv
  rcases h.2 with ⟨rfl, _⟩ | ⟨g1, cap, cur, rfl, _, hh, _⟩
  · simp [Value.ownBlock] at hv
  · simp [Value.ownBlock] at hv
    subst hv
    unfold Box at hb
    rw [hh] at hb
    injection hb with hb
    injection hb with _ ht
    exact hne ht
theorem redCode_ok {t : Tb} {xs : List RedT} (h : redCodeF t xs = 0) : tableB t = true ∧ redsB t xs = true := by
  unfold redCodeF at h
  by_cases h1 : tableB t = true
  · rw [if_pos h1] at h
    by_cases h2 : redsB t xs = true
    · exact ⟨h1, h2⟩
    · rw [if_neg h2] at h; cases h
  · rw [if_neg h1] at h; cases h
theorem pair_new (w : World) (base : Nat) (x y : Int) (hb : base ≤ w.heap.size) : (w.alloc (.cells #[.int .i64 x, .int .i64 y] 2)).ownsRow base 2 1 (.slice (some ⟨w.heap.size, 0, none⟩) [x, y].length 2) [x, y].length (ints [x, y]) := by
  have := World.ownsRow_lit (base := base) (e := 2) (size := 1) w #[.int .i64 x, .int .i64 y] 2 hb (by decide) (by simp)
  exact this
theorem openRow_end (xs : List RedT) (k j : Nat) : openRow xs k j [] = [] := rfl
/-- A row of two numbers has been appended. -/
theorem open_put {w w7 : World} {base n' c' A1b : Nat} {A' A1 : Option Addr} {vs : List Value} {rows : List (List Int)} {x y : Int} (h : OwnRows w base 25 2 A' n' c' vs rows) (hb : base ≤ w.heap.size) (o : Obj)
    (hg : ((w.alloc (.cells #[.int .i64 x, .int .i64 y] 2)).alloc o).grownBy w7 (Value.slice A' n' c').ownBlock) (ho : w7.ownsRow base 25 1 (.slice A1 (n' + 1) A1b) (n' + 1) (vs ++ [.slice (some ⟨w.heap.size, 0, none⟩) 2 2])) :
    OwnRows w7 base 25 2 A1 (n' + 1) A1b (vs ++ [.slice (some ⟨w.heap.size, 0, none⟩) 2 2]) (rows ++ [[x, y]]) := by
  have h1 := h.alloc (.cells #[.int .i64 x, .int .i64 y] 2)
  have hin := h.in_
  refine OwnRows.append (A' := some ⟨w.heap.size, 0, none⟩) (c' := 2) (ys := [x, y]) h1 (by decide) (pair_new w base x y hb) (fun u hu b hb' hub => ?_) o hg ho
  have e : b = w.heap.size := by simp [Value.ownBlock] at hb'; exact hb'.symm
  have := hin.2 u hu b hub
  omega
end Go.Proofs.YtalgdeieejpelaaGreat

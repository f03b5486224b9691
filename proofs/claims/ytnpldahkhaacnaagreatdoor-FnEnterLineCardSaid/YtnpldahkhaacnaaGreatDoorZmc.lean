/- General and plain lemmas, and light walks (merged): Rp Ec It Se Iu Rh Co. -/
import Derived.Test.YtnpldahkhaacnaaGreatDoorEs
import Derived.Test.YtnpldahkhaacnaaGreatDoorZmb
import Derived.Test.YtnpldahkhaacnaaGreatDoorZma
import Derived.Test.YtnpldahkhaacnaaGreatDoorWd
import Derived.Sort.Grow
import Derived.RangeFuncNested
import Derived.RangeFuncBound
import Derived.RangeFuncCalls
import Derived.RangeFuncLeaves
import Derived.Shelf.Abstract
import Derived.OwnWalkIn
import Derived.TacticsInMore
import Derived.LoopNIn
import Derived.LoopIn
import Derived.Maps.AppendAt
import Derived.Shelf.SlSortCmp.WholeK
import Derived.Shelf.SlSortCmp.NoneTotal
import Derived.Ground.SlsfProg
/- Plain: entries, registers, histories. -/
namespace Go.Proofs.YtnpldahkhaacnaaGreatDoor
open Go.RowKit
set_option linter.unusedVariables false

def isRedB (kind points : Int) : Bool := if kind = 3 then withinB points 0 10000 else withinB kind 1 2 && (points == 0)
namespace E
abbrev race (x : EntryT) : Int := x.1
abbrev boat (x : EntryT) : Int := x.2.1
abbrev rev (x : EntryT) : Int := x.2.2.1
abbrev code (x : EntryT) : Int := x.2.2.2.1
abbrev time (x : EntryT) : Int := x.2.2.2.2.1
abbrev kind (x : EntryT) : Int := x.2.2.2.2.2.1
abbrev points (x : EntryT) : Int := x.2.2.2.2.2.2
end E
/-- An entry is valid but for its revision. -/
def entB (b : Int) (x : EntryT) : Bool := withinB (E.race x) 0 11 && withinB (E.boat x) 0 (b - 1) && finB (E.boat x, E.code x, E.time x) && (if E.kind x = 0 then (E.points x == 0) else (E.code x == 9) && isRedB (E.kind x) (E.points x))
def revB (n : Int) : Bool := withinB n 1 1000
def sameB (x y : EntryT) : Bool := E.race x == E.race y && E.boat x == E.boat y && E.rev x == E.rev y
def hasB (xs : List EntryT) (x : EntryT) : Bool := xs.any fun y => sameB y x
/-- All valid, none with the key of an earlier one. -/
def entsGo (b : Int) : List EntryT → List EntryT → Bool
  | _, [] => true
  | seen, x :: r => entB b x && revB (E.rev x) && !hasB seen x && entsGo b (seen ++ [x]) r
def regB (b s : Int) (xs : List EntryT) : Bool := withinB b 1 16 && withinB s 0 1 && decide (xs.length ≤ 400) && entsGo b [] xs
/-- What a valid register is. -/
structure RegOk (b s : Int) (xs : List EntryT) : Prop where
  b1 : 1 ≤ b
  b2 : b ≤ 16
  s0 : 0 ≤ s
  s1 : s ≤ 1
  len : xs.length ≤ 400
  ent : ∀ x ∈ xs, entB b x = true ∧ 1 ≤ E.rev x ∧ E.rev x ≤ 1000
  key : xs.Pairwise fun x y => sameB x y = false
theorem sameB_iff {x y : EntryT} : sameB x y = true ↔ E.race x = E.race y ∧ E.boat x = E.boat y ∧ E.rev x = E.rev y := by
  unfold sameB
  simp [and_assoc]
theorem entsGo_iff (b : Int) : ∀ (xs seen : List EntryT), entsGo b seen xs = true ↔ (∀ x ∈ xs, entB b x = true ∧ revB (E.rev x) = true) ∧ (∀ x ∈ xs, ∀ y ∈ seen, sameB y x = false) ∧ xs.Pairwise fun x y => sameB x y = false := by
  intro xs
  induction xs with
  | nil => intro seen; simp [entsGo]
  | cons x r ih =>
    intro seen
    rw [entsGo, Bool.and_eq_true, ih, List.pairwise_cons]
    have hh : (!hasB seen x) = true ↔ ∀ y ∈ seen, sameB y x = false := by
      unfold hasB
      simp [List.any_eq_false]
    simp only [Bool.and_eq_true, hh, List.mem_append, List.mem_cons, List.not_mem_nil, or_false]
    constructor
    · rintro ⟨⟨⟨h1, h2⟩, h3⟩, h4, h5, h6⟩
      refine ⟨fun y hy => ?_, fun y hy z hz => ?_, fun y hy => h5 y hy x (.inr rfl), h6⟩
      · rcases hy with rfl | hy
        · exact ⟨h1, h2⟩
        · exact h4 y hy
      · rcases hy with rfl | hy
        · exact h3 z hz
        · exact h5 y hy z (.inl hz)
    · rintro ⟨h1, h2, h3, h4⟩
      refine ⟨⟨h1 x (.inl rfl), h2 x (.inl rfl)⟩, fun y hy => h1 y (.inr hy), fun y hy z hz => ?_, h4⟩
      rcases hz with hz | rfl
      · exact h2 y (.inr hy) z hz
      · exact h3 y hy
theorem regB_ok {b s : Int} {xs : List EntryT} (h : regB b s xs = true) : RegOk b s xs := by
  unfold regB at h
  simp only [Bool.and_eq_true, decide_eq_true_eq] at h
  obtain ⟨⟨⟨h1, h2⟩, h3⟩, h4⟩ := h
  have hb := withinB_iff.1 h1
  have hs := withinB_iff.1 h2
  obtain ⟨a, _, c⟩ := (entsGo_iff b xs []).1 h4
  exact ⟨hb.1, hb.2, hs.1, hs.2, h3, fun x hx => ⟨(a x hx).1, withinB_iff.1 (a x hx).2⟩, c⟩
theorem RegOk.regB {b s : Int} {xs : List EntryT} (h : RegOk b s xs) : regB b s xs = true := by
  unfold Go.Proofs.YtnpldahkhaacnaaGreatDoor.regB
  rw [withinB_iff.2 ⟨h.b1, h.b2⟩, withinB_iff.2 ⟨h.s0, h.s1⟩, decide_eq_true h.len, (entsGo_iff b xs []).2 ⟨fun x hx => ⟨(h.ent x hx).1, withinB_iff.2 (h.ent x hx).2⟩, fun x hx y hy => (by cases hy), h.key⟩]
  rfl

/-! ### Histories -/
/-- x is put behind the last entry with a revision that is not greater. -/
def putE (x : EntryT) : List EntryT → List EntryT
  | [] => [x]
  | y :: r => if (y :: r).all (fun z => decide (E.rev x < E.rev z)) = true then x :: y :: r else y :: putE x r
def ofKey (race boat : Int) (xs : List EntryT) : List EntryT := xs.filter fun x => E.race x == race && E.boat x == boat
/-- The sorted list with the same entries. -/
def histF (xs : List EntryT) (race boat : Int) : List EntryT := (ofKey race boat xs).mergeSort fun x y => decide (E.rev x ≤ E.rev y)
/-- Two sorted lists with the same elements are one, if no two elements have one revision. -/
theorem sorted_uniq {xs ys : List EntryT} (hp : xs.Perm ys) (h1 : xs.Pairwise fun x y => E.rev x < E.rev y) (h2 : ys.Pairwise fun x y => E.rev x < E.rev y) : xs = ys :=
  hp.eq_of_pairwise (fun a b _ _ h h' => by omega) h1 h2
end Go.Proofs.YtnpldahkhaacnaaGreatDoor

/- Walks: entries compared, the program: their keys, their order. -/
namespace Go.Proofs.YtnpldahkhaacnaaGreatDoor
open Go.RowKit Go.Sort
set_option linter.unusedVariables false
set_option maxRecDepth 100000

def sgn (n : Int) : Int := if n < 0 then -1 else if n = 0 then 0 else 1
theorem sign_any (n : Int) (w : World) : Calls Tryz.prog 89 #[.int .i64 n] w fun e w' => e = .returned (.int .i64 (sgn n)) ∧ w = w' := by
  unfold sgn
  rcases (by omega : n < 0 ∨ n = 0 ∨ 0 < n) with h | h | h
  · rw [if_pos h]
    go_enter Tryz.func89, Tryz.ntmps89
    go_wp2_with fail
    go_ret
    refine ⟨ret_int ?_, rfl⟩
    first | omega | rfl | (simp <;> omega)
  · subst h
    go_enter Tryz.func89, Tryz.ntmps89
    go_wp2_with fail
    go_ret
    exact ⟨rfl, rfl⟩
  · rw [if_neg (by omega), if_neg (by omega)]
    go_enter Tryz.func89, Tryz.ntmps89
    go_wp2_with fail
    go_ret
    refine ⟨ret_int ?_, rfl⟩
    first | omega | rfl | (simp <;> omega)

/-- Race, boat and revision of a valid entry. -/
def okE (x : EntryT) : Prop := 0 ≤ E.race x ∧ E.race x ≤ 11 ∧ 0 ≤ E.boat x ∧ E.boat x ≤ 15 ∧ 1 ≤ E.rev x ∧ E.rev x ≤ 1000
def keyE (x : EntryT) : Int := 1000000 * E.race x + 10000 * E.boat x + E.rev x
theorem key_same {x y : EntryT} (hx : okE x) (hy : okE y) : keyE x = keyE y ↔ sameB x y = true := by
  obtain ⟨a1, a2, a3, a4, a5, a6⟩ := hx
  obtain ⟨b1, b2, b3, b4, b5, b6⟩ := hy
  unfold keyE
  rw [sameB_iff]
  constructor
  · intro h; omega
  · rintro ⟨h1, h2, h3⟩; omega
theorem entB_okE {b : Int} {x : EntryT} (hb : b ≤ 16) (h : entB b x = true) (h1 : 1 ≤ E.rev x) (h2 : E.rev x ≤ 1000) : okE x := by
  unfold entB at h
  simp only [Bool.and_eq_true] at h
  have r := withinB_iff.1 h.1.1.1
  have q := withinB_iff.1 h.1.1.2
  exact ⟨r.1, r.2, q.1, by omega, h1, h2⟩
set_option maxHeartbeats 1000000 in
theorem compareEntries_grow (x0 x1 x2 x3 x4 x5 x6 y0 y1 y2 y3 y4 y5 y6 : Int) (hx : okE (x0, x1, x2, x3, x4, x5, x6)) (hy : okE (y0, y1, y2, y3, y4, y5, y6)) (W : World) :
    Calls Tryz.prog 57 #[.agg #[.int .i64 x0, .int .i64 x1, .int .i64 x2, .int .i64 x3, .int .i64 x4, .int .i64 x5, .int .i64 x6], .agg #[.int .i64 y0, .int .i64 y1, .int .i64 y2, .int .i64 y3, .int .i64 y4, .int .i64 y5, .int .i64 y6]] W
      fun e w' => e = .returned (.int .i64 (sgn (keyE (x0, x1, x2, x3, x4, x5, x6) - keyE (y0, y1, y2, y3, y4, y5, y6)))) ∧ ∃ q os', w' = grow (W.drewN q) os' := by
  obtain ⟨a1, a2, a3, a4, a5, a6⟩ := hx
  obtain ⟨b1, b2, b3, b4, b5, b6⟩ := hy
  simp only [E.race, E.boat, E.rev] at a1 a2 a3 a4 a5 a6 b1 b2 b3 b4 b5 b6
  have HK := Lib.hid (show keyE (x0, x1, x2, x3, x4, x5, x6) - keyE (y0, y1, y2, y3, y4, y5, y6) = 1000000 * (x0 - y0) + 10000 * (x1 - y1) + x2 - y2 from by unfold keyE; simp only [E.race, E.boat, E.rev]; omega)
  rw [HK.out]
  generalize hr : sgn (1000000 * (x0 - y0) + 10000 * (x1 - y1) + x2 - y2) = r
  have HS := Lib.hid (fun w => sign_any (1000000 * (x0 - y0) + 10000 * (x1 - y1) + x2 - y2) w)
  rw [hr] at HS
  clear hr HK
  go_enter Tryz.func57, Tryz.ntmps57
  go_wp2_with (go_at_call 89; refine (HS.out _).mono ?_; rintro e w' ⟨rfl, rfl⟩)
  go_ret
  exact ⟨rfl, 0, _, by rw [alloc_eq_grow, alloc_eq_grow, grow_grow]; rfl⟩
theorem sameKey_any (x0 x1 x2 x3 x4 x5 x6 y0 y1 y2 y3 y4 y5 y6 : Int) (w : World) :
    Calls Tryz.prog 59 #[.agg #[.int .i64 x0, .int .i64 x1, .int .i64 x2, .int .i64 x3, .int .i64 x4, .int .i64 x5, .int .i64 x6], .agg #[.int .i64 y0, .int .i64 y1, .int .i64 y2, .int .i64 y3, .int .i64 y4, .int .i64 y5, .int .i64 y6]] w
      fun e w' => e = .returned (.bool (sameB (x0, x1, x2, x3, x4, x5, x6) (y0, y1, y2, y3, y4, y5, y6))) ∧ Below w.heap.size w w' := by
  have HB := Lib.hid (show ∀ o1 o2, Below w.heap.size w ((w.alloc o1).alloc o2) from fun o1 o2 => ((Below.refl _ _).alloc (Nat.le_refl _) _).alloc (by simp) _)
  have e1 : sameB (x0, x1, x2, x3, x4, x5, x6) (y0, y1, y2, y3, y4, y5, y6) = (x0 == y0 && x1 == y1 && x2 == y2) := rfl
  rw [e1]
  clear e1
  go_enter Tryz.func59, Tryz.ntmps59
  go_wp2_with fail
  all_goals
    go_ret
    refine ⟨ret_bool ?_, HB.out _ _⟩
    simp_all
end Go.Proofs.YtnpldahkhaacnaaGreatDoor

/- Walks: the library's iterator over entries, and what collects it. -/
namespace Go.Proofs.YtnpldahkhaacnaaGreatDoor
open Go.RowKit Go.Shelf
set_option linter.unusedVariables false
set_option maxRecDepth 100000
attribute [local go_sem] Oper.semAt_some

def aggE (x : EntryT) : Array Value := #[.agg (entC x).toArray]
set_option maxHeartbeats 2000000 in
/-- The closure of slices.Values: each element is handed on, for every loop body that keeps what lay below n₀. -/
theorem values1_in (F : Fence) (n : Nat) (hF : F.fn 88) (hro : F.round = none) (hn : 1 ≤ n) (l Bs n₀ : Nat) (A : Option Addr) (len cap : Nat) (xs : List EntryT) (J Jx : List EntryT → World → Prop) (W : World) (hJ : AbidesFrom W.heap.size J)
    (hY : ∀ pre x W, J pre W → pre.length < len → YieldAt F (n - 1) Tryz.prog l (aggE x) W fun e W' =>
      (e = .returned (.bool true) ∧ J (pre ++ [x]) W' ∧ Below n₀ W W') ∨ (e = .returned (.bool false) ∧ Jx (pre ++ [x]) W'))
    (hn₀ : n₀ ≤ W.heap.size) (hBs : W.cell? ⟨Bs, 0, none⟩ = some (.slice A len cap)) (hr : Rd W 7 A len (ents xs)) (hb : 0 < len → ∀ b o, A = some ⟨b, o, none⟩ → b < n₀) (h0 : J [] W) :
    CallsIn F n Tryz.prog 88 #[.func (.yield l) #[] #[], .pointer (some ⟨Bs, 0, none⟩)] W fun e W' => (∃ v, e = .returned v) ∧
      ((∃ ys, ys = xs ∧ J ys W') ∨ (∃ pre, pre <+: xs ∧ Jx pre W')) := by
  have hl := hr.len_ent
  have hle := hr.le
  refine callsIn_of_wp Tryz.func88 rfl hF ?_ hro
  simp only [Tryz.ntmps88, List.size_toArray, List.length_cons, List.length_nil, Nat.reduceAdd, Nat.reduceSub, Array.replicate_succ, Array.replicate_zero, List.push_toArray, List.append_toArray, List.nil_append, List.cons_append]
  gi_wp2
  gi_loopw [7] (fun i wr => ∃ k : Nat, k ≤ len ∧ i = .int .i64 k ∧ J (xs.take k) wr ∧ Below n₀ W wr) (fun i _ => len - (intOf i).toNat)
  case atStart => exact ⟨0, Nat.zero_le _, rfl, h0, Below.refl _ _⟩
  case round =>
    obtain ⟨k, hk, rfl, hJs, hnx⟩ := hrel
    have HL := Lib.hid hl
    clear hl
    by_cases hlt : k < len
    · obtain ⟨b, o, x0, x1, x2, x3, x4, x5, x6, rfl, hx, hd, hc0, hc1, hc2, hc3, hc4, hc5, hc6⟩ := hr.ent hlt
      have hbn := hb (by omega) b o rfl
      have hsn := take_snoc_get hx
      have HSN := Lib.hid hsn
      have e0 := (hnx.cell (p := ⟨b, o + k * 7, none⟩) hbn).trans hc0
      have e1 := (hnx.cell (p := ⟨b, o + k * 7 + 1, none⟩) hbn).trans hc1
      have e2 := (hnx.cell (p := ⟨b, o + k * 7 + 2, none⟩) hbn).trans hc2
      have e3 := (hnx.cell (p := ⟨b, o + k * 7 + 3, none⟩) hbn).trans hc3
      have e4 := (hnx.cell (p := ⟨b, o + k * 7 + 4, none⟩) hbn).trans hc4
      have e5 := (hnx.cell (p := ⟨b, o + k * 7 + 5, none⟩) hbn).trans hc5
      have e6 := (hnx.cell (p := ⟨b, o + k * 7 + 6, none⟩) hbn).trans hc6
      have hJa := hJ _ _ (wr.alloc (.cells #[.int .i64 x0, .int .i64 x1, .int .i64 x2, .int .i64 x3, .int .i64 x4, .int .i64 x5, .int .i64 x6] 25)) none hJs (World.grownBy_alloc _ _ _) (fun r e => by cases e)
      obtain ⟨fn, tmps, assign, body, hy, hR⟩ := hY _ (x0, x1, x2, x3, x4, x5, x6) _ hJa (by rw [List.length_take, HL.out]; omega)
      simp only [aggE, entC] at hy
      have hwn : n₀ ≤ wr.heap.size := Nat.le_trans hn₀ hnx.size
      have HNX := Lib.hid hnx
      clear hx hd hc0 hc1 hc2 hc3 hc4 hc5 hc6 hsn hnx hJs hJa
      gi_wp2
      refine hR.mono ?_
      rintro e W3 (⟨rfl, hJ3, hk3⟩ | ⟨rfl, hJx3⟩)
      · gi_wp2
        go_roundw
        case rel => exact ⟨k + 1, by omega, by go_num, by rw [HSN.out]; exact hJ3, HNX.out.trans (((Below.refl n₀ wr).alloc hwn _).trans hk3)⟩
        case measure => simp [intOf] <;> omega
      · gi_wp2
        refine bodyPost_ret (results_none rfl _ _ _) rfl ?_
        exact ⟨⟨_, rfl⟩, .inr ⟨_, by rw [← HSN.out]; exact List.take_prefix _ _, hJx3⟩⟩
    · obtain rfl : k = len := by omega
      have ht : xs.take k = xs := List.take_of_length_le (by rw [HL.out]; exact Nat.le_refl _)
      rw [ht] at hJs
      clear ht
      gi_wp2
      go_end0
      exact ⟨⟨_, rfl⟩, .inl ⟨_, rfl, hJs⟩⟩

set_option maxHeartbeats 1000000 in
/-- slices.Values: the slice value is boxed; the function value captures the box. -/
theorem values_in (F : Fence) (n : Nat) (hF : F.fn 56) (hro : F.round = none) (A : Option Addr) (len cap : Nat) (w : World) :
    CallsIn F n Tryz.prog 56 #[.slice A len cap] w fun e w' => e = .returned (.func (.func 88) #[] #[.pointer (some ⟨w.heap.size, 0, none⟩)]) ∧ w' = w.alloc (.cells #[.slice A len cap] 30) := by
  refine callsIn_of_wp Tryz.func56 rfl hF ?_ hro
  simp only [Tryz.ntmps56, List.size_toArray, List.length_cons, List.length_nil, Nat.reduceAdd, Nat.reduceSub, Array.replicate_succ, Array.replicate_zero, List.push_toArray, List.append_toArray, List.nil_append, List.cons_append]
  gi_wp2
  go_ret
  exact ⟨rfl, rfl⟩

/-- What slices.Values hands back goes through all elements. -/
theorem values_stops (F : Fence) (n : Nat) (hF : F.fn 88) (hro : F.round = none) (hn : 1 ≤ n) (Bs n₀ : Nat) (A : Option Addr) (len cap : Nat) (xs : List EntryT) (w : World) (hBs : Bs < w.heap.size) (hn₀ : n₀ ≤ w.heap.size)
    (hc : w.cell? ⟨Bs, 0, none⟩ = some (.slice A len cap)) (hr : Rd w 7 A len (ents xs)) (hb : 0 < len → ∀ b o, A = some ⟨b, o, none⟩ → b < n₀) :
    SeqStopsK F n Tryz.prog 88 #[.pointer (some ⟨Bs, 0, none⟩)] aggE (Below n₀) (fun ys => ys = xs) (fun pre => pre <+: xs) len w := fun l J Jx W hW hJ _ hY h0 =>
  values1_in F n hF hro hn l Bs n₀ A len cap xs J Jx W hJ hY (Nat.le_trans hn₀ hW.size) ((hW.cell (p := ⟨Bs, 0, none⟩) hBs).trans hc) (hr.below hW) hb h0
end Go.Proofs.YtnpldahkhaacnaaGreatDoor

/- Walks: the library's sort at entries. -/
namespace Go.Proofs.YtnpldahkhaacnaaGreatDoor
open Go.RowKit Go.Sort Go.Shelf
set_option linter.unusedVariables false
set_option maxRecDepth 100000

/-! ### An own row of k cells an element, sorted -/
section
variable {α : Type} [Inhabited α] {f : α → List Value} {k : Nat}
theorem flatK_list (hk : ∀ x, (f x).length = k) (d : Array α) : (flatK f k d).toList = d.toList.flatMap f := by
  apply List.ext_getElem?
  intro t
  by_cases ht : t < d.size * k
  · have k0 : 0 < k := by rcases Nat.eq_zero_or_pos k with h | h; · subst h; simp at ht
                          · exact h
    have hq : t / k < d.size := Nat.div_lt_of_lt_mul (by rw [Nat.mul_comm]; exact ht)
    have e : t = t / k * k + t % k := by have := Nat.div_add_mod t k; rw [Nat.mul_comm] at this; exact this.symm
    have hx : d.toList[t / k]? = some d[t / k] := by simp [hq]
    have h2 := flat_get hk hx (j := t % k) (Nat.mod_lt t k0)
    rw [← e] at h2
    rw [h2, Array.getElem?_toList]
    have hF : (flatK f k d)[t]? = some ((flatK f k d)[t]!) := by
      rw [getElem!_pos _ t (by simpa using ht), Array.getElem?_eq_getElem]
    rw [hF, get_flatK _ _ _ _ ht, getElem!_pos d (t / k) hq]
    have hm : t % k < (f d[t / k]).length := by rw [hk]; exact Nat.mod_lt t k0
    rw [List.getElem?_eq_getElem hm, getElem!_pos (f d[t / k]) (t % k) hm]
  · rw [List.getElem?_eq_none (by simp; omega), List.getElem?_eq_none (by rw [flat_len hk]; simp; omega)]
theorem holdsK_own (hk : ∀ x, (f x).length = k) {w : World} {base e g n c : Nat} {xs : List α} (h : w.ownsRow base e k (.slice (some ⟨g, 0, none⟩) n c) n (xs.flatMap f)) : HoldsK f k w g 0 xs.toArray := by
  intro j hj
  rw [size_flatK] at hj
  have hF : (flatK f k xs.toArray).toList[j]? = some ((flatK f k xs.toArray)[j]!) := by
    rw [Array.getElem?_toList, getElem!_pos _ j (by simpa using hj), Array.getElem?_eq_getElem]
  rw [flatK_list hk] at hF
  have hc := h.cells (g := g) rfl j _ hF
  have hadd : (⟨g, 0, none⟩ : Addr).add j = ⟨g, 0 + j, none⟩ := by unfold Addr.add; split <;> simp_all
  rw [hadd] at hc
  exact ⟨hc, by rw [Nat.zero_add]; exact h.frozenAt j⟩
theorem grownBy_sortedK {w : World} {g n : Nat} {os : Array Obj} (d : Array α) : w.grownBy (sortWorldK f k w g 0 n d os) (some g) := by
  refine ⟨rfl, rfl, rfl, by simp [sortWorldK, putRowK, putRow, mapBlock, Sort.ahead], fun j hj hne => ?_⟩
  unfold sortWorldK
  rw [heap_grow_old _ _ (by simpa [putRowK, putRow, mapBlock, Sort.ahead] using hj)]
  have : g ≠ j := fun e => hne (by rw [e])
  simp [putRowK, putRow, mapBlock, Sort.ahead, Array.getElem?_modify, this]
theorem own_sortedK (hk : ∀ x, (f x).length = k) {w : World} {base e g m c n : Nat} {os : Array Obj} {xs ys : List α} (h : w.ownsRow base e k (.slice (some ⟨g, 0, none⟩) m c) m (xs.flatMap f)) (hl : ys.length = xs.length) :
    (sortWorldK f k w g 0 n ys.toArray os).ownsRow base e k (.slice (some ⟨g, 0, none⟩) m c) m (ys.flatMap f) := by
  have h1 := h.1
  rw [flat_len hk] at h1
  refine ⟨by rw [flat_len hk, hl]; exact h1, ?_⟩
  rcases h.2 with ⟨hv, _⟩ | ⟨g', cap, cur, hv, hb, hg, hnc, hcm, hcs, htake⟩
  · cases hv
  injection hv with hA _ hc
  injection hA with hA
  injection hA with hA
  subst hA hc
  have hgl : g < w.heap.size := (Array.getElem?_eq_some_iff.1 hg).1
  refine .inr ⟨g, c, putCells id 0 (flatK f k ys.toArray) cur, rfl, hb, ?_, hnc, hcm, by simp [putCells, hcs], ?_⟩
  · unfold sortWorldK
    rw [heap_grow_old _ _ (by simpa [putRowK, putRow, mapBlock, Sort.ahead] using hgl)]
    simp [putRowK, putRow, mapBlock, Sort.ahead, Array.getElem?_modify, hg, onCells]
  · have hsz : (flatK f k ys.toArray).size = m * k := by rw [size_flatK]; simp only [List.size_toArray]; rw [hl, h1]
    have hcz : m * k ≤ cur.size := by rw [hcs]; exact Nat.mul_le_mul_right k hnc
    rw [← flatK_list hk ys.toArray]
    apply List.ext_getElem?
    intro j
    by_cases hj : j < m * k
    · rw [List.getElem?_take_of_lt hj, Array.getElem?_toList, Array.getElem?_toList]
      simp only [putCells, Array.getElem?_mapIdx]
      rw [Array.getElem?_eq_getElem (show j < cur.size by omega)]
      simp only [Option.map_some, Nat.zero_add, Nat.zero_le, true_and, Nat.sub_zero, hsz, hj, if_true, id]
      rw [getElem!_pos _ j (by rw [hsz]; exact hj), Array.getElem?_eq_getElem]
    · rw [List.getElem?_take_eq_none (by omega), List.getElem?_eq_none (by simp only [Array.length_toList]; rw [hsz]; omega)]
end
theorem permIn_all {α : Type} [Inhabited α] {d d' : Array α} (h : PermIn 0 d.size d d') : d'.toList.Perm d.toList := by
  obtain ⟨h1, _, h3⟩ := h
  have e1 : d.extract 0 d.size = d := by simp
  have e2 : d'.extract 0 d.size = d' := by rw [← h1]; simp
  rwa [e1, e2] at h3
theorem sortedIn_all {α : Type} [Inhabited α] {lt : α → α → Bool} {d : Array α} {n : Nat} (hn : n = d.size) (h : SortedIn lt 0 n d) : d.toList.Pairwise fun x y => lt y x = false := by
  subst hn
  rw [List.pairwise_iff_getElem]
  intro i j hi hj hij
  have hi' : i < d.size := by simpa using hi
  have hj' : j < d.size := by simpa using hj
  have := h i j (Nat.zero_le _) hij hj'
  rw [getElem!_pos d i hi', getElem!_pos d j hj'] at this
  simpa using this

/-! ### Entries that may be compared -/
abbrev EV : Type := { x : EntryT // okE x }
instance : Inhabited EV := ⟨⟨(0, 0, 1, 0, 0, 0, 0), by unfold okE; simp [E.race, E.boat, E.rev]⟩⟩
def encE (x : EV) : List Value := entC x.1
def cmpE (x y : EV) : Int := sgn (keyE x.1 - keyE y.1)
theorem encE_len (x : EV) : (encE x).length = 7 := rfl
theorem encE_one (x : EV) : ∀ v ∈ encE x, v.oneCell' = true := by
  intro v hv
  obtain ⟨⟨x0, x1, x2, x3, x4, x5, x6⟩, hx⟩ := x
  simp [encE, entC] at hv
  rcases hv with rfl | rfl | rfl | rfl | rfl | rfl | rfl <;> rfl
theorem ltE (x y : EV) : ltOf cmpE x y = decide (keyE x.1 < keyE y.1) := by
  unfold ltOf cmpE sgn
  by_cases h1 : keyE x.1 < keyE y.1
  · rw [if_pos (by omega)]; simp [h1]
  · rw [if_neg (by omega)]
    by_cases h2 : keyE x.1 - keyE y.1 = 0
    · rw [if_pos h2]; simp [h1]
    · rw [if_neg h2]; simp [h1]
theorem swoE : SWO (ltOf cmpE) where
  irrefl x := by rw [ltE]; simp
  trans x y z h1 h2 := by rw [ltE] at *; simp at *; omega
  ntrans x y z h1 h2 := by rw [ltE] at *; simp at *; omega
theorem vals_of : ∀ (xs : List EntryT), (∀ x ∈ xs, okE x) → ∃ L : List EV, L.map (·.1) = xs := by
  intro xs
  induction xs with
  | nil => intro _; exact ⟨[], rfl⟩
  | cons x r ih =>
    intro h
    obtain ⟨L, hL⟩ := ih fun y hy => h y (List.mem_cons_of_mem _ hy)
    exact ⟨⟨x, h x (List.mem_cons_self ..)⟩ :: L, by rw [List.map_cons, hL]⟩
theorem ents_vals (L : List EV) : ents (L.map (·.1)) = L.flatMap encE := by
  unfold ents
  rw [List.flatMap_map]; rfl
def Tryz.sortEnt_ren : Go.Shelf.Ren := ⟨fun | 6 => 87 | 15 => 130 | 14 => 129 | 28 => 191 | 29 => 192 | 20 => 183 | 21 => 184 | 22 => 185 | 23 => 186 | 24 => 187 | 25 => 188 | 26 => 189 | 27 => 190 | 46 => 253 | 47 => 254 | 48 => 255 | 49 => 256 | 50 => 257 | 57 => 302 | n => n, fun | 22 => 30 | 24 => 25 | 25 => 84 | 3 => 3 | 39 => 165 | 0 => 0 | 53 => 218 | 55 => 167 | 4 => 4 | 46 => 211 | 45 => 210 | 50 => 215 | 5 => 5 | 9 => 9 | 66 => 257 | 70 => 261 | 76 => 292 | 77 => 293 | n => n, fun | n => n⟩
theorem Tryz.sortEnt : Go.Proofs.SlLaysF0.n6 Tryz.prog Tryz.sortEnt_ren := {
  mixed := by kernel_rfl,
  f6 := ⟨Tryz.f87.name, by decide, Tryz.func87.trans (congrArg some (by kernel_rfl))⟩,
  f14 := ⟨Tryz.f129.name, by decide, Tryz.func129.trans (congrArg some (by kernel_rfl))⟩,
  f15 := Tryz.func130.trans (congrArg some (by kernel_rfl)),
  f20 := ⟨Tryz.f183.name, by decide, Tryz.func183.trans (congrArg some (by kernel_rfl))⟩,
  f21 := ⟨Tryz.f184.name, by decide, Tryz.func184.trans (congrArg some (by kernel_rfl))⟩,
  f22 := ⟨Tryz.f185.name, by decide, Tryz.func185.trans (congrArg some (by kernel_rfl))⟩,
  f23 := ⟨Tryz.f186.name, by decide, Tryz.func186.trans (congrArg some (by kernel_rfl))⟩,
  f24 := ⟨Tryz.f187.name, by decide, Tryz.func187.trans (congrArg some (by kernel_rfl))⟩,
  f25 := ⟨Tryz.f188.name, by decide, Tryz.func188.trans (congrArg some (by kernel_rfl))⟩,
  f26 := ⟨Tryz.f189.name, by decide, Tryz.func189.trans (congrArg some (by kernel_rfl))⟩,
  f27 := ⟨Tryz.f190.name, by decide, Tryz.func190.trans (congrArg some (by kernel_rfl))⟩,
  f28 := Tryz.func191.trans (congrArg some (by kernel_rfl)),
  f29 := Tryz.func192.trans (congrArg some (by kernel_rfl)),
  f46 := ⟨Tryz.f253.name, by decide, Tryz.func253.trans (congrArg some (by kernel_rfl))⟩,
  f47 := Tryz.func254.trans (congrArg some (by kernel_rfl)),
  f48 := Tryz.func255.trans (congrArg some (by kernel_rfl)),
  f49 := ⟨Tryz.f256.name, by decide, Tryz.func256.trans (congrArg some (by kernel_rfl))⟩,
  f50 := ⟨Tryz.f257.name, by decide, Tryz.func257.trans (congrArg some (by kernel_rfl))⟩,
  f57 := ⟨Tryz.f302.name, by decide, Tryz.func302.trans (congrArg some (by kernel_rfl))⟩,
  t0 := Tryz.underlying0,
  a0 := Tryz.isAgg0,
  z0 := Tryz.sizeOf0,
  v0 := Tryz.zeroValue0,
  t3 := Tryz.underlying3,
  a3 := Tryz.isAgg3,
  z3 := Tryz.sizeOf3,
  v3 := Tryz.zeroValue3,
  t4 := Tryz.underlying4,
  a4 := Tryz.isAgg4,
  z4 := Tryz.sizeOf4,
  v4 := Tryz.zeroValue4,
  t5 := Tryz.underlying5,
  a5 := Tryz.isAgg5,
  z5 := Tryz.sizeOf5,
  v5 := Tryz.zeroValue5,
  t9 := Tryz.underlying9,
  a9 := Tryz.isAgg9,
  z9 := Tryz.sizeOf9,
  v9 := Tryz.zeroValue9,
  t22 := Tryz.underlying30,
  a22 := Tryz.isAgg30,
  z22 := Tryz.sizeOf30,
  v22 := Tryz.zeroValue30,
  t25 := Tryz.underlying84,
  a25 := Tryz.isAgg84,
  z25 := Tryz.sizeOf84,
  v25 := Tryz.zeroValue84,
  t39 := Tryz.underlying165,
  a39 := Tryz.isAgg165,
  z39 := Tryz.sizeOf165,
  v39 := Tryz.zeroValue165,
  t45 := Tryz.underlying210,
  a45 := Tryz.isAgg210,
  z45 := Tryz.sizeOf210,
  v45 := Tryz.zeroValue210,
  t46 := Tryz.underlying211,
  a46 := Tryz.isAgg211,
  z46 := Tryz.sizeOf211,
  v46 := Tryz.zeroValue211,
  t50 := Tryz.underlying215,
  a50 := Tryz.isAgg215,
  z50 := Tryz.sizeOf215,
  v50 := Tryz.zeroValue215,
  t53 := Tryz.underlying218,
  a53 := Tryz.isAgg218,
  z53 := Tryz.sizeOf218,
  v53 := Tryz.zeroValue218,
  t55 := Tryz.underlying167,
  a55 := Tryz.isAgg167,
  z55 := Tryz.sizeOf167,
  v55 := Tryz.zeroValue167,
  t66 := Tryz.underlying257,
  a66 := Tryz.isAgg257,
  z66 := Tryz.sizeOf257,
  v66 := Tryz.zeroValue257,
  t70 := Tryz.underlying261,
  a70 := Tryz.isAgg261,
  z70 := Tryz.sizeOf261,
  v70 := Tryz.zeroValue261,
  t76 := Tryz.underlying292,
  a76 := Tryz.isAgg292,
  z76 := Tryz.sizeOf292,
  v76 := Tryz.zeroValue292,
  t77 := Tryz.underlying293,
  a77 := Tryz.isAgg293,
  z77 := Tryz.sizeOf293,
  v77 := Tryz.zeroValue293 }
theorem cmpLaysE (blk off size : Nat) (w : World) : CmpLays Tryz.prog 57 #[] encE 7 cmpE blk off size w :=
  fun _ _ _ _ x y => by
    obtain ⟨⟨x0, x1, x2, x3, x4, x5, x6⟩, hx⟩ := x
    obtain ⟨⟨y0, y1, y2, y3, y4, y5, y6⟩, hy⟩ := y
    exact compareEntries_grow x0 x1 x2 x3 x4 x5 x6 y0 y1 y2 y3 y4 y5 y6 hx hy _
/-- What the sort leaves: the same row holds a sorted permutation. -/
def RetSort (w : World) (base : Nat) (A : Option Addr) (n c : Nat) (xs : List EntryT) (e : Ending) (w' : World) : Prop :=
  e = .returned (.tuple #[]) ∧ ∃ ys : List EntryT, ys.Perm xs ∧ (ys.Pairwise fun x y => keyE x ≤ keyE y) ∧ w'.ownsRow base 25 7 (.slice A n c) n (ents ys) ∧ w.grownBy w' (Value.slice A n c).ownBlock
set_option maxHeartbeats 1000000 in
theorem sortEnts_any (base : Nat) (A : Option Addr) (n c : Nat) (xs : List EntryT) (hok : ∀ x ∈ xs, okE x) (hn : n ≤ 1048576) (w : World) (h : w.ownsRow base 25 7 (.slice A n c) n (ents xs)) :
    Calls Tryz.prog 87 #[.slice A n c, .func (.func 57) #[] #[]] w (RetSort w base A n c xs) := by
  have hl : xs.length = n := own_len_flat entC_len (by decide) h
  rcases Nat.eq_zero_or_pos n with h0 | h0
  · subst h0
    obtain rfl : xs = [] := List.eq_nil_of_length_eq_zero hl
    have h1 := AnyF.slices_SortFunc_none { Tryz.sortEnt with } A c (.func (.func 57) #[] #[]) w
    change Calls Tryz.prog 87 _ _ _ at h1
    refine h1.mono ?_
    rintro e w' ⟨rfl, rfl⟩
    exact ⟨rfl, [], .nil, .nil, h, World.grownBy.refl _ _⟩
  · obtain ⟨L, rfl⟩ := vals_of xs hok
    rw [ents_vals] at h
    rw [List.length_map] at hl
    obtain ⟨g, rfl, hgw⟩ : ∃ g, A = some ⟨g, 0, none⟩ ∧ g < w.heap.size := by
      rcases h.2 with ⟨hv, hz⟩ | ⟨g, cap, cur, hv, hb, hg, _⟩
      · omega
      · injection hv with hA
        exact ⟨g, hA, (Array.getElem?_eq_some_iff.1 hg).1⟩
    have hH := holdsK_own encE_len h
    have eg : ∀ args w, (callFunc 57 args).run Tryz.prog w = .ok (.enter 57 args) w := enters_of Tryz.func57 (by kernel_rfl) rfl
    have hcon := AnyQ.slices_SortFunc Tryz.sortEnt 7 Tryz.isAgg25 Tryz.sizeOf25 encE encE_len encE_one cmpE swoE 57 #[] g 0 c L.toArray w eg (cmpLaysE g 0 L.toArray.size w) hH hgw (by simp only [List.size_toArray]; omega)
    change Calls Tryz.prog 87 _ _ _ at hcon
    simp only [List.size_toArray, hl] at hcon
    refine hcon.mono ?_
    rintro e w' ⟨rfl, d', q, os, hp, hs, rfl⟩
    have hp' := permIn_all (d := L.toArray) (d' := d') (by simp only [List.size_toArray, hl]; exact hp)
    have hdl : d'.toList.length = L.length := by have := hp'.length_eq; simpa using this
    have hs' := sortedIn_all (n := n) (by have : d'.size = L.length := by simpa using hdl
                                          omega) hs
    refine ⟨rfl, d'.toList.map (·.1), hp'.map _, ?_, ?_, grownBy_sortedK d'⟩
    · rw [List.pairwise_map]
      refine hs'.imp ?_
      intro x y hxy
      rw [ltE] at hxy
      simp at hxy
      exact hxy
    · rw [ents_vals]
      have := own_sortedK (n := q) (os := os) encE_len h (ys := d'.toList) hdl
      simpa using this
end Go.Proofs.YtnpldahkhaacnaaGreatDoor

/- Walks: the library's Collect and SortedFunc over the entries of a slice. -/
namespace Go.Proofs.YtnpldahkhaacnaaGreatDoor
open Go.RowKit Go.Shelf Go.Sort
set_option linter.unusedVariables false
set_option maxRecDepth 100000
attribute [local go_sem] Oper.semAt_some

theorem box_boxed {W : World} {B : Nat} {t : TypeId} {v : Value} (h : Boxed W B t v) : Box W B #[v] t := h
/-- What a round finds of its variable. -/
def AxE (s0 : Nat) (fv : Value) (x : EntryT) (a' : Act) (W : World) : Prop :=
  ∃ Bx, s0 < Bx ∧ Box W Bx (entC x).toArray 25 ∧ a' = { tmps := #[.slice none 0 0, fv, .pointer (some ⟨s0, 0, none⟩), undef, .slice none 0 0, .pointer (some ⟨Bx, 0, none⟩), fv, .agg (entC x).toArray, undef, undef, undef, undef, undef], defers := [] }
set_option maxHeartbeats 4000000 in
theorem appendSeq_in (F : Fence) (n : Nat) (hF : F.fn 128) (hro : F.round = none) (hn : 3 ≤ n) (g : Nat) (lb : Array Value) (hFg : F.fn g) (eg : ∀ args w, (callFunc g args).run Tryz.prog w = .ok (.enter g args) w)
    (Sp : List EntryT → Prop) (N : Nat) (hN : N ≤ 1048576) (xs : List EntryT) (w : World) (hseq : SeqStopsK F (n - 1) Tryz.prog g lb aggE (Below w.heap.size) (fun ys => ys = xs) Sp N w) :
    CallsIn F n Tryz.prog 128 #[.slice none 0 0, .func (.func g) #[] lb] w fun e W' => ∃ v, e = .returned v ∧ W'.ownsRow w.heap.size 25 7 v xs.length (ents xs) ∧ Below w.heap.size w W' := by
  have h1 : 1 ≤ n := by omega
  obtain ⟨i0, hi, hz0, hz1, hz2⟩ := info_parts Tryz.info_ent
  refine callsIn_of_wp_marks Tryz.func128 rfl hF ?_ hro
  simp only [Tryz.ntmps128, List.size_toArray, List.length_cons, List.length_nil, Nat.reduceAdd, Nat.reduceSub, Array.replicate_succ, Array.replicate_zero, List.push_toArray, List.append_toArray, List.nil_append, List.cons_append]
  gi_wp2
  have bO := Boxed.new w 30 (.slice none 0 0)
  have hB0 : Below w.heap.size w (w.alloc (.cells #[.slice none 0 0] 30)) := (Below.refl _ w).alloc (Nat.le_refl _) _
  refine wpIn_rangeFunc_ownH hro h1 (gf := g) (lb := lb) rfl hFg eg hseq belowK_t (belowK_b (by simp)) hB0 (fun _ => rfl)
    (fun pre W => (∃ v, Boxed W w.heap.size 30 v ∧ W.ownsRow w.heap.size 25 7 v pre.length (ents pre) ∧ True) ∧ Below w.heap.size w W)
    (fun _ _ _ => False)
    (OwnFrom.and (Own.from (holdsRow_own w.heap.size w.heap.size 30 25 7 (fun pre => pre.length) (fun pre => ents pre) (fun _ _ => True)) _) (ownFrom_below (Nat.le_refl _) (by simp)))
    (fun _ _ _ _ _ hs _ _ => hs)
    ⟨⟨_, bO, World.ownsRow_nil _ _ _ _, trivial⟩, hB0⟩
    (fun x a' W => AxE w.heap.size (.func (.func g) #[] lb) x a' W)
    (by
      rintro x a' s X Y row ⟨Bx, h1, hb, ha⟩ hg hr
      exact ⟨Bx, h1, (hg.block Bx hb.lt (fun e => by obtain ⟨_, o, ho, hc⟩ := hr Bx e.symm; rw [show X.heap[Bx]? = _ from hb] at ho; cases ho; cases hc)).trans hb, ha⟩) ?assign ?body ?done ?stop
  case assign =>
    rintro l pre ⟨x0, x1, x2, x3, x4, x5, x6⟩ W K ⟨⟨v, hv, hrow, _⟩, hB⟩ hK
    simp only [aggE, entC]
    gi_wp2
    exact hK _ _ ((KeepsOthers.alloc _ _).from _) ((Below.refl _ W).alloc hB.size _) ⟨⟨v, hv.alloc _, hrow.alloc _, trivial⟩, hB.alloc hB.size _⟩ ⟨W.heap.size, hv.lt, Box.new _ _ _, rfl⟩
  case body =>
    rintro l pre ⟨x0, x1, x2, x3, x4, x5, x6⟩ a' W hl hr ⟨⟨v, hv, hrow, _⟩, hB⟩ ⟨Bx, hBx, hbx, rfl⟩ hlt
    have hc := hv.cell
    have hbx' : Box W Bx #[.int .i64 x0, .int .i64 x1, .int .i64 x2, .int .i64 x3, .int .i64 x4, .int .i64 x5, .int .i64 x6] 25 := hbx
    obtain ⟨e0, e1, e2, e3, e4, e5, e6, _⟩ := hbx'.f7
    simp only [entC]
    gi_wp2_with (gi_at_builtin; refine wpListIn_append_own _ rfl _ _ 30 rfl w.heap.size 25 i0 (.agg #[.int .i64 0, .int .i64 0, .int .i64 0, .int .i64 0, .int .i64 0, .int .i64 0, .int .i64 0]) 7 56 Tryz.underlying30 hi hz0 hz1 hz2 rfl (by decide) _ _ _ rfl (hrow.alloc _) ⟨W.heap.size, 0, none⟩ 1 1 [.int .i64 x0, .int .i64 x1, .int .i64 x2, .int .i64 x3, .int .i64 x4, .int .i64 x5, .int .i64 x6] rfl rfl (World.news_of_block (cs := #[.int .i64 x0, .int .i64 x1, .int .i64 x2, .int .i64 x3, .int .i64 x4, .int .i64 x5, .int .i64 x6]) (heap_alloc_new _ _)) (by intro u hu; simp at hu; rcases hu with rfl | rfl | rfl | rfl | rfl | rfl | rfl <;> rfl) (by unfold maxLen; omega) (by omega) (by have := hB.size; simp; omega) ?_; intro v' w1 hown' hgrow _; obtain ⟨g', cap', rfl⟩ := ownsRow_succ hown'; obtain ⟨hv1, hv2, hr2, hk2, hb2⟩ := hv.appended (by decide) hrow hB.size (Nat.le_refl _) hown' hgrow; have hc1 := hv1.cell; have hf1 := hv1.frozen)
    have ee : ents (pre ++ [(x0, x1, x2, x3, x4, x5, x6)]) = ents pre ++ [.int .i64 x0, .int .i64 x1, .int .i64 x2, .int .i64 x3, .int .i64 x4, .int .i64 x5, .int .i64 x6] := by unfold ents; rw [List.flatMap_append]; rfl
    exact ⟨hk2.from _, hb2, ⟨_, hv2, by rw [ee, List.length_append]; exact hr2, trivial⟩, hB.trans hb2⟩
  case done =>
    rintro D ys W hD rfl ⟨⟨v, hv, hrow, _⟩, hB⟩ hK
    have hc := hv.cell
    gi_wp2
    refine ⟨by simp, .inl ⟨_, _, rfl, run_takeDeferred hK, ?_⟩⟩
    exact ⟨_, results_tmp rfl _ _ _, v, rfl, ownsRow_putObj hrow _ hK rfl, hB.trans (belowK_b (w := w) (Nat.le_refl _) W D _ _ (by simp at hD; omega) hK rfl rfl)⟩
  case stop =>
    rintro D c pre W _ _ h _
    exact h.elim
set_option maxHeartbeats 1000000 in
theorem collect_in (F : Fence) (n : Nat) (hC : F.fn 86) (hF : F.fn 128) (hro : F.round = none) (hn : 4 ≤ n) (g : Nat) (lb : Array Value) (hFg : F.fn g) (eg : ∀ args w, (callFunc g args).run Tryz.prog w = .ok (.enter g args) w)
    (Sp : List EntryT → Prop) (N : Nat) (hN : N ≤ 1048576) (xs : List EntryT) (w : World) (hseq : SeqStopsK F (n - 1 - 1) Tryz.prog g lb aggE (Below w.heap.size) (fun ys => ys = xs) Sp N w) :
    CallsIn F n Tryz.prog 86 #[.func (.func g) #[] lb] w fun e W' => ∃ v, e = .returned v ∧ W'.ownsRow w.heap.size 25 7 v xs.length (ents xs) ∧ Below w.heap.size w W' := by
  have h1 : 1 ≤ n := by omega
  refine callsIn_of_wp Tryz.func86 rfl hC ?_ hro
  simp only [Tryz.ntmps86, List.size_toArray, List.length_cons, List.length_nil, Nat.reduceAdd, Nat.reduceSub, Array.replicate_succ, Array.replicate_zero, List.push_toArray, List.append_toArray, List.nil_append, List.cons_append]
  gi_wp2_with (gi_at_call 128; refine (appendSeq_in F (n - 1) hF hro (by omega) g lb hFg eg Sp N hN xs _ hseq).mono ?_; rintro e w' ⟨v, rfl, hrow, hb⟩)
  go_ret
  exact ⟨v, rfl, hrow, hb⟩
/-- slices.Collect of the iterator over a slice: a copy. -/
theorem collect_any (A : Option Addr) (len cap : Nat) (xs : List EntryT) (hlen : len ≤ 1048576) (Bs : Nat) (w : World) (hc : w.cell? ⟨Bs, 0, none⟩ = some (.slice A len cap)) (hr : Rd w 7 A len (ents xs)) :
    Calls Tryz.prog 86 #[.func (.func 88) #[] #[.pointer (some ⟨Bs, 0, none⟩)]] w fun e W' => ∃ v, e = .returned v ∧ W'.ownsRow w.heap.size 25 7 v len (ents xs) ∧ Below w.heap.size w W' := by
  have hbs : Bs < w.heap.size := cell_lt hc
  have hl := hr.len_ent
  have h := collect_in Fence.wide 9 trivial trivial rfl (by omega) 88 #[.pointer (some ⟨Bs, 0, none⟩)] trivial (enters_of Tryz.func88 (by kernel_rfl) rfl) (fun pre => pre <+: xs) len hlen xs w
    (values_stops Fence.wide 7 trivial rfl (by omega) Bs w.heap.size A len cap xs w hbs (Nat.le_refl _) hc hr (fun h0 b o e => by
      obtain ⟨b', o', x0, x1, x2, x3, x4, x5, x6, e', _, _, c0, _⟩ := hr.ent (k := 0) h0
      rw [e] at e'
      injection e' with e'
      injection e' with e' _
      subst e'
      exact cell_lt c0))
  rw [hl] at h
  exact callsIn_wide.1 h
/-- slices.SortedFunc over a slice's iterator: a sorted copy. -/
def RetSorted (w : World) (xs : List EntryT) (e : Ending) (w' : World) : Prop :=
  ∃ A n c ys, e = .returned (.slice A n c) ∧ ys.Perm xs ∧ (ys.Pairwise fun x y => keyE x ≤ keyE y) ∧ w'.ownsRow w.heap.size 25 7 (.slice A n c) n (ents ys) ∧ Below w.heap.size w w'
theorem own_is_slice {w : World} {base e s n : Nat} {v : Value} {xs : List Value} (h : w.ownsRow base e s v n xs) : ∃ A c, v = .slice A n c := by
  rcases h.2 with ⟨rfl, rfl⟩ | ⟨g, cap, cur, rfl, _⟩
  · exact ⟨none, 0, rfl⟩
  · exact ⟨some ⟨g, 0, none⟩, cap, rfl⟩
theorem sortedFunc_any (A : Option Addr) (len cap : Nat) (xs : List EntryT) (hok : ∀ x ∈ xs, okE x) (hlen : len ≤ 1048576) (Bs : Nat) (w : World) (hc : w.cell? ⟨Bs, 0, none⟩ = some (.slice A len cap)) (hr : Rd w 7 A len (ents xs)) :
    Calls Tryz.prog 55 #[.func (.func 88) #[] #[.pointer (some ⟨Bs, 0, none⟩)], .func (.func 57) #[] #[]] w (RetSorted w xs) := by
  have HC := Lib.hid (collect_any A len cap xs hlen Bs w hc hr)
  clear hc hr
  go_enter Tryz.func55, Tryz.ntmps55
  go_wp2_with fail
  refine HC.out.mono ?_
  rintro e w1 ⟨v, rfl, ho, hb⟩
  obtain ⟨A1, c1, rfl⟩ := own_is_slice ho
  have HS := Lib.hid (sortEnts_any _ A1 len c1 xs hok hlen w1 ho)
  have HB := Lib.hid hb
  have HO := Lib.hid ho
  clear ho hb HC
  go_wp2_with fail
  refine HS.out.mono ?_
  rintro e w2 ⟨rfl, ys, hp, hs, ho2, hg2⟩
  have HO2 := Lib.hid ho2
  have HB2 := Lib.hid (HB.out.grown hg2 HB.out.size (fun k hk => (HO.out.lt k hk).1))
  clear ho2 hg2 HS
  go_wp2_with fail
  go_ret
  exact ⟨_, _, _, ys, rfl, hp, hs, HO2.out, HB2.out⟩
end Go.Proofs.YtnpldahkhaacnaaGreatDoor

/- Walks: the laws' helpers on registers: size, copy, compare, mark, held. -/
namespace Go.Proofs.YtnpldahkhaacnaaGreatDoor
open Go.RowKit
set_option linter.unusedVariables false
set_option maxRecDepth 100000

/-- The copy of a register. -/
def RetReg (w : World) (b s : Int) (xs : List EntryT) (e : Ending) (w' : World) : Prop :=
  ∃ A n c, e = .returned (.agg #[.int .i64 b, .int .i64 s, .slice A n c]) ∧ w'.ownsRow w.heap.size 25 7 (.slice A n c) n (ents xs) ∧ n ≤ 1048576 ∧ Below w.heap.size w w'
theorem eqRegister_any (b s : Int) (A : Option Addr) (n c : Nat) (A' : Option Addr) (n' c' : Nat) (xs : List EntryT) (w : World) (h : Rd w 7 A n (ents xs)) (h' : Rd w 7 A' n' (ents xs)) :
    Calls Tryz.prog 20 #[.agg #[.int .i64 b, .int .i64 s, .slice A n c], .agg #[.int .i64 b, .int .i64 s, .slice A' n' c']] w fun e w' => e = .returned (.bool true) ∧ Below w.heap.size w w' := by
  have HC := Lib.hid (fun w' (hb : Below w.heap.size w w') => eqEntryS_same A A' n c n' c' xs w' (h.below hb) (h'.below hb))
  clear h h'
  obtain ⟨w1, hw1, X0, X1, hb1, hs1⟩ := two_boxes w #[.int .i64 b, .int .i64 s, .slice A n c] #[.int .i64 b, .int .i64 s, .slice A' n' c'] 32 32
  go_enter Tryz.func20, Tryz.ntmps20
  go_wp2_with fail
  rw [← hw1]
  clear hw1
  refine (HC.out _ hb1).mono ?_
  rintro e w2 ⟨rfl, hb2⟩
  have HB2 := Lib.hid (hb1.trans (hb2.mono hb1.size))
  clear hb2 X0 X1
  go_wp2_with fail
  go_ret
  exact ⟨rfl, HB2.out⟩
theorem markRegister_any (base lo hi e : Nat) (b s : Int) (A : Option Addr) (n c : Nat) (xs : List EntryT) (k : Int) (w : World) (h : w.ownsRow base e 7 (.slice A n c) n (ents xs)) (hv : ∀ b, (Value.slice A n c).ownBlock = some b → lo ≤ b ∧ b < hi)
    (hk0 : 0 ≤ k) (hk1 : k ≤ 1099511627776) (hn : n ≤ 1048576) :
    Calls Tryz.prog 21 #[.agg #[.int .i64 b, .int .i64 s, .slice A n c], .int .i64 k] w fun e' w' => e' = .returned (.int .i64 (k + 7 * n)) ∧ w'.ownsRow base e 7 (.slice A n c) n (ents (seqent k n)) ∧ Chg lo hi w w' := by
  obtain ⟨w1, hw1, X0, hb1, hs1⟩ := one_box w #[.int .i64 b, .int .i64 s, .slice A n c] 32
  have HC := Lib.hid (markEntryS_seq base e A n c xs k w1 (own_below h hb1) hk0 hk1 hn)
  clear h
  go_enter Tryz.func21, Tryz.ntmps21
  go_wp2_with fail
  rw [← hw1]
  clear hw1
  refine HC.out.mono ?_
  rintro e w2 ⟨rfl, ho2, hc2⟩
  have HC2 := Lib.hid ((Chg.of_below (lo := lo) (hi := hi) hb1).trans (Chg.of_grown hc2 hv))
  have HO2 := Lib.hid ho2
  clear hc2 ho2
  go_wp2_with fail
  go_ret
  exact ⟨rfl, HO2.out, HC2.out⟩
theorem markEntryS_sq (base lo hi e : Nat) (A : Option Addr) (n c : Nat) (xs : List EntryT) (k : Int) (w : World) (h : w.ownsRow base e 7 (.slice A n c) n (ents xs)) (hv : ∀ b, (Value.slice A n c).ownBlock = some b → lo ≤ b ∧ b < hi)
    (hk0 : 0 ≤ k) (hk1 : k ≤ 1099511627776) (hn : n ≤ 1048576) :
    Calls Tryz.prog 46 #[.slice A n c, .int .i64 k] w fun e' w' => e' = .returned (.int .i64 (k + 7 * n)) ∧ w'.ownsRow base e 7 (.slice A n c) n (ents (seqent k n)) ∧ Chg lo hi w w' :=
  (markEntryS_seq base e A n c xs k w h hk0 hk1 hn).mono fun _ _ ⟨h1, h2, h3⟩ => ⟨h1, h2, Chg.of_grown h3 hv⟩
theorem heldRegister_any (b s : Int) (A : Option Addr) (n c : Nat) (k : Int) (w : World) (h : Rd w 7 A n (ents (seqent k n))) (hk0 : 0 ≤ k) (hk1 : k ≤ 1099511627776) (hn : n ≤ 1048576) :
    Calls Tryz.prog 22 #[.agg #[.int .i64 b, .int .i64 s, .slice A n c], .int .i64 k] w fun e' w' => e' = .returned (.int .i64 (k + 7 * n)) ∧ Below w.heap.size w w' := by
  obtain ⟨w1, hw1, X0, hb1, hs1⟩ := one_box w #[.int .i64 b, .int .i64 s, .slice A n c] 32
  have HC := Lib.hid (heldEntryS_any A n c k w1 (h.below hb1) hk0 hk1 hn)
  clear h
  go_enter Tryz.func22, Tryz.ntmps22
  go_wp2_with fail
  rw [← hw1]
  clear hw1
  refine HC.out.mono ?_
  rintro e w2 ⟨rfl, rfl⟩
  have HB1 := Lib.hid hb1
  clear hb1
  go_wp2_with fail
  go_ret
  exact ⟨rfl, HB1.out⟩
end Go.Proofs.YtnpldahkhaacnaaGreatDoor

/- The code of a drawn law, as it came in. -/
namespace Go.Proofs.YtnpldahkhaacnaaGreatDoor
open Go.RowKit
set_option linter.unusedVariables false

theorem IsRow.u8 {w : World} {a : Option Addr} {len cap : Nat} {zs : List Int} (h : IsRow .u8 w a len cap zs) : Rd w 1 a len (u8s (zs.take len)) ∧ ∀ c ∈ zs.take len, 0 ≤ c ∧ c ≤ 255 := by
  rcases h with ⟨rfl, rfl, rfl, rfl⟩ | ⟨x, rfl, h1, h2, h3, h4, h5⟩
  · exact ⟨⟨rfl, by omega, fun h => by omega⟩, fun c hc => by simp at hc⟩
  · unfold maxLen at h2
    refine ⟨⟨by simp [u8s]; omega, by omega, fun hn => ?_⟩, ?_⟩
    · have h0 := h4 0 (by omega)
      have hadd0 : x.add 0 = x := by simp [Addr.add]
      rw [hadd0] at h0
      obtain ⟨b, o, sp⟩ := x
      obtain rfl : sp = none := spot_none h0
      refine ⟨b, o, rfl, fun i u hu => ?_⟩
      have hlen : i < (u8s (zs.take len)).length := by
        rcases Nat.lt_or_ge i (u8s (zs.take len)).length with h | h
        · exact h
        · rw [List.getElem?_eq_none h] at hu; cases hu
      have hi : i < len := by simp [u8s] at hlen; omega
      have hc := h4 i (by omega)
      have hadd : (⟨b, o, none⟩ : Addr).add i = ⟨b, o + i, none⟩ := by unfold Addr.add; split <;> simp_all
      rw [hadd] at hc
      rw [hc, ← hu]
      simp [u8s, hi, List.getElem?_eq_getElem (show i < zs.length by omega)]
    · intro c hc
      have hw := h5 c (List.mem_of_mem_take hc)
      simp [Lit.wf, IntKind.min, IntKind.max, IntKind.signed, IntKind.bits] at hw
      omega
theorem code0_of {w : World} {a : Option Addr} {len cap : Nat} {zs : List Int} (h : IsRow .u8 w a len cap zs) (hl : len ≤ 4096) : Code0 w a len (zs.take len) := ⟨h.u8.1, by omega, h.u8.2⟩
theorem IsRow.addr {k : IntKind} {w : World} {a : Option Addr} {len cap : Nat} {zs : List Int} (h : IsRow k w a len cap zs) : (a = none ∧ len = 0 ∧ cap = 0) ∨ ∃ ad, a = some ad := by
  rcases h with ⟨rfl, rfl, rfl, rfl⟩ | ⟨x, rfl, _⟩
  · exact .inl ⟨rfl, rfl, rfl⟩
  · exact .inr ⟨x, rfl⟩
theorem IsRow.lenle {k : IntKind} {w : World} {a : Option Addr} {len cap : Nat} {zs : List Int} (h : IsRow k w a len cap zs) : len ≤ 9223372036854775807 := by
  rcases h with ⟨rfl, rfl, rfl, rfl⟩ | ⟨x, rfl, h1, h2, _⟩
  · omega
  · unfold maxLen at h2; omega
theorem big_any (A : Option Addr) (n c : Nat) (hn : n ≤ 9223372036854775807) (w : World) :
    Calls Tryz.prog 8 #[.slice A n c] w fun e w' => e = .returned (.bool (decide (4096 < n))) ∧ w = w' := by
  go_enter Tryz.func8, Tryz.ntmps8
  go_wp2_with fail
  go_ret
  refine ⟨?_, rfl⟩
  refine ret_bool ?_
  rw [Bool.eq_iff_iff]
  simp only [decide_eq_true_eq]
  omega
end Go.Proofs.YtnpldahkhaacnaaGreatDoor

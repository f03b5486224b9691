/- General and plain lemmas, and light walks (merged): Fq Rp Ra Ec It Se Iu Rh Sr Sq. -/
import Derived.Test.YtgkflaeaiijhjaaFs
import Derived.Test.YtgkflaeaiijhjaaZma
import Derived.Test.YtgkflaeaiijhjaaEs
import Derived.Sort.Grow
import Derived.RangeFuncNested
import Derived.RangeFuncBound
import Derived.RangeFuncCalls
import Derived.RangeFuncLeaves
import Derived.Shelf.Abstract
import Derived.OwnWalkIn
import Derived.TacticsInMore
import Derived.LoopNIn
import Derived.LoopIn
import Derived.Maps.AppendAt
import Derived.Shelf.SlSortCmp.WholeK
import Derived.Shelf.SlSortCmp.NoneTotal
import Derived.Ground.SlsfProg
import Derived.StillTailTactics
/- Plain: finishes, races, places, points of fleets. -/
namespace Go.Proofs.Ytgkflaeaiijhjaa
open Go.RowKit
set_option linter.unusedVariables false

/-- Code and time of a finish fit. -/
def finB (f : FinishT) : Bool := if f.2.1 = 0 then withinB f.2.2 1 1000000000 else withinB f.2.1 1 9 && (f.2.2 == 0)
def isFinB (f : FinishT) : Bool := withinB f.1 0 15 && finB f
def finsGo : Nat → List FinishT → Bool
  | _, [] => true
  | i, f :: r => (f.1 == (i : Int)) && finB f && finsGo (i + 1) r
def raceB (b : Int) (fs : List FinishT) : Bool := withinB b 1 16 && ((fs.length : Int) == b) && finsGo 0 fs
theorem finsGo_at : ∀ {fs : List FinishT} {i : Nat}, finsGo i fs = true → ∀ (k : Nat) (f : FinishT), fs[k]? = some f → f.1 = ((i + k : Nat) : Int) ∧ finB f = true := by
  intro fs
  induction fs with
  | nil => intro i h k f hf; simp at hf
  | cons g r ih =>
    intro i h k f hf
    simp only [finsGo, Bool.and_eq_true, beq_iff_eq] at h
    cases k with
    | zero => simp at hf; subst hf; exact ⟨by simpa using h.1.1, h.1.2⟩
    | succ k =>
      have := ih h.2 k f (by simpa using hf)
      exact ⟨by rw [this.1]; congr 1; omega, this.2⟩
theorem finB_ok {f : FinishT} (h : finB f = true) : 0 ≤ f.2.1 ∧ f.2.1 ≤ 9 ∧ 0 ≤ f.2.2 ∧ f.2.2 ≤ 1000000000 := by
  unfold finB at h
  split at h
  · have := withinB_iff.1 h; omega
  · simp only [Bool.and_eq_true, beq_iff_eq] at h
    have := withinB_iff.1 h.1; omega
/-- What a valid race is. -/
structure RaceOk (b : Int) (fs : List FinishT) : Prop where
  b1 : 1 ≤ b
  b2 : b ≤ 16
  len : (fs.length : Int) = b
  fin : ∀ (k : Nat) (f : FinishT), fs[k]? = some f → f.1 = (k : Int) ∧ finB f = true
theorem raceB_ok {b : Int} {fs : List FinishT} (h : raceB b fs = true) : RaceOk b fs := by
  unfold raceB at h
  simp only [Bool.and_eq_true, beq_iff_eq] at h
  have h1 := withinB_iff.1 h.1.1
  exact ⟨h1.1, h1.2, h.1.2, fun k f hf => by have := finsGo_at h.2 k f hf; simpa using this⟩

/-! ### Places -/
def ltN (t : Int) (fs : List FinishT) : Nat := (fs.filter fun g => g.2.1 == 0 && decide (g.2.2 < t)).length
def eqN (t : Int) (fs : List FinishT) : Nat := (fs.filter fun g => g.2.1 == 0 && (g.2.2 == t)).length
/-- Place and how many share it; 0 and 0 for a boat that has not finished. -/
def placeF (fs : List FinishT) (f : FinishT) : Int × Int := if f.2.1 = 0 then (1 + ltN f.2.2 fs, eqN f.2.2 fs) else (0, 0)
/-- The finishes of a fleet. -/
def ofFleet (fl : Int) : List FinishT → List Int → List FinishT
  | f :: r, x :: l => if x = fl then f :: ofFleet fl r l else ofFleet fl r l
  | _, _ => []
def pointF (largest : Int) (fs : List FinishT) (f : FinishT) : Int :=
  if f.2.1 = 0 then 5 * (2 * (1 + (ltN f.2.2 fs : Int)) + eqN f.2.2 fs - 1) else if f.2.1 = 9 then 0 else 10 * (largest + 1)
def pointsGo (largest : Int) (all : List FinishT) (lst : List Int) : List FinishT → List Int → List Int
  | f :: r, x :: l => pointF largest (ofFleet x all lst) f :: pointsGo largest all lst r l
  | _, _ => []
def largestF (xs : List Int) : Int := xs.foldl max 0
def fleetPointsF (fs : List FinishT) (list : List Int) (k : Int) : List Int × Int :=
  if fleetsCodeF list k = 0 then (if raceB (list.length : Int) fs = true then (pointsGo (largestF (countF list (List.replicate k.toNat 0))) fs list fs list, 0) else ([], 5)) else ([], fleetsCodeF list k)
theorem ofFleet_len (fl : Int) : ∀ (fs : List FinishT) (l : List Int), (ofFleet fl fs l).length ≤ fs.length := by
  intro fs
  induction fs with
  | nil => intro l; simp [ofFleet]
  | cons f r ih =>
    intro l
    cases l with
    | nil => simp [ofFleet]
    | cons x l =>
      have := ih l
      unfold ofFleet
      split
      · simp; omega
      · simp; omega
theorem ltN_le (t : Int) (fs : List FinishT) : ltN t fs ≤ fs.length := List.length_filter_le _ _
theorem eqN_le (t : Int) (fs : List FinishT) : eqN t fs ≤ fs.length := List.length_filter_le _ _
end Go.Proofs.Ytgkflaeaiijhjaa

/- Plain: entries, registers, histories. -/
namespace Go.Proofs.Ytgkflaeaiijhjaa
open Go.RowKit
set_option linter.unusedVariables false

def isRedB (kind points : Int) : Bool := if kind = 3 then withinB points 0 10000 else withinB kind 1 2 && (points == 0)
namespace E
abbrev race (x : EntryT) : Int := x.1
abbrev boat (x : EntryT) : Int := x.2.1
abbrev rev (x : EntryT) : Int := x.2.2.1
abbrev code (x : EntryT) : Int := x.2.2.2.1
abbrev time (x : EntryT) : Int := x.2.2.2.2.1
abbrev kind (x : EntryT) : Int := x.2.2.2.2.2.1
abbrev points (x : EntryT) : Int := x.2.2.2.2.2.2
end E
/-- An entry is valid but for its revision. -/
def entB (b : Int) (x : EntryT) : Bool := withinB (E.race x) 0 11 && withinB (E.boat x) 0 (b - 1) && finB (E.boat x, E.code x, E.time x) && (if E.kind x = 0 then (E.points x == 0) else (E.code x == 9) && isRedB (E.kind x) (E.points x))
def revB (n : Int) : Bool := withinB n 1 1000
def sameB (x y : EntryT) : Bool := E.race x == E.race y && E.boat x == E.boat y && E.rev x == E.rev y
def hasB (xs : List EntryT) (x : EntryT) : Bool := xs.any fun y => sameB y x
/-- All valid, none with the key of an earlier one. -/
def entsGo (b : Int) : List EntryT → List EntryT → Bool
  | _, [] => true
  | seen, x :: r => entB b x && revB (E.rev x) && !hasB seen x && entsGo b (seen ++ [x]) r
def regB (b s : Int) (xs : List EntryT) : Bool := withinB b 1 16 && withinB s 0 1 && decide (xs.length ≤ 400) && entsGo b [] xs
/-- What a valid register is. -/
structure RegOk (b s : Int) (xs : List EntryT) : Prop where
  b1 : 1 ≤ b
  b2 : b ≤ 16
  s0 : 0 ≤ s
  s1 : s ≤ 1
  len : xs.length ≤ 400
  ent : ∀ x ∈ xs, entB b x = true ∧ 1 ≤ E.rev x ∧ E.rev x ≤ 1000
  key : xs.Pairwise fun x y => sameB x y = false
theorem sameB_iff {x y : EntryT} : sameB x y = true ↔ E.race x = E.race y ∧ E.boat x = E.boat y ∧ E.rev x = E.rev y := by
  unfold sameB
  simp [and_assoc]
theorem entsGo_iff (b : Int) : ∀ (xs seen : List EntryT), entsGo b seen xs = true ↔ (∀ x ∈ xs, entB b x = true ∧ revB (E.rev x) = true) ∧ (∀ x ∈ xs, ∀ y ∈ seen, sameB y x = false) ∧ xs.Pairwise fun x y => sameB x y = false := by
  intro xs
  induction xs with
  | nil => intro seen; simp [entsGo]
  | cons x r ih =>
    intro seen
    rw [entsGo, Bool.and_eq_true, ih, List.pairwise_cons]
    have hh : (!hasB seen x) = true ↔ ∀ y ∈ seen, sameB y x = false := by
      unfold hasB
      simp [List.any_eq_false]
    simp only [Bool.and_eq_true, hh, List.mem_append, List.mem_cons, List.not_mem_nil, or_false]
    constructor
    · rintro ⟨⟨⟨h1, h2⟩, h3⟩, h4, h5, h6⟩
      refine ⟨fun y hy => ?_, fun y hy z hz => ?_, fun y hy => h5 y hy x (.inr rfl), h6⟩
      · rcases hy with rfl | hy
        · exact ⟨h1, h2⟩
        · exact h4 y hy
      · rcases hy with rfl | hy
        · exact h3 z hz
        · exact h5 y hy z (.inl hz)
    · rintro ⟨h1, h2, h3, h4⟩
      refine ⟨⟨h1 x (.inl rfl), h2 x (.inl rfl)⟩, fun y hy => h1 y (.inr hy), fun y hy z hz => ?_, h4⟩
      rcases hz with hz | rfl
      · exact h2 y (.inr hy) z hz
      · exact h3 y hy
theorem regB_ok {b s : Int} {xs : List EntryT} (h : regB b s xs = true) : RegOk b s xs := by
  unfold regB at h
  simp only [Bool.and_eq_true, decide_eq_true_eq] at h
  obtain ⟨⟨⟨h1, h2⟩, h3⟩, h4⟩ := h
  have hb := withinB_iff.1 h1
  have hs := withinB_iff.1 h2
  obtain ⟨a, _, c⟩ := (entsGo_iff b xs []).1 h4
  exact ⟨hb.1, hb.2, hs.1, hs.2, h3, fun x hx => ⟨(a x hx).1, withinB_iff.1 (a x hx).2⟩, c⟩
theorem RegOk.regB {b s : Int} {xs : List EntryT} (h : RegOk b s xs) : regB b s xs = true := by
  unfold Go.Proofs.Ytgkflaeaiijhjaa.regB
  rw [withinB_iff.2 ⟨h.b1, h.b2⟩, withinB_iff.2 ⟨h.s0, h.s1⟩, decide_eq_true h.len, (entsGo_iff b xs []).2 ⟨fun x hx => ⟨(h.ent x hx).1, withinB_iff.2 (h.ent x hx).2⟩, fun x hx y hy => (by cases hy), h.key⟩]
  rfl

/-! ### Histories -/
/-- x is put behind the last entry with a revision that is not greater. -/
def putE (x : EntryT) : List EntryT → List EntryT
  | [] => [x]
  | y :: r => if (y :: r).all (fun z => decide (E.rev x < E.rev z)) = true then x :: y :: r else y :: putE x r
def ofKey (race boat : Int) (xs : List EntryT) : List EntryT := xs.filter fun x => E.race x == race && E.boat x == boat
/-- The sorted list with the same entries. -/
def histF (xs : List EntryT) (race boat : Int) : List EntryT := (ofKey race boat xs).mergeSort fun x y => decide (E.rev x ≤ E.rev y)
/-- Two sorted lists with the same elements are one, if no two elements have one revision. -/
theorem sorted_uniq {xs ys : List EntryT} (hp : xs.Perm ys) (h1 : xs.Pairwise fun x y => E.rev x < E.rev y) (h2 : ys.Pairwise fun x y => E.rev x < E.rev y) : xs = ys :=
  hp.eq_of_pairwise (fun a b _ _ h h' => by omega) h1 h2
end Go.Proofs.Ytgkflaeaiijhjaa

/- Walks: the laws' helpers on races: size, copy, compare, mark. -/
namespace Go.Proofs.Ytgkflaeaiijhjaa
open Go.RowKit
set_option linter.unusedVariables false
set_option maxRecDepth 100000

theorem Box.l1 {w : World} {b : Nat} {x : Value} {t : TypeId} (h : Box w b #[x] t) : w.cell? ⟨b, 0, none⟩ = some x ∧ w.frozen? ⟨b, 0, none⟩ = false ∧ b < w.heap.size := ⟨h.cell rfl, h.fz, h.lt⟩
/-- The copy of a race. -/
def RetRace (w : World) (fs : List FinishT) (e : Ending) (w' : World) : Prop :=
  ∃ A n c, e = .returned (.agg #[.slice A n c]) ∧ w'.ownsRow w.heap.size 86 3 (.slice A n c) n (fins fs) ∧ n ≤ 1048576 ∧ Below w.heap.size w w'
end Go.Proofs.Ytgkflaeaiijhjaa

/- Walks: entries compared, the program: their keys, their order. -/
namespace Go.Proofs.Ytgkflaeaiijhjaa
open Go.RowKit Go.Sort
set_option linter.unusedVariables false
set_option maxRecDepth 100000

def sgn (n : Int) : Int := if n < 0 then -1 else if n = 0 then 0 else 1
theorem sign_any (n : Int) (w : World) : Calls Try.prog 60 #[.int .i64 n] w fun e w' => e = .returned (.int .i64 (sgn n)) ∧ w = w' := by
  unfold sgn
  rcases (by omega : n < 0 ∨ n = 0 ∨ 0 < n) with h | h | h
  · rw [if_pos h]
    go_enter Try.func60, Try.ntmps60
    go_wp2_with fail
    go_ret
    refine ⟨ret_int ?_, rfl⟩
    first | omega | rfl | (simp <;> omega)
  · subst h
    go_enter Try.func60, Try.ntmps60
    go_wp2_with fail
    go_ret
    exact ⟨rfl, rfl⟩
  · rw [if_neg (by omega), if_neg (by omega)]
    go_enter Try.func60, Try.ntmps60
    go_wp2_with fail
    go_ret
    refine ⟨ret_int ?_, rfl⟩
    first | omega | rfl | (simp <;> omega)

/-- Race, boat and revision of a valid entry. -/
def okE (x : EntryT) : Prop := 0 ≤ E.race x ∧ E.race x ≤ 11 ∧ 0 ≤ E.boat x ∧ E.boat x ≤ 15 ∧ 1 ≤ E.rev x ∧ E.rev x ≤ 1000
def keyE (x : EntryT) : Int := 1000000 * E.race x + 10000 * E.boat x + E.rev x
theorem key_same {x y : EntryT} (hx : okE x) (hy : okE y) : keyE x = keyE y ↔ sameB x y = true := by
  obtain ⟨a1, a2, a3, a4, a5, a6⟩ := hx
  obtain ⟨b1, b2, b3, b4, b5, b6⟩ := hy
  unfold keyE
  rw [sameB_iff]
  constructor
  · intro h; omega
  · rintro ⟨h1, h2, h3⟩; omega
theorem entB_okE {b : Int} {x : EntryT} (hb : b ≤ 16) (h : entB b x = true) (h1 : 1 ≤ E.rev x) (h2 : E.rev x ≤ 1000) : okE x := by
  unfold entB at h
  simp only [Bool.and_eq_true] at h
  have r := withinB_iff.1 h.1.1.1
  have q := withinB_iff.1 h.1.1.2
  exact ⟨r.1, r.2, q.1, by omega, h1, h2⟩
set_option maxHeartbeats 1000000 in
theorem compareEntries_grow (x0 x1 x2 x3 x4 x5 x6 y0 y1 y2 y3 y4 y5 y6 : Int) (hx : okE (x0, x1, x2, x3, x4, x5, x6)) (hy : okE (y0, y1, y2, y3, y4, y5, y6)) (W : World) :
    Calls Try.prog 39 #[.agg #[.int .i64 x0, .int .i64 x1, .int .i64 x2, .int .i64 x3, .int .i64 x4, .int .i64 x5, .int .i64 x6], .agg #[.int .i64 y0, .int .i64 y1, .int .i64 y2, .int .i64 y3, .int .i64 y4, .int .i64 y5, .int .i64 y6]] W
      fun e w' => e = .returned (.int .i64 (sgn (keyE (x0, x1, x2, x3, x4, x5, x6) - keyE (y0, y1, y2, y3, y4, y5, y6)))) ∧ ∃ q os', w' = grow (W.drewN q) os' := by
  obtain ⟨a1, a2, a3, a4, a5, a6⟩ := hx
  obtain ⟨b1, b2, b3, b4, b5, b6⟩ := hy
  simp only [E.race, E.boat, E.rev] at a1 a2 a3 a4 a5 a6 b1 b2 b3 b4 b5 b6
  have HK := Lib.hid (show keyE (x0, x1, x2, x3, x4, x5, x6) - keyE (y0, y1, y2, y3, y4, y5, y6) = 1000000 * (x0 - y0) + 10000 * (x1 - y1) + x2 - y2 from by unfold keyE; simp only [E.race, E.boat, E.rev]; omega)
  rw [HK.out]
  generalize hr : sgn (1000000 * (x0 - y0) + 10000 * (x1 - y1) + x2 - y2) = r
  have HS := Lib.hid (fun w => sign_any (1000000 * (x0 - y0) + 10000 * (x1 - y1) + x2 - y2) w)
  rw [hr] at HS
  clear hr HK
  go_enter Try.func39, Try.ntmps39
  go_wp2_with (go_at_call 60; refine (HS.out _).mono ?_; rintro e w' ⟨rfl, rfl⟩)
  go_ret
  exact ⟨rfl, 0, _, by rw [alloc_eq_grow, alloc_eq_grow, grow_grow]; rfl⟩
theorem sameKey_any (x0 x1 x2 x3 x4 x5 x6 y0 y1 y2 y3 y4 y5 y6 : Int) (w : World) :
    Calls Try.prog 41 #[.agg #[.int .i64 x0, .int .i64 x1, .int .i64 x2, .int .i64 x3, .int .i64 x4, .int .i64 x5, .int .i64 x6], .agg #[.int .i64 y0, .int .i64 y1, .int .i64 y2, .int .i64 y3, .int .i64 y4, .int .i64 y5, .int .i64 y6]] w
      fun e w' => e = .returned (.bool (sameB (x0, x1, x2, x3, x4, x5, x6) (y0, y1, y2, y3, y4, y5, y6))) ∧ Below w.heap.size w w' := by
  have HB := Lib.hid (show ∀ o1 o2, Below w.heap.size w ((w.alloc o1).alloc o2) from fun o1 o2 => ((Below.refl _ _).alloc (Nat.le_refl _) _).alloc (by simp) _)
  have e1 : sameB (x0, x1, x2, x3, x4, x5, x6) (y0, y1, y2, y3, y4, y5, y6) = (x0 == y0 && x1 == y1 && x2 == y2) := rfl
  rw [e1]
  clear e1
  go_enter Try.func41, Try.ntmps41
  go_wp2_with fail
  all_goals
    go_ret
    refine ⟨ret_bool ?_, HB.out _ _⟩
    simp_all
end Go.Proofs.Ytgkflaeaiijhjaa

/- Walks: the library's iterator over entries, and what collects it. -/
namespace Go.Proofs.Ytgkflaeaiijhjaa
open Go.RowKit Go.Shelf
set_option linter.unusedVariables false
set_option maxRecDepth 100000
attribute [local go_sem] Oper.semAt_some

def aggE (x : EntryT) : Array Value := #[.agg (entC x).toArray]
set_option maxHeartbeats 2000000 in
/-- The closure of slices.Values: each element is handed on, for every loop body that keeps what lay below n₀. -/
theorem values1_in (F : Fence) (n : Nat) (hF : F.fn 59) (hro : F.round = none) (hn : 1 ≤ n) (l Bs n₀ : Nat) (A : Option Addr) (len cap : Nat) (xs : List EntryT) (J Jx : List EntryT → World → Prop) (W : World) (hJ : AbidesFrom W.heap.size J)
    (hY : ∀ pre x W, J pre W → pre.length < len → YieldAt F (n - 1) Try.prog l (aggE x) W fun e W' =>
      (e = .returned (.bool true) ∧ J (pre ++ [x]) W' ∧ Below n₀ W W') ∨ (e = .returned (.bool false) ∧ Jx (pre ++ [x]) W'))
    (hn₀ : n₀ ≤ W.heap.size) (hBs : W.cell? ⟨Bs, 0, none⟩ = some (.slice A len cap)) (hr : Rd W 7 A len (ents xs)) (hb : 0 < len → ∀ b o, A = some ⟨b, o, none⟩ → b < n₀) (h0 : J [] W) :
    CallsIn F n Try.prog 59 #[.func (.yield l) #[] #[], .pointer (some ⟨Bs, 0, none⟩)] W fun e W' => (∃ v, e = .returned v) ∧
      ((∃ ys, ys = xs ∧ J ys W') ∨ (∃ pre, pre <+: xs ∧ Jx pre W')) := by
  have hl := hr.len_ent
  have hle := hr.le
  refine callsIn_of_wp Try.func59 rfl hF ?_ hro
  simp only [Try.ntmps59, List.size_toArray, List.length_cons, List.length_nil, Nat.reduceAdd, Nat.reduceSub, Array.replicate_succ, Array.replicate_zero, List.push_toArray, List.append_toArray, List.nil_append, List.cons_append]
  gi_wp2
  gi_loopw [7] (fun i wr => ∃ k : Nat, k ≤ len ∧ i = .int .i64 k ∧ J (xs.take k) wr ∧ Below n₀ W wr) (fun i _ => len - (intOf i).toNat)
  case atStart => exact ⟨0, Nat.zero_le _, rfl, h0, Below.refl _ _⟩
  case round =>
    obtain ⟨k, hk, rfl, hJs, hnx⟩ := hrel
    have HL := Lib.hid hl
    clear hl
    by_cases hlt : k < len
    · obtain ⟨b, o, x0, x1, x2, x3, x4, x5, x6, rfl, hx, hd, hc0, hc1, hc2, hc3, hc4, hc5, hc6⟩ := hr.ent hlt
      have hbn := hb (by omega) b o rfl
      have hsn := take_snoc_get hx
      have HSN := Lib.hid hsn
      have e0 := (hnx.cell (p := ⟨b, o + k * 7, none⟩) hbn).trans hc0
      have e1 := (hnx.cell (p := ⟨b, o + k * 7 + 1, none⟩) hbn).trans hc1
      have e2 := (hnx.cell (p := ⟨b, o + k * 7 + 2, none⟩) hbn).trans hc2
      have e3 := (hnx.cell (p := ⟨b, o + k * 7 + 3, none⟩) hbn).trans hc3
      have e4 := (hnx.cell (p := ⟨b, o + k * 7 + 4, none⟩) hbn).trans hc4
      have e5 := (hnx.cell (p := ⟨b, o + k * 7 + 5, none⟩) hbn).trans hc5
      have e6 := (hnx.cell (p := ⟨b, o + k * 7 + 6, none⟩) hbn).trans hc6
      have hJa := hJ _ _ (wr.alloc (.cells #[.int .i64 x0, .int .i64 x1, .int .i64 x2, .int .i64 x3, .int .i64 x4, .int .i64 x5, .int .i64 x6] 51)) none hJs (World.grownBy_alloc _ _ _) (fun r e => by cases e)
      obtain ⟨fn, tmps, assign, body, hy, hR⟩ := hY _ (x0, x1, x2, x3, x4, x5, x6) _ hJa (by rw [List.length_take, HL.out]; omega)
      simp only [aggE, entC] at hy
      have hwn : n₀ ≤ wr.heap.size := Nat.le_trans hn₀ hnx.size
      have HNX := Lib.hid hnx
      clear hx hd hc0 hc1 hc2 hc3 hc4 hc5 hc6 hsn hnx hJs hJa
      gi_wp2
      refine hR.mono ?_
      rintro e W3 (⟨rfl, hJ3, hk3⟩ | ⟨rfl, hJx3⟩)
      · gi_wp2
        go_roundw
        case rel => exact ⟨k + 1, by omega, by go_num, by rw [HSN.out]; exact hJ3, HNX.out.trans (((Below.refl n₀ wr).alloc hwn _).trans hk3)⟩
        case measure => simp [intOf] <;> omega
      · gi_wp2
        refine bodyPost_ret (results_none rfl _ _ _) rfl ?_
        exact ⟨⟨_, rfl⟩, .inr ⟨_, by rw [← HSN.out]; exact List.take_prefix _ _, hJx3⟩⟩
    · obtain rfl : k = len := by omega
      have ht : xs.take k = xs := List.take_of_length_le (by rw [HL.out]; exact Nat.le_refl _)
      rw [ht] at hJs
      clear ht
      gi_wp2
      go_end0
      exact ⟨⟨_, rfl⟩, .inl ⟨_, rfl, hJs⟩⟩

set_option maxHeartbeats 1000000 in
/-- slices.Values: the slice value is boxed; the function value captures the box. -/
theorem values_in (F : Fence) (n : Nat) (hF : F.fn 38) (hro : F.round = none) (A : Option Addr) (len cap : Nat) (w : World) :
    CallsIn F n Try.prog 38 #[.slice A len cap] w fun e w' => e = .returned (.func (.func 59) #[] #[.pointer (some ⟨w.heap.size, 0, none⟩)]) ∧ w' = w.alloc (.cells #[.slice A len cap] 31) := by
  refine callsIn_of_wp Try.func38 rfl hF ?_ hro
  simp only [Try.ntmps38, List.size_toArray, List.length_cons, List.length_nil, Nat.reduceAdd, Nat.reduceSub, Array.replicate_succ, Array.replicate_zero, List.push_toArray, List.append_toArray, List.nil_append, List.cons_append]
  gi_wp2
  go_ret
  exact ⟨rfl, rfl⟩

/-- What slices.Values hands back goes through all elements. -/
theorem values_stops (F : Fence) (n : Nat) (hF : F.fn 59) (hro : F.round = none) (hn : 1 ≤ n) (Bs n₀ : Nat) (A : Option Addr) (len cap : Nat) (xs : List EntryT) (w : World) (hBs : Bs < w.heap.size) (hn₀ : n₀ ≤ w.heap.size)
    (hc : w.cell? ⟨Bs, 0, none⟩ = some (.slice A len cap)) (hr : Rd w 7 A len (ents xs)) (hb : 0 < len → ∀ b o, A = some ⟨b, o, none⟩ → b < n₀) :
    SeqStopsK F n Try.prog 59 #[.pointer (some ⟨Bs, 0, none⟩)] aggE (Below n₀) (fun ys => ys = xs) (fun pre => pre <+: xs) len w := fun l J Jx W hW hJ _ hY h0 =>
  values1_in F n hF hro hn l Bs n₀ A len cap xs J Jx W hJ hY (Nat.le_trans hn₀ hW.size) ((hW.cell (p := ⟨Bs, 0, none⟩) hBs).trans hc) (hr.below hW) hb h0
end Go.Proofs.Ytgkflaeaiijhjaa

/- Walks: the library's sort at entries. -/
namespace Go.Proofs.Ytgkflaeaiijhjaa
open Go.RowKit Go.Sort Go.Shelf
set_option linter.unusedVariables false
set_option maxRecDepth 100000

/-! ### An own row of k cells an element, sorted -/
section
variable {α : Type} [Inhabited α] {f : α → List Value} {k : Nat}
theorem flatK_list (hk : ∀ x, (f x).length = k) (d : Array α) : (flatK f k d).toList = d.toList.flatMap f := by
  apply List.ext_getElem?
  intro t
  by_cases ht : t < d.size * k
  · have k0 : 0 < k := by rcases Nat.eq_zero_or_pos k with h | h; · subst h; simp at ht
                          · exact h
    have hq : t / k < d.size := Nat.div_lt_of_lt_mul (by rw [Nat.mul_comm]; exact ht)
    have e : t = t / k * k + t % k := by have := Nat.div_add_mod t k; rw [Nat.mul_comm] at this; exact this.symm
    have hx : d.toList[t / k]? = some d[t / k] := by simp [hq]
    have h2 := flat_get hk hx (j := t % k) (Nat.mod_lt t k0)
    rw [← e] at h2
    rw [h2, Array.getElem?_toList]
    have hF : (flatK f k d)[t]? = some ((flatK f k d)[t]!) := by
      rw [getElem!_pos _ t (by simpa using ht), Array.getElem?_eq_getElem]
    rw [hF, get_flatK _ _ _ _ ht, getElem!_pos d (t / k) hq]
    have hm : t % k < (f d[t / k]).length := by rw [hk]; exact Nat.mod_lt t k0
    rw [List.getElem?_eq_getElem hm, getElem!_pos (f d[t / k]) (t % k) hm]
  · rw [List.getElem?_eq_none (by simp; omega), List.getElem?_eq_none (by rw [flat_len hk]; simp; omega)]
theorem holdsK_own (hk : ∀ x, (f x).length = k) {w : World} {base e g n c : Nat} {xs : List α} (h : w.ownsRow base e k (.slice (some ⟨g, 0, none⟩) n c) n (xs.flatMap f)) : HoldsK f k w g 0 xs.toArray := by
  intro j hj
  rw [size_flatK] at hj
  have hF : (flatK f k xs.toArray).toList[j]? = some ((flatK f k xs.toArray)[j]!) := by
    rw [Array.getElem?_toList, getElem!_pos _ j (by simpa using hj), Array.getElem?_eq_getElem]
  rw [flatK_list hk] at hF
  have hc := h.cells (g := g) rfl j _ hF
  have hadd : (⟨g, 0, none⟩ : Addr).add j = ⟨g, 0 + j, none⟩ := by unfold Addr.add; split <;> simp_all
  rw [hadd] at hc
  exact ⟨hc, by rw [Nat.zero_add]; exact h.frozenAt j⟩
theorem grownBy_sortedK {w : World} {g n : Nat} {os : Array Obj} (d : Array α) : w.grownBy (sortWorldK f k w g 0 n d os) (some g) := by
  refine ⟨rfl, rfl, rfl, by simp [sortWorldK, putRowK, putRow, mapBlock, Sort.ahead], fun j hj hne => ?_⟩
  unfold sortWorldK
  rw [heap_grow_old _ _ (by simpa [putRowK, putRow, mapBlock, Sort.ahead] using hj)]
  have : g ≠ j := fun e => hne (by rw [e])
  simp [putRowK, putRow, mapBlock, Sort.ahead, Array.getElem?_modify, this]
theorem own_sortedK (hk : ∀ x, (f x).length = k) {w : World} {base e g m c n : Nat} {os : Array Obj} {xs ys : List α} (h : w.ownsRow base e k (.slice (some ⟨g, 0, none⟩) m c) m (xs.flatMap f)) (hl : ys.length = xs.length) :
    (sortWorldK f k w g 0 n ys.toArray os).ownsRow base e k (.slice (some ⟨g, 0, none⟩) m c) m (ys.flatMap f) := by
  have h1 := h.1
  rw [flat_len hk] at h1
  refine ⟨by rw [flat_len hk, hl]; exact h1, ?_⟩
  rcases h.2 with ⟨hv, _⟩ | ⟨g', cap, cur, hv, hb, hg, hnc, hcm, hcs, htake⟩
  · cases hv
  injection hv with hA _ hc
  injection hA with hA
  injection hA with hA
  subst hA hc
  have hgl : g < w.heap.size := (Array.getElem?_eq_some_iff.1 hg).1
  refine .inr ⟨g, c, putCells id 0 (flatK f k ys.toArray) cur, rfl, hb, ?_, hnc, hcm, by simp [putCells, hcs], ?_⟩
  · unfold sortWorldK
    rw [heap_grow_old _ _ (by simpa [putRowK, putRow, mapBlock, Sort.ahead] using hgl)]
    simp [putRowK, putRow, mapBlock, Sort.ahead, Array.getElem?_modify, hg, onCells]
  · have hsz : (flatK f k ys.toArray).size = m * k := by rw [size_flatK]; simp only [List.size_toArray]; rw [hl, h1]
    have hcz : m * k ≤ cur.size := by rw [hcs]; exact Nat.mul_le_mul_right k hnc
    rw [← flatK_list hk ys.toArray]
    apply List.ext_getElem?
    intro j
    by_cases hj : j < m * k
    · rw [List.getElem?_take_of_lt hj, Array.getElem?_toList, Array.getElem?_toList]
      simp only [putCells, Array.getElem?_mapIdx]
      rw [Array.getElem?_eq_getElem (show j < cur.size by omega)]
      simp only [Option.map_some, Nat.zero_add, Nat.zero_le, true_and, Nat.sub_zero, hsz, hj, if_true, id]
      rw [getElem!_pos _ j (by rw [hsz]; exact hj), Array.getElem?_eq_getElem]
    · rw [List.getElem?_take_eq_none (by omega), List.getElem?_eq_none (by simp only [Array.length_toList]; rw [hsz]; omega)]
end
theorem permIn_all {α : Type} [Inhabited α] {d d' : Array α} (h : PermIn 0 d.size d d') : d'.toList.Perm d.toList := by
  obtain ⟨h1, _, h3⟩ := h
  have e1 : d.extract 0 d.size = d := by simp
  have e2 : d'.extract 0 d.size = d' := by rw [← h1]; simp
  rwa [e1, e2] at h3
theorem sortedIn_all {α : Type} [Inhabited α] {lt : α → α → Bool} {d : Array α} {n : Nat} (hn : n = d.size) (h : SortedIn lt 0 n d) : d.toList.Pairwise fun x y => lt y x = false := by
  subst hn
  rw [List.pairwise_iff_getElem]
  intro i j hi hj hij
  have hi' : i < d.size := by simpa using hi
  have hj' : j < d.size := by simpa using hj
  have := h i j (Nat.zero_le _) hij hj'
  rw [getElem!_pos d i hi', getElem!_pos d j hj'] at this
  simpa using this

/-! ### Entries that may be compared -/
abbrev EV : Type := { x : EntryT // okE x }
instance : Inhabited EV := ⟨⟨(0, 0, 1, 0, 0, 0, 0), by unfold okE; simp [E.race, E.boat, E.rev]⟩⟩
def encE (x : EV) : List Value := entC x.1
def cmpE (x y : EV) : Int := sgn (keyE x.1 - keyE y.1)
theorem encE_len (x : EV) : (encE x).length = 7 := rfl
theorem encE_one (x : EV) : ∀ v ∈ encE x, v.oneCell' = true := by
  intro v hv
  obtain ⟨⟨x0, x1, x2, x3, x4, x5, x6⟩, hx⟩ := x
  simp [encE, entC] at hv
  rcases hv with rfl | rfl | rfl | rfl | rfl | rfl | rfl <;> rfl
theorem ltE (x y : EV) : ltOf cmpE x y = decide (keyE x.1 < keyE y.1) := by
  unfold ltOf cmpE sgn
  by_cases h1 : keyE x.1 < keyE y.1
  · rw [if_pos (by omega)]; simp [h1]
  · rw [if_neg (by omega)]
    by_cases h2 : keyE x.1 - keyE y.1 = 0
    · rw [if_pos h2]; simp [h1]
    · rw [if_neg h2]; simp [h1]
theorem swoE : SWO (ltOf cmpE) where
  irrefl x := by rw [ltE]; simp
  trans x y z h1 h2 := by rw [ltE] at *; simp at *; omega
  ntrans x y z h1 h2 := by rw [ltE] at *; simp at *; omega
theorem vals_of : ∀ (xs : List EntryT), (∀ x ∈ xs, okE x) → ∃ L : List EV, L.map (·.1) = xs := by
  intro xs
  induction xs with
  | nil => intro _; exact ⟨[], rfl⟩
  | cons x r ih =>
    intro h
    obtain ⟨L, hL⟩ := ih fun y hy => h y (List.mem_cons_of_mem _ hy)
    exact ⟨⟨x, h x (List.mem_cons_self ..)⟩ :: L, by rw [List.map_cons, hL]⟩
theorem ents_vals (L : List EV) : ents (L.map (·.1)) = L.flatMap encE := by
  unfold ents
  rw [List.flatMap_map]; rfl
def Try.sortEnt_ren : Go.Shelf.Ren := ⟨fun | 6 => 58 | 15 => 70 | 14 => 69 | 28 => 83 | 29 => 84 | 20 => 75 | 21 => 76 | 22 => 77 | 23 => 78 | 24 => 79 | 25 => 80 | 26 => 81 | 27 => 82 | 46 => 85 | 47 => 86 | 48 => 87 | 49 => 88 | 50 => 89 | 57 => 90 | n => n, fun | 22 => 31 | 24 => 51 | 25 => 73 | 3 => 3 | 39 => 103 | 0 => 0 | 53 => 117 | 55 => 119 | 4 => 4 | 46 => 110 | 45 => 109 | 50 => 114 | 5 => 5 | 9 => 9 | 66 => 120 | 70 => 124 | 76 => 126 | 77 => 127 | n => n, fun | n => n⟩
theorem Try.sortEnt : Go.Proofs.SlLaysF0.n6 Try.prog Try.sortEnt_ren := {
  mixed := by kernel_rfl,
  f6 := ⟨Try.f58.name, by decide, Try.func58.trans (congrArg some (by kernel_rfl))⟩,
  f14 := ⟨Try.f69.name, by decide, Try.func69.trans (congrArg some (by kernel_rfl))⟩,
  f15 := Try.func70.trans (congrArg some (by kernel_rfl)),
  f20 := ⟨Try.f75.name, by decide, Try.func75.trans (congrArg some (by kernel_rfl))⟩,
  f21 := ⟨Try.f76.name, by decide, Try.func76.trans (congrArg some (by kernel_rfl))⟩,
  f22 := ⟨Try.f77.name, by decide, Try.func77.trans (congrArg some (by kernel_rfl))⟩,
  f23 := ⟨Try.f78.name, by decide, Try.func78.trans (congrArg some (by kernel_rfl))⟩,
  f24 := ⟨Try.f79.name, by decide, Try.func79.trans (congrArg some (by kernel_rfl))⟩,
  f25 := ⟨Try.f80.name, by decide, Try.func80.trans (congrArg some (by kernel_rfl))⟩,
  f26 := ⟨Try.f81.name, by decide, Try.func81.trans (congrArg some (by kernel_rfl))⟩,
  f27 := ⟨Try.f82.name, by decide, Try.func82.trans (congrArg some (by kernel_rfl))⟩,
  f28 := Try.func83.trans (congrArg some (by kernel_rfl)),
  f29 := Try.func84.trans (congrArg some (by kernel_rfl)),
  f46 := ⟨Try.f85.name, by decide, Try.func85.trans (congrArg some (by kernel_rfl))⟩,
  f47 := Try.func86.trans (congrArg some (by kernel_rfl)),
  f48 := Try.func87.trans (congrArg some (by kernel_rfl)),
  f49 := ⟨Try.f88.name, by decide, Try.func88.trans (congrArg some (by kernel_rfl))⟩,
  f50 := ⟨Try.f89.name, by decide, Try.func89.trans (congrArg some (by kernel_rfl))⟩,
  f57 := ⟨Try.f90.name, by decide, Try.func90.trans (congrArg some (by kernel_rfl))⟩,
  t0 := Try.underlying0,
  a0 := Try.isAgg0,
  z0 := Try.sizeOf0,
  v0 := Try.zeroValue0,
  t3 := Try.underlying3,
  a3 := Try.isAgg3,
  z3 := Try.sizeOf3,
  v3 := Try.zeroValue3,
  t4 := Try.underlying4,
  a4 := Try.isAgg4,
  z4 := Try.sizeOf4,
  v4 := Try.zeroValue4,
  t5 := Try.underlying5,
  a5 := Try.isAgg5,
  z5 := Try.sizeOf5,
  v5 := Try.zeroValue5,
  t9 := Try.underlying9,
  a9 := Try.isAgg9,
  z9 := Try.sizeOf9,
  v9 := Try.zeroValue9,
  t22 := Try.underlying31,
  a22 := Try.isAgg31,
  z22 := Try.sizeOf31,
  v22 := Try.zeroValue31,
  t25 := Try.underlying73,
  a25 := Try.isAgg73,
  z25 := Try.sizeOf73,
  v25 := Try.zeroValue73,
  t39 := Try.underlying103,
  a39 := Try.isAgg103,
  z39 := Try.sizeOf103,
  v39 := Try.zeroValue103,
  t45 := Try.underlying109,
  a45 := Try.isAgg109,
  z45 := Try.sizeOf109,
  v45 := Try.zeroValue109,
  t46 := Try.underlying110,
  a46 := Try.isAgg110,
  z46 := Try.sizeOf110,
  v46 := Try.zeroValue110,
  t50 := Try.underlying114,
  a50 := Try.isAgg114,
  z50 := Try.sizeOf114,
  v50 := Try.zeroValue114,
  t53 := Try.underlying117,
  a53 := Try.isAgg117,
  z53 := Try.sizeOf117,
  v53 := Try.zeroValue117,
  t55 := Try.underlying119,
  a55 := Try.isAgg119,
  z55 := Try.sizeOf119,
  v55 := Try.zeroValue119,
  t66 := Try.underlying120,
  a66 := Try.isAgg120,
  z66 := Try.sizeOf120,
  v66 := Try.zeroValue120,
  t70 := Try.underlying124,
  a70 := Try.isAgg124,
  z70 := Try.sizeOf124,
  v70 := Try.zeroValue124,
  t76 := Try.underlying126,
  a76 := Try.isAgg126,
  z76 := Try.sizeOf126,
  v76 := Try.zeroValue126,
  t77 := Try.underlying127,
  a77 := Try.isAgg127,
  z77 := Try.sizeOf127,
  v77 := Try.zeroValue127 }
theorem cmpLaysE (blk off size : Nat) (w : World) : CmpLays Try.prog 39 #[] encE 7 cmpE blk off size w :=
  fun _ _ _ _ x y => by
    obtain ⟨⟨x0, x1, x2, x3, x4, x5, x6⟩, hx⟩ := x
    obtain ⟨⟨y0, y1, y2, y3, y4, y5, y6⟩, hy⟩ := y
    exact compareEntries_grow x0 x1 x2 x3 x4 x5 x6 y0 y1 y2 y3 y4 y5 y6 hx hy _
/-- What the sort leaves: the same row holds a sorted permutation. -/
def RetSort (w : World) (base : Nat) (A : Option Addr) (n c : Nat) (xs : List EntryT) (e : Ending) (w' : World) : Prop :=
  e = .returned (.tuple #[]) ∧ ∃ ys : List EntryT, ys.Perm xs ∧ (ys.Pairwise fun x y => keyE x ≤ keyE y) ∧ w'.ownsRow base 51 7 (.slice A n c) n (ents ys) ∧ w.grownBy w' (Value.slice A n c).ownBlock
set_option maxHeartbeats 1000000 in
theorem sortEnts_any (base : Nat) (A : Option Addr) (n c : Nat) (xs : List EntryT) (hok : ∀ x ∈ xs, okE x) (hn : n ≤ 1048576) (w : World) (h : w.ownsRow base 51 7 (.slice A n c) n (ents xs)) :
    Calls Try.prog 58 #[.slice A n c, .func (.func 39) #[] #[]] w (RetSort w base A n c xs) := by
  have hl : xs.length = n := own_len_flat entC_len (by decide) h
  rcases Nat.eq_zero_or_pos n with h0 | h0
  · subst h0
    obtain rfl : xs = [] := List.eq_nil_of_length_eq_zero hl
    have h1 := AnyF.slices_SortFunc_none { Try.sortEnt with } A c (.func (.func 39) #[] #[]) w
    change Calls Try.prog 58 _ _ _ at h1
    refine h1.mono ?_
    rintro e w' ⟨rfl, rfl⟩
    exact ⟨rfl, [], .nil, .nil, h, World.grownBy.refl _ _⟩
  · obtain ⟨L, rfl⟩ := vals_of xs hok
    rw [ents_vals] at h
    rw [List.length_map] at hl
    obtain ⟨g, rfl, hgw⟩ : ∃ g, A = some ⟨g, 0, none⟩ ∧ g < w.heap.size := by
      rcases h.2 with ⟨hv, hz⟩ | ⟨g, cap, cur, hv, hb, hg, _⟩
      · omega
      · injection hv with hA
        exact ⟨g, hA, (Array.getElem?_eq_some_iff.1 hg).1⟩
    have hH := holdsK_own encE_len h
    have eg : ∀ args w, (callFunc 39 args).run Try.prog w = .ok (.enter 39 args) w := enters_of Try.func39 (by kernel_rfl) rfl
    have hcon := AnyQ.slices_SortFunc Try.sortEnt 7 Try.isAgg51 Try.sizeOf51 encE encE_len encE_one cmpE swoE 39 #[] g 0 c L.toArray w eg (cmpLaysE g 0 L.toArray.size w) hH hgw (by simp only [List.size_toArray]; omega)
    change Calls Try.prog 58 _ _ _ at hcon
    simp only [List.size_toArray, hl] at hcon
    refine hcon.mono ?_
    rintro e w' ⟨rfl, d', q, os, hp, hs, rfl⟩
    have hp' := permIn_all (d := L.toArray) (d' := d') (by simp only [List.size_toArray, hl]; exact hp)
    have hdl : d'.toList.length = L.length := by have := hp'.length_eq; simpa using this
    have hs' := sortedIn_all (n := n) (by have : d'.size = L.length := by simpa using hdl
                                          omega) hs
    refine ⟨rfl, d'.toList.map (·.1), hp'.map _, ?_, ?_, grownBy_sortedK d'⟩
    · rw [List.pairwise_map]
      refine hs'.imp ?_
      intro x y hxy
      rw [ltE] at hxy
      simp at hxy
      exact hxy
    · rw [ents_vals]
      have := own_sortedK (n := q) (os := os) encE_len h (ys := d'.toList) hdl
      simpa using this
end Go.Proofs.Ytgkflaeaiijhjaa

/- Walks: the library's Collect and SortedFunc over the entries of a slice. -/
namespace Go.Proofs.Ytgkflaeaiijhjaa
open Go.RowKit Go.Shelf Go.Sort
set_option linter.unusedVariables false
set_option maxRecDepth 100000
attribute [local go_sem] Oper.semAt_some

theorem box_boxed {W : World} {B : Nat} {t : TypeId} {v : Value} (h : Boxed W B t v) : Box W B #[v] t := h
/-- What a round finds of its variable. -/
def AxE (s0 : Nat) (fv : Value) (x : EntryT) (a' : Act) (W : World) : Prop :=
  ∃ Bx, s0 < Bx ∧ Box W Bx (entC x).toArray 51 ∧ a' = { tmps := #[.slice none 0 0, fv, .pointer (some ⟨s0, 0, none⟩), undef, .slice none 0 0, .pointer (some ⟨Bx, 0, none⟩), fv, .agg (entC x).toArray, undef, undef, undef, undef, undef], defers := [] }
set_option maxHeartbeats 4000000 in
theorem appendSeq_in (F : Fence) (n : Nat) (hF : F.fn 68) (hro : F.round = none) (hn : 3 ≤ n) (g : Nat) (lb : Array Value) (hFg : F.fn g) (eg : ∀ args w, (callFunc g args).run Try.prog w = .ok (.enter g args) w)
    (Sp : List EntryT → Prop) (N : Nat) (hN : N ≤ 1048576) (xs : List EntryT) (w : World) (hseq : SeqStopsK F (n - 1) Try.prog g lb aggE (Below w.heap.size) (fun ys => ys = xs) Sp N w) :
    CallsIn F n Try.prog 68 #[.slice none 0 0, .func (.func g) #[] lb] w fun e W' => ∃ v, e = .returned v ∧ W'.ownsRow w.heap.size 51 7 v xs.length (ents xs) ∧ Below w.heap.size w W' := by
  have h1 : 1 ≤ n := by omega
  obtain ⟨i0, hi, hz0, hz1, hz2⟩ := info_parts Try.info_ent
  refine callsIn_of_wp_marks Try.func68 rfl hF ?_ hro
  simp only [Try.ntmps68, List.size_toArray, List.length_cons, List.length_nil, Nat.reduceAdd, Nat.reduceSub, Array.replicate_succ, Array.replicate_zero, List.push_toArray, List.append_toArray, List.nil_append, List.cons_append]
  gi_wp2
  have bO := Boxed.new w 31 (.slice none 0 0)
  have hB0 : Below w.heap.size w (w.alloc (.cells #[.slice none 0 0] 31)) := (Below.refl _ w).alloc (Nat.le_refl _) _
  refine wpIn_rangeFunc_ownH hro h1 (gf := g) (lb := lb) rfl hFg eg hseq belowK_t (belowK_b (by simp)) hB0 (fun _ => rfl)
    (fun pre W => (∃ v, Boxed W w.heap.size 31 v ∧ W.ownsRow w.heap.size 51 7 v pre.length (ents pre) ∧ True) ∧ Below w.heap.size w W)
    (fun _ _ _ => False)
    (OwnFrom.and (Own.from (holdsRow_own w.heap.size w.heap.size 31 51 7 (fun pre => pre.length) (fun pre => ents pre) (fun _ _ => True)) _) (ownFrom_below (Nat.le_refl _) (by simp)))
    (fun _ _ _ _ _ hs _ _ => hs)
    ⟨⟨_, bO, World.ownsRow_nil _ _ _ _, trivial⟩, hB0⟩
    (fun x a' W => AxE w.heap.size (.func (.func g) #[] lb) x a' W)
    (by
      rintro x a' s X Y row ⟨Bx, h1, hb, ha⟩ hg hr
      exact ⟨Bx, h1, (hg.block Bx hb.lt (fun e => by obtain ⟨_, o, ho, hc⟩ := hr Bx e.symm; rw [show X.heap[Bx]? = _ from hb] at ho; cases ho; cases hc)).trans hb, ha⟩) ?assign ?body ?done ?stop
  case assign =>
    rintro l pre ⟨x0, x1, x2, x3, x4, x5, x6⟩ W K ⟨⟨v, hv, hrow, _⟩, hB⟩ hK
    simp only [aggE, entC]
    gi_wp2
    exact hK _ _ ((KeepsOthers.alloc _ _).from _) ((Below.refl _ W).alloc hB.size _) ⟨⟨v, hv.alloc _, hrow.alloc _, trivial⟩, hB.alloc hB.size _⟩ ⟨W.heap.size, hv.lt, Box.new _ _ _, rfl⟩
  case body =>
    rintro l pre ⟨x0, x1, x2, x3, x4, x5, x6⟩ a' W hl hr ⟨⟨v, hv, hrow, _⟩, hB⟩ ⟨Bx, hBx, hbx, rfl⟩ hlt
    have hc := hv.cell
    have hbx' : Box W Bx #[.int .i64 x0, .int .i64 x1, .int .i64 x2, .int .i64 x3, .int .i64 x4, .int .i64 x5, .int .i64 x6] 51 := hbx
    obtain ⟨e0, e1, e2, e3, e4, e5, e6, _⟩ := hbx'.f7
    simp only [entC]
    gi_wp2_with (gi_at_builtin; refine wpListIn_append_own _ rfl _ _ 31 rfl w.heap.size 51 i0 (.agg #[.int .i64 0, .int .i64 0, .int .i64 0, .int .i64 0, .int .i64 0, .int .i64 0, .int .i64 0]) 7 56 Try.underlying31 hi hz0 hz1 hz2 rfl (by decide) _ _ _ rfl (hrow.alloc _) ⟨W.heap.size, 0, none⟩ 1 1 [.int .i64 x0, .int .i64 x1, .int .i64 x2, .int .i64 x3, .int .i64 x4, .int .i64 x5, .int .i64 x6] rfl rfl (World.news_of_block (cs := #[.int .i64 x0, .int .i64 x1, .int .i64 x2, .int .i64 x3, .int .i64 x4, .int .i64 x5, .int .i64 x6]) (heap_alloc_new _ _)) (by intro u hu; simp at hu; rcases hu with rfl | rfl | rfl | rfl | rfl | rfl | rfl <;> rfl) (by unfold maxLen; omega) (by omega) (by have := hB.size; simp; omega) ?_; intro v' w1 hown' hgrow _; obtain ⟨g', cap', rfl⟩ := ownsRow_succ hown'; obtain ⟨hv1, hv2, hr2, hk2, hb2⟩ := hv.appended (by decide) hrow hB.size (Nat.le_refl _) hown' hgrow; have hc1 := hv1.cell; have hf1 := hv1.frozen)
    have ee : ents (pre ++ [(x0, x1, x2, x3, x4, x5, x6)]) = ents pre ++ [.int .i64 x0, .int .i64 x1, .int .i64 x2, .int .i64 x3, .int .i64 x4, .int .i64 x5, .int .i64 x6] := by unfold ents; rw [List.flatMap_append]; rfl
    exact ⟨hk2.from _, hb2, ⟨_, hv2, by rw [ee, List.length_append]; exact hr2, trivial⟩, hB.trans hb2⟩
  case done =>
    rintro D ys W hD rfl ⟨⟨v, hv, hrow, _⟩, hB⟩ hK
    have hc := hv.cell
    gi_wp2
    refine ⟨by simp, .inl ⟨_, _, rfl, run_takeDeferred hK, ?_⟩⟩
    exact ⟨_, results_tmp rfl _ _ _, v, rfl, ownsRow_putObj hrow _ hK rfl, hB.trans (belowK_b (w := w) (Nat.le_refl _) W D _ _ (by simp at hD; omega) hK rfl rfl)⟩
  case stop =>
    rintro D c pre W _ _ h _
    exact h.elim
set_option maxHeartbeats 1000000 in
theorem collect_in (F : Fence) (n : Nat) (hC : F.fn 57) (hF : F.fn 68) (hro : F.round = none) (hn : 4 ≤ n) (g : Nat) (lb : Array Value) (hFg : F.fn g) (eg : ∀ args w, (callFunc g args).run Try.prog w = .ok (.enter g args) w)
    (Sp : List EntryT → Prop) (N : Nat) (hN : N ≤ 1048576) (xs : List EntryT) (w : World) (hseq : SeqStopsK F (n - 1 - 1) Try.prog g lb aggE (Below w.heap.size) (fun ys => ys = xs) Sp N w) :
    CallsIn F n Try.prog 57 #[.func (.func g) #[] lb] w fun e W' => ∃ v, e = .returned v ∧ W'.ownsRow w.heap.size 51 7 v xs.length (ents xs) ∧ Below w.heap.size w W' := by
  have h1 : 1 ≤ n := by omega
  refine callsIn_of_wp Try.func57 rfl hC ?_ hro
  simp only [Try.ntmps57, List.size_toArray, List.length_cons, List.length_nil, Nat.reduceAdd, Nat.reduceSub, Array.replicate_succ, Array.replicate_zero, List.push_toArray, List.append_toArray, List.nil_append, List.cons_append]
  gi_wp2_with (gi_at_call 68; refine (appendSeq_in F (n - 1) hF hro (by omega) g lb hFg eg Sp N hN xs _ hseq).mono ?_; rintro e w' ⟨v, rfl, hrow, hb⟩)
  go_ret
  exact ⟨v, rfl, hrow, hb⟩
/-- slices.Collect of the iterator over a slice: a copy. -/
theorem collect_any (A : Option Addr) (len cap : Nat) (xs : List EntryT) (hlen : len ≤ 1048576) (Bs : Nat) (w : World) (hc : w.cell? ⟨Bs, 0, none⟩ = some (.slice A len cap)) (hr : Rd w 7 A len (ents xs)) :
    Calls Try.prog 57 #[.func (.func 59) #[] #[.pointer (some ⟨Bs, 0, none⟩)]] w fun e W' => ∃ v, e = .returned v ∧ W'.ownsRow w.heap.size 51 7 v len (ents xs) ∧ Below w.heap.size w W' := by
  have hbs : Bs < w.heap.size := cell_lt hc
  have hl := hr.len_ent
  have h := collect_in Fence.wide 9 trivial trivial rfl (by omega) 59 #[.pointer (some ⟨Bs, 0, none⟩)] trivial (enters_of Try.func59 (by kernel_rfl) rfl) (fun pre => pre <+: xs) len hlen xs w
    (values_stops Fence.wide 7 trivial rfl (by omega) Bs w.heap.size A len cap xs w hbs (Nat.le_refl _) hc hr (fun h0 b o e => by
      obtain ⟨b', o', x0, x1, x2, x3, x4, x5, x6, e', _, _, c0, _⟩ := hr.ent (k := 0) h0
      rw [e] at e'
      injection e' with e'
      injection e' with e' _
      subst e'
      exact cell_lt c0))
  rw [hl] at h
  exact callsIn_wide.1 h
/-- slices.SortedFunc over a slice's iterator: a sorted copy. -/
def RetSorted (w : World) (xs : List EntryT) (e : Ending) (w' : World) : Prop :=
  ∃ A n c ys, e = .returned (.slice A n c) ∧ ys.Perm xs ∧ (ys.Pairwise fun x y => keyE x ≤ keyE y) ∧ w'.ownsRow w.heap.size 51 7 (.slice A n c) n (ents ys) ∧ Below w.heap.size w w'
theorem own_is_slice {w : World} {base e s n : Nat} {v : Value} {xs : List Value} (h : w.ownsRow base e s v n xs) : ∃ A c, v = .slice A n c := by
  rcases h.2 with ⟨rfl, rfl⟩ | ⟨g, cap, cur, rfl, _⟩
  · exact ⟨none, 0, rfl⟩
  · exact ⟨some ⟨g, 0, none⟩, cap, rfl⟩
theorem sortedFunc_any (A : Option Addr) (len cap : Nat) (xs : List EntryT) (hok : ∀ x ∈ xs, okE x) (hlen : len ≤ 1048576) (Bs : Nat) (w : World) (hc : w.cell? ⟨Bs, 0, none⟩ = some (.slice A len cap)) (hr : Rd w 7 A len (ents xs)) :
    Calls Try.prog 37 #[.func (.func 59) #[] #[.pointer (some ⟨Bs, 0, none⟩)], .func (.func 39) #[] #[]] w (RetSorted w xs) := by
  have HC := Lib.hid (collect_any A len cap xs hlen Bs w hc hr)
  clear hc hr
  go_enter Try.func37, Try.ntmps37
  go_wp2_with fail
  refine HC.out.mono ?_
  rintro e w1 ⟨v, rfl, ho, hb⟩
  obtain ⟨A1, c1, rfl⟩ := own_is_slice ho
  have HS := Lib.hid (sortEnts_any _ A1 len c1 xs hok hlen w1 ho)
  have HB := Lib.hid hb
  have HO := Lib.hid ho
  clear ho hb HC
  go_wp2_with fail
  refine HS.out.mono ?_
  rintro e w2 ⟨rfl, ys, hp, hs, ho2, hg2⟩
  have HO2 := Lib.hid ho2
  have HB2 := Lib.hid (HB.out.grown hg2 HB.out.size (fun k hk => (HO.out.lt k hk).1))
  clear ho2 hg2 HS
  go_wp2_with fail
  go_ret
  exact ⟨_, _, _, ys, rfl, hp, hs, HO2.out, HB2.out⟩
end Go.Proofs.Ytgkflaeaiijhjaa

/- Walks: the laws' helpers on registers: size, copy, compare, mark, held. -/
namespace Go.Proofs.Ytgkflaeaiijhjaa
open Go.RowKit
set_option linter.unusedVariables false
set_option maxRecDepth 100000

/-- The copy of a register. -/
def RetReg (w : World) (b s : Int) (xs : List EntryT) (e : Ending) (w' : World) : Prop :=
  ∃ A n c, e = .returned (.agg #[.int .i64 b, .int .i64 s, .slice A n c]) ∧ w'.ownsRow w.heap.size 51 7 (.slice A n c) n (ents xs) ∧ n ≤ 1048576 ∧ Below w.heap.size w w'
theorem szRegister_any (b s : Int) (A : Option Addr) (n c : Nat) (xs : List EntryT) (left : Int) (h0 : 0 ≤ left) (h1 : left ≤ 1048576) (w : World) (hr : Rd w 7 A n (ents xs)) :
    Calls Try.prog 4 #[.agg #[.int .i64 b, .int .i64 s, .slice A n c], .int .i64 left] w fun e w' => e = .returned (.int .i64 (if left < (n : Int) then -1 else left - n)) ∧ Below w.heap.size w w' := by
  have hn := hr.le
  have HB := Lib.hid (show ∀ o, Below w.heap.size w (w.alloc o) from fun o => (Below.refl _ _).alloc (Nat.le_refl _) o)
  have HS := Lib.hid (fun w => szEntryS_any A n c left w h0 h1 hn)
  clear hr
  by_cases h : left < n
  · rw [if_pos h] at HS ⊢
    go_enter Try.func4, Try.ntmps4
    go_wp2_with fail
    refine (HS.out _).mono ?_
    rintro e w2 ⟨rfl, rfl⟩
    go_wp2_with fail
    go_ret
    exact ⟨rfl, HB.out _⟩
  · rw [if_neg h] at HS ⊢
    go_enter Try.func4, Try.ntmps4
    go_wp2_with fail
    refine (HS.out _).mono ?_
    rintro e w2 ⟨rfl, rfl⟩
    go_wp2_with fail
    go_ret
    exact ⟨rfl, HB.out _⟩
theorem toRegister_any (b s : Int) (A : Option Addr) (n c : Nat) (xs : List EntryT) (w : World) (h : Rd w 7 A n (ents xs)) (hn : n ≤ 1048576) :
    Calls Try.prog 6 #[.agg #[.int .i64 b, .int .i64 s, .slice A n c]] w (RetReg w b s xs) := by
  have HC := Lib.hid (fun w' (hb : Below w.heap.size w w') => toEntryS_any A n c xs w' (h.below hb) hn)
  clear h
  obtain ⟨w1, hw1, X0, X1, X2, hb1, hs1⟩ := three_boxes w #[.int .i64 b, .int .i64 s, .slice A n c] #[.int .i64 0, .int .i64 0, .slice none 0 0] #[.int .i64 b, .int .i64 s, .slice none 0 0] 24 33 33
  go_enter Try.func6, Try.ntmps6
  go_wp2_with fail
  rw [← hw1]
  clear hw1
  refine (HC.out _ hb1).mono ?_
  rintro e w2 ⟨A2, n2, c2, rfl, ho, hn2, hb2⟩
  have F1 := (X1.below hb2).f3
  have F2 := (X2.below hb2).f3
  have HO := Lib.hid ho
  have HB2 := Lib.hid (hb1.trans (hb2.mono hb1.size))
  have hsz := hb2.size
  clear ho hb2 HC X0 X1 X2
  go_wp2_with fail
  refine bodyPost_ret (v := .agg #[.int .i64 b, .int .i64 s, .slice A2 n2 c2]) (by simp [results, Try.results6, go_sem, F1]) rfl ?_
  have hch := put_chg (g := w.heap.size + 1) [.int .i64 b, .int .i64 s, .slice A2 n2 c2] 0 (put_chg (g := w.heap.size + 1 + 1) [.slice A2 n2 c2] 2 (Chg.refl (w.heap.size + 1) (w.heap.size + 1 + 1 + 1) w2) (by omega) (by omega)) (by omega) (by omega)
  exact ⟨A2, n2, c2, rfl, own_base (own_chg HO.out hch (fun b hb => .inr (by have := (HO.out.lt b hb).1; omega))) (by omega), hn2, below_chg HB2.out hch (by omega) (by omega)⟩
theorem eqRegister_any (b s : Int) (A : Option Addr) (n c : Nat) (A' : Option Addr) (n' c' : Nat) (xs : List EntryT) (w : World) (h : Rd w 7 A n (ents xs)) (h' : Rd w 7 A' n' (ents xs)) :
    Calls Try.prog 9 #[.agg #[.int .i64 b, .int .i64 s, .slice A n c], .agg #[.int .i64 b, .int .i64 s, .slice A' n' c']] w fun e w' => e = .returned (.bool true) ∧ Below w.heap.size w w' := by
  have HC := Lib.hid (fun w' (hb : Below w.heap.size w w') => eqEntryS_same A A' n c n' c' xs w' (h.below hb) (h'.below hb))
  clear h h'
  obtain ⟨w1, hw1, X0, X1, hb1, hs1⟩ := two_boxes w #[.int .i64 b, .int .i64 s, .slice A n c] #[.int .i64 b, .int .i64 s, .slice A' n' c'] 33 33
  go_enter Try.func9, Try.ntmps9
  go_wp2_with fail
  rw [← hw1]
  clear hw1
  refine (HC.out _ hb1).mono ?_
  rintro e w2 ⟨rfl, hb2⟩
  have HB2 := Lib.hid (hb1.trans (hb2.mono hb1.size))
  clear hb2 X0 X1
  go_wp2_with fail
  go_ret
  exact ⟨rfl, HB2.out⟩
theorem markRegister_any (base lo hi e : Nat) (b s : Int) (A : Option Addr) (n c : Nat) (xs : List EntryT) (k : Int) (w : World) (h : w.ownsRow base e 7 (.slice A n c) n (ents xs)) (hv : ∀ b, (Value.slice A n c).ownBlock = some b → lo ≤ b ∧ b < hi)
    (hk0 : 0 ≤ k) (hk1 : k ≤ 1099511627776) (hn : n ≤ 1048576) :
    Calls Try.prog 10 #[.agg #[.int .i64 b, .int .i64 s, .slice A n c], .int .i64 k] w fun e' w' => e' = .returned (.int .i64 (k + 7 * n)) ∧ w'.ownsRow base e 7 (.slice A n c) n (ents (seqent k n)) ∧ Chg lo hi w w' := by
  obtain ⟨w1, hw1, X0, hb1, hs1⟩ := one_box w #[.int .i64 b, .int .i64 s, .slice A n c] 33
  have HC := Lib.hid (markEntryS_seq base e A n c xs k w1 (own_below h hb1) hk0 hk1 hn)
  clear h
  go_enter Try.func10, Try.ntmps10
  go_wp2_with fail
  rw [← hw1]
  clear hw1
  refine HC.out.mono ?_
  rintro e w2 ⟨rfl, ho2, hc2⟩
  have HC2 := Lib.hid ((Chg.of_below (lo := lo) (hi := hi) hb1).trans (Chg.of_grown hc2 hv))
  have HO2 := Lib.hid ho2
  clear hc2 ho2
  go_wp2_with fail
  go_ret
  exact ⟨rfl, HO2.out, HC2.out⟩
theorem markEntryS_sq (base lo hi e : Nat) (A : Option Addr) (n c : Nat) (xs : List EntryT) (k : Int) (w : World) (h : w.ownsRow base e 7 (.slice A n c) n (ents xs)) (hv : ∀ b, (Value.slice A n c).ownBlock = some b → lo ≤ b ∧ b < hi)
    (hk0 : 0 ≤ k) (hk1 : k ≤ 1099511627776) (hn : n ≤ 1048576) :
    Calls Try.prog 21 #[.slice A n c, .int .i64 k] w fun e' w' => e' = .returned (.int .i64 (k + 7 * n)) ∧ w'.ownsRow base e 7 (.slice A n c) n (ents (seqent k n)) ∧ Chg lo hi w w' :=
  (markEntryS_seq base e A n c xs k w h hk0 hk1 hn).mono fun _ _ ⟨h1, h2, h3⟩ => ⟨h1, h2, Chg.of_grown h3 hv⟩
end Go.Proofs.Ytgkflaeaiijhjaa

/- General lemmas: slices of races (structs of one slice of finishes). No Go function in sight. -/
namespace Go.Proofs.Ytgkflaeaiijhjaa
open Go.RowKit
set_option linter.unusedVariables false

/-- A slice of slices that reads as a list of lists. -/
structure RdRaces (w : World) (A : Option Addr) (n : Nat) (rows : List (List FinishT)) : Prop where
  len : rows.length = n
  le : n ≤ 9223372036854775807
  at_ : ∀ k, k < n → ∃ b o A' c' xs, A = some ⟨b, o, none⟩ ∧ rows[k]? = some xs ∧ w.cell? ⟨b, o + k, none⟩ = some (.slice A' xs.length c') ∧ Rd w 3 A' xs.length (fins xs)
theorem RdRaces.keep {w w' : World} {A : Option Addr} {n : Nat} {rows : List (List FinishT)} (h : RdRaces w A n rows) (k : Keeps w w') : RdRaces w' A n rows :=
  ⟨h.len, h.le, fun i hi => by
    obtain ⟨b, o, A', c', xs, e, hx, hc, hr⟩ := h.at_ i hi
    exact ⟨b, o, A', c', xs, e, hx, k _ _ hc, hr.keep k⟩⟩
theorem RdRaces.below {w w' : World} {A : Option Addr} {n : Nat} {rows : List (List FinishT)} (h : RdRaces w A n rows) (k : Below w.heap.size w w') : RdRaces w' A n rows := h.keep (Keeps.below k)
theorem RdRaces.drawn {w w' : World} {A : Option Addr} {n : Nat} {rows : List (List FinishT)} (h : RdRaces w A n rows) (k : Drawn w w') : RdRaces w' A n rows := h.below k.below
theorem RdRaces.row {w : World} {A : Option Addr} {n k : Nat} {rows : List (List FinishT)} (h : RdRaces w A n rows) (hk : k < n) :
    ∃ b o A' c' xs, A = some ⟨b, o, none⟩ ∧ rows[k]? = some xs ∧ rows.drop k = xs :: rows.drop (k + 1) ∧ w.cell? ⟨b, o + k, none⟩ = some (.slice A' xs.length c') ∧ Rd w 3 A' xs.length (fins xs) := by
  obtain ⟨b, o, A', c', xs, e, hx, hc, hr⟩ := h.at_ k hk
  obtain ⟨y, h1, h2⟩ := drop_cons (xs := rows) (k := k) (by rw [h.len]; exact hk)
  obtain rfl : xs = y := by rw [hx] at h1; injection h1
  exact ⟨b, o, A', c', xs, e, hx, h2, hc, hr⟩

/-- A slice of slices of the call's own. -/
structure OwnRaces (w : World) (base eo ei : Nat) (A : Option Addr) (n c : Nat) (vs : List Value) (rows : List (List FinishT)) : Prop where
  outer : w.ownsRow base eo 1 (.slice A n c) n vs
  len : rows.length = n
  row : ∀ (k : Nat) (v : Value) (xs : List FinishT), vs[k]? = some v → rows[k]? = some xs → ∃ A' c', v = .slice A' xs.length c' ∧ w.ownsRow base ei 3 v xs.length (fins xs)
  apart : ∀ (i j : Nat) (u v : Value), i ≠ j → vs[i]? = some u → vs[j]? = some v → ∀ g, u.ownBlock = some g → v.ownBlock ≠ some g

section
variable {w w' : World} {base eo ei n c : Nat} {A : Option Addr} {vs : List Value} {rows : List (List FinishT)}
theorem OwnRaces.vlen (h : OwnRaces w base eo ei A n c vs rows) : vs.length = n := by have := h.outer.1; omega
theorem OwnRaces.nle (h : OwnRaces w base eo ei A n c vs rows) : n ≤ 9223372036854775807 := (own_rd h.outer).le
/-- What row k is. -/
theorem OwnRaces.get (h : OwnRaces w base eo ei A n c vs rows) {k : Nat} (hk : k < n) :
    ∃ v A' c' xs, vs[k]? = some v ∧ rows[k]? = some xs ∧ rows.drop k = xs :: rows.drop (k + 1) ∧ v = .slice A' xs.length c' ∧ w.ownsRow base ei 3 (.slice A' xs.length c') xs.length (fins xs) := by
  have h1 : vs[k]? = some (vs[k]'(by rw [h.vlen]; exact hk)) := List.getElem?_eq_getElem _
  obtain ⟨xs, h2, h3⟩ := drop_cons (xs := rows) (k := k) (by rw [h.len]; exact hk)
  obtain ⟨A', c', e, ho⟩ := h.row k _ _ h1 h2
  exact ⟨_, A', c', xs, h1, h2, h3, e, by rw [e] at ho; exact ho⟩
theorem OwnRaces.rd (h : OwnRaces w base eo ei A n c vs rows) : RdRaces w A n rows :=
  ⟨h.len, h.nle, fun k hk => by
    obtain ⟨v, A', c', xs, h1, h2, _, e, ho⟩ := h.get hk
    obtain ⟨g, u, hA, _, _, hu, hc, _⟩ := own_at h.outer hk
    obtain rfl : v = u := by rw [h1] at hu; injection hu
    exact ⟨g, 0, A', c', xs, hA, h2, by rw [Nat.zero_add, hc, e], own_rd ho⟩⟩
theorem OwnRaces.in_ (h : OwnRaces w base eo ei A n c vs rows) : RowsIn base w.heap.size A n c vs := by
  refine ⟨h.outer.lt, fun v hv b hb => ?_⟩
  obtain ⟨k, hk⟩ := List.mem_iff_getElem?.1 hv
  have hkn : k < n := by have := (List.getElem?_eq_some_iff.1 hk).1; rw [h.vlen] at this; exact this
  obtain ⟨u, A', c', xs, h1, h2, _, e, ho⟩ := h.get hkn
  obtain rfl : v = u := by rw [hk] at h1; injection h1
  rw [e] at hb
  exact ho.lt b hb
theorem OwnRaces.below (h : OwnRaces w base eo ei A n c vs rows) (k : Below w.heap.size w w') : OwnRaces w' base eo ei A n c vs rows :=
  ⟨own_below h.outer k, h.len, fun i v xs h1 h2 => by obtain ⟨A', c', e, ho⟩ := h.row i v xs h1 h2; exact ⟨A', c', e, own_below ho k⟩, h.apart⟩
theorem OwnRaces.drawn (h : OwnRaces w base eo ei A n c vs rows) (k : Drawn w w') : OwnRaces w' base eo ei A n c vs rows := h.below k.below
theorem OwnRaces.alloc (h : OwnRaces w base eo ei A n c vs rows) (o : Obj) : OwnRaces (w.alloc o) base eo ei A n c vs rows := h.below ((Below.refl _ _).alloc (Nat.le_refl _) _)
theorem OwnRaces.chg {lo hi : Nat} (h : OwnRaces w base eo ei A n c vs rows) (k : Chg lo hi w w') {lo2 hi2 : Nat} (hv : RowsIn lo2 hi2 A n c vs) (hd : hi2 ≤ lo ∨ hi ≤ lo2) : OwnRaces w' base eo ei A n c vs rows :=
  ⟨own_chg h.outer k (fun b hb => by have := hv.1 b hb; omega), h.len,
    fun i v xs h1 h2 => by
      obtain ⟨A', c', e, ho⟩ := h.row i v xs h1 h2
      exact ⟨A', c', e, own_chg ho k (fun b hb => by have := hv.2 v (List.mem_of_getElem? h1) b hb; omega)⟩, h.apart⟩
theorem OwnRaces.base' {base' : Nat} (h : OwnRaces w base eo ei A n c vs rows) (hb : base' ≤ base) : OwnRaces w base' eo ei A n c vs rows :=
  ⟨own_base h.outer hb, h.len, fun i v xs h1 h2 => by obtain ⟨A', c', e, ho⟩ := h.row i v xs h1 h2; exact ⟨A', c', e, own_base ho hb⟩, h.apart⟩

/-- Row k alone is written. -/
theorem OwnRaces.upd (h : OwnRaces w base eo ei A n c vs rows) (hne : eo ≠ ei) {k : Nat} {v : Value} {xs ys : List FinishT} (hk : vs[k]? = some v) (hx : rows[k]? = some xs) (hl : ys.length = xs.length)
    (hg : w.grownBy w' v.ownBlock) (hy : w'.ownsRow base ei 3 v ys.length (fins ys)) : OwnRaces w' base eo ei A n c vs (rows.set k ys) := by
  obtain ⟨A0, c0, e0, ho0⟩ := h.row k v xs hk hx
  refine ⟨h.outer.kept hg ?_, by simpa using h.len, ?_, h.apart⟩
  · rcases hb : (Value.slice A n c).ownBlock with _ | g
    · exact .inl rfl
    · exact .inr (fun he => own_type_ne h.outer ho0 hne g hb he.symm)
  · intro i u zs h1 h2
    by_cases hik : i = k
    · subst hik
      obtain rfl : v = u := by rw [hk] at h1; injection h1
      have hlt := (List.getElem?_eq_some_iff.1 hx).1
      rw [List.getElem?_set_self hlt] at h2
      injection h2 with h2; subst h2
      exact ⟨A0, c0, by rw [e0, hl], hy⟩
    · rw [List.getElem?_set_ne (fun e => hik e.symm)] at h2
      obtain ⟨A', c', e, ho⟩ := h.row i u zs h1 h2
      refine ⟨A', c', e, ho.kept hg ?_⟩
      rcases hb : u.ownBlock with _ | g
      · exact .inl rfl
      · exact .inr (fun he => h.apart i k u v hik h1 hk g hb he.symm)

/-- Row k is put: a slice whose block is none of the others'. -/
theorem OwnRaces.put {g : Nat} (h : OwnRaces w base eo ei (some ⟨g, 0, none⟩) n c vs rows) (hne : eo ≠ ei) {k : Nat} {A' : Option Addr} {c' : Nat} {ys : List FinishT}
    (hy : w.ownsRow base ei 3 (.slice A' ys.length c') ys.length (fins ys)) (hap : ∀ u ∈ vs, ∀ b, (Value.slice A' ys.length c').ownBlock = some b → u.ownBlock ≠ some b) :
    OwnRaces (w.setCell ⟨g, k, none⟩ (.slice A' ys.length c')) base eo ei (some ⟨g, 0, none⟩) n c (vs.set k (.slice A' ys.length c')) (rows.set k ys) := by
  have hst := h.outer.stored k (.slice A' ys.length c')
  have keep : ∀ (u : Value) (m : Nat) (zs : List Value), w.ownsRow base ei 3 u m zs → (w.setCell ⟨g, k, none⟩ (.slice A' ys.length c')).ownsRow base ei 3 u m zs := by
    intro u m zs ho
    refine ho.kept hst.2 ?_
    rcases hb : u.ownBlock with _ | b
    · exact .inl rfl
    · refine .inr (fun he => ?_)
      injection he with he
      subst he
      exact own_type_ne h.outer ho hne b rfl hb
  refine ⟨hst.1, by simpa using h.len, ?_, ?_⟩
  · intro i u zs h1 h2
    by_cases hik : i = k
    · subst hik
      have hlt : i < rows.length := by have := (List.getElem?_eq_some_iff.1 h2).1; simpa using this
      have hlt' : i < vs.length := by rw [h.vlen, ← h.len]; exact hlt
      rw [List.getElem?_set_self hlt] at h2
      rw [List.getElem?_set_self hlt'] at h1
      injection h2 with h2; injection h1 with h1
      subst h2; subst h1
      exact ⟨A', c', rfl, keep _ _ _ hy⟩
    · rw [List.getElem?_set_ne (fun e => hik e.symm)] at h1 h2
      obtain ⟨A'', c'', e, ho⟩ := h.row i u zs h1 h2
      exact ⟨A'', c'', e, keep _ _ _ ho⟩
  · intro i j u v hij h1 h2 b hb
    by_cases hik : i = k
    · subst hik
      rw [List.getElem?_set_ne (fun e => hij e)] at h2
      have hlt' : i < vs.length := by have := (List.getElem?_eq_some_iff.1 h1).1; simpa using this
      rw [List.getElem?_set_self hlt'] at h1
      injection h1 with h1; subst h1
      exact hap v (List.mem_of_getElem? h2) b hb
    · rw [List.getElem?_set_ne (fun e => hik e.symm)] at h1
      by_cases hjk : j = k
      · subst hjk
        have hlt' : j < vs.length := by have := (List.getElem?_eq_some_iff.1 h2).1; simpa using this
        rw [List.getElem?_set_self hlt'] at h2
        injection h2 with h2; subst h2
        exact fun hb' => hap u (List.mem_of_getElem? h1) b hb' hb
      · rw [List.getElem?_set_ne (fun e => hjk e.symm)] at h2
        exact h.apart i j u v hij h1 h2 b hb

/-- Behind a make: all rows are nil. -/
theorem OwnRaces.made (w : World) (base eo ei n : Nat) (hb : base ≤ w.heap.size) (hm : n ≤ 9223372036854775807) :
    OwnRaces (w.alloc (.cells (madeCells #[.slice none 0 0] n) eo)) base eo ei (some ⟨w.heap.size, 0, none⟩) n n (List.replicate n (.slice none 0 0)) (List.replicate n []) := by
  refine ⟨own_made w base eo n _ hb hm, by simp, ?_, ?_⟩
  · intro k v xs h1 h2
    rw [List.getElem?_replicate] at h1 h2
    split at h1
    · injection h1 with h1; subst h1
      rw [if_pos ‹_›] at h2
      injection h2 with h2; subst h2
      exact ⟨none, 0, rfl, World.ownsRow_nil _ _ _ _⟩
    · cases h1
  · intro i j u v _ h1 h2 g hg
    rw [List.getElem?_replicate] at h1
    split at h1
    · injection h1 with h1; subst h1
      simp [Value.ownBlock] at hg
    · cases h1
theorem OwnRaces.nil (w : World) (base eo ei : Nat) : OwnRaces w base eo ei none 0 0 [] [] :=
  ⟨World.ownsRow_nil _ _ _ _, rfl, fun k v xs h => by simp at h, fun i j u v _ h => by simp at h⟩
theorem OwnRaces.empty (w : World) (base eo ei : Nat) (hb : base ≤ w.heap.size) : OwnRaces (w.alloc (.cells #[] eo)) base eo ei (some ⟨w.heap.size, 0, none⟩) 0 0 [] [] :=
  ⟨own_empty w base eo hb, rfl, fun k v xs h => by simp at h, fun i j u v _ h => by simp at h⟩
/-- A row is appended. -/
theorem OwnRaces.append {w1 : World} {A1 : Option Addr} {c1 : Nat} (h : OwnRaces w base eo ei A n c vs rows) (hne : eo ≠ ei) {A' : Option Addr} {c' : Nat} {ys : List FinishT}
    (hy : w.ownsRow base ei 3 (.slice A' ys.length c') ys.length (fins ys)) (hap : ∀ u ∈ vs, ∀ b, (Value.slice A' ys.length c').ownBlock = some b → u.ownBlock ≠ some b)
    (o : Obj) (hg : (w.alloc o).grownBy w1 (Value.slice A n c).ownBlock) (ho : w1.ownsRow base eo 1 (.slice A1 (n + 1) c1) (n + 1) (vs ++ [.slice A' ys.length c'])) :
    OwnRaces w1 base eo ei A1 (n + 1) c1 (vs ++ [.slice A' ys.length c']) (rows ++ [ys]) := by
  have keep : ∀ (u : Value) (m : Nat) (zs : List Value), w.ownsRow base ei 3 u m zs → w1.ownsRow base ei 3 u m zs := by
    intro u m zs hu
    refine (hu.alloc o).kept hg ?_
    rcases hb : u.ownBlock with _ | b
    · exact .inl rfl
    · exact .inr (fun he => own_type_ne h.outer hu hne b he.symm hb)
  refine ⟨ho, by simp [h.len], ?_, ?_⟩
  · intro i u zs h1 h2
    by_cases hi : i < n
    · rw [List.getElem?_append_left (by rw [h.vlen]; exact hi)] at h1
      rw [List.getElem?_append_left (by rw [h.len]; exact hi)] at h2
      obtain ⟨A'', c'', e, hr⟩ := h.row i u zs h1 h2
      exact ⟨A'', c'', e, keep _ _ _ hr⟩
    · rw [List.getElem?_append_right (by rw [h.vlen]; omega), h.vlen] at h1
      rw [List.getElem?_append_right (by rw [h.len]; omega), h.len] at h2
      have h0 : i - n = 0 := by
        rcases Nat.eq_zero_or_pos (i - n) with h | h
        · exact h
        · rw [List.getElem?_eq_none (by simp; omega)] at h1; cases h1
      rw [h0] at h1 h2
      simp at h1 h2
      subst h1; subst h2
      exact ⟨A', c', rfl, keep _ _ _ hy⟩
  · intro i j u v hij h1 h2 b hb
    have split : ∀ (q : Nat) (x : Value), (vs ++ [Value.slice A' ys.length c'])[q]? = some x → (q < n ∧ vs[q]? = some x) ∨ (q = n ∧ x = .slice A' ys.length c') := by
      intro q x hx
      by_cases hq : q < n
      · rw [List.getElem?_append_left (by rw [h.vlen]; exact hq)] at hx; exact .inl ⟨hq, hx⟩
      · rw [List.getElem?_append_right (by rw [h.vlen]; omega), h.vlen] at hx
        have h0 : q - n = 0 := by
          rcases Nat.eq_zero_or_pos (q - n) with h | h
          · exact h
          · rw [List.getElem?_eq_none (by simp; omega)] at hx; cases hx
        rw [h0] at hx
        simp at hx
        exact .inr ⟨by omega, hx.symm⟩
    rcases split i u h1 with ⟨hi, hu⟩ | ⟨hi, rfl⟩ <;> rcases split j v h2 with ⟨hj, hv⟩ | ⟨hj, rfl⟩
    · exact h.apart i j u v hij hu hv b hb
    · exact fun hb' => hap u (List.mem_of_getElem? hu) b hb' hb
    · exact hap v (List.mem_of_getElem? hv) b hb
    · omega
end
end Go.Proofs.Ytgkflaeaiijhjaa

/- Walks: the laws' helpers on slices of races and on series: compare, mark, held. -/
namespace Go.Proofs.Ytgkflaeaiijhjaa
open Go.RowKit
set_option linter.unusedVariables false
set_option maxRecDepth 100000

theorem mixr_set {α : Type} (ys xs : List α) (j : Nat) (y : α) (hl : ys.length = xs.length) (hy : ys[j]? = some y) : (ys.take j ++ xs.drop j).set j y = ys.take (j + 1) ++ xs.drop (j + 1) := by
  have hj : j < ys.length := (List.getElem?_eq_some_iff.1 hy).1
  have hj' : j < xs.length := by omega
  rw [List.set_append, if_neg (by simp; omega), take_snoc_get hy, List.drop_eq_getElem_cons hj']
  have e : j - (ys.take j).length = 0 := by simp; omega
  rw [e, List.set_cons_zero, List.append_assoc]
  rfl
theorem mixr_get {α : Type} (ys xs : List α) (j : Nat) (hl : ys.length = xs.length) (hj : j < xs.length) : (ys.take j ++ xs.drop j)[j]? = xs[j]? := by
  rw [List.getElem?_append_right (by simp; omega)]
  have e : j - (ys.take j).length = 0 := by simp; omega
  rw [e, List.getElem?_drop]; simp
/-- All numbers of all races. -/
def raceSum : List (List FinishT) → Nat
  | [] => 0
  | x :: r => 3 * x.length + raceSum r
theorem raceSum_take_le (rows : List (List FinishT)) (j : Nat) : raceSum (rows.take j) ≤ raceSum rows := by
  induction rows generalizing j with
  | nil => simp
  | cons x r ih =>
    cases j with
    | zero => simp [raceSum]
    | succ j => simp only [List.take_succ_cons, raceSum]; have := ih j; omega
theorem raceSum_snoc (rows : List (List FinishT)) (x : List FinishT) : raceSum (rows ++ [x]) = raceSum rows + 3 * x.length := by
  induction rows with
  | nil => simp [raceSum]
  | cons y r ih => simp only [List.cons_append, raceSum, ih]; omega
def seqRaces (k : Int) : List (List FinishT) → List (List FinishT)
  | [] => []
  | x :: r => seqfin k x.length :: seqRaces (k + 3 * x.length) r
theorem seqRaces_length (k : Int) (rows : List (List FinishT)) : (seqRaces k rows).length = rows.length := by
  induction rows generalizing k with
  | nil => rfl
  | cons x r ih => simp [seqRaces, ih]
theorem seqRaces_get (k : Int) (rows : List (List FinishT)) (j : Nat) (x : List FinishT) (h : rows[j]? = some x) : (seqRaces k rows)[j]? = some (seqfin (k + raceSum (rows.take j)) x.length) := by
  induction rows generalizing k j with
  | nil => simp at h
  | cons y r ih =>
    cases j with
    | zero => simp at h; subst h; simp [seqRaces, raceSum]
    | succ j =>
      simp only [seqRaces, List.getElem?_cons_succ, List.take_succ_cons, raceSum]
      rw [ih _ _ (by simpa using h)]
      congr 2
      omega
/-! ### Series -/
/-- A new series and a code. -/
def RetSer (w : World) (b s : Int) (rows : List (List FinishT)) (code : Int) (e : Ending) (w' : World) : Prop :=
  ∃ A n c vs, e = .returned (.tuple #[.agg #[.int .i64 b, .int .i64 s, .slice A n c], .int .i64 code]) ∧ OwnRaces w' w.heap.size 84 86 A n c vs rows ∧ raceSum rows ≤ 1048576 ∧ Below w.heap.size w w'
/-- A new series. -/
def RetSer1 (w : World) (b s : Int) (rows : List (List FinishT)) (e : Ending) (w' : World) : Prop :=
  ∃ A n c vs, e = .returned (.agg #[.int .i64 b, .int .i64 s, .slice A n c]) ∧ OwnRaces w' w.heap.size 84 86 A n c vs rows ∧ raceSum rows ≤ 1048576 ∧ Below w.heap.size w w'
end Go.Proofs.Ytgkflaeaiijhjaa

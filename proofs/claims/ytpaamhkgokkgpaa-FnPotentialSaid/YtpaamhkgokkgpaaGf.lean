/- Walks: times of moves (chapter 32). -/
import Derived.Test.YtpaamhkgokkgpaaGd
import Derived.Test.YtpaamhkgokkgpaaGe
namespace Go.Proofs.Ytpaamhkgokkgpaa
open Go.RowKit
set_option linter.unusedVariables false
set_option maxRecDepth 100000

def takesF (d s : Int) : Int := (if d % 2 = 1 then 14 else 10) * (if s = 1 then 3 else if s = 3 then 2 else 1)
def ceilF (a b : Int) : Int := (a + b - 1) / b
def windAt (xs : List (Int × Int)) (cell : Int) : Int × Int := xs.getD cell.toNat (0, 0)
def sailAt (xs : List (Int × Int)) (cell d : Int) : Int := sailF (windAt xs cell).1 (windAt xs cell).2 (headF d).1 (headF d).2
def tackAt (xs : List (Int × Int)) (cell d : Int) : Int := tackF (windAt xs cell).1 (windAt xs cell).2 (headF d).1 (headF d).2
def lenAt (xs : List (Int × Int)) (cell : Int) : Int := isq ((windAt xs cell).1 * (windAt xs cell).1 + (windAt xs cell).2 * (windAt xs cell).2)
/-- Is a move possible? -/
def moveB (W H : Int) (xs : List (Int × Int)) (cell d : Int) : Bool := nbB W H cell d && !(sailAt xs cell d == 1 && tackAt xs cell d == 0)
def takeF (xs : List (Int × Int)) (cell d : Int) : Int := ceilF (60 * takesF d (sailAt xs cell d)) (lenAt xs cell)
def moveF (W H : Int) (xs : List (Int × Int)) (cell d : Int) : Int := if moveB W H xs cell d = true then takeF xs cell d else -1
theorem takesF_bd (d s : Int) : 10 ≤ takesF d s ∧ takesF d s ≤ 42 := by
  unfold takesF
  split <;> split <;> (try split) <;> omega
theorem sailF_cases (x y a b : Int) : sailF x y a b = 1 ∨ sailF x y a b = 2 ∨ sailF x y a b = 3 := by
  unfold sailF
  split
  · exact .inr (.inl rfl)
  · split
    · exact .inl rfl
    · exact .inr (.inr rfl)
theorem ceil_eq {a b : Int} (ha : 0 ≤ a) (hb : 1 ≤ b) : ceilF a b = if a % b = 0 then a / b else a / b + 1 := by
  have h1 := Int.emod_nonneg a (show b ≠ 0 by omega)
  have h2 := Int.emod_lt_of_pos a (show 0 < b by omega)
  have h3 := Int.mul_ediv_add_emod a b
  unfold ceilF
  generalize a / b = q at *
  generalize a % b = r at *
  subst h3
  split
  · rename_i h
    subst h
    rw [show b * q + 0 + b - 1 = b - 1 + b * q from by omega, Int.add_mul_ediv_left _ _ (show b ≠ 0 by omega), Int.ediv_eq_zero_of_lt (by omega) (by omega)]
    omega
  · rename_i h
    rw [show b * q + r + b - 1 = r - 1 + b * (q + 1) from by rw [Int.mul_add]; omega, Int.add_mul_ediv_left _ _ (show b ≠ 0 by omega), Int.ediv_eq_zero_of_lt (by omega) (by omega)]
    omega
theorem ceil_bd {a b : Int} (ha : 1 ≤ a) (hb : 1 ≤ b) : 1 ≤ ceilF a b ∧ ceilF a b ≤ a := by
  unfold ceilF
  constructor
  · exact (Int.le_ediv_iff_mul_le (by omega)).2 (by omega)
  · have h1 : a + b - 1 ≤ a * b := by
      have := Int.mul_nonneg (show 0 ≤ a - 1 by omega) (show 0 ≤ b - 1 by omega)
      rw [Int.sub_mul, Int.mul_sub, Int.one_mul, Int.mul_one] at this
      omega
    have h2 := Int.ediv_le_ediv (show 0 < b by omega) h1
    rwa [Int.mul_ediv_cancel _ (by omega)] at h2
theorem isq_bd {x y : Int} (h : windB (x, y) = true) : 0 ≤ x * x + y * y ∧ x * x + y * y ≤ 2000000 ∧ 1 ≤ isq (x * x + y * y) ∧ isq (x * x + y * y) ≤ 2000 := by
  obtain ⟨h1, h2, h3, h4, h5⟩ := windB_bd h
  have hx : 0 ≤ x * x ∧ x * x ≤ 1000000 := by
    by_cases h : 0 ≤ x
    · exact ⟨Int.mul_nonneg h h, sq_mono h h2⟩
    · have := sq_mono (show 0 ≤ -x by omega) (show -x ≤ 1000 by omega)
      have h0 := Int.mul_nonneg (show 0 ≤ -x by omega) (show 0 ≤ -x by omega)
      rw [Int.neg_mul_neg] at this h0
      exact ⟨h0, this⟩
  have hy : 0 ≤ y * y ∧ y * y ≤ 1000000 := by
    by_cases h : 0 ≤ y
    · exact ⟨Int.mul_nonneg h h, sq_mono h h4⟩
    · have := sq_mono (show 0 ≤ -y by omega) (show -y ≤ 1000 by omega)
      have h0 := Int.mul_nonneg (show 0 ≤ -y by omega) (show 0 ≤ -y by omega)
      rw [Int.neg_mul_neg] at this h0
      exact ⟨h0, this⟩
  have h1' : 1 ≤ x * x + y * y := by
    by_cases hx0 : x = 0
    · by_cases hy0 : 0 < y
      · have := sq_mono (show (0 : Int) ≤ 1 by decide) (show 1 ≤ y by omega); omega
      · have := sq_mono (show (0 : Int) ≤ 1 by decide) (show 1 ≤ -y by omega)
        rw [Int.neg_mul_neg] at this; omega
    · by_cases hx1 : 0 < x
      · have := sq_mono (show (0 : Int) ≤ 1 by decide) (show 1 ≤ x by omega); omega
      · have := sq_mono (show (0 : Int) ≤ 1 by decide) (show 1 ≤ -x by omega)
        rw [Int.neg_mul_neg] at this; omega
  refine ⟨by omega, by omega, ?_, ?_⟩
  all_goals
    obtain ⟨k0, k1, k2⟩ := isq_spec (show 0 ≤ x * x + y * y by omega)
    generalize isq (x * x + y * y) = s at *
  · by_cases h : s = 0
    · subst h; simp at k2; omega
    · omega
  · by_cases h : s ≤ 2000
    · exact h
    · have := sq_mono (show (0 : Int) ≤ 2001 by decide) (show 2001 ≤ s by omega); omega
theorem windAt_get {xs : List (Int × Int)} {k : Nat} {p : Int × Int} (h : xs[k]? = some p) : windAt xs (k : Int) = p := by
  unfold windAt
  rw [Int.toNat_natCast, List.getD_eq_getElem?_getD, h]; rfl
theorem moveF_bd {W H : Int} {xs : List (Int × Int)} {cell d : Int} (hg : GridOk W H xs) (h : moveB W H xs cell d = true) (c1 : 0 ≤ cell) (c2 : cell < W * H) : 1 ≤ takeF xs cell d ∧ takeF xs cell d ≤ 2520 := by
  have hl := hg.len
  have hx : xs[cell.toNat]? = some (windAt xs cell) := by unfold windAt; rw [List.getD_eq_getElem?_getD, List.getElem?_eq_getElem (by omega)]; rfl
  have hw := hg.all _ (List.mem_of_getElem? hx)
  have hi := isq_bd (x := (windAt xs cell).1) (y := (windAt xs cell).2) hw
  have ht := takesF_bd d (sailAt xs cell d)
  have := ceil_bd (a := 60 * takesF d (sailAt xs cell d)) (b := lenAt xs cell) (by omega) hi.2.2.1
  unfold takeF
  omega
theorem floorDiv_any (a b : Int) (a0 : 0 ≤ a) (a1 : a ≤ 1000000) (b1 : 1 ≤ b) (b2 : b ≤ 1000000) (w : World) :
    Calls Try.prog 95 #[.int .i64 (-a), .int .i64 b] w fun e w' => e = .returned (.int .i64 (-ceilF a b)) ∧ w = w' := by
  have e1 := ceil_eq a0 b1
  have t1 : (-a).tdiv b = -(a / b) := by rw [Int.neg_tdiv, Int.tdiv_eq_ediv_of_nonneg a0]
  have t2 : (-a).tmod b = -(a % b) := by rw [Int.neg_tmod, Int.tmod_eq_emod_of_nonneg a0]
  have r1 := Int.emod_nonneg a (show b ≠ 0 by omega)
  have r2 := Int.emod_lt_of_pos a (show 0 < b by omega)
  have r3 := Int.ediv_nonneg a0 (show 0 ≤ b by omega)
  have r4 := Int.ediv_le_self b a0
  generalize ceilF a b = v at *
  generalize a / b = q at *
  generalize a % b = r at *
  have E := Lib.hid e1
  clear e1
  have q1 : IntKind.i64.wrap (-q) = -q := IntWalk.i64_in _ (by omega)
  by_cases hr : r = 0
  · subst hr
    go_enter Try.func95, Try.ntmps95
    go_wp2_with fail
    go_ret
    exact ⟨ret_int (by rw [E.out]; simp), rfl⟩
  · have hlt : 0 < r := by omega
    go_enter Try.func95, Try.ntmps95
    go_wp2_with fail
    go_ret
    exact ⟨ret_int (by rw [E.out, if_neg hr]; omega), rfl⟩
theorem ceilDiv_any (a b : Int) (a0 : 0 ≤ a) (a1 : a ≤ 1000000) (b1 : 1 ≤ b) (b2 : b ≤ 1000000) (w : World) :
    Calls Try.prog 84 #[.int .i64 a, .int .i64 b] w fun e w' => e = .returned (.int .i64 (ceilF a b)) ∧ w = w' := by
  have HF := Lib.hid (fun w => floorDiv_any a b a0 a1 b1 b2 w)
  have hc : -1000000 ≤ ceilF a b ∧ ceilF a b ≤ 1000001 := by
    rw [ceil_eq a0 b1]
    have r3 := Int.ediv_nonneg a0 (show 0 ≤ b by omega)
    have r4 := Int.ediv_le_self b a0
    split <;> omega
  obtain ⟨hc1, hc2⟩ := hc
  generalize ceilF a b = v at *
  go_enter Try.func84, Try.ntmps84
  go_wp2_with fail
  refine (HF.out _).mono ?_
  rintro e w' ⟨rfl, rfl⟩
  go_wp2_with fail
  go_ret
  exact ⟨ret_int (by omega), rfl⟩
theorem lengthOf_any (x y : Int) (h : windB (x, y) = true) (w : World) :
    Calls Try.prog 85 #[.agg #[.int .i64 x, .int .i64 y]] w fun e w' => e = .returned (.int .i64 (isq (x * x + y * y))) ∧ Below w.heap.size w w' := by
  obtain ⟨h1, h2, h3, h4⟩ := isq_bd h
  obtain ⟨g1, g2, g3, g4, _⟩ := windB_bd h
  have HB := Lib.hid (show ∀ o, Below w.heap.size w (w.alloc o) from fun o => (Below.refl _ _).alloc (Nat.le_refl _) o)
  have HR := Lib.hid (fun w => implRoot_any (x * x + y * y) h1 h2 w)
  have hx0 : 0 ≤ x * x := by have := isq_bd h; by_cases h : 0 ≤ x; exact Int.mul_nonneg h h; have h0 := Int.mul_nonneg (show 0 ≤ -x by omega) (show 0 ≤ -x by omega); rwa [Int.neg_mul_neg] at h0
  have hy0 : 0 ≤ y * y := by have := isq_bd h; by_cases h : 0 ≤ y; exact Int.mul_nonneg h h; have h0 := Int.mul_nonneg (show 0 ≤ -y by omega) (show 0 ≤ -y by omega); rwa [Int.neg_mul_neg] at h0
  have hx1 : x * x ≤ 2000000 := by omega
  have hy1 : y * y ≤ 2000000 := by omega
  clear h
  go_enter Try.func85, Try.ntmps85
  go_wp2_with fail
  refine (HR.out _).mono ?_
  rintro e w' ⟨rfl, rfl⟩
  go_wp2_with fail
  go_ret
  exact ⟨rfl, HB.out _⟩
end Go.Proofs.Ytpaamhkgokkgpaa

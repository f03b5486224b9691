/- Plain functions and facts of the fleets chapter: no Go in sight. -/
import Derived.Test.YtalgdeieejpelaaLib
namespace Go.Proofs.Ytalgdeieejpelaa
open Go.RowKit
set_option linter.unusedVariables false

def rowB (xs : List Int) (many most : Int) : Bool := xs.all (fun x => withinB x 0 most) && ((xs.length : Int) == many)

/-- Is the list a permutation of low .. low + n - 1 (seen: which ones have been met)? -/
def permF (low : Int) (n : Nat) : List Int → List Bool → Bool
  | [], _ => true
  | x :: r, seen => if withinB x low (low + n - 1) then (if seen.getD (x - low).toNat false then false else permF low n r (seen.set (x - low).toNat true)) else false
def isPermB (low : Int) (xs : List Int) : Bool := permF low xs.length xs (List.replicate xs.length false)
theorem permF_mem {low : Int} {n : Nat} {xs : List Int} {seen : List Bool} (h : permF low n xs seen = true) : ∀ x ∈ xs, low ≤ x ∧ x ≤ low + n - 1 := by
  induction xs generalizing seen with
  | nil => intro x hx; cases hx
  | cons y r ih =>
    unfold permF at h
    split at h
    · rename_i h1
      split at h
      · cases h
      · intro x hx
        rcases List.mem_cons.1 hx with rfl | hx
        · exact withinB_iff.1 h1
        · exact ih h x hx
    · cases h

def orderB (xs : List Int) : Bool := withinB (xs.length : Int) 1 16 && isPermB 0 xs
theorem orderB_len {xs : List Int} (h : orderB xs = true) : 1 ≤ xs.length ∧ xs.length ≤ 16 := by
  unfold orderB at h
  simp only [Bool.and_eq_true, withinB_iff] at h
  omega
theorem orderB_mem {xs : List Int} (h : orderB xs = true) {i : Nat} {x : Int} (hx : xs[i]? = some x) : ∃ j : Nat, x = j ∧ j < xs.length := by
  unfold orderB at h
  simp only [Bool.and_eq_true] at h
  have := permF_mem h.2 x (List.mem_of_getElem? hx)
  exact ⟨x.toNat, by omega, by omega⟩

def orderCodeF (xs : List Int) (k : Int) : Int := if withinB k 1 4 then (if orderB xs then 0 else 1) else 2

/-- Element x gets f i, i its place. -/
def scatterF (f : Nat → Int) : Nat → List Int → List Int → List Int
  | _, [], out => out
  | i, x :: r, out => scatterF f (i + 1) r (out.set x.toNat (f i))
theorem scatterF_congr (f g : Nat → Int) (h : ∀ i, f i = g i) (i : Nat) (xs out : List Int) : scatterF f i xs out = scatterF g i xs out := by
  rw [show f = g from funext h]
theorem scatterF_length (f : Nat → Int) (i : Nat) (xs out : List Int) : (scatterF f i xs out).length = out.length := by
  induction xs generalizing i out with
  | nil => rfl
  | cons x r ih => simp [scatterF, ih]

def snakeImpl (k : Int) (i : Nat) : Int := if ((i : Int) / k % 2 == 1) = true then k - 1 - (i : Int) % k else (i : Int) % k
def snakeSpec (k : Int) (i : Nat) : Int := if k ≤ (i : Int) % (2 * k) then 2 * k - 1 - (i : Int) % (2 * k) else (i : Int) % (2 * k)
theorem snake_same (k : Int) (h1 : 1 ≤ k) (h2 : k ≤ 4) (i : Nat) : snakeImpl k i = snakeSpec k i := by
  unfold snakeImpl snakeSpec
  have hk : k = 1 ∨ k = 2 ∨ k = 3 ∨ k = 4 := by omega
  rcases hk with rfl | rfl | rfl | rfl <;> simp only [beq_iff_eq] <;> split <;> split <;> omega

def snakeF (xs : List Int) (k : Int) : List Int × Int :=
  if orderCodeF xs k = 0 then (scatterF (snakeSpec k) 0 xs (List.replicate xs.length 0), 0) else ([], orderCodeF xs k)

/-- How many boats each fleet has. -/
def countF : List Int → List Int → List Int
  | [], out => out
  | x :: r, out => countF r (out.set x.toNat (wrap64 (out.getD x.toNat 0 + 1)))
def fleetsB (xs : List Int) (k : Int) : Bool := withinB (xs.length : Int) 1 16 && xs.all (fun x => withinB x 0 (k - 1))
def isFleetsB (xs : List Int) (k : Int) : Bool := withinB k 1 4 && fleetsB xs k
def fleetsCodeF (xs : List Int) (k : Int) : Int := if withinB k 1 4 then (if fleetsB xs k then 0 else 1) else 2
def sizesF (xs : List Int) (k : Int) : List Int × Int :=
  if fleetsCodeF xs k = 0 then (countF xs (List.replicate k.toNat 0), 0) else ([], fleetsCodeF xs k)

/-- The places of x in the list. -/
def boatsF (fleet : Int) : Nat → List Int → List Int
  | _, [] => []
  | i, x :: r => if x = fleet then (i : Int) :: boatsF fleet (i + 1) r else boatsF fleet (i + 1) r
def fleetBoatsF (xs : List Int) (k fleet : Int) : List Int × Int :=
  if withinB k 1 4 && withinB fleet 0 (k - 1) then (if fleetsCodeF xs k = 0 then (boatsF fleet 0 xs, 0) else ([], 1)) else ([], 2)

/-! ### Blocks -/
def fillF (xs : List Int) (f : Int) : Nat → Nat → List Int → List Int
  | _, 0, out => out
  | at_, m + 1, out => fillF xs f (at_ + 1) m (out.set (xs.getD at_ 0).toNat f)
def goBlock (xs : List Int) : Nat → List Int → Nat → List Int → Option (Nat × List Int)
  | _, [], at_, out => some (at_, out)
  | f, s :: r, at_, out => if withinB s 0 ((xs.length : Int) - at_) then goBlock xs (f + 1) r (at_ + s.toNat) (fillF xs f at_ s.toNat out) else none
def leftF : Int → List Int → Option Int
  | left, [] => some left
  | left, s :: r => if withinB s 0 left then leftF (left - s) r else none
def fillsF (xs : List Int) : Nat → List Int → Nat → List Int → List Int
  | _, [], _, out => out
  | f, s :: r, at_, out => fillsF xs (f + 1) r (at_ + s.toNat) (fillF xs f at_ s.toNat out)
def endBlock (n : Nat) : Option (Nat × List Int) → List Int × Int
  | none => ([], 5)
  | some (at_, out) => if at_ < n then ([], 5) else (out, 0)
def blockF (xs sizes : List Int) : List Int × Int :=
  if orderCodeF xs sizes.length = 0 then endBlock xs.length (goBlock xs 0 sizes 0 (List.replicate xs.length 0)) else ([], orderCodeF xs sizes.length)
theorem leftF_nonneg {left l : Int} {sizes : List Int} (h0 : 0 ≤ left) (h : leftF left sizes = some l) : 0 ≤ l ∧ l ≤ left := by
  induction sizes generalizing left with
  | nil => simp [leftF] at h; omega
  | cons s r ih =>
    unfold leftF at h
    split at h
    · rename_i hw
      have := withinB_iff.1 hw
      have := ih (by omega) h
      omega
    · cases h
theorem goBlock_none (xs sizes : List Int) (f at_ : Nat) (out : List Int) (hat : at_ ≤ xs.length) (h : leftF ((xs.length : Int) - at_) sizes = none) : goBlock xs f sizes at_ out = none := by
  induction sizes generalizing f at_ out with
  | nil => simp [leftF] at h
  | cons s r ih =>
    unfold leftF at h
    unfold goBlock
    split
    · rename_i hw
      rw [if_pos hw] at h
      have := withinB_iff.1 hw
      exact ih _ _ _ (by omega) (by rw [← h]; congr 1; omega)
    · rfl
theorem goBlock_some (xs sizes : List Int) (f at_ : Nat) (out : List Int) (l : Int) (hat : at_ ≤ xs.length) (h : leftF ((xs.length : Int) - at_) sizes = some l) :
    goBlock xs f sizes at_ out = some (((xs.length : Int) - l).toNat, fillsF xs f sizes at_ out) := by
  induction sizes generalizing f at_ out with
  | nil =>
    simp only [leftF, Option.some.injEq] at h
    simp only [goBlock, fillsF, Option.some.injEq, Prod.mk.injEq, and_true]
    omega
  | cons s r ih =>
    unfold leftF at h
    unfold goBlock
    split
    · rename_i hw
      rw [if_pos hw] at h
      have := withinB_iff.1 hw
      exact ih _ _ _ (by omega) (by rw [← h]; congr 1; omega)
    · rename_i hw
      rw [if_neg hw] at h
      cases h
theorem fillF_len (xs : List Int) (f : Int) (at_ m : Nat) (out : List Int) : (fillF xs f at_ m out).length = out.length := by
  induction m generalizing at_ out with
  | zero => rfl
  | succ m ih => simp [fillF, ih]
end Go.Proofs.Ytalgdeieejpelaa

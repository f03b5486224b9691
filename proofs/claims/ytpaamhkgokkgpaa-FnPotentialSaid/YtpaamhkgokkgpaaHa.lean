/- Plain: the arcs of a grid (chapter 32): no Go in sight. -/
import Derived.Test.YtpaamhkgokkgpaaGz
import Derived.Test.YtpaamhkgokkgpaaGp
namespace Go.Proofs.Ytpaamhkgokkgpaa
open Go.RowKit
set_option linter.unusedVariables false

def arcF (W H : Int) (xs : List (Int × Int)) (u d : Nat) : Option Arc := if moveB W H xs u d = true then some (u, (nbF W H u d).toNat, takeF xs u d) else none
def outF (W H : Int) (xs : List (Int × Int)) (u : Nat) : List Arc := (List.range 8).filterMap (arcF W H xs u)
def arcsF (W H : Int) (xs : List (Int × Int)) : List Arc := (List.range xs.length).flatMap (outF W H xs)
def revA (x : Arc) : Arc := (x.2.1, x.1, x.2.2)
def wayA (back : Bool) (x : Arc) : Arc := if back = true then revA x else x
def arcsB (back : Bool) (W H : Int) (xs : List (Int × Int)) : List Arc := (arcsF W H xs).map (wayA back)
/-- One step of relaxing. -/
def stepF (back : Bool) (W H : Int) (xs : List (Int × Int)) (u : Nat) (T : List Int) (d : Nat) : List Int :=
  match arcF W H xs u d with
  | none => T
  | some x => relF T (wayA back x)
theorem step_row (back : Bool) (W H : Int) (xs : List (Int × Int)) (u : Nat) : ∀ (l : List Nat) (T : List Int), l.foldl (stepF back W H xs u) T = ((l.filterMap (arcF W H xs u)).map (wayA back)).foldl relF T := by
  intro l
  induction l with
  | nil => intro T; rfl
  | cons d r ih =>
    intro T
    rw [List.foldl_cons, ih, List.filterMap_cons]
    unfold stepF
    cases arcF W H xs u d with
    | none => rfl
    | some x => rfl
def rowF (back : Bool) (W H : Int) (xs : List (Int × Int)) (T : List Int) (u : Nat) : List Int := (List.range 8).foldl (stepF back W H xs u) T
theorem rows_pass (back : Bool) (W H : Int) (xs : List (Int × Int)) : ∀ (l : List Nat) (T : List Int), l.foldl (rowF back W H xs) T = ((l.flatMap (outF W H xs)).map (wayA back)).foldl relF T := by
  intro l
  induction l with
  | nil => intro T; rfl
  | cons u r ih =>
    intro T
    rw [List.foldl_cons, ih, List.flatMap_cons, List.map_append, List.foldl_append]
    unfold rowF outF
    rw [step_row]
def passF (back : Bool) (W H : Int) (xs : List (Int × Int)) (T : List Int) : List Int := (List.range xs.length).foldl (rowF back W H xs) T
theorem pass_eq (back : Bool) (W H : Int) (xs : List (Int × Int)) (T : List Int) : passF back W H xs T = (arcsB back W H xs).foldl relF T := rows_pass back W H xs _ T
theorem out_mem {W H : Int} {xs : List (Int × Int)} {u : Nat} {x : Arc} (h : x ∈ outF W H xs u) : ∃ d : Nat, d < 8 ∧ moveB W H xs u d = true ∧ x = (u, (nbF W H u d).toNat, takeF xs u d) := by
  unfold outF at h
  rw [List.mem_filterMap] at h
  obtain ⟨d, hd, he⟩ := h
  unfold arcF at he
  split at he
  · rename_i hm
    injection he with he
    exact ⟨d, List.mem_range.1 hd, hm, he.symm⟩
  · cases he
theorem arcs_out {W H : Int} {xs : List (Int × Int)} : ∀ u, u < xs.length → ∀ x ∈ outF W H xs u, x.1 = u ∧ x ∈ arcsF W H xs := by
  intro u hu x hx
  obtain ⟨d, _, _, rfl⟩ := out_mem hx
  exact ⟨rfl, List.mem_flatMap.2 ⟨u, List.mem_range.2 hu, hx⟩⟩
theorem arcs_in {W H : Int} {xs : List (Int × Int)} : ∀ x ∈ arcsF W H xs, x ∈ outF W H xs x.1 := by
  intro x hx
  obtain ⟨u, _, hu⟩ := List.mem_flatMap.1 hx
  obtain ⟨d, _, _, rfl⟩ := out_mem hu
  exact hu
theorem arcs_ok {W H : Int} {xs : List (Int × Int)} (hg : GridOk W H xs) : ArcsOk xs.length (arcsF W H xs) := by
  intro x hx
  obtain ⟨u, hu, hm⟩ := List.mem_flatMap.1 hx
  obtain ⟨d, _, hmv, rfl⟩ := out_mem hm
  have hu := List.mem_range.1 hu
  have hl := hg.len
  have h1 := nb_cell (cell := u) (d := d) hg.w1 hg.h1 (moveB_nb hmv)
  have h2 := moveF_bd (cell := u) (d := d) hg hmv (by omega) (by omega)
  exact ⟨hu, by simp only; omega, h2.1, h2.2⟩
theorem arcsB_ok {W H : Int} {xs : List (Int × Int)} (hg : GridOk W H xs) (back : Bool) : ArcsOk xs.length (arcsB back W H xs) := by
  intro x hx
  obtain ⟨y, hy, rfl⟩ := List.mem_map.1 hx
  have := arcs_ok hg y hy
  unfold wayA revA
  split
  · exact ⟨this.2.1, this.1, this.2.2⟩
  · exact this
theorem arcsB_false (W H : Int) (xs : List (Int × Int)) : arcsB false W H xs = arcsF W H xs := by
  unfold arcsB
  have : wayA false = id := by funext x; rfl
  rw [this, List.map_id]
/-- The times from a cell. -/
def timesF (W H : Int) (xs : List (Int × Int)) (s : Nat) : List Int := dijG xs.length (outF W H xs) xs.length ((List.replicate xs.length (-1)).set s 0) (List.replicate xs.length false)
theorem times_ok {W H : Int} {xs : List (Int × Int)} (hg : GridOk W H xs) {s : Nat} (hs : s < xs.length) : Sound xs.length (arcsF W H xs) s (timesF W H xs s) ∧ Closed (arcsF W H xs) (timesF W H xs s) :=
  dij_ok (arcs_ok hg) hs arcs_out arcs_in xs.length _ _ (dij_start hs) (by rw [List.countP_replicate]; simp)
/-- The rounds of the laws. -/
def passesF (back : Bool) (W H : Int) (xs : List (Int × Int)) : Nat → List Int → List Int
  | 0, T => T
  | k + 1, T => passesF back W H xs k (passF back W H xs T)
theorem passes_eq (back : Bool) (W H : Int) (xs : List (Int × Int)) (k : Nat) (T : List Int) : passesF back W H xs k T = roundsF (arcsB back W H xs) k T := by
  induction k generalizing T with
  | zero => rfl
  | succ k ih => rw [passesF, roundsF, ih, pass_eq]
theorem times_same {W H : Int} {xs : List (Int × Int)} (hg : GridOk W H xs) {s : Nat} (hs : s < xs.length) : passesF false W H xs xs.length ((List.replicate xs.length (-1)).set s 0) = timesF W H xs s := by
  rw [passes_eq, arcsB_false]
  obtain ⟨h1, h2⟩ := times_ok hg hs
  exact rounds_eq (arcs_ok hg) hs h1 h2 _ (sound_start _ hs)
end Go.Proofs.Ytpaamhkgokkgpaa

/- Walks: entries compared, the program: their keys, their order. -/
import Derived.Test.YtdldcjnidajmpaaRp
import Derived.Test.YtdldcjnidajmpaaWn
import Derived.Sort.Grow
namespace Go.Proofs.Ytdldcjnidajmpaa
open Go.RowKit Go.Sort
set_option linter.unusedVariables false
set_option maxRecDepth 100000

def sgn (n : Int) : Int := if n < 0 then -1 else if n = 0 then 0 else 1
theorem sign_any (n : Int) (w : World) : Calls Try.prog 132 #[.int .i64 n] w fun e w' => e = .returned (.int .i64 (sgn n)) ∧ w = w' := by
  unfold sgn
  rcases (by omega : n < 0 ∨ n = 0 ∨ 0 < n) with h | h | h
  · rw [if_pos h]
    go_enter Try.func132, Try.ntmps132
    go_wp2_with fail
    go_ret
    refine ⟨ret_int ?_, rfl⟩
    simp <;> omega
  · subst h
    go_enter Try.func132, Try.ntmps132
    go_wp2_with fail
    go_ret
    exact ⟨rfl, rfl⟩
  · rw [if_neg (by omega), if_neg (by omega)]
    go_enter Try.func132, Try.ntmps132
    go_wp2_with fail
    go_ret
    refine ⟨ret_int ?_, rfl⟩
    simp <;> omega

/-- Race, boat and revision of a valid entry. -/
def okE (x : EntryT) : Prop := 0 ≤ E.race x ∧ E.race x ≤ 11 ∧ 0 ≤ E.boat x ∧ E.boat x ≤ 15 ∧ 1 ≤ E.rev x ∧ E.rev x ≤ 1000
def keyE (x : EntryT) : Int := 1000000 * E.race x + 10000 * E.boat x + E.rev x
theorem key_same {x y : EntryT} (hx : okE x) (hy : okE y) : keyE x = keyE y ↔ sameB x y = true := by
  obtain ⟨a1, a2, a3, a4, a5, a6⟩ := hx
  obtain ⟨b1, b2, b3, b4, b5, b6⟩ := hy
  unfold keyE
  rw [sameB_iff]
  constructor
  · intro h; omega
  · rintro ⟨h1, h2, h3⟩; omega
theorem entB_okE {b : Int} {x : EntryT} (hb : b ≤ 16) (h : entB b x = true) (h1 : 1 ≤ E.rev x) (h2 : E.rev x ≤ 1000) : okE x := by
  unfold entB at h
  simp only [Bool.and_eq_true] at h
  have r := withinB_iff.1 h.1.1.1
  have q := withinB_iff.1 h.1.1.2
  exact ⟨r.1, r.2, q.1, by omega, h1, h2⟩
set_option maxHeartbeats 1000000 in
theorem compareEntries_grow (x0 x1 x2 x3 x4 x5 x6 y0 y1 y2 y3 y4 y5 y6 : Int) (hx : okE (x0, x1, x2, x3, x4, x5, x6)) (hy : okE (y0, y1, y2, y3, y4, y5, y6)) (W : World) :
    Calls Try.prog 94 #[.agg #[.int .i64 x0, .int .i64 x1, .int .i64 x2, .int .i64 x3, .int .i64 x4, .int .i64 x5, .int .i64 x6], .agg #[.int .i64 y0, .int .i64 y1, .int .i64 y2, .int .i64 y3, .int .i64 y4, .int .i64 y5, .int .i64 y6]] W
      fun e w' => e = .returned (.int .i64 (sgn (keyE (x0, x1, x2, x3, x4, x5, x6) - keyE (y0, y1, y2, y3, y4, y5, y6)))) ∧ ∃ q os', w' = grow (W.drewN q) os' := by
  obtain ⟨a1, a2, a3, a4, a5, a6⟩ := hx
  obtain ⟨b1, b2, b3, b4, b5, b6⟩ := hy
  simp only [E.race, E.boat, E.rev] at a1 a2 a3 a4 a5 a6 b1 b2 b3 b4 b5 b6
  have HK := Lib.hid (show keyE (x0, x1, x2, x3, x4, x5, x6) - keyE (y0, y1, y2, y3, y4, y5, y6) = 1000000 * (x0 - y0) + 10000 * (x1 - y1) + x2 - y2 from by unfold keyE; simp only [E.race, E.boat, E.rev]; omega)
  rw [HK.out]
  generalize hr : sgn (1000000 * (x0 - y0) + 10000 * (x1 - y1) + x2 - y2) = r
  have HS := Lib.hid (fun w => sign_any (1000000 * (x0 - y0) + 10000 * (x1 - y1) + x2 - y2) w)
  rw [hr] at HS
  clear hr HK
  go_enter Try.func94, Try.ntmps94
  go_wp2_with (go_at_call 132; refine (HS.out _).mono ?_; rintro e w' ⟨rfl, rfl⟩)
  go_ret
  exact ⟨rfl, 0, _, by rw [alloc_eq_grow, alloc_eq_grow, grow_grow]; rfl⟩
theorem sameKey_any (x0 x1 x2 x3 x4 x5 x6 y0 y1 y2 y3 y4 y5 y6 : Int) (w : World) :
    Calls Try.prog 96 #[.agg #[.int .i64 x0, .int .i64 x1, .int .i64 x2, .int .i64 x3, .int .i64 x4, .int .i64 x5, .int .i64 x6], .agg #[.int .i64 y0, .int .i64 y1, .int .i64 y2, .int .i64 y3, .int .i64 y4, .int .i64 y5, .int .i64 y6]] w
      fun e w' => e = .returned (.bool (sameB (x0, x1, x2, x3, x4, x5, x6) (y0, y1, y2, y3, y4, y5, y6))) ∧ Below w.heap.size w w' := by
  have HB := Lib.hid (show ∀ o1 o2, Below w.heap.size w ((w.alloc o1).alloc o2) from fun o1 o2 => ((Below.refl _ _).alloc (Nat.le_refl _) _).alloc (by simp) _)
  have e1 : sameB (x0, x1, x2, x3, x4, x5, x6) (y0, y1, y2, y3, y4, y5, y6) = (x0 == y0 && x1 == y1 && x2 == y2) := rfl
  rw [e1]
  clear e1
  go_enter Try.func96, Try.ntmps96
  go_wp2_with fail
  all_goals
    go_ret
    refine ⟨ret_bool ?_, HB.out _ _⟩
    simp_all
end Go.Proofs.Ytdldcjnidajmpaa

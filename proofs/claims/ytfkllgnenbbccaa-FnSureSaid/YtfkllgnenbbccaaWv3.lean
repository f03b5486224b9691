/- Walks: all places, the range of ranks (chapter 31). -/
import Derived.Test.YtfkllgnenbbccaaWv2
import Derived.Laws.EntriesVeiled
namespace Go.Proofs.Ytfkllgnenbbccaa
open Go.RowKit
set_option linter.unusedVariables false
set_option maxRecDepth 100000

theorem run_make_i64' (n : Nat) (h : n ≤ 1048576) (w : World) :
    (Instr.makeSlice 22 (.int .i64 (n : Int)) (.int .i64 (n : Int))).run Try.prog w = .ok (.slice (some ⟨w.heap.size, 0, none⟩) n n) (w.alloc (.cells (madeCells #[.int .i64 0] n) 2)) := by
  obtain ⟨i, hi, hz, hs, hb⟩ := info_parts Try.info_i64
  have hr := run_make (P := Try.prog) w 22 2 i (.int .i64 0) Try.underlying22 hi hz .i64 .i64 n n (by omega) (by omega) (by rw [hb]; omega) (by omega)
  rw [hs, Nat.mul_one, Int.toNat_natCast] at hr
  exact hr

/-- The variables of the search, those of eachPlaces among them: they lie from block g on. -/
def Env.at_ (E : Env) (g : Nat) : Env := { E with bMany := g, bUse := g + 1, gp := g + 1 + 1, bPl := g + 1 + 1 + 1, bFn := g + 1 + 1 + 1 + 1 }
theorem pi_start (E : Env) (w0 W : World) (s : Int × Int) (hn5 : E.n ≤ 5)
    (cBoat : W.cell? ⟨E.bBoat, 0, none⟩ = some (.int .i64 E.boat)) (cMost : W.cell? ⟨E.bMost, 0, none⟩ = some (.int .i64 E.most)) (cNet : W.cell? ⟨E.bNet, 0, none⟩ = some (.slice E.A E.n E.c))
    (cFac : W.cell? ⟨E.bFac, 0, none⟩ = some (.int .i64 E.factor)) (cBest : W.cell? ⟨E.bBest, 0, none⟩ = some (.int .i64 s.1)) (cWorst : W.cell? ⟨E.bWorst, 0, none⟩ = some (.int .i64 s.2))
    (fBest : W.frozen? ⟨E.bBest, 0, none⟩ = false) (fWorst : W.frozen? ⟨E.bWorst, 0, none⟩ = false) (bel : Below w0.heap.size w0 W) (t1 t2 t3 t4 t5 : TypeId) (ht3 : t3 = 2)
    (w1 w2 w3 w4 w5 : World) (h1 : w1 = W.alloc (.cells #[.int .i64 (E.n : Int)] t1)) (h2 : w2 = w1.alloc (.cells #[(E.at_ W.heap.size).use] t2)) (h3 : w3 = w2.alloc (.cells (madeCells #[.int .i64 0] E.n) t3))
    (h4 : w4 = w3.alloc (.cells #[.slice (some ⟨W.heap.size + 1 + 1, 0, none⟩) E.n E.n] t4)) (h5 : w5 = w4.alloc (.cells #[(E.at_ W.heap.size).place] t5)) : PI (E.at_ W.heap.size) w0 w5 (List.replicate E.n 0) s := by
  subst ht3
  have s1 : w1.heap.size = W.heap.size + 1 := by rw [h1]; simp
  have s2 : w2.heap.size = W.heap.size + 1 + 1 := by rw [h2]; simp [s1]
  have s3 : w3.heap.size = W.heap.size + 1 + 1 + 1 := by rw [h3]; simp [s2]
  have s4 : w4.heap.size = W.heap.size + 1 + 1 + 1 + 1 := by rw [h4]; simp [s3]
  have b5 : Below w4.heap.size w4 w5 := by rw [h5]; exact (Below.refl _ _).alloc (Nat.le_refl _) _
  have b4 : Below w3.heap.size w3 w5 := by
    have : Below w3.heap.size w3 w4 := by rw [h4]; exact (Below.refl _ _).alloc (Nat.le_refl _) _
    exact this.trans (b5.mono (by omega))
  have b3 : Below w2.heap.size w2 w5 := by
    have : Below w2.heap.size w2 w3 := by rw [h3]; exact (Below.refl _ _).alloc (Nat.le_refl _) _
    exact this.trans (b4.mono (by omega))
  have b2 : Below w1.heap.size w1 w5 := by
    have : Below w1.heap.size w1 w2 := by rw [h2]; exact (Below.refl _ _).alloc (Nat.le_refl _) _
    exact this.trans (b3.mono (by omega))
  have b1 : Below W.heap.size W w5 := by
    have : Below W.heap.size W w1 := by rw [h1]; exact (Below.refl _ _).alloc (Nat.le_refl _) _
    exact this.trans (b2.mono (by omega))
  have kc := Keeps.below b1
  have hc : Chg W.heap.size W.heap.size W w5 := Chg.of_below b1
  have m1 : w1.cell? ⟨W.heap.size, 0, none⟩ = some (.int .i64 (E.n : Int)) := by rw [h1]; exact cell_new1 _ _ _
  have m2 : w2.cell? ⟨W.heap.size + 1, 0, none⟩ = some (E.at_ W.heap.size).use := by rw [h2, ← s1]; exact cell_new1 _ _ _
  have m4 : w4.cell? ⟨W.heap.size + 1 + 1 + 1, 0, none⟩ = some (.slice (some ⟨W.heap.size + 1 + 1, 0, none⟩) E.n E.n) := by rw [h4, ← s3]; exact cell_new1 _ _ _
  have m5 : w5.cell? ⟨W.heap.size + 1 + 1 + 1 + 1, 0, none⟩ = some (E.at_ W.heap.size).place := by rw [h5, ← s4]; exact cell_new1 _ _ _
  have ho : w3.ownsRow w0.heap.size 2 1 (.slice (some ⟨W.heap.size + 1 + 1, 0, none⟩) E.n E.n) E.n (ints (List.replicate E.n 0)) := by
    rw [h3, ← s2, ints_replicate]
    exact own_made w2 w0.heap.size 2 E.n (.int .i64 0) (by have := bel.size; omega) (by omega)
  exact ⟨⟨kc _ _ cBoat, kc _ _ cMost, kc _ _ cNet, kc _ _ cFac, kc _ _ cBest, kc _ _ cWorst, chg_frozen hc (by omega) cBest fBest, chg_frozen hc (by omega) cWorst fWorst, own_below ho b4, bel.trans (b1.mono bel.size)⟩,
    Keeps.below b2 _ _ m1, Keeps.below b3 _ _ m2, Keeps.below b5 _ _ m4, m5⟩

theorem eachPlaces_any (E : Env) (w0 W : World) (s : Int × Int) (hn5 : E.n ≤ 5) (hb0 : 0 ≤ E.boat) (hb1 : E.boat < E.n) (hg : ∀ q ∈ placesL E.n, Good E q) (hrd : Rd w0 1 E.A E.n (ints E.net))
    (cBoat : W.cell? ⟨E.bBoat, 0, none⟩ = some (.int .i64 E.boat)) (cMost : W.cell? ⟨E.bMost, 0, none⟩ = some (.int .i64 E.most)) (cNet : W.cell? ⟨E.bNet, 0, none⟩ = some (.slice E.A E.n E.c))
    (cFac : W.cell? ⟨E.bFac, 0, none⟩ = some (.int .i64 E.factor)) (cBest : W.cell? ⟨E.bBest, 0, none⟩ = some (.int .i64 s.1)) (cWorst : W.cell? ⟨E.bWorst, 0, none⟩ = some (.int .i64 s.2))
    (fBest : W.frozen? ⟨E.bBest, 0, none⟩ = false) (fWorst : W.frozen? ⟨E.bWorst, 0, none⟩ = false) (bel : Below w0.heap.size w0 W)
    (h1 : w0.heap.size ≤ E.bBest) (h2 : E.bBest < E.bWorst) (h3 : E.bWorst < W.heap.size) (h4 : E.bBoat < E.bBest) (h5 : E.bMost < E.bBest) (h6 : E.bNet < E.bBest) (h7 : E.bFac < E.bBest) :
    Calls Try.prog 69 #[.int .i64 (E.n : Int), E.use] W fun e W' => e = .returned (.tuple #[]) ∧ W'.cell? ⟨E.bBest, 0, none⟩ = some (.int .i64 (E.sum s (placesL E.n)).1) ∧ W'.cell? ⟨E.bWorst, 0, none⟩ = some (.int .i64 (E.sum s (placesL E.n)).2) ∧ Below w0.heap.size w0 W' := by
  have hmk := run_make_i64' E.n (by omega)
  have hall := fun w1 w2 w3 w4 w5 => pi_start E w0 W s hn5 cBoat cMost cNet cFac cBest cWorst fBest fWorst bel 3 72 2 22 82 rfl w1 w2 w3 w4 w5
  have hap : Apart2 (E.at_ W.heap.size) w0 := by
    refine ⟨⟨h1, by show w0.heap.size ≤ E.bWorst; omega, h2, h4, h5, h6, h7, by show E.bWorst < W.heap.size + 1 + 1; omega, hrd⟩, ?_, ?_, ?_, ?_, ?_, ?_, ?_, ?_⟩
    · show E.bWorst < W.heap.size; omega
    · show E.bWorst < W.heap.size + 1; omega
    · show E.bWorst < W.heap.size + 1 + 1 + 1; omega
    · show E.bWorst < W.heap.size + 1 + 1 + 1 + 1; omega
    · show W.heap.size + 1 + 1 ≠ W.heap.size; omega
    · show W.heap.size + 1 + 1 ≠ W.heap.size + 1; omega
    · show W.heap.size + 1 + 1 ≠ W.heap.size + 1 + 1 + 1; omega
    · show W.heap.size + 1 + 1 ≠ W.heap.size + 1 + 1 + 1 + 1; omega
  have hpl := fun w5 hpi => place_any (E.at_ W.heap.size) w0 hap hn5 hb0 hb1 E.n 1 (List.replicate E.n 0) s w5 (Nat.add_comm _ _) (Nat.le_refl _) hg hpi
  have HALL := Lib.hid hall; have HPL := Lib.hid hpl
  clear hall hap hpl hg hrd cBoat cMost cNet cFac cBest cWorst fBest fWorst bel h1 h2 h3 h4 h5 h6 h7
  unfold Env.use
  go_enter Try.func69, Try.ntmps69
  go_wp2_with fail
  obtain ⟨w1, hw1⟩ : ∃ w1, w1 = W.alloc (.cells #[.int .i64 (E.n : Int)] 3) := ⟨_, rfl⟩
  rw [← hw1]
  obtain ⟨w2, hw2⟩ : ∃ w2, w2 = w1.alloc (.cells #[(E.at_ W.heap.size).use] 72) := ⟨_, rfl⟩
  have hw2' := hw2
  unfold Env.use Env.at_ at hw2'
  simp only at hw2'
  rw [← hw2']
  obtain ⟨w3, hw3⟩ : ∃ w3, w3 = w2.alloc (.cells (madeCells #[.int .i64 0] E.n) 2) := ⟨_, rfl⟩
  rw [← hw3]
  obtain ⟨w4, hw4⟩ : ∃ w4, w4 = w3.alloc (.cells #[.slice (some ⟨W.heap.size + 1 + 1, 0, none⟩) E.n E.n] 22) := ⟨_, rfl⟩
  rw [← hw4]
  have hs4 : w4.heap.size = W.heap.size + 1 + 1 + 1 + 1 := by rw [hw4, hw3, hw2, hw1]; simp
  have hc5 := cell_new1 w4 .nilFunc 82
  have hf5 : (w4.alloc (.cells #[.nilFunc] 82)).frozen? ⟨w4.heap.size, 0, none⟩ = false := by simp
  rw [hs4] at hc5 hf5
  obtain ⟨w5, hw5⟩ : ∃ w5, w5 = w4.alloc (.cells #[(E.at_ W.heap.size).place] 82) := ⟨_, rfl⟩
  have hpi := HALL.out w1 w2 w3 w4 w5 hw1 hw2 hw3 hw4 hw5
  have hcall := HPL.out w5 hpi
  unfold Env.place Env.at_ at hw5
  simp only at hw5
  have HCALL := Lib.hid hcall; have HW5 := Lib.hid hw5
  clear hcall hpi hw1 hw2 hw2' hw3 hw4 hw5 hs4
  go_wp2_with fail
  rw [← HW5.out]
  refine HCALL.out.mono ?_
  rintro e W2 ⟨rfl, hp2⟩
  have HP2 := Lib.hid hp2
  clear hp2
  go_wp2_with fail
  go_end0
  exact ⟨rfl, HP2.out.ui.cBest, HP2.out.ui.cWorst, HP2.out.ui.bel⟩
end Go.Proofs.Ytfkllgnenbbccaa

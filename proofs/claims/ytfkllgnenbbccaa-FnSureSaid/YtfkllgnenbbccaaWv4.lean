/- Walks: the range of ranks (chapter 31). -/
import Derived.Test.YtfkllgnenbbccaaWv3
import Derived.Test.YtfkllgnenbbccaaMv2
namespace Go.Proofs.Ytfkllgnenbbccaa
open Go.RowKit
set_option linter.unusedVariables false
set_option maxRecDepth 100000

theorem good_all {net : List Int} {factor : Int} (hm : medalB net = true) (h1 : 1 ≤ factor) (h2 : factor ≤ 3) (q : List Int) (hq : q ∈ placesL net.length) : Valid net q factor net.length ∧ isPermB 1 q = true := by
  have hl := medalB_len hm
  obtain ⟨h3, h4⟩ := mem_good hl.2 hq
  exact ⟨⟨rfl, h3, hl.1, hl.2, h1, h2, fun i x hx => medalB_mem hm hx, fun i p hp => by have := isPermB_mem h4 hp; omega⟩, h4⟩
def env0 (A : Option Addr) (n c : Nat) (net : List Int) (factor boat most : Int) (g : Nat) : Env :=
  { n := n, A := A, c := c, net := net, factor := factor, boat := boat, most := most, bNet := g, bFac := g + 1, bBoat := g + 1 + 1, bMost := g + 1 + 1 + 1, bBest := g + 1 + 1 + 1 + 1, bWorst := g + 1 + 1 + 1 + 1 + 1, bMany := 0, bUse := 0, bPl := 0, bFn := 0, gp := 0 }
theorem range_start (A : Option Addr) (n c : Nat) (net : List Int) (factor boat most : Int) (w : World) (hm : medalB net = true) (hn : net.length = n) (h1 : 1 ≤ factor) (h2 : factor ≤ 3) (hb0 : 0 ≤ boat) (hb1 : boat < n) (h : Rd w 1 A n (ints net)) (t1 t2 : TypeId)
    (u1 u2 u3 u4 u5 u6 : World) (e1 : u1 = w.alloc (.cells #[.slice A n c] t1)) (e2 : u2 = u1.alloc (.cells #[.int .i64 factor] t2)) (e3 : u3 = u2.alloc (.cells #[.int .i64 boat] t2)) (e4 : u4 = u3.alloc (.cells #[.int .i64 most] t2)) (e5 : u5 = u4.alloc (.cells #[.int .i64 5] t2)) (e6 : u6 = u5.alloc (.cells #[.int .i64 1] t2)) :
    Calls Try.prog 69 #[.int .i64 (n : Int), (env0 A n c net factor boat most w.heap.size).use] u6 fun e W' => e = .returned (.tuple #[]) ∧ W'.cell? ⟨w.heap.size + 1 + 1 + 1 + 1, 0, none⟩ = some (.int .i64 (rangeF net factor boat most).1) ∧ W'.cell? ⟨w.heap.size + 1 + 1 + 1 + 1 + 1, 0, none⟩ = some (.int .i64 (rangeF net factor boat most).2) ∧ Below w.heap.size w W' := by
  have hn5 : n ≤ 5 := by have := medalB_len hm; omega
  have s1 : u1.heap.size = w.heap.size + 1 := by rw [e1]; simp
  have s2 : u2.heap.size = w.heap.size + 1 + 1 := by rw [e2]; simp [s1]
  have s3 : u3.heap.size = w.heap.size + 1 + 1 + 1 := by rw [e3]; simp [s2]
  have s4 : u4.heap.size = w.heap.size + 1 + 1 + 1 + 1 := by rw [e4]; simp [s3]
  have s5 : u5.heap.size = w.heap.size + 1 + 1 + 1 + 1 + 1 := by rw [e5]; simp [s4]
  have s6 : u6.heap.size = w.heap.size + 1 + 1 + 1 + 1 + 1 + 1 := by rw [e6]; simp [s5]
  have b5 : Below u5.heap.size u5 u6 := by rw [e6]; exact (Below.refl _ _).alloc (Nat.le_refl _) _
  have b4 : Below u4.heap.size u4 u6 := (show Below u4.heap.size u4 u5 by rw [e5]; exact (Below.refl _ _).alloc (Nat.le_refl _) _).trans (b5.mono (by omega))
  have b3 : Below u3.heap.size u3 u6 := (show Below u3.heap.size u3 u4 by rw [e4]; exact (Below.refl _ _).alloc (Nat.le_refl _) _).trans (b4.mono (by omega))
  have b2 : Below u2.heap.size u2 u6 := (show Below u2.heap.size u2 u3 by rw [e3]; exact (Below.refl _ _).alloc (Nat.le_refl _) _).trans (b3.mono (by omega))
  have b1 : Below u1.heap.size u1 u6 := (show Below u1.heap.size u1 u2 by rw [e2]; exact (Below.refl _ _).alloc (Nat.le_refl _) _).trans (b2.mono (by omega))
  have b0 : Below w.heap.size w u6 := (show Below w.heap.size w u1 by rw [e1]; exact (Below.refl _ _).alloc (Nat.le_refl _) _).trans (b1.mono (by omega))
  have m1 : u1.cell? ⟨w.heap.size, 0, none⟩ = some (.slice A n c) := by rw [e1]; exact cell_new1 _ _ _
  have m2 : u2.cell? ⟨w.heap.size + 1, 0, none⟩ = some (.int .i64 factor) := by rw [e2, ← s1]; exact cell_new1 _ _ _
  have m3 : u3.cell? ⟨w.heap.size + 1 + 1, 0, none⟩ = some (.int .i64 boat) := by rw [e3, ← s2]; exact cell_new1 _ _ _
  have m4 : u4.cell? ⟨w.heap.size + 1 + 1 + 1, 0, none⟩ = some (.int .i64 most) := by rw [e4, ← s3]; exact cell_new1 _ _ _
  have m5 : u5.cell? ⟨w.heap.size + 1 + 1 + 1 + 1, 0, none⟩ = some (.int .i64 5) := by rw [e5, ← s4]; exact cell_new1 _ _ _
  have m6 : u6.cell? ⟨w.heap.size + 1 + 1 + 1 + 1 + 1, 0, none⟩ = some (.int .i64 1) := by rw [e6, ← s5]; exact cell_new1 _ _ _
  have z5 : u5.frozen? ⟨w.heap.size + 1 + 1 + 1 + 1, 0, none⟩ = false := by rw [e5, ← s4]; simp
  have z6 : u6.frozen? ⟨w.heap.size + 1 + 1 + 1 + 1 + 1, 0, none⟩ = false := by rw [e6, ← s5]; simp
  have hc5 : Chg u5.heap.size u5.heap.size u5 u6 := Chg.of_below b5
  have hgood : ∀ q ∈ placesL n, Good (env0 A n c net factor boat most w.heap.size) q := by
    intro q hq
    rw [← hn] at hq
    have := good_all hm h1 h2 q hq
    rw [hn] at this
    exact this
  have hr : rangeF net factor boat most = (env0 A n c net factor boat most w.heap.size).sum (5, 1) (placesL n) := by unfold rangeF; rw [hn]; rfl
  rw [hr]
  exact eachPlaces_any (env0 A n c net factor boat most w.heap.size) w u6 (5, 1) hn5 hb0 hb1 hgood h (Keeps.below b3 _ _ m3) (Keeps.below b4 _ _ m4) (Keeps.below b1 _ _ m1) (Keeps.below b2 _ _ m2) (Keeps.below b5 _ _ m5) m6
    (chg_frozen hc5 (by omega) m5 z5) z6 b0 (by show w.heap.size ≤ w.heap.size + 1 + 1 + 1 + 1; omega) (Nat.lt_succ_self _) (by rw [s6]; exact Nat.lt_succ_self _)
    (by show w.heap.size + 1 + 1 < w.heap.size + 1 + 1 + 1 + 1; omega) (Nat.lt_succ_self _) (by show w.heap.size < w.heap.size + 1 + 1 + 1 + 1; omega) (by show w.heap.size + 1 < w.heap.size + 1 + 1 + 1 + 1; omega)
theorem rankRange_any (A : Option Addr) (n c : Nat) (net : List Int) (factor boat most : Int) (w : World) (hm : medalB net = true) (hn : net.length = n) (h1 : 1 ≤ factor) (h2 : factor ≤ 3) (hb0 : 0 ≤ boat) (hb1 : boat < n) (h : Rd w 1 A n (ints net)) :
    Calls Try.prog 54 #[.slice A n c, .int .i64 factor, .int .i64 boat, .int .i64 most] w fun e w' => e = .returned (.tuple #[.int .i64 (rangeF net factor boat most).1, .int .i64 (rangeF net factor boat most).2]) ∧ Below w.heap.size w w' := by
  have hall := fun u1 u2 u3 u4 u5 u6 => range_start A n c net factor boat most w hm hn h1 h2 hb0 hb1 h 22 2 u1 u2 u3 u4 u5 u6
  unfold Env.use env0 at hall
  simp only at hall
  have HALL := Lib.hid hall
  clear hall hm hn h1 h2 hb0 hb1 h
  generalize rangeF net factor boat most = r at *
  go_enter Try.func54, Try.ntmps54
  go_wp2_with fail
  refine (HALL.out _ _ _ _ _ _ rfl rfl rfl rfl rfl rfl).mono ?_
  rintro e W2 ⟨rfl, c1, c2, hb⟩
  have HB := Lib.hid hb
  clear hb
  go_wp2_with fail
  go_quiet (fail)
  go_wp2_with fail
  go_ret2
  exact ⟨rfl, HB.out.trans (((Drawn.refl _).step _).below.mono HB.out.size)⟩
end Go.Proofs.Ytfkllgnenbbccaa

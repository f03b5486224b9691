/- Walks: CellsOnRoute, RouteTime (chapter 32). -/
import Derived.Test.YtpaamhkgokkgpaaGl
namespace Go.Proofs.Ytpaamhkgokkgpaa
open Go.RowKit
set_option linter.unusedVariables false
set_option maxRecDepth 100000

def rcodeF (W H : Int) (xs : List (Int × Int)) (cell : Int) (route : List Int) : Int :=
  if gcodeF W H xs cell = 0 then (if route.length ≤ 100 then (if (routeL W H xs route [cell] cell 0).isSome = true then 0 else 5) else 3) else gcodeF W H xs cell
theorem sail_code (W H : Int) (xs : List (Int × Int)) (cell : Int) (route : List Int) : (sailRouteF W H xs cell route).2.2 = rcodeF W H xs cell route ∧
    (rcodeF W H xs cell route ≠ 0 → sailRouteF W H xs cell route = ([], 0, rcodeF W H xs cell route)) ∧
    (rcodeF W H xs cell route = 0 → gcodeF W H xs cell = 0 ∧ route.length ≤ 100 ∧ ∃ cs t, routeL W H xs route [cell] cell 0 = some (cs, t) ∧ sailRouteF W H xs cell route = (cs, t, 0)) := by
  unfold sailRouteF rcodeF
  by_cases h1 : gcodeF W H xs cell = 0
  · by_cases h2 : route.length ≤ 100
    · cases h3 : routeL W H xs route [cell] cell 0 with
      | none => simp [h1, h2, sailR]
      | some r => simp [h1, h2, sailR]
    · simp [h1, h2]
  · simp [h1]
theorem routeL_len0 {W H : Int} {xs : List (Int × Int)} : ∀ (route cs : List Int) (c t : Int) (r : List Int × Int), routeL W H xs route cs c t = some r → r.1.length = cs.length + route.length := by
  intro route
  induction route with
  | nil => intro cs c t r h; unfold routeL at h; injection h with h; subst h; simp
  | cons d q ih =>
    intro cs c t r h
    unfold routeL at h
    split at h
    · rw [ih _ _ _ _ h]; simp; omega
    · cases h
theorem routeL_len {W H : Int} {xs : List (Int × Int)} {route cs : List Int} {cell t : Int} (h : route.length ≤ 100) (hr : routeL W H xs route [cell] cell 0 = some (cs, t)) : cs.length ≤ 101 := by
  have := routeL_len0 _ _ _ _ _ hr
  simp at this
  omega
def cellsOnF (W H : Int) (xs : List (Int × Int)) (cell : Int) (route : List Int) : List Int × Int := ((sailRouteF W H xs cell route).1, (sailRouteF W H xs cell route).2.2)
def routeTimeF (W H : Int) (xs : List (Int × Int)) (cell : Int) (route : List Int) : Int × Int := ((sailRouteF W H xs cell route).2.1, (sailRouteF W H xs cell route).2.2)
theorem implCells_any (W H : Int) (A : Option Addr) (n c : Nat) (xs : List (Int × Int)) (cell : Int) (A2 : Option Addr) (m c2 : Nat) (route : List Int) (w : World) (h : Rd w 2 A n (winds xs)) (h2 : Rd w 1 A2 m (ints route)) :
    Calls Try.prog 31 #[.agg #[.int .i64 W, .int .i64 H, .slice A n c], .int .i64 cell, .slice A2 m c2] w (RetI w (cellsOnF W H xs cell route)) := by
  have HB := Lib.hid (show ∀ o, Below w.heap.size w (w.alloc o) from fun o => (Below.refl _ _).alloc (Nat.le_refl _) o)
  have HS := Lib.hid (fun w' (hb : Below w.heap.size w w') => sailRoute_any W H A n c xs cell A2 m c2 route w' (h.below hb) (h2.below hb))
  unfold cellsOnF
  generalize sailRouteF W H xs cell route = r at *
  clear h h2
  go_enter Try.func31, Try.ntmps31
  go_wp2_with fail
  refine (HS.out _ (HB.out _)).mono ?_
  rintro e w2 ⟨A3, n3, c3, rfl, ho, hn3, hb2⟩
  have HO := Lib.hid ho
  have B2 := Lib.hid ((HB.out _).trans (hb2.mono (HB.out _).size))
  have hsz := hb2.size
  simp only [World.size_alloc] at hsz
  clear ho hb2
  go_wp2_with fail
  go_ret2
  exact ⟨_, _, _, rfl, own_base HO.out (by simp), hn3, B2.out⟩
theorem implTime_any (W H : Int) (A : Option Addr) (n c : Nat) (xs : List (Int × Int)) (cell : Int) (A2 : Option Addr) (m c2 : Nat) (route : List Int) (w : World) (h : Rd w 2 A n (winds xs)) (h2 : Rd w 1 A2 m (ints route)) :
    Calls Try.prog 29 #[.agg #[.int .i64 W, .int .i64 H, .slice A n c], .int .i64 cell, .slice A2 m c2] w (Ret2 w (routeTimeF W H xs cell route)) := by
  have HB := Lib.hid (show ∀ o, Below w.heap.size w (w.alloc o) from fun o => (Below.refl _ _).alloc (Nat.le_refl _) o)
  have HS := Lib.hid (fun w' (hb : Below w.heap.size w w') => sailRoute_any W H A n c xs cell A2 m c2 route w' (h.below hb) (h2.below hb))
  unfold routeTimeF
  generalize sailRouteF W H xs cell route = r at *
  clear h h2
  go_enter Try.func29, Try.ntmps29
  go_wp2_with fail
  refine (HS.out _ (HB.out _)).mono ?_
  rintro e w2 ⟨A3, n3, c3, rfl, ho, hn3, hb2⟩
  have HO := Lib.hid ho
  have B2 := Lib.hid ((HB.out _).trans (hb2.mono (HB.out _).size))
  have hsz := hb2.size
  simp only [World.size_alloc] at hsz
  clear ho hb2
  go_wp2_with fail
  go_ret2
  exact ⟨rfl, B2.out⟩
theorem l32Code_any (W H : Int) (A : Option Addr) (n c : Nat) (xs : List (Int × Int)) (cell : Int) (A2 : Option Addr) (m c2 : Nat) (route : List Int) (w : World) (h : Rd w 2 A n (winds xs)) (h2 : Rd w 1 A2 m (ints route)) :
    Calls Try.prog 61 #[.agg #[.int .i64 W, .int .i64 H, .slice A n c], .int .i64 cell, .slice A2 m c2] w fun e w' => e = .returned (.int .i64 (rcodeF W H xs cell route)) ∧ Below w.heap.size w w' := by
  have HN := Lib.hid h2.len_int
  have hm := h2.le
  have HB := Lib.hid (show ∀ o, Below w.heap.size w (w.alloc o) from fun o => (Below.refl _ _).alloc (Nat.le_refl _) o)
  have HG := Lib.hid (fun w' (hb : Below w.heap.size w w') => specIsWindGrid_any W H A n c xs w' (h.below hb))
  unfold rcodeF gcodeF
  rw [HN.out]
  cases hg : gridB W H xs with
  | true =>
    have hk := gridB_ok hg
    rw [hg] at HG
    have HC := Lib.hid (fun w => l32Cell_any W H A n c xs cell w hk)
    simp only [if_true]
    cases hc : withinB cell 0 ((xs.length : Int) - 1) with
    | true =>
      obtain ⟨_, c1, c2'⟩ := gcode_ok (cell := cell) (show gcodeF W H xs cell = 0 by unfold gcodeF; rw [hg, hc]; rfl)
      rw [hc] at HC
      simp only [if_true]
      by_cases hl : m ≤ 100
      · have HR := Lib.hid (fun w' (hb : Below w.heap.size w w') => l32Route_any W H A n c xs cell A2 m c2 route w' hk c1 c2' (by omega) (h.below hb) (h2.below hb))
        unfold RetRoute at HR
        simp only [if_pos hl]
        generalize routeL W H xs route [cell] cell 0 = res at *
        clear hk hg hc h h2 c1 c2'
        cases res with
        | none =>
          simp only [Option.isSome_none, Bool.false_eq_true, if_false] at HR ⊢
          go_enter Try.func61, Try.ntmps61
          go_wp2_with fail
          refine (HG.out _ (HB.out _)).mono ?_
          rintro e w2 ⟨rfl, hb2⟩
          obtain ⟨x0, x1, x2, hs2, hb2'⟩ := box3 hb2
          have B2 := Lib.hid hb2'
          clear hb2 hb2'
          go_wp2_with fail
          refine (HC.out _).mono ?_
          rintro e w3 ⟨rfl, hb3⟩
          replace x0 := Keeps.below hb3 _ _ x0
          replace x1 := Keeps.below hb3 _ _ x1
          replace x2 := Keeps.below hb3 _ _ x2
          have B3 := Lib.hid (B2.out.trans (hb3.mono B2.out.size))
          clear hb3
          go_wp2_with fail
          refine (HR.out _ B3.out).mono ?_
          rintro e w4 ⟨A4, n4, c4, rfl, _, _, hb4⟩
          have B4 := Lib.hid (B3.out.trans (hb4.mono B3.out.size))
          clear hb4 x0 x1 x2
          go_wp2_with fail
          go_ret
          exact ⟨rfl, B4.out⟩
        | some r =>
          simp only [Option.isSome_some, if_true] at HR ⊢
          go_enter Try.func61, Try.ntmps61
          go_wp2_with fail
          refine (HG.out _ (HB.out _)).mono ?_
          rintro e w2 ⟨rfl, hb2⟩
          obtain ⟨x0, x1, x2, hs2, hb2'⟩ := box3 hb2
          have B2 := Lib.hid hb2'
          clear hb2 hb2'
          go_wp2_with fail
          refine (HC.out _).mono ?_
          rintro e w3 ⟨rfl, hb3⟩
          replace x0 := Keeps.below hb3 _ _ x0
          replace x1 := Keeps.below hb3 _ _ x1
          replace x2 := Keeps.below hb3 _ _ x2
          have B3 := Lib.hid (B2.out.trans (hb3.mono B2.out.size))
          clear hb3
          go_wp2_with fail
          refine (HR.out _ B3.out).mono ?_
          rintro e w4 ⟨A4, n4, c4, rfl, _, _, hb4⟩
          have B4 := Lib.hid (B3.out.trans (hb4.mono B3.out.size))
          clear hb4 x0 x1 x2
          go_wp2_with fail
          go_ret
          exact ⟨rfl, B4.out⟩
      · simp only [if_neg hl]
        clear hk hg hc h h2 c1 c2'
        go_enter Try.func61, Try.ntmps61
        go_wp2_with fail
        refine (HG.out _ (HB.out _)).mono ?_
        rintro e w2 ⟨rfl, hb2⟩
        obtain ⟨x0, x1, x2, hs2, hb2'⟩ := box3 hb2
        have B2 := Lib.hid hb2'
        clear hb2 hb2'
        go_wp2_with fail
        refine (HC.out _).mono ?_
        rintro e w3 ⟨rfl, hb3⟩
        replace x0 := Keeps.below hb3 _ _ x0
        replace x1 := Keeps.below hb3 _ _ x1
        replace x2 := Keeps.below hb3 _ _ x2
        have B3 := Lib.hid (B2.out.trans (hb3.mono B2.out.size))
        clear hb3
        go_wp2_with fail
        go_ret
        exact ⟨rfl, B3.out⟩
    | false =>
      rw [hc] at HC
      simp only [Bool.false_eq_true, if_false, Int.reduceEq]
      clear hk hg hc h h2
      go_enter Try.func61, Try.ntmps61
      go_wp2_with fail
      refine (HG.out _ (HB.out _)).mono ?_
      rintro e w2 ⟨rfl, hb2⟩
      obtain ⟨x0, x1, x2, hs2, hb2'⟩ := box3 hb2
      have B2 := Lib.hid hb2'
      clear hb2 hb2'
      go_wp2_with fail
      refine (HC.out _).mono ?_
      rintro e w3 ⟨rfl, hb3⟩
      replace x0 := Keeps.below hb3 _ _ x0
      replace x1 := Keeps.below hb3 _ _ x1
      replace x2 := Keeps.below hb3 _ _ x2
      have B3 := Lib.hid (B2.out.trans (hb3.mono B2.out.size))
      clear hb3
      go_wp2_with fail
      go_ret
      exact ⟨rfl, B3.out⟩
  | false =>
    rw [hg] at HG
    simp only [Bool.false_eq_true, if_false, Int.reduceEq]
    clear hg h h2
    go_enter Try.func61, Try.ntmps61
    go_wp2_with fail
    refine (HG.out _ (HB.out _)).mono ?_
    rintro e w2 ⟨rfl, hb2⟩
    obtain ⟨x0, x1, x2, hs2, hb2'⟩ := box3 hb2
    have B2 := Lib.hid hb2'
    clear hb2 hb2'
    go_wp2_with fail
    go_ret
    exact ⟨rfl, B2.out⟩
theorem specCells_any (W H : Int) (A : Option Addr) (n c : Nat) (xs : List (Int × Int)) (cell : Int) (A2 : Option Addr) (m c2 : Nat) (route : List Int) (w : World) (h : Rd w 2 A n (winds xs)) (h2 : Rd w 1 A2 m (ints route)) :
    Calls Try.prog 30 #[.agg #[.int .i64 W, .int .i64 H, .slice A n c], .int .i64 cell, .slice A2 m c2] w (RetI w (cellsOnF W H xs cell route)) := by
  have HB := Lib.hid (show ∀ o, Below w.heap.size w (w.alloc o) from fun o => (Below.refl _ _).alloc (Nat.le_refl _) o)
  have HC := Lib.hid (fun w' (hb : Below w.heap.size w w') => l32Code_any W H A n c xs cell A2 m c2 route w' (h.below hb) (h2.below hb))
  obtain ⟨k1, k2, k3⟩ := sail_code W H xs cell route
  unfold cellsOnF
  by_cases hz : rcodeF W H xs cell route = 0
  · obtain ⟨z1, z2, cs, t, z3, z4⟩ := k3 hz
    obtain ⟨hk, c1, c2'⟩ := gcode_ok z1
    have HR := Lib.hid (fun w' (hb : Below w.heap.size w w') => l32Route_any W H A n c xs cell A2 m c2 route w' hk c1 c2' (by have := h2.len_int; omega) (h.below hb) (h2.below hb))
    unfold RetRoute at HR
    rw [z3] at HR
    simp only [optC, optT, Option.isSome_some] at HR
    rw [z4]
    rw [hz] at HC
    have hl : cs.length ≤ 101 := routeL_len z2 z3
    clear k1 k2 k3 hz z1 z2 z3 z4 hk c1 c2' h h2
    go_enter Try.func30, Try.ntmps30
    go_wp2_with fail
    refine (HC.out _ (HB.out _)).mono ?_
    rintro e w2 ⟨rfl, hb2⟩
    obtain ⟨x0, x1, x2, hs2, hb2'⟩ := box3 hb2
    have B2 := Lib.hid hb2'
    clear hb2 hb2'
    go_wp2_with fail
    refine (HR.out _ B2.out).mono ?_
    rintro e w4 ⟨A4, n4, c4, rfl, ho, hn4, hb4⟩
    have hn5 := own_len ho
    have HO := Lib.hid ho
    have B4 := Lib.hid (B2.out.trans (hb4.mono B2.out.size))
    have hsz := B2.out.size
    have HN5 := Lib.hid hn5
    clear hb4 x0 x1 x2 ho hn5
    go_wp2_with fail
    go_ret2
    exact ⟨_, _, _, rfl, own_base HO.out hsz, (by have := HN5.out; omega), B4.out⟩
  · rw [k2 hz]
    clear k1 k2 k3
    generalize rcodeF W H xs cell route = code at *
    have hne : (code != 0) = true := by simp [hz]
    clear hz h h2
    go_enter Try.func30, Try.ntmps30
    go_wp2_with fail
    refine (HC.out _ (HB.out _)).mono ?_
    rintro e w2 ⟨rfl, hb2⟩
    obtain ⟨x0, x1, x2, hs2, hb2'⟩ := box3 hb2
    have B2 := Lib.hid hb2'
    clear hb2 hb2'
    go_wp2_with fail
    go_ret2
    exact ⟨some ⟨w2.heap.size, 0, none⟩, 0, 0, rfl, own_base (own_empty w2 w2.heap.size _ (Nat.le_refl _)) B2.out.size, by omega, B2.out.alloc B2.out.size _⟩
theorem specTime_any (W H : Int) (A : Option Addr) (n c : Nat) (xs : List (Int × Int)) (cell : Int) (A2 : Option Addr) (m c2 : Nat) (route : List Int) (w : World) (h : Rd w 2 A n (winds xs)) (h2 : Rd w 1 A2 m (ints route)) :
    Calls Try.prog 28 #[.agg #[.int .i64 W, .int .i64 H, .slice A n c], .int .i64 cell, .slice A2 m c2] w (Ret2 w (routeTimeF W H xs cell route)) := by
  have HB := Lib.hid (show ∀ o, Below w.heap.size w (w.alloc o) from fun o => (Below.refl _ _).alloc (Nat.le_refl _) o)
  have HC := Lib.hid (fun w' (hb : Below w.heap.size w w') => l32Code_any W H A n c xs cell A2 m c2 route w' (h.below hb) (h2.below hb))
  obtain ⟨k1, k2, k3⟩ := sail_code W H xs cell route
  unfold routeTimeF
  by_cases hz : rcodeF W H xs cell route = 0
  · obtain ⟨z1, z2, cs, t, z3, z4⟩ := k3 hz
    obtain ⟨hk, c1, c2'⟩ := gcode_ok z1
    have HR := Lib.hid (fun w' (hb : Below w.heap.size w w') => l32Route_any W H A n c xs cell A2 m c2 route w' hk c1 c2' (by have := h2.len_int; omega) (h.below hb) (h2.below hb))
    unfold RetRoute at HR
    rw [z3] at HR
    simp only [optC, optT, Option.isSome_some] at HR
    rw [z4]
    rw [hz] at HC
    have hl : cs.length ≤ 101 := routeL_len z2 z3
    clear k1 k2 k3 hz z1 z2 z3 z4 hk c1 c2' h h2
    go_enter Try.func28, Try.ntmps28
    go_wp2_with fail
    refine (HC.out _ (HB.out _)).mono ?_
    rintro e w2 ⟨rfl, hb2⟩
    obtain ⟨x0, x1, x2, hs2, hb2'⟩ := box3 hb2
    have B2 := Lib.hid hb2'
    clear hb2 hb2'
    go_wp2_with fail
    refine (HR.out _ B2.out).mono ?_
    rintro e w4 ⟨A4, n4, c4, rfl, ho, hn4, hb4⟩
    have hn5 := own_len ho
    have HO := Lib.hid ho
    have B4 := Lib.hid (B2.out.trans (hb4.mono B2.out.size))
    have hsz := B2.out.size
    have HN5 := Lib.hid hn5
    clear hb4 x0 x1 x2 ho hn5
    go_wp2_with fail
    go_ret2
    exact ⟨rfl, B4.out⟩
  · rw [k2 hz]
    clear k1 k2 k3
    generalize rcodeF W H xs cell route = code at *
    have hne : (code != 0) = true := by simp [hz]
    clear hz h h2
    go_enter Try.func28, Try.ntmps28
    go_wp2_with fail
    refine (HC.out _ (HB.out _)).mono ?_
    rintro e w2 ⟨rfl, hb2⟩
    obtain ⟨x0, x1, x2, hs2, hb2'⟩ := box3 hb2
    have B2 := Lib.hid hb2'
    clear hb2 hb2'
    go_wp2_with fail
    go_ret2
    exact ⟨rfl, B2.out⟩
end Go.Proofs.Ytpaamhkgokkgpaa

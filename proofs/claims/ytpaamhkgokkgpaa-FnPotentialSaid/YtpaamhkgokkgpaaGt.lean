/- Walks: RouteProved (chapter 32). -/
import Derived.Test.YtpaamhkgokkgpaaGq
namespace Go.Proofs.Ytpaamhkgokkgpaa
open Go.RowKit
set_option linter.unusedVariables false
set_option maxRecDepth 100000

theorem routeL_last {W H : Int} {xs : List (Int × Int)} (hg : GridOk W H xs) : ∀ (route cs : List Int) (c t : Int) (j : Nat) (r : List Int × Int), routeL W H xs route cs c t = some r → cs.length = j + 1 → cs[j]? = some c → 0 ≤ c → c < W * H →
    r.1.length = j + 1 + route.length ∧ ∃ c', r.1[j + route.length]? = some c' ∧ 0 ≤ c' ∧ c' < W * H := by
  intro route
  induction route with
  | nil =>
    intro cs c t j r h hl hc h0 h1
    unfold routeL at h
    injection h with h
    subst h
    exact ⟨hl, c, by simpa using hc, h0, h1⟩
  | cons d q ih =>
    intro cs c t j r h hl hc h0 h1
    unfold routeL at h
    split at h
    · rename_i hb
      simp only [Bool.and_eq_true] at hb
      obtain ⟨n1, n2⟩ := nb_cell (cell := c) (d := d) hg.w1 hg.h1 (moveB_nb hb.2)
      have := ih _ _ _ (j + 1) r h (by simp [hl]) (by rw [List.getElem?_append_right (by omega), hl]; simp) n1 n2
      rw [List.length_cons, show j + (q.length + 1) = j + 1 + q.length from by omega, show j + 1 + (q.length + 1) = j + 1 + 1 + q.length from by omega]
      exact this
    · cases h
def lastF (cs : List Int) : Int := cs.getD (cs.length - 1) 0
def provedF (W H : Int) (xs : List (Int × Int)) (cell : Int) (route L : List Int) : Bool × Int :=
  if rcodeF W H xs cell route = 0 then (potB W H xs cell L && (atF L (lastF (sailRouteF W H xs cell route).1) == (sailRouteF W H xs cell route).2.1), 0) else (false, rcodeF W H xs cell route)
def RetBI (w : World) (r : Bool × Int) (e : Ending) (w' : World) : Prop := e = .returned (.tuple #[.bool r.1, .int .i64 r.2]) ∧ Below w.heap.size w w'
theorem potB_len {W H : Int} {xs : List (Int × Int)} {cell : Int} {L : List Int} (h : potB W H xs cell L = true) : L.length = xs.length := by
  unfold potB at h
  split at h
  · split at h
    · assumption
    · cases h
  · cases h
set_option maxHeartbeats 1000000 in
theorem implProved_any (W H : Int) (A : Option Addr) (n c : Nat) (xs : List (Int × Int)) (cell : Int) (A2 : Option Addr) (m c2 : Nat) (route : List Int) (A5 : Option Addr) (m5 c5 : Nat) (L : List Int) (w : World) (h : Rd w 2 A n (winds xs)) (h2 : Rd w 1 A2 m (ints route)) (h5 : Rd w 1 A5 m5 (ints L)) :
    Calls Try.prog 36 #[.agg #[.int .i64 W, .int .i64 H, .slice A n c], .int .i64 cell, .slice A2 m c2, .slice A5 m5 c5] w (RetBI w (provedF W H xs cell route L)) := by
  have HN := Lib.hid h5.len_int
  have HX := Lib.hid h.len_wind
  have hm5 := h5.le
  have HB := Lib.hid (show ∀ o, Below w.heap.size w (w.alloc o) from fun o => (Below.refl _ _).alloc (Nat.le_refl _) o)
  have HP := Lib.hid (fun w' (hb : Below w.heap.size w w') => implPot_any W H A n c xs cell A5 m5 c5 L w' (h.below hb) (h5.below hb))
  obtain ⟨k1, k2, k3⟩ := sail_code W H xs cell route
  unfold provedF
  have HS := Lib.hid (fun w' (hb : Below w.heap.size w w') => sailRoute_any W H A n c xs cell A2 m c2 route w' (h.below hb) (h2.below hb))
  unfold RetSail at HS
  by_cases hz : rcodeF W H xs cell route = 0
  · obtain ⟨z1, z2, cs, t, z3, z4⟩ := k3 hz
    obtain ⟨hk, c1, c2'⟩ := gcode_ok z1
    obtain ⟨l1, cl, l2, l3, l4⟩ := routeL_last hk route [cell] cell 0 0 _ z3 rfl rfl c1 c2'
    simp only [Nat.zero_add] at l1 l2
    rw [if_pos hz, z4]
    simp only
    have hlast : lastF cs = cl := by unfold lastF; rw [l1, List.getD_eq_getElem?_getD, show 1 + route.length - 1 = route.length from by omega, l2]; rfl
    rw [hlast]
    have hW := hk.len
    have hlr : route.length ≤ 100 := z2
    rw [z4] at HS
    simp only at HS
    clear k1 k2 k3 hz z1 z2 z3 z4
    cases hpb : potB W H xs cell L with
    | true =>
      have hlen := potB_len hpb
      rw [hpb] at HP
      have HLX := Lib.hid hlen
      obtain ⟨kc, rfl⟩ := int_up cl l3
      have hkc : kc < m5 := by have := HLX.out; have := HN.out; have := HX.out; omega
      have hkc0 : (0 : Int) ≤ kc := by omega
      have h5k := fun w' (hb : Below w.heap.size w w') => (h5.below hb).int hkc
      clear hlen hpb hk c1 c2' h h2 h5
      go_enter Try.func36, Try.ntmps36
      go_wp2_with fail
      refine (HS.out _ (HB.out _)).mono ?_
      rintro e w2 ⟨A3, n3, c3, rfl, ho, hn3, hb2⟩
      obtain ⟨x0, x1, x2, hs2, hb2'⟩ := box3 hb2
      have B2 := Lib.hid hb2'
      clear hb2 hb2'
      have hn5 := own_len ho
      have hn6 : n3 = route.length + 1 := by omega
      subst hn6
      obtain ⟨g, y, rfl, hg1, hg2, hy, hcy, _⟩ := own_int_at ho (k := route.length) (by omega)
      obtain rfl : y = kc := by rw [l2] at hy; injection hy with hy; exact hy.symm
      generalize route.length = rl at *
      clear ho hn5 hy l1 l2 hlast hW
      go_wp2_with fail
      refine (HP.out _ B2.out).mono ?_
      rintro e w3 ⟨rfl, hb3⟩
      replace hcy := Keeps.below hb3 _ _ hcy
      have B3 := Lib.hid (B2.out.trans (hb3.mono B2.out.size))
      clear hb3 x0 x1 x2
      obtain ⟨b, o, q, rfl, hx, _, hcq⟩ := h5k w3 B3.out
      have haq := Lib.hid (atF_get hx)
      clear hx h5k
      go_wp2_with fail
      go_ret2
      refine ⟨?_, B3.out⟩
      rw [haq.out]
      rfl
    | false =>
      rw [hpb] at HP
      simp only [Bool.false_and]
      clear hpb hk c1 c2' h h2 h5
      go_enter Try.func36, Try.ntmps36
      go_wp2_with fail
      refine (HS.out _ (HB.out _)).mono ?_
      rintro e w2 ⟨A3, n3, c3, rfl, ho, hn3, hb2⟩
      obtain ⟨x0, x1, x2, hs2, hb2'⟩ := box3 hb2
      have B2 := Lib.hid hb2'
      clear hb2 hb2'
      have hn5 := own_len ho
      have hn6 : n3 = route.length + 1 := by omega
      subst hn6
      obtain ⟨g, y, rfl, hg1, hg2, hy, hcy, _⟩ := own_int_at ho (k := route.length) (by omega)
      obtain rfl : y = cl := by rw [l2] at hy; injection hy with hy; exact hy.symm
      generalize route.length = rl at *
      clear ho hn5 hy l1 l2 hlast hW
      go_wp2_with fail
      refine (HP.out _ B2.out).mono ?_
      rintro e w3 ⟨rfl, hb3⟩
      replace hcy := Keeps.below hb3 _ _ hcy
      have B3 := Lib.hid (B2.out.trans (hb3.mono B2.out.size))
      clear hb3 x0 x1 x2
      go_wp2_with fail
      go_ret2
      exact ⟨rfl, B3.out⟩
  · rw [if_neg hz]
    rw [k2 hz] at HS
    simp only at HS
    clear k1 k2 k3
    generalize rcodeF W H xs cell route = code at *
    have hne : (code != 0) = true := by simp [hz]
    clear hz h h2 h5
    go_enter Try.func36, Try.ntmps36
    go_wp2_with fail
    refine (HS.out _ (HB.out _)).mono ?_
    rintro e w2 ⟨A3, n3, c3, rfl, ho, hn3, hb2⟩
    obtain ⟨x0, x1, x2, hs2, hb2'⟩ := box3 hb2
    have B2 := Lib.hid hb2'
    clear hb2 hb2'
    go_wp2_with fail
    go_ret2
    exact ⟨rfl, B2.out⟩
set_option maxHeartbeats 1000000 in
theorem specProved_any (W H : Int) (A : Option Addr) (n c : Nat) (xs : List (Int × Int)) (cell : Int) (A2 : Option Addr) (m c2 : Nat) (route : List Int) (A5 : Option Addr) (m5 c5 : Nat) (L : List Int) (w : World) (h : Rd w 2 A n (winds xs)) (h2 : Rd w 1 A2 m (ints route)) (h5 : Rd w 1 A5 m5 (ints L)) :
    Calls Try.prog 35 #[.agg #[.int .i64 W, .int .i64 H, .slice A n c], .int .i64 cell, .slice A2 m c2, .slice A5 m5 c5] w (RetBI w (provedF W H xs cell route L)) := by
  have HN := Lib.hid h5.len_int
  have HX := Lib.hid h.len_wind
  have hm5 := h5.le
  have HB := Lib.hid (show ∀ o, Below w.heap.size w (w.alloc o) from fun o => (Below.refl _ _).alloc (Nat.le_refl _) o)
  have HP := Lib.hid (fun w' (hb : Below w.heap.size w w') => specPot_any W H A n c xs cell A5 m5 c5 L w' (h.below hb) (h5.below hb))
  obtain ⟨k1, k2, k3⟩ := sail_code W H xs cell route
  unfold provedF
  have HC := Lib.hid (fun w' (hb : Below w.heap.size w w') => l32Code_any W H A n c xs cell A2 m c2 route w' (h.below hb) (h2.below hb))
  by_cases hz : rcodeF W H xs cell route = 0
  · obtain ⟨z1, z2, cs, t, z3, z4⟩ := k3 hz
    obtain ⟨hk, c1, c2'⟩ := gcode_ok z1
    obtain ⟨l1, cl, l2, l3, l4⟩ := routeL_last hk route [cell] cell 0 0 _ z3 rfl rfl c1 c2'
    simp only [Nat.zero_add] at l1 l2
    rw [if_pos hz, z4]
    simp only
    have hlast : lastF cs = cl := by unfold lastF; rw [l1, List.getD_eq_getElem?_getD, show 1 + route.length - 1 = route.length from by omega, l2]; rfl
    rw [hlast]
    have hW := hk.len
    have hlr : route.length ≤ 100 := z2
    rw [hz] at HC
    have HR := Lib.hid (fun w' (hb : Below w.heap.size w w') => l32Route_any W H A n c xs cell A2 m c2 route w' hk c1 c2' (by have := h2.len_int; omega) (h.below hb) (h2.below hb))
    unfold RetRoute at HR
    rw [z3] at HR
    simp only [optC, optT, Option.isSome_some] at HR
    clear k1 k2 k3 hz z1 z2 z3 z4
    cases hpb : potB W H xs cell L with
    | true =>
      have hlen := potB_len hpb
      rw [hpb] at HP
      have HLX := Lib.hid hlen
      obtain ⟨kc, rfl⟩ := int_up cl l3
      have hkc : kc < m5 := by have := HLX.out; have := HN.out; have := HX.out; omega
      have hkc0 : (0 : Int) ≤ kc := by omega
      have h5k := fun w' (hb : Below w.heap.size w w') => (h5.below hb).int hkc
      clear hlen hpb hk c1 c2' h h2 h5
      go_enter Try.func35, Try.ntmps35
      go_wp2_with fail
      refine (HC.out _ (HB.out _)).mono ?_
      rintro e w1 ⟨rfl, hb2⟩
      obtain ⟨x0, x1, x2, hs2, hb2'⟩ := box3 hb2
      have B1 := Lib.hid hb2'
      clear hb2 hb2'
      go_wp2_with fail
      refine (HR.out _ B1.out).mono ?_
      rintro e w2 ⟨A3, n3, c3, rfl, ho, hn3, hb2⟩
      replace x0 := Keeps.below hb2 _ _ x0
      replace x1 := Keeps.below hb2 _ _ x1
      replace x2 := Keeps.below hb2 _ _ x2
      have B2 := Lib.hid (B1.out.trans (hb2.mono B1.out.size))
      clear hb2
      have hn5 := own_len ho
      have hn6 : n3 = route.length + 1 := by omega
      subst hn6
      obtain ⟨g, y, rfl, hg1, hg2, hy, hcy, _⟩ := own_int_at ho (k := route.length) (by omega)
      obtain rfl : y = kc := by rw [l2] at hy; injection hy with hy; exact hy.symm
      generalize route.length = rl at *
      clear ho hn5 hy l1 l2 hlast hW
      go_wp2_with fail
      refine (HP.out _ B2.out).mono ?_
      rintro e w3 ⟨rfl, hb3⟩
      replace hcy := Keeps.below hb3 _ _ hcy
      have B3 := Lib.hid (B2.out.trans (hb3.mono B2.out.size))
      clear hb3 x0 x1 x2
      obtain ⟨b, o, q, rfl, hx, _, hcq⟩ := h5k w3 B3.out
      have haq := Lib.hid (atF_get hx)
      clear hx h5k
      go_wp2_with fail
      go_ret2
      refine ⟨?_, B3.out⟩
      rw [haq.out]
      rfl
    | false =>
      rw [hpb] at HP
      simp only [Bool.false_and]
      clear hpb hk c1 c2' h h2 h5
      go_enter Try.func35, Try.ntmps35
      go_wp2_with fail
      refine (HC.out _ (HB.out _)).mono ?_
      rintro e w1 ⟨rfl, hb2⟩
      obtain ⟨x0, x1, x2, hs2, hb2'⟩ := box3 hb2
      have B1 := Lib.hid hb2'
      clear hb2 hb2'
      go_wp2_with fail
      refine (HR.out _ B1.out).mono ?_
      rintro e w2 ⟨A3, n3, c3, rfl, ho, hn3, hb2⟩
      replace x0 := Keeps.below hb2 _ _ x0
      replace x1 := Keeps.below hb2 _ _ x1
      replace x2 := Keeps.below hb2 _ _ x2
      have B2 := Lib.hid (B1.out.trans (hb2.mono B1.out.size))
      clear hb2
      have hn5 := own_len ho
      have hn6 : n3 = route.length + 1 := by omega
      subst hn6
      obtain ⟨g, y, rfl, hg1, hg2, hy, hcy, _⟩ := own_int_at ho (k := route.length) (by omega)
      obtain rfl : y = cl := by rw [l2] at hy; injection hy with hy; exact hy.symm
      generalize route.length = rl at *
      clear ho hn5 hy l1 l2 hlast hW
      go_wp2_with fail
      refine (HP.out _ B2.out).mono ?_
      rintro e w3 ⟨rfl, hb3⟩
      replace hcy := Keeps.below hb3 _ _ hcy
      have B3 := Lib.hid (B2.out.trans (hb3.mono B2.out.size))
      clear hb3 x0 x1 x2
      go_wp2_with fail
      go_ret2
      exact ⟨rfl, B3.out⟩
  · rw [if_neg hz]
    clear k1 k2 k3
    generalize rcodeF W H xs cell route = code at *
    have hne : (code != 0) = true := by simp [hz]
    clear hz h h2 h5
    go_enter Try.func35, Try.ntmps35
    go_wp2_with fail
    refine (HC.out _ (HB.out _)).mono ?_
    rintro e w1 ⟨rfl, hb2⟩
    obtain ⟨x0, x1, x2, hs2, hb2'⟩ := box3 hb2
    have B1 := Lib.hid hb2'
    clear hb2 hb2'
    go_wp2_with fail
    go_ret2
    exact ⟨rfl, B1.out⟩
end Go.Proofs.Ytpaamhkgokkgpaa

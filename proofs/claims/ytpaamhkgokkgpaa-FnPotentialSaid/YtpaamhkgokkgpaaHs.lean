/- Plain: potentials bound the times (chapter 32): no Go in sight. -/
import Derived.Test.YtpaamhkgokkgpaaHp
import Derived.Test.YtpaamhkgokkgpaaGt
namespace Go.Proofs.Ytpaamhkgokkgpaa
open Go.RowKit
set_option linter.unusedVariables false

theorem pot_facts {W H : Int} {xs : List (Int × Int)} {fr : Int} {L : List Int} (h : potB W H xs fr L = true) : ∃ s : Nat, fr = s ∧ s < xs.length ∧ gcodeF W H xs fr = 0 ∧ GridOk W H xs ∧ L.length = xs.length ∧ tm L s = 0 ∧ Closed (arcsF W H xs) L := by
  unfold potB at h
  split at h
  · rename_i hz
    split at h
    · rename_i hl
      split at h
      · rename_i h0
        obtain ⟨hg, c1, c2⟩ := gcode_ok hz
        have hgl := hg.len
        obtain ⟨s, rfl⟩ := int_up fr c1
        have ea : ∀ k : Nat, atF L (k : Int) = tm L k := fun k => by unfold atF; rw [Int.toNat_natCast]; rfl
        refine ⟨s, rfl, by omega, hz, hg, hl, by rw [← ea]; exact h0, ?_⟩
        rw [Bool.and_eq_true] at h
        intro x hx hx0
        have hx2 := arcs_in x hx
        obtain ⟨d, hd, hm, he⟩ := out_mem hx2
        obtain ⟨u, v, c⟩ := x
        simp only [Prod.mk.injEq] at he hx0 hm hx2 ⊢
        obtain ⟨_, rfl, rfl⟩ := he
        have hu : u < xs.length := (arcs_ok hg _ hx).1
        have he := List.all_eq_true.1 h.2 u (List.mem_range.2 hu)
        have he := List.all_eq_true.1 he d (List.mem_range.2 hd)
        unfold edgeB at he
        obtain ⟨k1, k2⟩ := nb_cell (cell := u) (d := d) hg.w1 hg.h1 (moveB_nb hm)
        obtain ⟨v, hv⟩ := int_up _ k1
        rw [hm, hv, ea, ea] at he
        rw [hv, Int.toNat_natCast]
        have hnn : ¬ tm L u < 0 := by omega
        simp [hnn] at he
        exact he
      · cases h
    · cases h
  · cases h
theorem pot_le {W H : Int} {xs : List (Int × Int)} {s : Nat} {L : List Int} (hg : GridOk W H xs) (hs : s < xs.length) (h0 : tm L s = 0) (hc : Closed (arcsF W H xs) L) {i : Nat} (hi : i < xs.length) (hT : 0 ≤ tm (timesF W H xs s) i) :
    0 ≤ tm L i ∧ tm L i ≤ tm (timesF W H xs s) i := hc.le h0 ((times_ok hg hs).1.way i hi hT)
theorem route_way {W H : Int} {xs : List (Int × Int)} (hg : GridOk W H xs) {s : Nat} : ∀ (route cs : List Int) (u : Nat) (t : Int) (R : List Int × Int), u < xs.length → routeL W H xs route cs u t = some R → cs.getLast? = some (u : Int) → Way (arcsF W H xs) s u t →
    ∃ v : Nat, v < xs.length ∧ R.1.getLast? = some (v : Int) ∧ Way (arcsF W H xs) s v R.2 := by
  intro route
  induction route with
  | nil => intro cs u t R hu h hl hw; unfold routeL at h; injection h with h; subst h; exact ⟨u, hu, hl, hw⟩
  | cons d r ih =>
    intro cs u t R hu h hl hw
    obtain ⟨d0, d1, v, hv, hvl, _, _, _, _, harc, _⟩ := route_step hg hu h
    rw [routeL] at h
    split at h
    · rw [hv] at h
      exact ih _ v _ R hvl h (by simp) (Way.move hw harc)
    · cases h
/-- A proved route is fastest. -/
theorem proved_last {W H : Int} {xs : List (Int × Int)} {s : Nat} {route L : List Int} (h : provedF W H xs s route L = (true, 0)) :
    ∃ cs t, sailRouteF W H xs s route = (cs, t, 0) ∧ potB W H xs s L = true ∧ ∃ v : Nat, v < xs.length ∧ 1 ≤ cs.length ∧ cs[cs.length - 1]? = some (v : Int) ∧ tm (timesF W H xs s) v = t ∧ 0 ≤ t := by
  unfold provedF at h
  split at h
  · rename_i hz
    injection h with h _
    rw [Bool.and_eq_true] at h
    obtain ⟨hp, he⟩ := h
    obtain ⟨_, _, k3⟩ := sail_code W H xs s route
    obtain ⟨hgz, hlen, cs, t, hr, hsl⟩ := k3 hz
    rw [hsl] at he
    obtain ⟨s', hs', hsl', _, hg, hLl, h0, hc⟩ := pot_facts hp
    obtain rfl : s = s' := by omega
    obtain ⟨v, hv, hlast, hway⟩ := route_way hg (s := s) route [(s : Int)] s 0 (cs, t) hsl' hr rfl Way.start
    simp only at hlast hway he
    rw [List.getLast?_eq_getElem?] at hlast
    have hcl : 1 ≤ cs.length := by
      rcases Nat.eq_zero_or_pos cs.length with e | e
      · rw [List.getElem?_eq_none (by omega)] at hlast; cases hlast
      · exact e
    have el : lastF cs = v := by unfold lastF; rw [List.getD_eq_getElem?_getD, hlast]; rfl
    rw [el] at he
    have eL : tm L v = t := by
      have e2 : atF L (v : Int) = t := by simpa using he
      rw [← e2]; unfold atF; rw [Int.toNat_natCast]; rfl
    obtain ⟨b1, b2⟩ := times_ok hg hsl'
    obtain ⟨m1, m2⟩ := b2.le b1.start hway
    obtain ⟨n1, n2⟩ := pot_le hg hsl' h0 hc hv m1
    exact ⟨cs, t, hsl, hp, v, hv, hcl, hlast, by omega, by omega⟩
  · injection h with h _; cases h
theorem proved_pot {W H : Int} {xs : List (Int × Int)} {fr : Int} {route L : List Int} (h : potB W H xs fr L = false) : (provedF W H xs fr route L).1 = false := by
  unfold provedF
  split
  · simp [h]
  · rfl
end Go.Proofs.Ytpaamhkgokkgpaa

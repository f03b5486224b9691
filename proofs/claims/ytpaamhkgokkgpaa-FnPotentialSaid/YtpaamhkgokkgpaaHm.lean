/- Plain: the fastest route leads there in the fastest time (chapter 32): no Go in sight. -/
import Derived.Test.YtpaamhkgokkgpaaHg
import Derived.Test.YtpaamhkgokkgpaaGt
namespace Go.Proofs.Ytpaamhkgokkgpaa
open Go.RowKit
set_option linter.unusedVariables false

theorem Way.cons {l : List Arc} {s u v : Nat} {t c : Int} (hx : (s, u, c) ∈ l) (h : Way l u v t) : Way l s v (c + t) := by
  induction h with
  | start => have := Way.move (Way.start (l := l) (s := s)) hx; rw [Int.zero_add] at this; rw [Int.add_zero]; exact this
  | move _ hy ih => have := Way.move ih hy; rwa [Int.add_assoc] at this
theorem Way.rev {l : List Arc} {s v : Nat} {t : Int} (h : Way l s v t) : Way (l.map revA) v s t := by
  induction h with
  | start => exact Way.start
  | move _ hx ih =>
    rename_i u v' t' c _
    have h1 : (v', u, c) ∈ l.map revA := List.mem_map.2 ⟨_, hx, rfl⟩
    have := Way.cons h1 ih
    rwa [Int.add_comm] at this
theorem rev_rev (l : List Arc) : (l.map revA).map revA = l := by
  rw [List.map_map]
  have : revA ∘ revA = id := by funext x; rfl
  rw [this, List.map_id]
theorem arcsB_true (W H : Int) (xs : List (Int × Int)) : arcsB true W H xs = (arcsF W H xs).map revA := by
  unfold arcsB
  have : wayA true = revA := by funext x; rfl
  rw [this]
section
variable {W H : Int} {xs : List (Int × Int)} (hg : GridOk W H xs) {s tg : Nat} (hs : s < xs.length) (ht : tg < xs.length)
include hg hs ht
/-- There and back take the same time. -/
theorem there_back (h : 0 ≤ tm (timesB true W H xs tg) s) : tm (timesF W H xs s) tg = tm (timesB true W H xs tg) s := by
  obtain ⟨a1, a2⟩ := timesB_ok hg true ht
  obtain ⟨b1, b2⟩ := times_ok hg hs
  have w1 := (a1.way s hs h).rev
  rw [arcsB_true, rev_rev] at w1
  obtain ⟨c1, c2⟩ := b2.le b1.start w1
  have w2 := (b1.way tg ht c1).rev
  rw [← arcsB_true] at w2
  obtain ⟨d1, d2⟩ := a2.le a1.start w2
  omega
theorem there_none (h : tm (timesB true W H xs tg) s < 0) : tm (timesF W H xs s) tg = -1 := by
  obtain ⟨a1, a2⟩ := timesB_ok hg true ht
  obtain ⟨b1, b2⟩ := times_ok hg hs
  refine b1.neg tg ht ?_
  rcases Int.lt_or_le (tm (timesF W H xs s) tg) 0 with g | g
  · exact g
  · have w2 := (b1.way tg ht g).rev
    rw [← arcsB_true] at w2
    obtain ⟨d1, _⟩ := a2.le a1.start w2
    omega
omit hs ht in
theorem good_facts {L : List Int} {u d : Nat} (hu : u < xs.length) (h : goodB W H xs L u d = true) : moveB W H xs u d = true ∧ (∃ v : Nat, nbF W H u d = v ∧ v < xs.length ∧ 0 ≤ tm L v ∧ tm L v + takeF xs u d = tm L u) ∧ 1 ≤ takeF xs u d := by
  unfold goodB at h
  simp only [Bool.and_eq_true, decide_eq_true_eq] at h
  obtain ⟨h1, h2, h3⟩ := h
  have hl := hg.len
  have k1 := nb_cell (cell := u) (d := d) hg.w1 hg.h1 (moveB_nb h1)
  have k2 := moveF_bd (cell := u) (d := d) hg h1 (by omega) (by omega)
  obtain ⟨v, hv⟩ := int_up _ k1.1
  rw [hv, Int.toNat_natCast] at h2 h3
  exact ⟨h1, ⟨v, hv, by omega, h2, h3⟩, k2.1⟩
omit hs in
/-- The route sails. -/
theorem path_sails : ∀ (q u : Nat) (cs : List Int) (t : Int), u < xs.length → 0 ≤ tm (timesB true W H xs tg) u → tm (timesB true W H xs tg) u ≤ q →
    ∃ rest : List Int, routeL W H xs (pathF W H xs (timesB true W H xs tg) tg q u) cs u t = some (cs ++ rest, t + tm (timesB true W H xs tg) u) ∧ rest.length = (pathF W H xs (timesB true W H xs tg) tg q u).length ∧ ((u : Int) :: rest).getLast? = some (tg : Int) ∧
      rest.length ≤ nearer xs.length (timesB true W H xs tg) u := by
  intro q
  have htt : tm (timesB true W H xs tg) tg = 0 := (timesB_ok hg true ht).1.start
  induction q with
  | zero =>
    intro u cs t hu h0 h1
    have e := good_zero hg ht hu (show tm (timesB true W H xs tg) u = 0 by omega)
    subst e
    exact ⟨[], by rw [path_here, htt]; simp [routeL], by simp [path_here], rfl, Nat.zero_le _⟩
  | succ q ih =>
    intro u cs t hu h0 h1
    by_cases hut : u = tg
    · subst hut
      exact ⟨[], by rw [path_here, htt]; simp [routeL], by simp [path_here], rfl, Nat.zero_le _⟩
    · obtain ⟨d, hd⟩ := good_some hg ht hu hut h0
      have hg2 := List.find?_some hd
      have hd8 := List.mem_range.1 (List.mem_of_find?_eq_some hd)
      obtain ⟨m1, ⟨v, hv, hvl, hv0, hvt⟩, m2⟩ := good_facts hg hu hg2
      rw [path_next hut hd hv]
      obtain ⟨rest, r1, r2, r3, r4⟩ := ih v (cs ++ [(v : Int)]) (t + takeF xs u d) hvl hv0 (by omega)
      refine ⟨(v : Int) :: rest, ?_, by simp [r2], ?_, ?_⟩
      · rw [routeL]
        have hw : withinB (d : Int) 0 7 = true := withinB_iff.2 ⟨by omega, by omega⟩
        rw [hw, m1, hv]
        simp only [Bool.and_self, if_true]
        rw [r1]
        simp [List.append_assoc]; omega
      · rw [List.getLast?_cons_cons]; exact r3
      · have := nearer_lt (n := xs.length) (D := timesB true W H xs tg) (u := v) (v := u) hvl hv0 (by omega)
        simp only [List.length_cons]; omega
end
/-- The fastest times are a potential. -/
theorem times_pot {W H : Int} {xs : List (Int × Int)} {s : Nat} (hz : gcodeF W H xs s = 0) : potB W H xs s (timesF W H xs s) = true := by
  obtain ⟨hg, c1, c2⟩ := gcode_ok hz
  have hl := hg.len
  have hs : s < xs.length := by omega
  obtain ⟨b1, b2⟩ := times_ok hg hs
  have hcap := timesB_cap hg false hs
  rw [timesB_false hg hs] at hcap
  have hn := hg.n100.2
  unfold potB
  rw [if_pos hz, if_pos b1.len]
  have e0 : atF (timesF W H xs s) (s : Int) = 0 := by unfold atF; rw [Int.toNat_natCast]; exact b1.start
  rw [if_pos e0, Bool.and_eq_true]
  refine ⟨List.all_eq_true.2 (fun p hp => ?_), List.all_eq_true.2 (fun u hu => List.all_eq_true.2 (fun d hd => ?_))⟩
  · obtain ⟨k, hk⟩ := List.getElem?_of_mem hp
    have e := tm_get hk
    have h1 := hcap.low k
    have h2 := hcap.bd hn k
    rw [e] at h1 h2
    exact withinB_iff.2 ⟨by omega, by omega⟩
  · have hu := List.mem_range.1 hu
    have hd := List.mem_range.1 hd
    unfold edgeB
    have ea : ∀ k : Nat, atF (timesF W H xs s) (k : Int) = tm (timesF W H xs s) k := fun k => by unfold atF; rw [Int.toNat_natCast]; rfl
    cases hm : moveB W H xs u d with
    | false => rfl
    | true =>
      have k1 := nb_cell (cell := u) (d := d) hg.w1 hg.h1 (moveB_nb hm)
      obtain ⟨v, hv⟩ := int_up _ k1.1
      rw [hv, ea, ea]
      by_cases hu0 : tm (timesF W H xs s) u < 0
      · simp [hu0]
      · have hx : (u, v, takeF xs u d) ∈ arcsF W H xs := by
          refine List.mem_flatMap.2 ⟨u, List.mem_range.2 hu, List.mem_filterMap.2 ⟨d, List.mem_range.2 hd, ?_⟩⟩
          unfold arcF; rw [if_pos hm, hv]; rfl
        have := b2 _ hx (by simp only; omega)
        simp only at this
        simp; omega
theorem gcode_vals {W H : Int} {xs : List (Int × Int)} {cell : Int} (h : gcodeF W H xs cell ≠ 0) : gcodeF W H xs cell = 1 ∨ gcodeF W H xs cell = 4 := by
  unfold gcodeF at h ⊢
  split
  · rename_i h1
    rw [if_pos h1] at h
    split
    · rename_i h2
      rw [if_pos h2] at h
      exact absurd rfl h
    · exact .inr rfl
  · exact .inl rfl
/-- What a fastest route is worth. -/
structure Fast (W H : Int) (xs : List (Int × Int)) (s tg : Nat) (r1 : List Int) (r2 : Int) (cs : List Int) : Prop where
  time : tm (timesF W H xs s) tg = r2
  sail : sailRouteF W H xs s r1 = (cs, r2, 0)
  code : rcodeF W H xs s r1 = 0
  len : cs.length = r1.length + 1
  last : cs[r1.length]? = some (tg : Int)
  proved : provedF W H xs s r1 (timesF W H xs s) = (true, 0)
theorem route_cases {W H : Int} {xs : List (Int × Int)} {fr tt : Int} {r1 : List Int} {r2 r3 : Int} (h : fastRF W H xs fr tt = (r1, r2, r3)) :
    (r3 = 1 ∨ r3 = 4) ∨ ∃ s tg : Nat, fr = s ∧ tt = tg ∧ gcodeF W H xs s = 0 ∧ s < xs.length ∧ tg < xs.length ∧ ((r3 = 5 ∧ tm (timesF W H xs s) tg = -1) ∨ (r3 = 0 ∧ ∃ cs, Fast W H xs s tg r1 r2 cs)) := by
  unfold fastRF at h
  by_cases hz : gcodeF W H xs fr = 0
  · rw [if_pos hz] at h
    obtain ⟨hg, c1, c2⟩ := gcode_ok hz
    have hl := hg.len
    obtain ⟨s, rfl⟩ := int_up fr c1
    have hs : s < xs.length := by omega
    by_cases hw : withinB tt 0 ((xs.length : Int) - 1) = true
    · rw [if_pos hw] at h
      obtain ⟨t1, t2⟩ := withinB_iff.1 hw
      obtain ⟨tg, rfl⟩ := int_up tt t1
      have ht : tg < xs.length := by omega
      simp only [Int.toNat_natCast] at h
      refine .inr ⟨s, tg, rfl, rfl, hz, hs, ht, ?_⟩
      by_cases hn : tm (timesB true W H xs tg) s < 0
      · rw [if_pos hn] at h
        injection h with _ h; injection h with _ h
        exact .inl ⟨h.symm, there_none hg hs ht hn⟩
      · rw [if_neg hn] at h
        injection h with h1 h; injection h with h2 h3
        refine .inr ⟨h3.symm, ?_⟩
        have h0 : 0 ≤ tm (timesB true W H xs tg) s := by omega
        obtain ⟨rest, e1, e2, e3, e4⟩ := path_sails hg ht (tm (timesB true W H xs tg) s).toNat s [(s : Int)] 0 hs h0 (by omega)
        rw [h1] at e1 e2
        rw [h2, Int.zero_add] at e1
        have hnear := nearer_n (D := timesB true W H xs tg) hs
        have hn100 := hg.n100.2
        have hlen : r1.length ≤ 100 := by omega
        have hsail : sailRouteF W H xs s r1 = ([(s : Int)] ++ rest, r2, 0) := by unfold sailRouteF; rw [if_pos hz, if_pos hlen, e1]; rfl
        have hcode : rcodeF W H xs s r1 = 0 := by unfold rcodeF; rw [if_pos hz, if_pos hlen, e1]; rfl
        have htime : tm (timesF W H xs s) tg = r2 := by rw [there_back hg hs ht h0, h2]
        have hlast : ([(s : Int)] ++ rest)[r1.length]? = some (tg : Int) := by
          rw [List.getLast?_eq_getElem?] at e3
          have : ([(s : Int)] ++ rest).length - 1 = r1.length := by simp [e2]
          rw [← this]; exact e3
        refine ⟨[(s : Int)] ++ rest, htime, hsail, hcode, by simp [e2], hlast, ?_⟩
        unfold provedF
        rw [if_pos hcode, hsail, times_pot hz]
        have elast : lastF ([(s : Int)] ++ rest) = tg := by
          unfold lastF
          rw [List.getLast?_eq_getElem?] at e3
          have e3' : ([(s : Int)] ++ rest)[([(s : Int)] ++ rest).length - 1]? = some (tg : Int) := e3
          rw [List.getD_eq_getElem?_getD, e3']; rfl
        simp only [elast, Bool.true_and]
        have : atF (timesF W H xs s) (tg : Int) = r2 := by unfold atF; rw [Int.toNat_natCast]; exact htime
        rw [this]; simp
    · rw [if_neg hw] at h
      injection h with _ h; injection h with _ h
      exact .inl (.inr h.symm)
  · rw [if_neg hz] at h
    injection h with _ h; injection h with _ h
    rw [← h]
    exact .inl (gcode_vals hz)
end Go.Proofs.Ytpaamhkgokkgpaa

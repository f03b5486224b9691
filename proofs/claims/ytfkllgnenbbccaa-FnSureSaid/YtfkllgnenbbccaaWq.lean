/- Walks: medals (chapter 31), final points. -/
import Derived.Test.YtfkllgnenbbccaaWo
namespace Go.Proofs.Ytfkllgnenbbccaa
open Go.RowKit
set_option linter.unusedVariables false
set_option maxRecDepth 100000

theorem pt_bd {factor p : Int} (h1 : 1 ≤ factor) (h2 : factor ≤ 3) (h3 : 1 ≤ p) (h4 : p ≤ 5) : 0 ≤ 10 * factor * p ∧ 10 * factor * p ≤ 150 := by
  have hf : factor = 1 ∨ factor = 2 ∨ factor = 3 := by omega
  rcases hf with rfl | rfl | rfl <;> omega

/-- What a valid call knows of net points and places. -/
structure Valid (net places : List Int) (factor : Int) (n : Nat) : Prop where
  nl : net.length = n
  pl : places.length = n
  n1 : 1 ≤ n
  n5 : n ≤ 5
  f1 : 1 ≤ factor
  f3 : factor ≤ 3
  net0 : ∀ (i : Nat) (x : Int), net[i]? = some x → 0 ≤ x ∧ x ≤ 200000
  pl1 : ∀ (i : Nat) (p : Int), places[i]? = some p → 1 ≤ p ∧ p ≤ 5
theorem valid_of {net places : List Int} {factor boat : Int} (h : placesCodeF net factor places boat = 0) : Valid net places factor net.length := by
  obtain ⟨h1, h2, h3⟩ := placesCode_ok h
  obtain ⟨g1, g2, g3, g4, g5⟩ := medalCode_ok h1
  have hl := medalB_len g1
  exact ⟨rfl, h2, hl.1, hl.2, g2, g3, fun i x hx => medalB_mem g1 hx, fun i p hp => by have := isPermB_mem h3 hp; omega⟩

theorem finalPoints_any (A : Option Addr) (n c : Nat) (net : List Int) (factor : Int) (A' : Option Addr) (c' : Nat) (places : List Int) (w : World) (hv : Valid net places factor n) (h : Rd w 1 A n (ints net)) (h' : Rd w 1 A' n (ints places)) :
    Calls Try.prog 46 #[.slice A n c, .int .i64 factor, .slice A' n c'] w (RetCopy w (ptsF factor net places)) := by
  have HN := Lib.hid hv.nl
  have HN' := Lib.hid hv.pl
  have hn5 := hv.n5
  have hf1 := hv.f1
  have hf3 := hv.f3
  go_enter Try.func46, Try.ntmps46
  go_wp2_with fail
  go_loopw [7, 8, 9, 13] (fun v _ _ i wr => ∃ (j cv : Nat) (Av : Option Addr), j ≤ n ∧ i = .int .i64 j ∧ v = .slice Av j cv ∧ wr.ownsRow w.heap.size 2 1 (.slice Av j cv) j (ints ((ptsF factor net places).take j)) ∧ Below w.heap.size w wr) (fun _ _ _ i _ => n - (intOf i).toNat)
  case atStart => exact ⟨0, 0, _, Nat.zero_le _, rfl, rfl, own_empty _ _ _ (Nat.le_refl _), (Below.refl _ _).alloc (Nat.le_refl _) _⟩
  case round =>
    obtain ⟨j, cv, Av, hj, rfl, rfl, ho, hb⟩ := hrel
    have hbs := hb.size
    by_cases hlt : j < n
    · obtain ⟨b, o, x, rfl, hx, _, hc⟩ := (h.below hb).int hlt
      obtain ⟨b', o', p, rfl, hp, _, hc'⟩ := (h'.below hb).int hlt
      obtain ⟨hx0, hx1⟩ := hv.net0 _ _ hx
      obtain ⟨hp0, hp1⟩ := hv.pl1 _ _ hp
      obtain ⟨hq0, hq1⟩ := pt_bd hf1 hf3 hp0 hp1
      have HG := Lib.hid (ptsF_get (factor := factor) hx hp)
      clear hx hp
      go_wp2_with (at_builtin; refine app_i64 _ rfl _ _ rfl rfl (ho.alloc _) rfl (cell_new1 _ _ _) (by omega) ?cB ?_; rotate_left; intro A1 c1 w1 hown1 hgr1)
      · go_roundw
        case rel => exact ⟨j + 1, _, _, by omega, by go_num, rfl, by rw [take_snoc_get HG.out]; exact hown1, below_app hb hbs (Nat.le_refl _) ho hgr1⟩
        case measure => simp [intOf]; omega
      · simp; omega
    · obtain rfl : j = n := by omega
      go_wp2
      go_ret
      exact ⟨_, _, _, rfl, by rw [List.take_of_length_le (by rw [ptsF_len (HN.out.trans HN'.out.symm), HN.out]; omega)] at ho; exact ho, by omega, hb⟩

theorem implFinalPoints_any (A : Option Addr) (n c : Nat) (net : List Int) (factor : Int) (A' : Option Addr) (n' c' : Nat) (places : List Int) (w : World) (h : Rd w 1 A n (ints net)) (h' : Rd w 1 A' n' (ints places)) :
    Calls Try.prog 19 #[.slice A n c, .int .i64 factor, .slice A' n' c'] w (RetI w (finalPointsF net factor places)) := by
  have HN := Lib.hid h.len_int
  have HN' := Lib.hid h'.len_int
  have HB := Lib.hid (placesCode_any A n c net factor A' n' c' places 0 w h h')
  have e1 : finalPointsF net factor places = if placesCodeF net factor places 0 = 0 then (ptsF factor net places, 0) else ([], placesCodeF net factor places 0) := rfl
  rw [e1]; clear e1
  by_cases hz : placesCodeF net factor places 0 = 0
  · have hv := valid_of hz
    rw [if_pos hz]
    rw [HN.out] at hv
    have hnn : n' = n := HN'.out.symm.trans hv.pl
    subst hnn
    rw [hz] at HB
    clear hz
    go_enter Try.func19, Try.ntmps19
    go_wp2_with fail
    refine HB.out.mono ?_
    rintro e w1 ⟨rfl, hb1⟩
    go_wp2_with fail
    refine (finalPoints_any _ _ _ _ _ _ _ _ _ hv (h.below hb1) (h'.below hb1)).mono ?_
    rintro e w2 ⟨A2, n2, c2, rfl, ho2, hn2, hb2⟩
    go_wp2_with fail
    go_ret2
    exact ⟨_, _, _, rfl, own_base ho2 hb1.size, hn2, hb1.trans (hb2.mono hb1.size)⟩
  · rw [if_neg hz]
    generalize placesCodeF net factor places 0 = code at *
    have hne : (code != 0) = true := by simp [hz]
    clear hz
    go_enter Try.func19, Try.ntmps19
    go_wp2_with fail
    refine HB.out.mono ?_
    rintro e w1 ⟨rfl, hb1⟩
    go_wp2_with fail
    go_ret2
    exact RetI.nil _ _ _ hb1

theorem l31Points_any (A : Option Addr) (n c : Nat) (net : List Int) (factor : Int) (A' : Option Addr) (c' : Nat) (places : List Int) (k : Nat) (hk : k < n) (x p : Int) (hx : net[k]? = some x) (hp : places[k]? = some p) (w : World) (hv : Valid net places factor n) (h : Rd w 1 A n (ints net)) (h' : Rd w 1 A' n (ints places)) :
    Calls Try.prog 44 #[.slice A n c, .int .i64 factor, .slice A' n c', .int .i64 (k : Int)] w fun e w' => e = .returned (.int .i64 (x + 10 * factor * p)) ∧ Drawn w w' := by
  have hf1 := hv.f1
  have hf3 := hv.f3
  have hn5 := hv.n5
  obtain ⟨b, o, x', rfl, hx', _, hc⟩ := h.int hk
  obtain ⟨b', o', p', rfl, hp', _, hc'⟩ := h'.int hk
  obtain rfl : x = x' := by rw [hx] at hx'; injection hx'
  obtain rfl : p = p' := by rw [hp] at hp'; injection hp'
  obtain ⟨hx0, hx1⟩ := hv.net0 _ _ hx
  obtain ⟨hp0, hp1⟩ := hv.pl1 _ _ hp
  obtain ⟨hq0, hq1⟩ := pt_bd hf1 hf3 hp0 hp1
  clear hx hx' hp hp'
  have HS1 := Lib.hid (show IntKind.i64.wrap (10 * factor) = 10 * factor from IntWalk.i64_in _ (by omega))
  have HS2 := Lib.hid (show IntKind.i64.wrap (10 * factor * p) = 10 * factor * p from IntWalk.i64_in _ (by omega))
  have HS3 := Lib.hid (show IntKind.i64.wrap (x + 10 * factor * p) = x + 10 * factor * p from IntWalk.i64_in _ (by omega))
  go_enter Try.func44, Try.ntmps44
  go_wp2_with fail
  have hs1 := HS1.out
  have hs2 := HS2.out
  have hs3 := HS3.out
  go_quiet (fail)
  clear hs1 hs2 hs3
  go_wp2_with fail
  go_ret
  exact ⟨rfl, (Drawn.refl _).step _⟩

theorem specFinalPoints_any (A : Option Addr) (n c : Nat) (net : List Int) (factor : Int) (A' : Option Addr) (n' c' : Nat) (places : List Int) (w : World) (h : Rd w 1 A n (ints net)) (h' : Rd w 1 A' n' (ints places)) :
    Calls Try.prog 18 #[.slice A n c, .int .i64 factor, .slice A' n' c'] w (RetI w (finalPointsF net factor places)) := by
  have HN := Lib.hid h.len_int
  have HN' := Lib.hid h'.len_int
  have HB := Lib.hid (l31PlacesCode_any A n c net factor A' n' c' places 0 w h h')
  have e1 : finalPointsF net factor places = if placesCodeF net factor places 0 = 0 then (ptsF factor net places, 0) else ([], placesCodeF net factor places 0) := rfl
  rw [e1]; clear e1
  by_cases hz : placesCodeF net factor places 0 = 0
  · have hv := valid_of hz
    rw [if_pos hz]
    rw [HN.out] at hv
    have hnn : n' = n := HN'.out.symm.trans hv.pl
    subst hnn
    rw [hz] at HB
    clear hz
    have hn5 := hv.n5
    go_enter Try.func18, Try.ntmps18
    go_wp2_with fail
    refine HB.out.mono ?_
    rintro e w0 ⟨rfl, hb0⟩
    have hs0 := hb0.size
    go_wp2_with fail
    go_loopw [9, 10] (fun v i wr => ∃ (j cv : Nat) (Av : Option Addr), j ≤ n' ∧ i = .int .i64 j ∧ v = .slice Av j cv ∧ wr.ownsRow w.heap.size 2 1 (.slice Av j cv) j (ints ((ptsF factor net places).take j)) ∧ Below w.heap.size w wr) (fun _ i _ => n' - (intOf i).toNat)
    case atStart => exact ⟨0, 0, _, Nat.zero_le _, rfl, rfl, own_empty _ _ _ hs0, hb0.alloc hs0 _⟩
    case round =>
      obtain ⟨j, cv, Av, hj, rfl, rfl, ho, hb⟩ := hrel
      by_cases hlt : j < n'
      · obtain ⟨x, hx, _⟩ := drop_cons (xs := net) (k := j) (by rw [HN.out]; exact hlt)
        obtain ⟨p, hp, _⟩ := drop_cons (xs := places) (k := j) (by rw [HN'.out]; exact hlt)
        have HX := Lib.hid hx; have HP := Lib.hid hp; clear hx hp
        have HG := Lib.hid (ptsF_get (factor := factor) HX.out HP.out)
        go_wp2_with fail
        refine (l31Points_any _ _ _ _ _ _ _ _ j hlt _ _ HX.out HP.out _ hv (h.below hb) (h'.below hb)).mono ?_
        rintro e w2 ⟨rfl, hq⟩
        have ho2 := hq.own ho
        have hb2 := hb.trans (hq.below.mono hb.size)
        have hbs := hb2.size
        go_wp2_with (at_builtin; refine app_i64 _ rfl _ _ rfl rfl (ho2.alloc _) rfl (cell_new1 _ _ _) (by omega) ?cB ?_; rotate_left; intro A1 c1 w1 hown1 hgr1)
        · go_roundw
          case rel => exact ⟨j + 1, _, _, by omega, by go_num, rfl, by rw [take_snoc_get HG.out]; exact hown1, below_app hb2 hbs (Nat.le_refl _) ho2 hgr1⟩
          case measure => simp [intOf]; omega
        · simp; omega
      · obtain rfl : j = n' := by omega
        go_wp2
        go_ret2
        refine ⟨_, _, _, rfl, ?_, by omega, hb⟩
        rw [List.take_of_length_le (by rw [ptsF_len (HN.out.trans HN'.out.symm), HN.out]; omega)] at ho
        exact ho
  · rw [if_neg hz]
    generalize placesCodeF net factor places 0 = code at *
    have hne : (code != 0) = true := by simp [hz]
    clear hz
    go_enter Try.func18, Try.ntmps18
    go_wp2_with fail
    refine HB.out.mono ?_
    rintro e w1 ⟨rfl, hb1⟩
    go_wp2_with fail
    go_ret2
    exact RetI.nil _ _ _ hb1
end Go.Proofs.Ytfkllgnenbbccaa

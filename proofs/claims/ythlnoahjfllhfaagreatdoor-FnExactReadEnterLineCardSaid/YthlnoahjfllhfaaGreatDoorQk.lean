/- Walks: numbers out of words (the program's side). -/
import Derived.Test.YthlnoahjfllhfaaGreatDoorQj
import Derived.Test.YthlnoahjfllhfaaGreatDoorQb
namespace Go.Proofs.YthlnoahjfllhfaaGreatDoor
open Go.RowKit Go.Sort
set_option linter.unusedVariables false
set_option maxRecDepth 100000

/-- The library's error variables hold errors. -/
def ErrV (w : World) : Prop := (∃ te pe, w.cell? ⟨1, 0, none⟩ = some (.iface te pe)) ∧ ∃ te pe, w.cell? ⟨2, 0, none⟩ = some (.iface te pe)
theorem ErrV.below {w w' : World} (h : ErrV w) (hb : Below w.heap.size w w') : ErrV w' := by
  obtain ⟨⟨a, b, h1⟩, c, d, h2⟩ := h
  exact ⟨⟨a, b, (hb.cell (cell_lt h1)).trans h1⟩, c, d, (hb.cell (cell_lt h2)).trans h2⟩
/-- What the library's variables hold. -/
structure Libs (w : World) : Prop where
  pow : Pow w
  err : ErrV w
  max : MaxL w
theorem textI_any (v : Int) (h0 : -9223372036854775808 ≤ v) (h1 : v ≤ 9223372036854775807) (w : World) (ht : Pow w) :
    Calls Tryz.prog 26 #[.int .i64 v] w fun e w' => e = .returned (.string (str (Lib.itoa v))) ∧ Below w.heap.size w w' := by
  have HH := Lib.hid (Tryz.strconv_FormatInt_10 v h0 h1 w ht)
  clear ht
  go_enter Tryz.func26, Tryz.ntmps26
  go_wp2_with fail
  refine HH.out.mono ?_
  rintro e w' ⟨rfl, k, os, rfl⟩
  go_wp2_with fail
  go_ret
  exact ⟨rfl, Lib.below_grow _ _ (Nat.le_refl _) _ _⟩
theorem bytes_below (w w' : World) (t : TypeId) (h : w' = w ∨ ∃ s, w' = Lib.bytesWorld w t s) : Below w.heap.size w w' := by
  rcases h with rfl | ⟨s, rfl⟩
  · exact Below.refl _ _
  · exact Lib.bytesWorld_below _ _ _
/-- Two texts that differ, as the walk asks. -/
theorem ne_list {a b : ByteArray} (h : a ≠ b) : (a.toList == b.toList) = false := by
  rw [beq_eq_false_iff_ne, ByteArray.toList_eq, ByteArray.toList_eq]
  intro e
  exact h (WideShapes.bytes_inj e)
set_option maxHeartbeats 2000000 in
theorem number_any' (s : ByteArray) (hs : s.size ≤ 2097152) (w : World) (hp : Pow w) (he : ErrV w) (hpb : ∀ w', Below w.heap.size w w' → Pow w') :
    Calls Tryz.prog 36 #[.string s] w fun e w' => e = .returned (.tuple #[.int .i64 (numF s.data.toList).1, .bool (numF s.data.toList).2]) ∧ Below w.heap.size w w' := by
  obtain ⟨⟨te, pe, hE1⟩, te2, pe2, hE2⟩ := he
  have hlen := (Lib.size_eq s).symm
  rcases hq : Lib.parseIntB 64 s.data.toList with v | _ | _
  · have hbd := Lib.parseIntB_bounds hq
    have hb1 : -9223372036854775808 ≤ v := by have := hbd.1; simpa using this
    have hb2 : v ≤ 9223372036854775807 := by have := hbd.2; simp at this; omega
    have HC := Lib.hid (Any.strconv_ParseInt_10_at64_ok Tryz.laysC174 s (by omega) v hq w)
    have HT := Lib.hid (fun w' hb => textI_any v hb1 hb2 w' (hpb w' hb))
    by_cases hl : s.size ≤ 19
    · have hlb : decide ((19 : Int) < (s.size : Int)) = false := by simp; omega
      by_cases hi : Lib.itoa v = s.data.toList
      · have hst : str (Lib.itoa v) = s := by rw [hi, str_data]
        rw [hst] at HT
        have hn : numF s.data.toList = (v, true) := by
          unfold numF
          rw [hq]
          simp only
          rw [if_pos ⟨by omega, hi⟩]
        rw [hn]
        clear hbd hb1 hb2 hq hE1 hE2 hpb hp hlen hst hi hn
        go_enter Tryz.func36, Tryz.ntmps36
        go_wp2_with fail
        refine HC.out.mono ?_
        rintro e w1 ⟨rfl, hw⟩
        have HB1 := Lib.hid (bytes_below _ _ _ hw)
        clear hw
        go_wp2_with fail
        refine (HT.out _ HB1.out).mono ?_
        rintro e w2 ⟨rfl, hb⟩
        have HB2 := Lib.hid (HB1.out.trans (hb.mono HB1.out.size))
        clear hb
        go_wp2_with fail
        go_ret2
        exact ⟨rfl, HB2.out⟩
      · have hst : str (Lib.itoa v) ≠ s := fun e => hi (by rw [← e, str_list])
        have hn : numF s.data.toList = (0, false) := by
          unfold numF
          rw [hq]
          simp only
          rw [if_neg (fun h => hi h.2)]
        rw [hn]
        have HST := Lib.hid hst
        clear hbd hb1 hb2 hq hE1 hE2 hpb hp hlen hst hi hn
        go_enter Tryz.func36, Tryz.ntmps36
        go_wp2_with fail
        refine HC.out.mono ?_
        rintro e w1 ⟨rfl, hw⟩
        have HB1 := Lib.hid (bytes_below _ _ _ hw)
        clear hw
        go_wp2_with fail
        refine (HT.out _ HB1.out).mono ?_
        rintro e w2 ⟨rfl, hb⟩
        have HB2 := Lib.hid (HB1.out.trans (hb.mono HB1.out.size))
        have hne := ne_list HST.out
        generalize str (Lib.itoa v) = Z at *
        clear hb
        go_wp2_with fail
        go_ret2
        exact ⟨rfl, HB2.out⟩
    · have hlb : decide ((19 : Int) < (s.size : Int)) = true := by simp; omega
      have hn : numF s.data.toList = (0, false) := by
        unfold numF
        rw [hq]
        simp only
        rw [if_neg (fun h => hl (by omega))]
      rw [hn]
      clear hbd hb1 hb2 hq hE1 hE2 hpb hp hlen hn HT
      go_enter Tryz.func36, Tryz.ntmps36
      go_wp2_with fail
      refine HC.out.mono ?_
      rintro e w1 ⟨rfl, hw⟩
      have HB1 := Lib.hid (bytes_below _ _ _ hw)
      clear hw
      go_wp2_with fail
      go_ret2
      exact ⟨rfl, HB1.out⟩
  · have hn : numF s.data.toList = (0, false) := by unfold numF; rw [hq]
    rw [hn]
    have HC := Lib.hid (Any.strconv_ParseInt_10_at64_syntax Tryz.laysC174 s (by omega) hq _ w hE1 (.inr ⟨te, pe, rfl⟩))
    clear hq hE1 hE2 hpb hp hlen hn
    go_enter Tryz.func36, Tryz.ntmps36
    go_wp2_with fail
    refine HC.out.mono ?_
    rintro e w1 ⟨N, rfl, _, _, hb⟩
    have HB1 := Lib.hid hb
    clear hb
    go_wp2_with fail
    go_ret2
    exact ⟨rfl, HB1.out⟩
  · have hn : numF s.data.toList = (0, false) := by unfold numF; rw [hq]
    rw [hn]
    have HC := Lib.hid (Any.strconv_ParseInt_10_at64_range Tryz.laysC174 s (by omega) hq _ w hE2 (.inr ⟨te2, pe2, rfl⟩))
    clear hq hE1 hE2 hpb hp hlen hn
    generalize Lib.intSat 64 s.data.toList = sat at *
    go_enter Tryz.func36, Tryz.ntmps36
    go_wp2_with fail
    refine HC.out.mono ?_
    rintro e w1 ⟨N, rfl, _, _, hb⟩
    have HB1 := Lib.hid hb
    clear hb
    go_wp2_with fail
    go_ret2
    exact ⟨rfl, HB1.out⟩
end Go.Proofs.YthlnoahjfllhfaaGreatDoor

/- Walks: an entry read out of its line, both sides. -/
import Derived.Test.YtnpldahkhaacnaaGreatDoorQza
import Derived.Test.YtnpldahkhaacnaaGreatDoorQf
import Derived.Test.YtnpldahkhaacnaaGreatDoorZma
namespace Go.Proofs.YtnpldahkhaacnaaGreatDoor
open Go.RowKit Go.Sort
set_option linter.unusedVariables false
set_option maxRecDepth 100000

def ValidE (r b c t : Int) : Prop := withinB r 0 11 = true ∧ finW b c t = true
theorem enterS_yes {r b c t : Int} (h : ValidE r b c t) : enterS r b c t ≠ [] := by unfold enterS; rw [if_pos (show withinB r 0 11 = true ∧ finW b c t = true from h)]; simp
theorem enterS_valid {r b c t : Int} (h : enterS r b c t ≠ []) : ValidE r b c t := by
  by_cases hv : withinB r 0 11 = true ∧ finW b c t = true
  · exact hv
  · exact absurd (by unfold enterS; rw [if_neg hv]) h
/-- What is said of an entry that was read out of a line. -/
def XL (L : List UInt8) (r b c t : Int) (ok : Bool) : Prop := (ok = true → ValidE r b c t ∧ L = enterS r b c t) ∧ (ok = false → (r = 0 ∧ b = 0 ∧ c = 0 ∧ t = 0) ∧ ∀ r b c t, ValidE r b c t → L ≠ enterS r b c t)
theorem words_nil : wordsL [] = [[]] := by rw [wordsL_none (by simp)]
theorem words_valid {r b c t : Int} (h : ValidE r b c t) : wordsL (enterS r b c t) = enterWord :: enterT r b c t := by rw [words_enter h, enterX_eq]
theorem xl_unique {L : List UInt8} {r b c t r' b' c' t' : Int} {ok ok' : Bool} (h : XL L r b c t ok) (h' : XL L r' b' c' t' ok') : r = r' ∧ b = b' ∧ c = c' ∧ t = t' ∧ ok = ok' := by
  cases ok <;> cases ok'
  · obtain ⟨⟨a1, a2, a3, a4⟩, -⟩ := h.2 rfl
    obtain ⟨⟨b1, b2, b3, b4⟩, -⟩ := h'.2 rfl
    exact ⟨a1.trans b1.symm, a2.trans b2.symm, a3.trans b3.symm, a4.trans b4.symm, rfl⟩
  · obtain ⟨h1, h2⟩ := h'.1 rfl
    exact absurd h2 ((h.2 rfl).2 _ _ _ _ h1)
  · obtain ⟨h1, h2⟩ := h.1 rfl
    exact absurd h2 ((h'.2 rfl).2 _ _ _ _ h1)
  · obtain ⟨h1, h2⟩ := h.1 rfl
    obtain ⟨h3, h4⟩ := h'.1 rfl
    have h5 : enterT r b c t = enterT r' b' c' t' := by
      have := words_valid h1
      rw [← h2, h4, words_valid h3] at this
      injection this with _ this
      exact this.symm
    obtain ⟨a1, a2, a3, a4⟩ := ent_unique (ent_enter h1 rfl) (ent_enter h3 h5)
    exact ⟨a1, a2, a3, a4, rfl⟩
theorem xl_zero {L : List UInt8} (h : ∀ r b c t, ValidE r b c t → L ≠ enterS r b c t) : XL L 0 0 0 0 false := ⟨(fun h => by cases h), fun _ => ⟨⟨rfl, rfl, rfl, rfl⟩, h⟩⟩
/-- Behind the program's reading. -/
theorem xp_xl_no {L : List UInt8} {r b c t : Int} (h : XP ((wordsL L).drop 1) r b c t false) : XL L 0 0 0 0 false := by
  refine xl_zero (fun r b c t hv e => ?_)
  rw [e, words_valid hv] at h
  exact h.2 rfl _ _ _ _ (ent_enter hv rfl)
theorem xp_xl_ne {L : List UInt8} {r b c t : Int} (h : XP ((wordsL L).drop 1) r b c t true) (hne : enterS r b c t ≠ L) : XL L 0 0 0 0 false := by
  refine xl_zero (fun r' b' c' t' hv e => hne ?_)
  rw [e, words_valid hv] at h
  obtain ⟨a1, a2, a3, a4⟩ := ent_unique (h.1 rfl) (ent_enter hv rfl)
  rw [e, a1, a2, a3, a4]
theorem xp_xl_eq {L : List UInt8} {r b c t : Int} (h : XP ((wordsL L).drop 1) r b c t true) (he : enterS r b c t = L) : XL L r b c t true := by
  refine ⟨fun _ => ⟨enterS_valid (fun h0 => ?_), he.symm⟩, (fun h => by cases h)⟩
  rw [← he, h0, words_nil] at h
  have h1 := (h.1 rfl).1
  simp at h1
/-- Behind the reference's reading. -/
theorem xw_xl_no {L : List UInt8} {r b c t : Int} (h : XW (wordsL L) r b c t false) : XL L 0 0 0 0 false := by
  refine xl_zero (fun r b c t hv e => ?_)
  rw [e, words_valid hv] at h
  exact h.2 rfl rfl _ _ _ _ (ent_enter hv rfl)
theorem xw_xp {L : List UInt8} {r b c t : Int} (h : XW (wordsL L) r b c t true) : XP ((wordsL L).drop 1) r b c t true := xp_yes (h.1 rfl).2
def RetXL (w : World) (L : List UInt8) (e : Ending) (w' : World) : Prop :=
  ∃ r b c t ok, e = .returned (.tuple #[.agg #[.int .i64 r, .int .i64 b, .int .i64 0, .int .i64 c, .int .i64 t, .int .i64 0, .int .i64 0], .bool ok]) ∧ XL L r b c t ok ∧ Below w.heap.size w w'
set_option maxHeartbeats 8000000 in
theorem implReadEL_any (s : ByteArray) (hs : s.size ≤ 2097152) (w : World) (HL : ∀ w', Below w.heap.size w w' → Libs w') :
    Calls Tryz.prog 12 #[.string s] w (RetXL w s.data.toList) := by
  have hsz := Lib.size_eq s
  obtain ⟨wa, hwa, XR, hba, hsa⟩ := one_box w #[.int .i64 0, .int .i64 0, .int .i64 0, .int .i64 0, .int .i64 0, .int .i64 0, .int .i64 0] 25
  have HWO := Lib.hid (wordsOfC_any s hs wa (HL wa hba).max)
  have HE := Lib.hid (fun r b c t w' (hb : Below w.heap.size w w') => implEnter_any r b 0 c t 0 0 w' (fun w2 h2 => (HL w2 (hb.trans (h2.mono hb.size))).pow))
  have HWA := Lib.hid hwa
  have HX := Lib.hid XR
  have HBA := Lib.hid hba
  have HLL := Lib.hid HL
  have hwl := wordsL_len s.data.toList
  have hcl : s.data.toList.count 32 ≤ s.data.toList.length := List.count_le_length
  have hwd := word_len s.data.toList
  have HST := Lib.hid (str_data s)
  obtain ⟨L, hL⟩ : ∃ L, L = s.data.toList := ⟨_, rfl⟩
  rw [← hL] at hwl hcl hwd HWO HST hsz ⊢
  clear XR hba hsa hwa HL hL
  go_enter Tryz.func12, Tryz.ntmps12
  go_wp2_with fail
  rw [← HWA.out]
  clear HWA
  go_wp2_with fail
  refine HWO.out.mono ?_
  rintro e w1 ⟨A, n, cc, rfl, hrd, hb, hnc⟩
  have HB1 := Lib.hid (HBA.out.trans (hb.mono HBA.out.size))
  have HX1 := Lib.hid (HX.out.below hb)
  have hln := hrd.len_str
  have hn1 : 1 ≤ n := by omega
  have hnb : n ≤ 2097153 := by omega
  obtain ⟨bb, oo, rfl, -⟩ := hrd.pos (by omega)
  have HRD := Lib.hid hrd
  have HLEN := Lib.hid hln
  have HWD := Lib.hid hwd
  have HSZ := Lib.hid hsz
  have hc1 : 1 ≤ cc := by omega
  have HLT := Lib.hid (show ((wordsL L).drop 1).length = n - 1 from by rw [List.length_drop, hln])
  have HSH := Lib.hid (show ∀ x ∈ (wordsL L).drop 1, x.length ≤ 2097152 from fun x hx => by have := hwd x (List.mem_of_mem_drop hx); omega)
  have hz : ∀ A', Rd w1 1 A' (n - 1) (strs ((wordsL L).drop 1)) → Calls Tryz.prog 39 #[.slice A' (n - 1) (cc - 1)] w1 (RetXE w1 ((wordsL L).drop 1)) := fun A' h =>
    implReadEnter_any A' (n - 1) (cc - 1) _ w1 h (by omega) (by omega) HSH.out (fun w2 h2 => HLL.out _ (HB1.out.trans (h2.mono HB1.out.size)))
  have HZ := Lib.hid hz
  clear hb HX HBA hln hwd hsz hwl hcl HWO hz
  have hor : (cc = 1 ∧ n = 1) ∨ (cc ≠ 1 ∧ 1 < cc) := by omega
  rcases hor with ⟨h1, h2⟩ | ⟨h1, h2⟩
  · have h0 : Rd w1 1 (some ⟨bb, oo, none⟩) (n - 1) (strs ((wordsL L).drop 1)) := by
      have h0 : (wordsL L).drop 1 = [] := List.drop_eq_nil_of_le (by rw [HLEN.out]; omega)
      rw [h0, h2]
      exact ⟨rfl, by omega, fun hn => by omega⟩
    have HC := Lib.hid (HZ.out _ h0)
    subst h1 h2
    clear hrd h0 HZ
    go_wp2_with fail
    refine HC.out.mono ?_
    rintro e w2 ⟨r, b, c, t, ok, rfl, hxp, hb⟩
    have HB2 := Lib.hid (HB1.out.trans (hb.mono HB1.out.size))
    have HX2 := Lib.hid (HX1.out.below hb)
    have HXP := Lib.hid hxp
    obtain ⟨w3, hw3, XV, hb3, hs3⟩ := one_box w2 #[.int .i64 r, .int .i64 b, .int .i64 0, .int .i64 c, .int .i64 t, .int .i64 0, .int .i64 0] 25
    have HW3 := Lib.hid hw3
    have HB3 := Lib.hid (HB2.out.trans (hb3.mono HB2.out.size))
    have HX3 := Lib.hid (HX2.out.below hb3)
    have HV3 := Lib.hid XV
    have FX := HX2.out.f7
    have FZ := HX2.out.z7
    clear hb hxp hw3 XV hb3 hs3 HC HX1 HX2
    cases ok with
    | false =>
      have HR := Lib.hid (xp_xl_no HXP.out)
      go_wp2_with fail
      refine bodyPost_ret (v := .tuple #[.agg #[.int .i64 0, .int .i64 0, .int .i64 0, .int .i64 0, .int .i64 0, .int .i64 0, .int .i64 0], .bool false]) (by simp [results, Tryz.results12, go_sem, FX]) rfl ?_
      exact ⟨0, 0, 0, 0, false, rfl, HR.out, (below_z7 HB2.out (Nat.le_refl _) _ _ _ _ _ _ _).alloc (by simp; have := HB2.out.size; omega) _⟩
    | true =>
      go_wp2_with fail
      rw [← HW3.out]
      clear HW3 FX FZ
      refine (HE.out r b c t _ HB3.out).mono ?_
      rintro e w4 ⟨rfl, hb⟩
      have HB4 := Lib.hid (HB3.out.trans (hb.mono HB3.out.size))
      have FX := (HX3.out.below hb).f7
      have FZ := (HX3.out.below hb).z7
      have FV := (HV3.out.below hb).f7
      clear hb HE HX3 HV3
      by_cases hq : enterS r b c t = L
      · have HR := Lib.hid (xp_xl_eq HXP.out hq)
        have hst : str (enterS r b c t) = s := by rw [hq, HST.out]
        rw [hst]
        clear hq hst
        go_wp2_with fail
        refine bodyPost_ret (v := .tuple #[.agg #[.int .i64 r, .int .i64 b, .int .i64 0, .int .i64 c, .int .i64 t, .int .i64 0, .int .i64 0], .bool true]) (by simp [results, Tryz.results12, go_sem, FX]) rfl ?_
        exact ⟨r, b, c, t, true, rfl, HR.out, below_z7 HB4.out (Nat.le_refl _) _ _ _ _ _ _ _⟩
      · have HR := Lib.hid (xp_xl_ne HXP.out hq)
        have hst : str (enterS r b c t) ≠ s := fun e => hq (str_inj (e.trans HST.out.symm))
        have hnl := ne_list hst
        generalize str (enterS r b c t) = Z at *
        clear hq hst
        go_wp2_with fail
        refine bodyPost_ret (v := .tuple #[.agg #[.int .i64 0, .int .i64 0, .int .i64 0, .int .i64 0, .int .i64 0, .int .i64 0, .int .i64 0], .bool false]) (by simp [results, Tryz.results12, go_sem, FX]) rfl ?_
        exact ⟨0, 0, 0, 0, false, rfl, HR.out, below_z7 HB4.out (Nat.le_refl _) _ _ _ _ _ _ _⟩
  · have HC := Lib.hid (HZ.out _ (hrd.dropS 1 (by omega)))
    clear hrd HZ
    go_wp2_with fail
    refine HC.out.mono ?_
    rintro e w2 ⟨r, b, c, t, ok, rfl, hxp, hb⟩
    have HB2 := Lib.hid (HB1.out.trans (hb.mono HB1.out.size))
    have HX2 := Lib.hid (HX1.out.below hb)
    have HXP := Lib.hid hxp
    obtain ⟨w3, hw3, XV, hb3, hs3⟩ := one_box w2 #[.int .i64 r, .int .i64 b, .int .i64 0, .int .i64 c, .int .i64 t, .int .i64 0, .int .i64 0] 25
    have HW3 := Lib.hid hw3
    have HB3 := Lib.hid (HB2.out.trans (hb3.mono HB2.out.size))
    have HX3 := Lib.hid (HX2.out.below hb3)
    have HV3 := Lib.hid XV
    have FX := HX2.out.f7
    have FZ := HX2.out.z7
    clear hb hxp hw3 XV hb3 hs3 HC HX1 HX2
    cases ok with
    | false =>
      have HR := Lib.hid (xp_xl_no HXP.out)
      go_wp2_with fail
      refine bodyPost_ret (v := .tuple #[.agg #[.int .i64 0, .int .i64 0, .int .i64 0, .int .i64 0, .int .i64 0, .int .i64 0, .int .i64 0], .bool false]) (by simp [results, Tryz.results12, go_sem, FX]) rfl ?_
      exact ⟨0, 0, 0, 0, false, rfl, HR.out, (below_z7 HB2.out (Nat.le_refl _) _ _ _ _ _ _ _).alloc (by simp; have := HB2.out.size; omega) _⟩
    | true =>
      go_wp2_with fail
      rw [← HW3.out]
      clear HW3 FX FZ
      refine (HE.out r b c t _ HB3.out).mono ?_
      rintro e w4 ⟨rfl, hb⟩
      have HB4 := Lib.hid (HB3.out.trans (hb.mono HB3.out.size))
      have FX := (HX3.out.below hb).f7
      have FZ := (HX3.out.below hb).z7
      have FV := (HV3.out.below hb).f7
      clear hb HE HX3 HV3
      by_cases hq : enterS r b c t = L
      · have HR := Lib.hid (xp_xl_eq HXP.out hq)
        have hst : str (enterS r b c t) = s := by rw [hq, HST.out]
        rw [hst]
        clear hq hst
        go_wp2_with fail
        refine bodyPost_ret (v := .tuple #[.agg #[.int .i64 r, .int .i64 b, .int .i64 0, .int .i64 c, .int .i64 t, .int .i64 0, .int .i64 0], .bool true]) (by simp [results, Tryz.results12, go_sem, FX]) rfl ?_
        exact ⟨r, b, c, t, true, rfl, HR.out, below_z7 HB4.out (Nat.le_refl _) _ _ _ _ _ _ _⟩
      · have HR := Lib.hid (xp_xl_ne HXP.out hq)
        have hst : str (enterS r b c t) ≠ s := fun e => hq (str_inj (e.trans HST.out.symm))
        have hnl := ne_list hst
        generalize str (enterS r b c t) = Z at *
        clear hq hst
        go_wp2_with fail
        refine bodyPost_ret (v := .tuple #[.agg #[.int .i64 0, .int .i64 0, .int .i64 0, .int .i64 0, .int .i64 0, .int .i64 0, .int .i64 0], .bool false]) (by simp [results, Tryz.results12, go_sem, FX]) rfl ?_
        exact ⟨0, 0, 0, 0, false, rfl, HR.out, below_z7 HB4.out (Nat.le_refl _) _ _ _ _ _ _ _⟩
end Go.Proofs.YtnpldahkhaacnaaGreatDoor

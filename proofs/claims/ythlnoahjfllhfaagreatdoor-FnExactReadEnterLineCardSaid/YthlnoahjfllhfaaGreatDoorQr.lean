/- Walks: words of a text, the reference's first splitter. -/
import Derived.Test.YthlnoahjfllhfaaGreatDoorQj
namespace Go.Proofs.YthlnoahjfllhfaaGreatDoor
open Go.RowKit Go.Sort
set_option linter.unusedVariables false
set_option maxRecDepth 100000

set_option maxHeartbeats 4000000 in
theorem split01_any (s : ByteArray) (hs : s.size ≤ 2097152) (w : World) :
    Calls Tryz.prog 8 #[.string s, .int .u8 32] w (RetWsC w (wordsL s.data.toList)) := by
  have hsz := (Lib.size_eq s).symm
  obtain ⟨L, hL⟩ : ∃ L, L = s.data.toList := ⟨_, rfl⟩
  rw [← hL] at hsz ⊢
  obtain ⟨W, hW⟩ : ∃ W, W = wordsL L := ⟨_, rfl⟩
  rw [← hW]
  have HL := Lib.hid hL
  have HSZ := Lib.hid hsz
  have HW0 := Lib.hid (show [] ++ ahead ((L.drop 0).take (0 - 0)) (wordsL (L.drop 0)) = W from by simp [hW, ahead_nil (wordsL_ne L)])
  have HEX := Lib.hid (fun a b hb => extract_str s a b hb)
  rw [← hL] at HEX
  clear hL hsz hW
  go_enter Tryz.func8, Tryz.ntmps8
  go_wp2_with fail
  have HO0 := Lib.hid (show (w.alloc (.cells #[] 9)).ownsRow w.heap.size 9 1 (.slice (some ⟨w.heap.size, 0, none⟩) 0 0) 0 (strs []) from own_emptyS w w.heap.size 9 1 (Nat.le_refl _))
  have HB0 := Lib.hid ((Below.refl w.heap.size w).alloc (Nat.le_refl _) (.cells #[] 9))
  go_loopw [5, 6, 7] (fun o f i wr => ∃ (k fr m c : Nat) (A : Option Addr) (out : List (List UInt8)), k ≤ s.size + 1 ∧ m ≤ k ∧ o = .slice A m c ∧ f = .int .i64 fr ∧ i = .int .i64 k ∧ Hid ((k ≤ s.size ∧ fr ≤ k ∧ out ++ ahead ((L.drop fr).take (k - fr)) (wordsL (L.drop k)) = W) ∨ (k = s.size + 1 ∧ out = W)) ∧ Hid (wr.ownsRow w.heap.size 9 1 (.slice A m c) m (strs out)) ∧ Hid (Below w.heap.size w wr)) (fun _ _ i _ => s.size + 1 - (intOf i).toNat)
  case atStart => exact ⟨0, 0, 0, 0, _, [], Nat.zero_le _, Nat.zero_le _, rfl, rfl, rfl, Lib.hid (.inl ⟨Nat.zero_le _, Nat.le_refl _, HW0.out⟩), HO0, HB0⟩
  case round =>
    clear HO0 HB0 HW0
    obtain ⟨k, fr, m, c, A, out, hk, hmk, rfl, rfl, rfl, HI, HO, HB⟩ := hrel
    obtain ⟨wo, hwo⟩ : ∃ wo : World, wo = wr := ⟨_, rfl⟩
    subst hwo
    by_cases hlt : k ≤ s.size
    · have hkd : decide ((k : Int) ≤ (s.size : Int)) = true := by simp; omega
      have hi := HI.out
      have hi2 : fr ≤ k ∧ out ++ ahead ((L.drop fr).take (k - fr)) (wordsL (L.drop k)) = W := by rcases hi with h | h; exact h.2; exact absurd h.1 (by omega)
      obtain ⟨hfr, hinv⟩ := hi2
      have HEK := Lib.hid (HEX.out fr k hlt)
      have hbs := HB.out.size
      by_cases hend : k = s.size
      · have heq : ((k : Int) == (s.size : Int)) = true := by simp [hend]
        have HR := Lib.hid (show out ++ [(L.drop fr).take (k - fr)] = W from by
          have hdn : L.drop k = [] := List.drop_eq_nil_of_le (by have := HSZ.out; omega)
          rw [← hinv, hdn]
          simp [wordsL, ahead])
        have HEND := Lib.hid hend
        clear hi hinv HI hend
        go_wp2_with (at_builtin; refine app_str (l := (L.drop fr).take (k - fr)) _ rfl _ _ rfl HEK.out rfl (own_below HO.out ((Below.refl _ _).alloc (Nat.le_refl _) _)) rfl (heap_alloc_new _ _) (by omega) ?cBa ?_; rotate_left; intro g9 c9 w9 hown9 hgr9 _ _)
        · have HB9 := Lib.hid ((HB.out.alloc hbs _).grown hgr9 (by simp; omega) (fun j hj => (HO.out.lt j hj).1))
          have HO9 := Lib.hid hown9
          clear hown9 hgr9
          go_roundw
          case rel => exact ⟨k + 1, k + 1, m + 1, c9, _, _, by omega, by omega, rfl, by go_num, by go_num, Lib.hid (.inr ⟨by have := HEND.out; omega, HR.out⟩), HO9, HB9⟩
          case measure => simp [intOf] <;> omega
        · first | omega | (simp; omega)
      · have heq : ((k : Int) == (s.size : Int)) = false := by simp; omega
        have hks : k < s.size := by omega
        have hkL : k < L.length := by have := HSZ.out; omega
        have hd := List.drop_eq_getElem_cons hkL
        have hgs : s[k] = L[k] := by
          have h1 := HL.out
          subst h1
          rfl
        have HGS := Lib.hid hgs
        by_cases h32 : L[k] = 32
        · have hc : (((s[k]).toNat : Int) == 32) = true := by rw [hgs, h32]; rfl
          have HR := Lib.hid (show out ++ [(L.drop fr).take (k - fr)] ++ ahead ((L.drop (k + 1)).take (k + 1 - (k + 1))) (wordsL (L.drop (k + 1))) = W from by
            rw [← hinv, hd, h32, ahead_blank, Nat.sub_self, List.take_zero, ahead_nil (wordsL_ne _)]
            simp)
          clear hi hinv HI hd hgs h32 hend
          go_wp2_with (at_builtin; refine app_str (l := (L.drop fr).take (k - fr)) _ rfl _ _ rfl HEK.out rfl (own_below HO.out ((Below.refl _ _).alloc (Nat.le_refl _) _)) rfl (heap_alloc_new _ _) (by omega) ?cBb ?_; rotate_left; intro g9 c9 w9 hown9 hgr9 _ _)
          · have HB9 := Lib.hid ((HB.out.alloc hbs _).grown hgr9 (by simp; omega) (fun j hj => (HO.out.lt j hj).1))
            have HO9 := Lib.hid hown9
            clear hown9 hgr9
            go_roundw
            case rel => exact ⟨k + 1, k + 1, m + 1, c9, _, _, by omega, by omega, rfl, by go_num, by go_num, Lib.hid (.inl ⟨by omega, Nat.le_refl _, HR.out⟩), HO9, HB9⟩
            case measure => simp [intOf] <;> omega
          · first | omega | (simp; omega)
        · have hc : (((s[k]).toNat : Int) == 32) = false := by
            rw [hgs]
            simp only [beq_eq_false_iff_ne]
            intro e
            apply h32
            apply UInt8.toNat_inj.1
            show (L[k]).toNat = 32
            omega
          have HR := Lib.hid (show out ++ ahead ((L.drop fr).take (k + 1 - fr)) (wordsL (L.drop (k + 1))) = W from by
            rw [← hinv, hd, ahead_char _ h32]
            congr 3
            rw [show k + 1 - fr = (k - fr) + 1 from by omega, List.take_add_one]
            congr 1
            rw [List.getElem?_drop, show fr + (k - fr) = k from by omega, List.getElem?_eq_getElem hkL]
            rfl)
          clear hi hinv HI hd hgs h32 hend
          go_wp2_with fail
          go_roundw
          case rel => exact ⟨k + 1, fr, m, c, A, out, by omega, by omega, rfl, rfl, by go_num, Lib.hid (.inl ⟨by omega, by omega, HR.out⟩), HO, HB⟩
          case measure => simp [intOf] <;> omega
    · have hkd : decide ((k : Int) ≤ (s.size : Int)) = false := by simp; omega
      have hw : out = W := by rcases HI.out with h | h; omega; exact h.2
      have HWW := Lib.hid hw
      clear HI hw
      go_wp2_with fail
      go_ret
      exact ⟨_, _, _, rfl, by rw [← HWW.out]; exact own_rd HO.out, HB.out, own_capW HO.out⟩
end Go.Proofs.YthlnoahjfllhfaaGreatDoor

/- Walks: numbers and times as texts. -/
import Derived.Test.YthlnoahjfllhfaaGreatDoorQa
import Derived.Test.YthlnoahjfllhfaaGreatDoorWn
import Derived.Test.YthlnoahjfllhfaaGreatDoorBx
import Derived.Test.YthlnoahjfllhfaaGreatDoorShelf
import Derived.Lib.AppendIntMem
import Derived.Lib.LaidTab
import Derived.Lib.QuietBelow
import Derived.IntWalk
namespace Go.Proofs.YthlnoahjfllhfaaGreatDoor
open Go.RowKit Go.Sort
set_option linter.unusedVariables false
set_option maxRecDepth 100000

/-- The library's table of powers of ten lies in w. -/
def Pow (w : World) : Prop := Lib.TabIs Tryz.prog w "internal/strconv.uint64pow10" .u64 Lib.pow10Tab
theorem text_any (n : Nat) (hn : n ≤ 1000000000000) (w : World) (ht : Pow w) :
    Calls Tryz.prog 26 #[.int .i64 n] w fun e w' => e = .returned (.string (str (dec n))) ∧ Below w.heap.size w w' := by
  have H := Tryz.strconv_FormatInt_10 (n : Int) (by omega) (by omega) w ht
  rw [Lib.itoa_nonneg] at H
  have HH := Lib.hid H
  clear H ht
  go_enter Tryz.func26, Tryz.ntmps26
  go_wp2_with fail
  refine HH.out.mono ?_
  rintro e w' ⟨rfl, k, os, rfl⟩
  go_wp2_with fail
  go_ret
  exact ⟨rfl, Lib.below_grow _ _ (Nat.le_refl _) _ _⟩
theorem repeatL_one (k : Nat) : Lib.repeatL [48] k = List.replicate k 48 := by
  induction k with
  | zero => rfl
  | succ k ih => simp only [Lib.repeatL] at ih ⊢; first | (rw [List.replicate_succ]; simp [ih]) | simp_all [List.replicate_succ]
theorem digits_any (n k : Nat) (hn : n ≤ 1000000000000) (hk : k ≤ 10) (w : World) (ht : ∀ w', Below w.heap.size w w' → Pow w') :
    Calls Tryz.prog 52 #[.int .i64 n, .int .i64 k] w fun e w' => e = .returned (.string (str (pad k n))) ∧ Below w.heap.size w w' := by
  have HT := Lib.hid (text_any n hn w (ht w (Below.refl _ _)))
  have hl := dec_len 12 n (by omega)
  obtain ⟨L, hL⟩ : ∃ L, L = dec n := ⟨_, rfl⟩
  have HP := Lib.hid (show str (List.replicate (k - L.length) 48) ++ str L = str (pad k n) from by rw [str_add, hL]; rfl)
  rw [← hL] at HT hl
  clear hL ht
  have hsz : (str L).size = L.length := str_size L
  have HS := Lib.hid hsz
  have hr1 : (str (List.replicate (k - L.length) 48)).size ≤ 10 := by rw [str_size]; simp; omega
  have HR := Lib.hid (fun w' => Tryz.strings_Repeat ⟨#[48]⟩ (k - L.length) w' (by omega) (by simp [ByteArray.size]; omega))
  have HRL := Lib.hid (show (⟨(Lib.repeatL (ByteArray.mk #[48]).data.toList (k - L.length)).toArray⟩ : ByteArray) = str (List.replicate (k - L.length) 48) from by unfold str; rw [show (ByteArray.mk #[48]).data.toList = [48] from rfl, repeatL_one])
  have hmx : max 0 ((k : Int) - (L.length : Int)) = ((k - L.length : Nat) : Int) := by omega
  have HM := Lib.hid hmx
  clear hsz hmx
  go_enter Tryz.func52, Tryz.ntmps52
  go_wp2_with fail
  refine HT.out.mono ?_
  rintro e w1 ⟨rfl, hb⟩
  have HB1 := Lib.hid hb
  clear hb HT
  go_wp2_with fail
  rw [show max 0 (wrap64 ((k : Int) - ((str L).size : Int))) = ((k - L.length : Nat) : Int) from by rw [HS.out]; unfold wrap64; omega]
  refine (HR.out _).mono ?_
  rintro e w2 ⟨rfl, hb⟩
  rw [HRL.out]
  have HB2 := Lib.hid (HB1.out.trans (hb.mono HB1.out.size))
  have hs2 : (str L).size ≤ 20 := by rw [HS.out]; omega
  clear hb HR
  go_wp2_with fail
  rw [HP.out]
  go_ret
  exact ⟨rfl, HB2.out⟩
end Go.Proofs.YthlnoahjfllhfaaGreatDoor

/- Walks: the text of a redress, both sides. -/
import Derived.Test.YtnpldahkhaacnaaGreatDoorZmb
import Derived.Test.YtnpldahkhaacnaaGreatDoorZma
import Derived.Lib.QuietBelow
namespace Go.Proofs.YtnpldahkhaacnaaGreatDoor
open Go.RowKit Go.Sort
set_option linter.unusedVariables false
set_option maxRecDepth 100000

theorem redS_no {x : RdX} (h : rdOk x = false) : redS x = [] := by unfold redS; rw [if_neg (by rw [h]; simp)]
theorem redS_yes {x : RdX} (h : rdOk x = true) : redS x = redL x := by unfold redS; rw [if_pos h]
theorem red_str (r b k p : Int) : str (redL (r, b, k, p)) = if k = 3 then str (dec r.toNat) ++ ⟨#[32]⟩ ++ str (dec b.toNat) ++ ⟨#[32]⟩ ++ str (kw k) ++ (⟨#[32]⟩ ++ str (dec p.toNat)) else str (dec r.toNat) ++ ⟨#[32]⟩ ++ str (dec b.toNat) ++ ⟨#[32]⟩ ++ str (kw k) := by
  have e : (⟨#[32]⟩ : ByteArray) = str [32] := rfl
  unfold redL
  simp only
  split <;> simp [e, str_add]
theorem implIsRed_any (r b k p : Int) (w : World) :
    Calls Tryz.prog 85 #[.agg #[.int .i64 r, .int .i64 b, .int .i64 k, .int .i64 p]] w fun e w' => e = .returned (.bool (rbB k p)) ∧ Below w.heap.size w w' := by
  have HP := Lib.hid (fun w' => within_any p 0 10000 w')
  have HK := Lib.hid (fun w' => within_any k 1 2 w')
  have HA := Lib.hid (fun o => (Below.refl w.heap.size w).alloc (Nat.le_refl _) o)
  unfold rbB
  by_cases h3 : k = 3
  · subst h3
    rw [if_pos rfl]
    generalize withinB p 0 10000 = y at *
    clear HK
    go_enter Tryz.func85, Tryz.ntmps85
    go_wp2_with fail
    refine (HP.out _).mono ?_
    rintro e w9 ⟨rfl, rfl⟩
    go_wp2_with fail
    go_ret
    exact ⟨rfl, HA.out _⟩
  · have h3b : (k == 3) = false := by simp [h3]
    rw [if_neg h3]
    clear h3
    generalize withinB k 1 2 = y at *
    cases y
    · simp only [Bool.false_and]
      go_enter Tryz.func85, Tryz.ntmps85
      go_wp2_with fail
      refine (HK.out _).mono ?_
      rintro e w9 ⟨rfl, rfl⟩
      go_wp2_with fail
      go_ret
      exact ⟨rfl, HA.out _⟩
    · simp only [Bool.true_and]
      go_enter Tryz.func85, Tryz.ntmps85
      go_wp2_with fail
      refine (HK.out _).mono ?_
      rintro e w9 ⟨rfl, rfl⟩
      go_wp2_with fail
      go_ret
      exact ⟨rfl, HA.out _⟩
end Go.Proofs.YtnpldahkhaacnaaGreatDoor

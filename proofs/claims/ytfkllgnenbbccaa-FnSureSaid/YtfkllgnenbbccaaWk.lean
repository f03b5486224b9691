/- Walks: sorted indices. -/
import Derived.Test.YtfkllgnenbbccaaWs
namespace Go.Proofs.Ytfkllgnenbbccaa
open Go.RowKit
set_option linter.unusedVariables false
set_option maxRecDepth 100000

def sgn (v : Int) : Int := if v < 0 then -1 else if 0 < v then 1 else 0
theorem sgn_neg (v : Int) : decide (sgn v < 0) = decide (v < 0) := by unfold sgn; split <;> (try split) <;> simp <;> omega
theorem sign_any (v : Int) (w : World) : Calls Try.prog 77 #[.int .i64 v] w fun e w' => e = .returned (.int .i64 (sgn v)) ∧ w = w' := by
  by_cases h1 : v < 0
  · have e : sgn v = -1 := by unfold sgn; rw [if_pos h1]
    rw [e]
    go_enter Try.func77, Try.ntmps77
    go_wp2_with fail
    go_ret
    refine ⟨ret_int ?_, rfl⟩
    omega
  · by_cases h2 : 0 < v
    · have e : sgn v = 1 := by unfold sgn; rw [if_neg h1, if_pos h2]
      rw [e]
      go_enter Try.func77, Try.ntmps77
      go_wp2_with fail
      go_ret
      refine ⟨ret_int ?_, rfl⟩
      omega
    · have e : sgn v = 0 := by unfold sgn; rw [if_neg h1, if_neg h2]
      obtain rfl : v = 0 := by omega
      rw [e]
      go_enter Try.func77, Try.ntmps77
      go_wp2_with fail
      go_ret
      exact ⟨rfl, rfl⟩

theorem cmp_any (B : Nat) (a b v : Int) (pa pb : Option Addr) (W : World) (hcell : W.cell? ⟨B, 0, none⟩ = some (.func (.func 67) #[] #[.pointer pa, .pointer pb]))
    (hc : Calls Try.prog 67 #[.int .i64 a, .int .i64 b, .pointer pa, .pointer pb] W fun e w' => e = .returned (.int .i64 v) ∧ Drawn W w') :
    Calls Try.prog 76 #[.int .i64 a, .int .i64 b, .pointer (some ⟨B, 0, none⟩)] W fun e w' => e = .returned (.int .i64 (sgn v)) ∧ Drawn W w' := by
  have HC := Lib.hid hc
  clear hc
  go_enter Try.func76, Try.ntmps76
  go_wp2_with fail
  refine HC.out.mono ?_
  rintro e w1 ⟨rfl, hd⟩
  go_wp2_with fail
  refine (sign_any _ _).mono ?_
  rintro e w2 ⟨rfl, rfl⟩
  go_wp2_with fail
  go_ret
  exact ⟨rfl, hd⟩

theorem sortedIndices_any (n : Nat) (hn : n ≤ 16) (pa pb : Option Addr) (cf : Int → Int → Int) (lt : Int → Int → Bool) (hcf : ∀ a b, decide (cf a b < 0) = lt a b) (w : World)
    (hc : ∀ W, Below w.heap.size w W → ∀ a b : Int, 0 ≤ a → a < n → 0 ≤ b → b < n → Calls Try.prog 67 #[.int .i64 a, .int .i64 b, .pointer pa, .pointer pb] W fun e w' => e = .returned (.int .i64 (cf a b)) ∧ Drawn W w') :
    Calls Try.prog 66 #[.int .i64 (n : Int), .func (.func 67) #[] #[.pointer pa, .pointer pb]] w (RetCopy w (insSort lt (idx n))) := by
  have HC := Lib.hid hc
  clear hc
  go_enter Try.func66, Try.ntmps66
  go_wp2_with fail
  obtain ⟨wb, hwb⟩ : ∃ wb, wb = w.alloc (.cells #[.func (.func 67) #[] #[.pointer pa, .pointer pb]] 68) := ⟨_, rfl⟩
  have hcb : wb.cell? ⟨w.heap.size, 0, none⟩ = some (.func (.func 67) #[] #[.pointer pa, .pointer pb]) := by rw [hwb]; exact cell_new1 _ _ _
  have hsb : wb.heap.size = w.heap.size + 1 := by rw [hwb]; simp
  have hbb : Below w.heap.size w wb := by rw [hwb]; exact (Below.refl _ _).alloc (Nat.le_refl _) _
  have hoe := own_empty wb wb.heap.size 2 (Nat.le_refl _)
  have hbe : Below wb.heap.size wb (wb.alloc (.cells #[] 2)) := (Below.refl _ _).alloc (Nat.le_refl _) _
  rw [← hwb]
  rw [show w.heap.size + 1 = wb.heap.size from hsb.symm]
  have HBB := Lib.hid hbb; have HCB := Lib.hid hcb
  have HSB := Lib.hid hsb
  clear hwb hbb hcb hsb
  go_loopw [5, 6, 9] (fun v _ i wr => ∃ (k g' c' : Nat), k ≤ n ∧ i = .int .i64 k ∧ v = .slice (some ⟨g', 0, none⟩) k c' ∧ wr.ownsRow wb.heap.size 2 1 (.slice (some ⟨g', 0, none⟩) k c') k (ints ((idx n).take k)) ∧ Below wb.heap.size wb wr) (fun _ _ i _ => n - (intOf i).toNat)
  case atStart => exact ⟨0, _, 0, Nat.zero_le _, rfl, rfl, hoe, hbe⟩
  case round =>
    clear hoe hbe
    obtain ⟨k, g', c', hk, rfl, rfl, ho, hb⟩ := hrel
    have hsz := hb.size
    by_cases hlt : k < n
    · go_wp2_with (at_builtin; refine app_i64 _ rfl _ _ rfl rfl (ho.alloc _) rfl (cell_new1 _ _ _) (by omega) ?cB ?_; rotate_left; intro A1 c1 w1 hown1 hgr1)
      · obtain ⟨g1, _, rfl, _, _, _⟩ := own_at hown1 (k := 0) (by omega)
        go_roundw
        case rel =>
          exact ⟨k + 1, _, _, by omega, by go_num, rfl, by rw [take_snoc_get (idx_get hlt)]; exact hown1, below_app hb hsz (Nat.le_refl _) ho hgr1⟩
        case measure => simp [intOf]; omega
      · simp; omega
    · obtain rfl : k = n := by omega
      rw [List.take_of_length_le (by rw [idx_length]; omega)] at ho
      have hg := ho.lt g' rfl
      have hst := stable_any g' c' k wb.heap.size (idx k) (some ⟨w.heap.size, 0, none⟩) (fun a b => sgn (cf a b)) lt (fun a b => by rw [sgn_neg]; exact hcf a b) wr hn ho (fun W hW a b ha hb' => by
        have h1 := idx_mem.1 ha
        have h2 := idx_mem.1 hb'
        have hbW : Below wb.heap.size wb W := below_chg hb hW hg.1 hsz
        refine cmp_any w.heap.size a b (cf a b) pa pb W ?_ (HC.out W (HBB.out.trans (hbW.mono HBB.out.size)) a b h1.1 h1.2 h2.1 h2.2)
        exact Keeps.below hbW _ _ HCB.out)
      have HST := Lib.hid hst
      clear hst ho hcf
      go_wp2_with fail
      refine HST.out.mono ?_
      rintro e w1 ⟨rfl, ho1, hc1⟩
      have hb1 := below_chg hb hc1 hg.1 hsz
      have hb2 := HBB.out.trans (hb1.mono HBB.out.size)
      have O1 := Lib.hid (own_base ho1 HBB.out.size)
      clear ho1
      go_wp2_with fail
      go_ret
      exact ⟨_, _, _, rfl, O1.out, by omega, hb2⟩
end Go.Proofs.Ytfkllgnenbbccaa

/- Walks: the numbers of words in the reference's console. -/
import Derived.Test.YtnpldahkhaacnaaGreatDoorZmd
import Derived.Test.YtnpldahkhaacnaaGreatDoorQs
namespace Go.Proofs.YtnpldahkhaacnaaGreatDoor
open Go.RowKit Go.Sort
set_option linter.unusedVariables false
set_option maxRecDepth 100000

def allVal (ws : List (List UInt8)) : Bool := ws.all fun w => (valF w).2
/-- Result: new memory that holds the numbers of words, where all are ones. -/
def RetVB (w : World) (ws : List (List UInt8)) (e : Ending) (w' : World) : Prop :=
  ∃ A n c, e = .returned (.tuple #[.slice A n c, .bool (allVal ws)]) ∧ (allVal ws = true → Rd w' 1 A n (ints (ws.map fun w => (valF w).1))) ∧ Below w.heap.size w w'
set_option maxHeartbeats 2000000 in
theorem valuesQ_any (A : Option Addr) (n c : Nat) (ws : List (List UInt8)) (w : World) (h : Rd w 1 A n (strs ws)) (hn : n ≤ 4194304) (hsh : ∀ x ∈ ws, x.length ≤ 2097152) :
    Calls Tryz.prog 113 #[.slice A n c] w (RetVB w ws) := by
  have HR := Lib.hid h
  have HLN := Lib.hid h.len_str
  have HSH := Lib.hid hsh
  have HV0 := Lib.hid (show (ws.map fun w => (valF w).1) = [] ++ ((ws.drop 0).map fun w => (valF w).1) from by simp)
  clear h hsh
  go_enter Tryz.func113, Tryz.ntmps113
  go_wp2_with fail
  have HO0 := Lib.hid (show (w.alloc (.cells #[] 2)).ownsRow w.heap.size 2 1 (.slice (some ⟨w.heap.size, 0, none⟩) 0 0) 0 (ints []) from own_emptyS w w.heap.size 2 1 (Nat.le_refl _))
  have HB0 := Lib.hid ((Below.refl w.heap.size w).alloc (Nat.le_refl _) (.cells #[] 2))
  go_loopw [4, 5] (fun o i wr => ∃ (k cc : Nat) (B : Option Addr) (out : List Int), k ≤ n ∧ o = .slice B k cc ∧ i = .int .i64 k ∧ Hid (allVal ws = allVal (ws.drop k)) ∧ Hid ((ws.map fun w => (valF w).1) = out ++ ((ws.drop k).map fun w => (valF w).1)) ∧ Hid (wr.ownsRow w.heap.size 2 1 (.slice B k cc) k (ints out)) ∧ Hid (Below w.heap.size w wr)) (fun _ i _ => n - (intOf i).toNat)
  case atStart => exact ⟨0, 0, _, [], Nat.zero_le _, rfl, rfl, Lib.hid (by rw [List.drop_zero]), HV0, HO0, HB0⟩
  case round =>
    clear HO0 HB0 HV0
    obtain ⟨k, cc, B, out, hk, rfl, rfl, HI, HV, HO, HB⟩ := hrel
    obtain ⟨wo, hwo⟩ : ∃ wo : World, wo = wr := ⟨_, rfl⟩
    subst hwo
    by_cases hlt : k < n
    · have hkd : decide ((k : Int) < (n : Int)) = true := by simpa using hlt
      obtain ⟨b, of, x, rfl, hx, hd, hc⟩ := (HR.out.below HB.out).str hlt
      have hlx := HSH.out x (List.mem_of_getElem? hx)
      have HN := Lib.hid (value_any (str x) (by rw [str_size]; exact hlx) wo)
      rw [str_list] at HN
      have HI2 := Lib.hid (show allVal ws = ((valF x).2 && allVal (ws.drop (k + 1))) from by rw [HI.out, hd]; rfl)
      have HV2 := Lib.hid (show (ws.map fun w => (valF w).1) = out ++ [(valF x).1] ++ ((ws.drop (k + 1)).map fun w => (valF w).1) from by rw [HV.out, hd]; simp)
      generalize valF x = r at *
      obtain ⟨v, ok⟩ := r
      simp only at HI2 HV2
      clear hx hd hlx HI HV
      cases ok with
      | false =>
        simp only [Bool.false_and] at HI2
        go_wp2_with fail
        refine HN.out.mono ?_
        rintro e w1 ⟨rfl, hb⟩
        have HB1 := Lib.hid (HB.out.trans (hb.mono HB.out.size))
        clear hb hc HN HO
        simp only
        go_wp2_with fail
        go_ret2
        exact ⟨_, _, _, by rw [HI2.out]; rfl, (fun h => by rw [HI2.out] at h; cases h), HB1.out⟩
      | true =>
        simp only [Bool.true_and] at HI2
        go_wp2_with fail
        refine HN.out.mono ?_
        rintro e w1 ⟨rfl, hb⟩
        have HB1 := Lib.hid (HB.out.trans (hb.mono HB.out.size))
        have HO1 := Lib.hid (own_below HO.out hb)
        have hbs := HB1.out.size
        clear hb hc HN HO
        simp only
        go_wp2_with (at_builtin; refine app_numQ (y := v) _ rfl _ _ rfl rfl (own_below HO1.out ((Below.refl _ _).alloc (Nat.le_refl _) _)) rfl (heap_alloc_new _ _) (by omega) ?cBa ?_; rotate_left; intro g9 c9 w9 hown9 hgr9 _ _)
        · have HB9 := Lib.hid ((HB1.out.alloc hbs _).grown hgr9 (by simp; omega) (fun j hj => (HO1.out.lt j hj).1))
          have HO9 := Lib.hid hown9
          clear hown9 hgr9
          go_roundw
          case rel => exact ⟨k + 1, c9, _, _, by omega, rfl, by go_num, HI2, HV2, HO9, HB9⟩
          case measure => simp [intOf] <;> omega
        · first | omega | (simp; omega)
    · obtain rfl : k = n := by omega
      have hkd : decide ((k : Int) < (k : Int)) = false := by simp
      have hdn : ws.drop k = [] := List.drop_eq_nil_of_le (by have := HLN.out; omega)
      have hi := HI.out
      have hv := HV.out
      rw [hdn] at hi hv
      have HI2 := Lib.hid (show allVal ws = true from hi)
      have HV2 := Lib.hid (show (ws.map fun w => (valF w).1) = out from by rw [hv]; simp)
      clear hi hv hdn HI HV
      go_wp2_with fail
      go_ret2
      exact ⟨_, _, _, by rw [HI2.out]; rfl, (fun _ => by rw [HV2.out]; exact own_rd HO.out), HB.out⟩
end Go.Proofs.YtnpldahkhaacnaaGreatDoor

/- Walks: short numbers out of words (the program's side); codes read, both sides. -/
import Derived.Test.YtnpldahkhaacnaaGreatDoorZma
import Derived.Test.YtnpldahkhaacnaaGreatDoorQe
import Derived.Test.YtnpldahkhaacnaaGreatDoorZmb
namespace Go.Proofs.YtnpldahkhaacnaaGreatDoor
open Go.RowKit Go.Sort
set_option linter.unusedVariables false
set_option maxRecDepth 100000

def shortF (w : List UInt8) : Int × Bool := ((numF w).1, (numF w).2 && decide ((Lib.trimPrefix w [45]).length ≤ 15))
theorem short_any (s : ByteArray) (hs : s.size ≤ 2097152) (w : World) (hp : Pow w) (he : ErrV w) (hpb : ∀ w', Below w.heap.size w w' → Pow w') :
    Calls Tryz.prog 95 #[.string s] w fun e w' => e = .returned (.tuple #[.int .i64 (shortF s.data.toList).1, .bool (shortF s.data.toList).2]) ∧ Below w.heap.size w w' := by
  have HN := Lib.hid (number_any' s hs w hp he hpb)
  have HT := Lib.hid (fun w' => Tryz.strings_TrimPrefix s ⟨#[45]⟩ w')
  have hz : (⟨(Lib.trimPrefix s.data.toList (ByteArray.mk #[45]).data.toList).toArray⟩ : ByteArray).size = (Lib.trimPrefix s.data.toList [45]).length := by
    show (str _).size = _
    rw [str_size]
  unfold shortF
  generalize numF s.data.toList = r at *
  obtain ⟨v, ok⟩ := r
  have HZ := Lib.hid hz
  generalize (Lib.trimPrefix s.data.toList [45]).length = m at *
  generalize (⟨(Lib.trimPrefix s.data.toList (ByteArray.mk #[45]).data.toList).toArray⟩ : ByteArray) = Z at *
  simp only at HN ⊢
  clear hz hp he hpb
  cases ok with
  | false =>
    simp only [Bool.false_and]
    go_enter Tryz.func95, Tryz.ntmps95
    go_wp2_with fail
    refine HN.out.mono ?_
    rintro e w1 ⟨rfl, hb⟩
    have HB1 := Lib.hid hb
    clear hb
    go_wp2_with fail
    go_ret2
    exact ⟨rfl, HB1.out⟩
  | true =>
    simp only [Bool.true_and]
    go_enter Tryz.func95, Tryz.ntmps95
    go_wp2_with fail
    refine HN.out.mono ?_
    rintro e w1 ⟨rfl, hb⟩
    have HB1 := Lib.hid hb
    clear hb
    go_wp2_with fail
    refine (HT.out _).mono ?_
    rintro e w2 ⟨rfl, rfl⟩
    go_wp2_with fail
    go_ret2
    exact ⟨by rw [← HZ.out]; simp; omega, HB1.out⟩
def allShort (ws : List (List UInt8)) : Bool := ws.all fun w => (shortF w).2
/-- Result: new memory that holds the short numbers of words, where all are ones. -/
def RetNB (w : World) (ws : List (List UInt8)) (e : Ending) (w' : World) : Prop :=
  ∃ A n c, e = .returned (.tuple #[.slice A n c, .bool (allShort ws)]) ∧ (allShort ws = true → Rd w' 1 A n (ints (ws.map fun w => (shortF w).1))) ∧ Below w.heap.size w w'
set_option maxHeartbeats 2000000 in
theorem shorts_any (A : Option Addr) (n c : Nat) (ws : List (List UInt8)) (w : World) (h : Rd w 1 A n (strs ws)) (hn : n ≤ 4194304) (hsh : ∀ x ∈ ws, x.length ≤ 2097152) (HL : ∀ w', Below w.heap.size w w' → Libs w') :
    Calls Tryz.prog 67 #[.slice A n c] w (RetNB w ws) := by
  have HR := Lib.hid h
  have HLN := Lib.hid h.len_str
  have HSH := Lib.hid hsh
  have HLL := Lib.hid HL
  have HV0 := Lib.hid (show (ws.map fun w => (shortF w).1) = [] ++ ((ws.drop 0).map fun w => (shortF w).1) from by simp)
  clear h hsh HL
  go_enter Tryz.func67, Tryz.ntmps67
  go_wp2_with fail
  have HO0 := Lib.hid (show (w.alloc (.cells #[] 2)).ownsRow w.heap.size 2 1 (.slice (some ⟨w.heap.size, 0, none⟩) 0 0) 0 (ints []) from own_emptyS w w.heap.size 2 1 (Nat.le_refl _))
  have HB0 := Lib.hid ((Below.refl w.heap.size w).alloc (Nat.le_refl _) (.cells #[] 2))
  go_loopw [4, 12] (fun o i wr => ∃ (k cc : Nat) (B : Option Addr) (out : List Int), k ≤ n ∧ o = .slice B k cc ∧ i = .int .i64 k ∧ Hid (allShort ws = allShort (ws.drop k)) ∧ Hid ((ws.map fun w => (shortF w).1) = out ++ ((ws.drop k).map fun w => (shortF w).1)) ∧ Hid (wr.ownsRow w.heap.size 2 1 (.slice B k cc) k (ints out)) ∧ Hid (Below w.heap.size w wr)) (fun _ i _ => n - (intOf i).toNat)
  case atStart => exact ⟨0, 0, _, [], Nat.zero_le _, rfl, rfl, Lib.hid (by rw [List.drop_zero]), HV0, HO0, HB0⟩
  case round =>
    clear HO0 HB0 HV0
    obtain ⟨k, cc, B, out, hk, rfl, rfl, HI, HV, HO, HB⟩ := hrel
    obtain ⟨wo, hwo⟩ : ∃ wo : World, wo = wr := ⟨_, rfl⟩
    subst hwo
    by_cases hlt : k < n
    · have hkd : decide ((k : Int) < (n : Int)) = true := by simpa using hlt
      obtain ⟨b, of, x, rfl, hx, hd, hc⟩ := (HR.out.below HB.out).str hlt
      have hlx := HSH.out x (List.mem_of_getElem? hx)
      have hlib := HLL.out _ HB.out
      have HN := Lib.hid (short_any (str x) (by rw [str_size]; exact hlx) wo hlib.pow hlib.err (fun w' hb => (HLL.out _ (HB.out.trans (hb.mono HB.out.size))).pow))
      rw [str_list] at HN
      have HI2 := Lib.hid (show allShort ws = ((shortF x).2 && allShort (ws.drop (k + 1))) from by rw [HI.out, hd]; rfl)
      have HV2 := Lib.hid (show (ws.map fun w => (shortF w).1) = out ++ [(shortF x).1] ++ ((ws.drop (k + 1)).map fun w => (shortF w).1) from by rw [HV.out, hd]; simp)
      generalize shortF x = r at *
      obtain ⟨v, ok⟩ := r
      simp only at HI2 HV2
      clear hx hd hlx hlib HI HV
      cases ok with
      | false =>
        simp only [Bool.false_and] at HI2
        go_wp2_with fail
        refine HN.out.mono ?_
        rintro e w1 ⟨rfl, hb⟩
        have HB1 := Lib.hid (HB.out.trans (hb.mono HB.out.size))
        clear hb hc HN HO
        simp only
        go_wp2_with fail
        go_ret2
        exact ⟨_, _, _, by rw [HI2.out]; rfl, (fun h => by rw [HI2.out] at h; cases h), HB1.out⟩
      | true =>
        simp only [Bool.true_and] at HI2
        go_wp2_with fail
        refine HN.out.mono ?_
        rintro e w1 ⟨rfl, hb⟩
        have HB1 := Lib.hid (HB.out.trans (hb.mono HB.out.size))
        have HO1 := Lib.hid (own_below HO.out hb)
        have hbs := HB1.out.size
        clear hb hc HN HO
        simp only
        go_wp2_with (at_builtin; refine app_numQ (y := v) _ rfl _ _ rfl rfl (own_below HO1.out ((Below.refl _ _).alloc (Nat.le_refl _) _)) rfl (heap_alloc_new _ _) (by omega) ?cBa ?_; rotate_left; intro g9 c9 w9 hown9 hgr9 _ _)
        · have HB9 := Lib.hid ((HB1.out.alloc hbs _).grown hgr9 (by simp; omega) (fun j hj => (HO1.out.lt j hj).1))
          have HO9 := Lib.hid hown9
          clear hown9 hgr9
          go_roundw
          case rel => exact ⟨k + 1, c9, _, _, by omega, rfl, by go_num, HI2, HV2, HO9, HB9⟩
          case measure => simp [intOf] <;> omega
        · first | omega | (simp; omega)
    · obtain rfl : k = n := by omega
      have hkd : decide ((k : Int) < (k : Int)) = false := by simp
      have hdn : ws.drop k = [] := List.drop_eq_nil_of_le (by have := HLN.out; omega)
      have hi := HI.out
      have hv := HV.out
      rw [hdn] at hi hv
      have HI2 := Lib.hid (show allShort ws = true from hi)
      have HV2 := Lib.hid (show (ws.map fun w => (shortF w).1) = out from by rw [hv]; simp)
      clear hi hv hdn HI HV
      go_wp2_with fail
      go_ret2
      exact ⟨_, _, _, by rw [HI2.out]; rfl, (fun _ => by rw [HV2.out]; exact own_rd HO.out), HB.out⟩
/-! ### Codes -/
def codeGo (L : List UInt8) : Nat → Int → Int × Bool
  | 0, _ => (0, false)
  | f + 1, c => if codeL c = L then (c, true) else codeGo L f (c + 1)
def codeOf (L : List UInt8) : Int × Bool := codeGo L 10 0
theorem codeOf_code {c : Int} (h : 0 ≤ c ∧ c ≤ 9) : codeOf (codeL c) = (c, true) := by
  have : c = 0 ∨ c = 1 ∨ c = 2 ∨ c = 3 ∨ c = 4 ∨ c = 5 ∨ c = 6 ∨ c = 7 ∨ c = 8 ∨ c = 9 := by omega
  rcases this with rfl | rfl | rfl | rfl | rfl | rfl | rfl | rfl | rfl | rfl <;> decide
set_option maxHeartbeats 2000000 in
theorem implReadCode_any (s : ByteArray) (w : World) :
    Calls Tryz.prog 68 #[.string s] w fun e w' => e = .returned (.tuple #[.int .i64 (codeOf s.data.toList).1, .bool (codeOf s.data.toList).2]) ∧ Below w.heap.size w w' := by
  have hst := str_data s
  generalize s.data.toList = L at *
  have HST := Lib.hid hst
  obtain ⟨R, hR⟩ : ∃ R, R = codeOf L := ⟨_, rfl⟩
  rw [← hR]
  have HR0 := Lib.hid (show codeGo L (10 - 0) ((0 : Nat) : Int) = R from hR.symm)
  clear hst hR
  go_enter Tryz.func68, Tryz.ntmps68
  go_wp2_with fail
  go_loopw [4] (fun i wr => ∃ k : Nat, k ≤ 10 ∧ i = .int .i64 k ∧ Hid (codeGo L (10 - k) k = R) ∧ Hid (Below w.heap.size w wr)) (fun i _ => 10 - (intOf i).toNat)
  case atStart => exact ⟨0, by omega, rfl, HR0, Lib.hid (Below.refl _ _)⟩
  case round =>
    clear HR0
    obtain ⟨k, hk, rfl, HI, HB⟩ := hrel
    obtain ⟨wo, hwo⟩ : ∃ wo : World, wo = wr := ⟨_, rfl⟩
    subst hwo
    by_cases hlt : k ≤ 9
    · have hkd : decide ((k : Int) ≤ 9) = true := by simp; omega
      have HC := Lib.hid (implCodeQ_any k wo)
      have hi := HI.out
      rw [show 10 - k = (10 - (k + 1)) + 1 from by omega, codeGo] at hi
      by_cases hE : codeL k = L
      · rw [if_pos hE] at hi
        have HI2 := Lib.hid hi
        have hZ : str (codeL k) = s := by rw [hE, HST.out]
        rw [hZ] at HC
        clear hi HI hE hZ
        go_wp2_with fail
        refine HC.out.mono ?_
        rintro e w1 ⟨rfl, hb⟩
        have HB1 := Lib.hid (HB.out.trans (hb.mono HB.out.size))
        clear hb HC
        go_wp2_with fail
        go_ret2
        exact ⟨by rw [← HI2.out]; rfl, HB1.out⟩
      · rw [if_neg hE, show (k : Int) + 1 = ((k + 1 : Nat) : Int) from by omega] at hi
        have HI2 := Lib.hid hi
        have hZ : ((str (codeL k)).toList == s.toList) = false := ne_list (fun e => hE (by rw [← str_list (codeL k), e, ← HST.out, str_list]))
        generalize str (codeL k) = Z at *
        clear hi HI hE
        go_wp2_with fail
        refine HC.out.mono ?_
        rintro e w1 ⟨rfl, hb⟩
        have HB1 := Lib.hid (HB.out.trans (hb.mono HB.out.size))
        clear hb HC
        go_wp2_with fail
        go_roundw
        case rel => exact ⟨k + 1, by omega, by go_num, HI2, HB1⟩
        case measure => simp [intOf] <;> omega
    · obtain rfl : k = 10 := by omega
      have hi := HI.out
      rw [Nat.sub_self] at hi
      have HI2 := Lib.hid (show (0, false) = R from hi)
      clear hi HI
      go_wp2_with fail
      go_ret2
      exact ⟨by rw [← HI2.out]; rfl, HB.out⟩
set_option maxHeartbeats 2000000 in
theorem specReadCode_any (s : ByteArray) (w : World) :
    Calls Tryz.prog 234 #[.string s] w fun e w' => e = .returned (.tuple #[.int .i64 (codeOf s.data.toList).1, .bool (codeOf s.data.toList).2]) ∧ Below w.heap.size w w' := by
  have hst := str_data s
  generalize s.data.toList = L at *
  have HST := Lib.hid hst
  obtain ⟨R, hR⟩ : ∃ R, R = codeOf L := ⟨_, rfl⟩
  rw [← hR]
  have HR0 := Lib.hid (show codeGo L (10 - 0) ((0 : Nat) : Int) = R from hR.symm)
  clear hst hR
  go_enter Tryz.func234, Tryz.ntmps234
  go_wp2_with fail
  go_loopw [4] (fun i wr => ∃ k : Nat, k ≤ 10 ∧ i = .int .i64 k ∧ Hid (codeGo L (10 - k) k = R) ∧ Hid (Below w.heap.size w wr)) (fun i _ => 10 - (intOf i).toNat)
  case atStart => exact ⟨0, by omega, rfl, HR0, Lib.hid (Below.refl _ _)⟩
  case round =>
    clear HR0
    obtain ⟨k, hk, rfl, HI, HB⟩ := hrel
    obtain ⟨wo, hwo⟩ : ∃ wo : World, wo = wr := ⟨_, rfl⟩
    subst hwo
    by_cases hlt : k ≤ 9
    · have hkd : decide ((k : Int) ≤ 9) = true := by simp; omega
      have HC := Lib.hid (specCodeQ_any k wo)
      have hi := HI.out
      rw [show 10 - k = (10 - (k + 1)) + 1 from by omega, codeGo] at hi
      by_cases hE : codeL k = L
      · rw [if_pos hE] at hi
        have HI2 := Lib.hid hi
        have hZ : str (codeL k) = s := by rw [hE, HST.out]
        rw [hZ] at HC
        clear hi HI hE hZ
        go_wp2_with fail
        refine HC.out.mono ?_
        rintro e w1 ⟨rfl, hb⟩
        have HB1 := Lib.hid (HB.out.trans (hb.mono HB.out.size))
        clear hb HC
        go_wp2_with fail
        go_ret2
        exact ⟨by rw [← HI2.out]; rfl, HB1.out⟩
      · rw [if_neg hE, show (k : Int) + 1 = ((k + 1 : Nat) : Int) from by omega] at hi
        have HI2 := Lib.hid hi
        have hZ : ((str (codeL k)).toList == s.toList) = false := ne_list (fun e => hE (by rw [← str_list (codeL k), e, ← HST.out, str_list]))
        generalize str (codeL k) = Z at *
        clear hi HI hE
        go_wp2_with fail
        refine HC.out.mono ?_
        rintro e w1 ⟨rfl, hb⟩
        have HB1 := Lib.hid (HB.out.trans (hb.mono HB.out.size))
        clear hb HC
        go_wp2_with fail
        go_roundw
        case rel => exact ⟨k + 1, by omega, by go_num, HI2, HB1⟩
        case measure => simp [intOf] <;> omega
    · obtain rfl : k = 10 := by omega
      have hi := HI.out
      rw [Nat.sub_self] at hi
      have HI2 := Lib.hid (show (0, false) = R from hi)
      clear hi HI
      go_wp2_with fail
      go_ret2
      exact ⟨by rw [← HI2.out]; rfl, HB.out⟩
end Go.Proofs.YtnpldahkhaacnaaGreatDoor

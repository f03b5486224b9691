/- Walks: the console's run over two lines (chapter 34). -/
import Derived.Test.YtnpldahkhaacnaaGreatDoorVf
namespace Go.Proofs.YtnpldahkhaacnaaGreatDoor
open Go.RowKit Go.Sort
set_option linter.unusedVariables false
set_option maxRecDepth 100000

def midL (r b c t : Int) : List UInt8 := openL ++ 10 :: enterS r b c t
def txtL (r b c t : Int) : List UInt8 := openL ++ 10 :: (enterS r b c t ++ [10])
theorem split_two (r b c t : Int) (w : World) (hm : MaxL w) :
    Calls Tryz.prog 66 #[.string (str (midL r b c t)), .string ⟨#[10]⟩] w fun e w' => e = .returned (.slice (some ⟨w.heap.size, 0, none⟩) 2 2) ∧ w' = w.alloc (.cells #[.string (str openL), .string (str (enterS r b c t))] 9) := by
  obtain ⟨m, hm⟩ := hm
  have hlen : (midL r b c t).length ≤ 100 := by
    have := enter_len (r := r) (b := b) (c := c) (t := t)
    unfold midL
    rw [List.length_append, List.length_cons]
    have : openL.length = 9 := rfl
    omega
  have H := Tryz.strings_Split (str (midL r b c t)) ⟨#[10]⟩ m w (by rw [str_size]; omega) hm (by decide)
  have hw := split_wordsN (str (midL r b c t))
  rw [str_list] at hw
  have hl : linesL (midL r b c t) = [openL, enterS r b c t] := lines_two r b c t
  rw [hl] at hw
  have hc0 : Lib.countB (str (midL r b c t)) ⟨#[10]⟩ + 1 = (linesL (str (midL r b c t)).data.toList).length := by
    rw [linesL_len]
    unfold Lib.countB
    rw [← Lib.count_one 10]
  have hc : Lib.countB (str (midL r b c t)) ⟨#[10]⟩ + 1 = 2 := by rw [hc0, str_list, hl]; rfl
  have hv : (Lib.splitB ⟨#[10]⟩ 0 (Lib.countB (str (midL r b c t)) ⟨#[10]⟩) (str (midL r b c t))).map Value.string = [.string (str openL), .string (str (enterS r b c t))] := by
    have h3 : (Lib.splitB ⟨#[10]⟩ 0 (Lib.countB (str (midL r b c t)) ⟨#[10]⟩) (str (midL r b c t))).map Value.string = ((Lib.splitB ⟨#[10]⟩ 0 (Lib.countB (str (midL r b c t)) ⟨#[10]⟩) (str (midL r b c t))).map (·.data.toList)).map (fun l => Value.string (str l)) := by
      rw [List.map_map]
      refine List.map_congr_left fun x _ => ?_
      show Value.string x = Value.string (str x.data.toList)
      rw [str_data]
    rw [h3, hw]
    rfl
  rw [hv, hc] at H
  exact H
theorem trim_any (r b c t : Int) (w : World) : Calls Tryz.prog 70 #[.string (str (txtL r b c t)), .string ⟨#[10]⟩] w fun e w' => e = .returned (.string (str (midL r b c t))) ∧ w' = w := by
  have hlen : (txtL r b c t).length ≤ 100 := by
    have := enter_len (r := r) (b := b) (c := c) (t := t)
    unfold txtL
    rw [List.length_append, List.length_cons, List.length_append]
    have : openL.length = 9 := rfl
    simp only [List.length_singleton]
    omega
  have H := Tryz.strings_TrimSuffix (str (txtL r b c t)) ⟨#[10]⟩ w (by rw [str_size]; omega)
  rw [str_list] at H
  have e : Lib.trimSuffix (txtL r b c t) (ByteArray.mk #[10]).data.toList = midL r b c t := trim_two _
  rw [e] at H
  exact H
theorem alloc_newD (w : World) (cs : Array Value) (T : TypeId) : ∃ w', w' = w.alloc (.cells cs T) ∧ Below w.heap.size w w' ∧ w'.heap.size = w.heap.size + 1 := ⟨_, rfl, (Below.refl _ _).alloc (Nat.le_refl _) _, by simp⟩
theorem cell_kept {w w' : World} {b i : Nat} {v : Value} {n : Nat} (h : Below n w w') (hc : w.cell? ⟨b, i, none⟩ = some v) (hb : b < n) : w'.cell? ⟨b, i, none⟩ = some v := (h.cell (p := ⟨b, i, none⟩) hb).trans hc
theorem own_apartD {w w' : World} {base e s n : Nat} {v : Value} {xs : List Value} (h : w.ownsRow base e s v n xs) {row : Option Nat} (hg : w.grownBy w' row) (hne : ∀ b, row = some b → v.ownBlock ≠ some b) : w'.ownsRow base e s v n xs :=
  h.kept hg (by
    cases row with
    | none => cases v.ownBlock <;> simp
    | some b => exact .inr (hne b rfl))
/-- The desk behind k lines. -/
def DeskAt (wr : World) (dA base : Nat) (r b c t : Int) (k : Nat) : Prop :=
  (k = 0 ∧ Box wr dA (deskC false 0 0 none 0 0) 61) ∨ (k = 1 ∧ Box wr dA (deskC true 16 0 none 0 0) 61) ∨
  (k = 2 ∧ ∃ A' c', Box wr dA (deskC true 16 0 A' 1 c') 61 ∧ wr.ownsRow base 25 7 (.slice A' 1 c') 1 (ents [(r, b, 1, c, t, 0, 0)]))
/-- The desk, the outputs and no error. -/
def RetRun (w : World) (r b c t : Int) (e : Ending) (w' : World) : Prop :=
  ∃ A' c' Ao no co, e = .returned (.tuple #[.agg (deskC true 16 0 A' 1 c'), .slice Ao no co, .int .i64 0]) ∧ w'.ownsRow w.heap.size 25 7 (.slice A' 1 c') 1 (ents [(r, b, 1, c, t, 0, 0)]) ∧ Below w.heap.size w w'
set_option maxHeartbeats 16000000 in
theorem run_two (r b c t : Int) (hv : ValidE r b c t) (w : World) (HL : ∀ w', Below w.heap.size w w' → Libs w') :
    Calls Tryz.prog 40 #[.string (str (txtL r b c t))] w (RetRun w r b c t) := by
  have HLL := Lib.hid HL
  have HV := Lib.hid hv
  clear HL hv
  have HTR := Lib.hid (fun w => trim_any r b c t w)
  have HSP := Lib.hid (fun w hm => split_two r b c t w hm)
  have hsz : (str (txtL r b c t)).size ≤ 100 := by
    have := enter_len (r := r) (b := b) (c := c) (t := t)
    rw [str_size]
    unfold txtL
    rw [List.length_append, List.length_cons, List.length_append]
    have : openL.length = 9 := rfl
    simp only [List.length_singleton]
    omega
  have hem : (str (txtL r b c t)).toList.isEmpty = false := by rw [ByteArray.toList_eq, str_list]; rfl
  generalize str (txtL r b c t) = txt at *
  have hs6 : decide ((txt.size : Int) > 6000) = false := decide_eq_false (by omega)
  have hs7 : decide (6000 < txt.size) = false := decide_eq_false (by omega)
  have hs8 : decide ((6000 : Int) < (txt.size : Int)) = false := decide_eq_false (by omega)
  obtain ⟨wa, hwa, XR, hba, hsa⟩ := one_box w (deskC false 0 0 none 0 0) 61
  have HX := Lib.hid XR
  have HBA := Lib.hid hba
  have HWA := Lib.hid hwa
  clear XR hba hwa hsa
  go_enter Tryz.func40, Tryz.ntmps40
  go_wp2_with fail
  rw [show (w.alloc (.cells #[.bool false, .int .i64 0, .int .i64 0, .slice none 0 0, .slice none 0 0] 61)) = wa from HWA.out.symm]
  clear HWA
  refine (HTR.out _).mono ?_
  rintro e w' ⟨rfl, rfl⟩
  go_wp2_with fail
  refine (HSP.out _ (HLL.out _ HBA.out).max).mono ?_
  rintro e w' ⟨rfl, rfl⟩
  obtain ⟨w2, hw2, XL2, hb2, hs2⟩ := one_box w' #[.string (str openL), .string (str (enterS r b c t))] 9
  rw [← hw2]
  have HX2 := Lib.hid (HX.out.below hb2)
  have HB2 := Lib.hid (HBA.out.trans (hb2.mono HBA.out.size))
  have hcl0 : w2.cell? ⟨w'.heap.size, 0, none⟩ = some (.string (str openL)) := XL2.cell (i := 0) rfl
  have hcl1 : w2.cell? ⟨w'.heap.size, 1, none⟩ = some (.string (str (enterS r b c t))) := XL2.cell (i := 1) rfl
  have hlt2 := XL2.lt
  have HC0 := Lib.hid hcl0; have HC1 := Lib.hid hcl1
  clear hw2 hb2 XL2 hcl0 hcl1 hs2
  obtain ⟨wx, hwx, hbx, hsx⟩ := alloc_newD w2 #[] 9
  have hoe := own_emptyS w2 w2.heap.size 9 1 (Nat.le_refl _)
  rw [← hwx] at hoe
  obtain ⟨w3, hw3, X3, hb3, hs3⟩ := one_box wx (deskC false 0 0 none 0 0) 61
  have HO3 := Lib.hid (own_below hoe hb3)
  have HB3 := Lib.hid (hbx.trans (hb3.mono hbx.size))
  have HX3 := Lib.hid X3
  have HW3 := Lib.hid (show w3 = (w2.alloc (.cells #[] 9)).alloc (.cells #[.bool false, .int .i64 0, .int .i64 0, .slice none 0 0, .slice none 0 0] 61) from by rw [hw3, hwx]; rfl)
  rw [hsx] at HX3
  clear hoe hbx hb3 X3 hw3 hwx hs3 hsx
  go_wp2_with fail
  rw [← HW3.out]
  clear HW3
  go_loopw [7, 28] (fun l i wr => ∃ (k co : Nat) (Ao : Option Addr) (xs : List (List UInt8)), k ≤ 2 ∧ i = .int .i64 (k : Int) ∧ l = .slice Ao k co ∧ Hid (wr.ownsRow w2.heap.size 9 1 (.slice Ao k co) k (strs xs)) ∧ Hid (∀ q, (Value.slice Ao k co).ownBlock = some q → q ≠ w2.heap.size + 1) ∧ Hid (DeskAt wr (w2.heap.size + 1) (w2.heap.size + 2) r b c t k) ∧ Hid (Below w2.heap.size w2 wr)) (fun _ i _ => 2 - (intOf i).toNat)
  case atStart => exact ⟨0, 0, _, [], by omega, rfl, rfl, HO3, Lib.hid (fun q h => by simp [Value.ownBlock] at h; omega), Lib.hid (.inl ⟨rfl, HX3.out⟩), HB3⟩
  case round =>
    clear HO3 HX3 HB3
    obtain ⟨k, co, Ao, xs, hk, rfl, rfl, HO, HNE, HDK, HBW⟩ := hrel
    obtain ⟨wo, hwo⟩ : ∃ wo : World, wo = wr := ⟨_, rfl⟩
    subst hwo
    have hsl := HBW.out.size
    have hBL := HB2.out.trans (HBW.out.mono HB2.out.size)
    have HL2 := Lib.hid (fun w' (hb : Below wo.heap.size wo w') => HLL.out w' (hBL.trans (hb.mono hBL.size)))
    have HBL := Lib.hid hBL
    clear hBL
    have hc0 := cell_kept HBW.out HC0.out hlt2
    have hc1 := cell_kept HBW.out HC1.out hlt2
    rcases HDK.out with ⟨rfl, hx⟩ | ⟨rfl, hx⟩ | ⟨rfl, A', c', hx, hoE⟩
    · clear HDK
      have HX0 := Lib.hid hx
      clear hx
      go_wp2_with fail
      refine (exec_open (w2.heap.size + 1) _ _ _ _ _ wo HX0.out HL2.out).mono ?_
      rintro e w1 ⟨s1, rfl, hx1, hch⟩
      have hdl := HX0.out.lt
      have OU := own_chg HO.out hch (fun q hq => by have := HNE.out q hq; omega)
      have HB1 := Lib.hid (below_chg HBW.out hch (by omega) HBW.out.size)
      have hz1 := hch.size
      have HCH := Lib.hid hch
      clear hch hc0 hc1
      have HOU := Lib.hid OU
      have HX1 := Lib.hid hx1
      clear OU hx1
      go_wp2_with (at_builtin; refine app_str (l := s1) _ rfl _ _ rfl rfl rfl (own_below HOU.out ((Below.refl _ _).alloc (Nat.le_refl _) _)) rfl (heap_alloc_new _ _) (by omega) ?cB0 ?_; rotate_left; intro g9 c9 w9 hown9 hgr9 hwh9 hg9)
      · have hnb : w2.heap.size + 1 < w1.heap.size := by omega
        have XD9 := (HX1.out.below ((Below.refl _ _).alloc (Nat.le_refl _) (.cells #[.string (str s1)] 9))).grown hgr9 (fun e => HNE.out _ e rfl)
        have HB9 := Lib.hid ((HB1.out.alloc HB1.out.size (.cells #[.string (str s1)] 9)).grown hgr9 (by simp; have := HB1.out.size; omega) (fun q hq => (HOU.out.lt q hq).1))
        have HN9 := Lib.hid (show ∀ q, (Value.slice (some ⟨g9, 0, none⟩) (0 + 1) c9).ownBlock = some q → q ≠ w2.heap.size + 1 from by
          intro q hq
          have hq2 : g9 = q := by simpa [Value.ownBlock] using hq
          subst hq2
          rcases hwh9 with h | h
          · exact HNE.out _ h
          · simp at h; omega)
        have HO9 := Lib.hid hown9
        have HDN : DeskAt w9 (w2.heap.size + 1) (w2.heap.size + 2) r b c t 1 := .inr (.inl ⟨rfl, XD9⟩)
        clear hown9 hgr9 hwh9 XD9
        go_roundw
        case rel => exact ⟨0 + 1, c9, _, _, by omega, by go_num, rfl, HO9, HN9, Lib.hid HDN, HB9⟩
        case measure => simp [intOf] <;> omega
      · first | (have := (HOU.out).1; have := HB1.out.size; omega) | (simp; have := HB1.out.size; omega)
    · clear HDK
      have HX0 := Lib.hid hx
      clear hx
      go_wp2_with fail
      refine (exec_enter (w2.heap.size + 1) r b c t HV.out wo HX0.out HL2.out).mono ?_
      rintro e w1 ⟨s1, A5, c5, rfl, hx1, hoE, hch⟩
      have hdl := HX0.out.lt
      have OU := own_chg HO.out hch (fun q hq => by have := HNE.out q hq; omega)
      have HB1 := Lib.hid (below_chg HBW.out hch (by omega) HBW.out.size)
      have hz1 := hch.size
      have HCH := Lib.hid hch
      have HOE := Lib.hid hoE
      clear hoE
      clear hch hc0 hc1
      have HOU := Lib.hid OU
      have HX1 := Lib.hid hx1
      clear OU hx1
      go_wp2_with (at_builtin; refine app_str (l := s1) _ rfl _ _ rfl rfl rfl (own_below HOU.out ((Below.refl _ _).alloc (Nat.le_refl _) _)) rfl (heap_alloc_new _ _) (by omega) ?cB1 ?_; rotate_left; intro g9 c9 w9 hown9 hgr9 hwh9 hg9)
      · have hnb : w2.heap.size + 1 < w1.heap.size := by omega
        have XD9 := (HX1.out.below ((Below.refl _ _).alloc (Nat.le_refl _) (.cells #[.string (str s1)] 9))).grown hgr9 (fun e => HNE.out _ e rfl)
        have HB9 := Lib.hid ((HB1.out.alloc HB1.out.size (.cells #[.string (str s1)] 9)).grown hgr9 (by simp; have := HB1.out.size; omega) (fun q hq => (HOU.out.lt q hq).1))
        have HN9 := Lib.hid (show ∀ q, (Value.slice (some ⟨g9, 0, none⟩) (1 + 1) c9).ownBlock = some q → q ≠ w2.heap.size + 1 from by
          intro q hq
          have hq2 : g9 = q := by simpa [Value.ownBlock] using hq
          subst hq2
          rcases hwh9 with h | h
          · exact HNE.out _ h
          · simp at h; omega)
        have HO9 := Lib.hid hown9
        have OE9 := own_apartD (own_below HOE.out ((Below.refl _ _).alloc (Nat.le_refl _) (.cells #[.string (str s1)] 9))) hgr9 (fun q hq he => by
          have h1 := (HOE.out.lt q he).1
          have h2 := (HO.out.lt q hq).2
          omega)
        have HDN : DeskAt w9 (w2.heap.size + 1) (w2.heap.size + 2) r b c t 2 := .inr (.inr ⟨rfl, A5, c5, XD9, own_base OE9 (by omega)⟩)
        clear hown9 hgr9 hwh9 XD9
        go_roundw
        case rel => exact ⟨1 + 1, c9, _, _, by omega, by go_num, rfl, HO9, HN9, Lib.hid HDN, HB9⟩
        case measure => simp [intOf] <;> omega
      · first | (have := (HOU.out).1; have := HB1.out.size; omega) | (simp; have := HB1.out.size; omega)
    · have hx' := hx
      unfold deskC at hx'
      have FD := hx'.f5
      have FX := (HX2.out.kept HBW.out (by have := HX2.out.lt; exact this))
      have FXX := FX
      unfold deskC at FXX
      have FX5 := FXX.f5
      clear FXX hx' hc0 hc1
      have HOE := Lib.hid hoE
      clear HDK hx hoE
      go_wp2_with fail
      refine bodyPost_ret (v := .tuple #[.agg (deskC true 16 0 A' 1 c'), .slice Ao 2 co, .int .i64 0]) (by simp [results, Tryz.results40, go_sem, FX5, deskC]) rfl ?_
      have hput := put_chg (g := w.heap.size) [.bool true, .int .i64 16, .int .i64 0, .slice A' 1 c', .slice none 0 0] 0 (Chg.refl w.heap.size (w.heap.size + 1) wo) (Nat.le_refl _) (by omega)
      have hz2 := HB2.out.size
      have hza := HBA.out.size
      exact ⟨A', c', Ao, 2, co, rfl, own_base (own_chg HOE.out hput (fun q hq => .inr (by have := (HOE.out.lt q hq).1; omega))) (by omega), below_chg HBL.out hput (Nat.le_refl _) HBL.out.size⟩
set_option maxHeartbeats 4000000 in
theorem consReg_two (r b c t : Int) (hv : ValidE r b c t) (w : World) (HL : ∀ w', Below w.heap.size w w' → Libs w') :
    Calls Tryz.prog 13 #[.string (str (txtL r b c t))] w fun e w' => ∃ A' c', e = .returned (.tuple #[.agg #[.int .i64 16, .int .i64 0, .slice A' 1 c'], .int .i64 0]) ∧ w'.ownsRow w.heap.size 25 7 (.slice A' 1 c') 1 (ents [(r, b, 1, c, t, 0, 0)]) ∧ Below w.heap.size w w' := by
  have HR := Lib.hid (fun w' (hb : Below w.heap.size w w') => run_two r b c t hv w' (fun w2 h2 => HL w2 (hb.trans (h2.mono hb.size))))
  generalize str (txtL r b c t) = txt at *
  clear HL hv
  obtain ⟨wa, hwa, XR, hba, hsa⟩ := one_box w #[.int .i64 0, .int .i64 0, .slice none 0 0] 32
  have HX := Lib.hid XR
  have HBA := Lib.hid hba
  clear XR hba
  go_enter Tryz.func13, Tryz.ntmps13
  go_wp2_with fail
  rw [← hwa]
  clear hwa
  (try go_wp2_with fail)
  refine (HR.out _ HBA.out).mono ?_
  rintro e w1 ⟨A', c', Ao, no, co, rfl, ho, hb1⟩
  unfold deskC
  have HX1 := Lib.hid (HX.out.below hb1)
  have HB1 := Lib.hid (HBA.out.trans (hb1.mono HBA.out.size))
  have HO1 := Lib.hid ho
  have hz1 := hb1.size
  obtain ⟨w2, hw2, X2, hb2, hs2⟩ := one_box w1 #[.bool true, .int .i64 16, .int .i64 0, .slice A' 1 c', .slice none 0 0] 61
  have HW2 := Lib.hid hw2
  have HX2 := Lib.hid (HX1.out.below hb2)
  have HY2 := Lib.hid X2
  have HB2 := Lib.hid (HB1.out.trans (hb2.mono HB1.out.size))
  have HO2 := Lib.hid (own_below HO1.out hb2)
  have FY := X2.f5
  have FX := HX2.out.f3
  have hlx := HX2.out.lt
  rw [hw2] at FY FX
  clear hw2 X2 hb1 ho hb2
  go_wp2_with fail
  rw [← HW2.out] at FX FY ⊢
  refine bodyPost_ret (v := .tuple #[.agg #[.int .i64 16, .int .i64 0, .slice A' 1 c'], .int .i64 0]) (by simp [results, Tryz.results13, go_sem, FX]) rfl ?_
  have hput := put_chg (g := w.heap.size) [.int .i64 16, .int .i64 0, .slice A' 1 c'] 0 (Chg.refl w.heap.size (w.heap.size + 1) w2) (Nat.le_refl _) (by omega)
  exact ⟨A', c', rfl, own_base (own_chg HO2.out hput (fun q hq => .inr (by have := (HO2.out.lt q hq).1; omega))) (by omega), below_chg HB2.out hput (Nat.le_refl _) HB2.out.size⟩
end Go.Proofs.YtnpldahkhaacnaaGreatDoor

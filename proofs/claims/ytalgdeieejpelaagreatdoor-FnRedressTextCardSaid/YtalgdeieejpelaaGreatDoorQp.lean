/- Walks: redress read from a text, the program's side. -/
import Derived.Test.YtalgdeieejpelaaGreatDoorQo
import Derived.Test.YtalgdeieejpelaaGreatDoorZmb
import Derived.RegionTactic
import Derived.Deep.LoopGhost
namespace Go.Proofs.YtalgdeieejpelaaGreatDoor
open Go.RowKit Go.Sort
set_option linter.unusedVariables false
set_option maxRecDepth 100000

def outR : Option RdX → RdX × Bool
  | some x => (x, true)
  | none => ((0, 0, 0, 0), false)
def RetRd (w : World) (o : Option RdX) (e : Ending) (w' : World) : Prop :=
  e = .returned (.tuple #[.agg #[.int .i64 (outR o).1.1, .int .i64 (outR o).1.2.1, .int .i64 (outR o).1.2.2.1, .int .i64 (outR o).1.2.2.2], .bool (outR o).2]) ∧ Below w.heap.size w w'
theorem Rd.num {w : World} {A : Option Addr} {n k : Nat} {xs : List Int} (h : Rd w 1 A n (ints xs)) (hk : k < n) : ∃ b o, A = some ⟨b, o, none⟩ ∧ w.cell? ⟨b, o + k, none⟩ = some (.int .i64 (xs.getD k 0)) := by
  obtain ⟨b, o, e, hc⟩ := h.pos (by omega)
  have hl : xs.length = n := by have := h.len; rw [ints_length] at this; omega
  have hx : xs[k]? = some (xs.getD k 0) := by simp [List.getD, List.getElem?_eq_getElem (show k < xs.length by omega)]
  exact ⟨b, o, e, hc k _ (ints_get hx)⟩
theorem nums_at {ws : List (List UInt8)} {k : Nat} (hk : k < ws.length) : (nums ws).getD k 0 = (numF (ws.getD k [])).1 := by
  unfold nums
  simp [List.getD, List.getElem?_eq_getElem hk]
theorem word_len : ∀ (l : List UInt8), ∀ x ∈ wordsL l, x.length ≤ l.length := by
  intro l
  induction l with
  | nil => intro x hx; simp [wordsL] at hx; subst hx; simp
  | cons c r ih =>
    intro x hx
    by_cases h : c = 32
    · subst h
      rw [wordsL_blank] at hx
      rcases List.mem_cons.1 hx with rfl | hx
      · simp
      · have := ih x hx; simp; omega
    · rw [wordsL_char h] at hx
      cases hw : wordsL r with
      | nil => exact absurd hw (wordsL_ne r)
      | cons w ws =>
        rw [hw] at hx ih
        simp only [ahead] at hx
        rcases List.mem_cons.1 hx with rfl | hx
        · have := ih w List.mem_cons_self; simp; omega
        · have := ih x (List.mem_cons_of_mem _ hx); simp; omega
theorem word_short {s : ByteArray} (hs : s.size ≤ 2097152) : ∀ x ∈ wordsL s.data.toList, x.length ≤ 2097152 := by
  intro x hx
  have h1 := word_len _ x hx
  have h2 := Lib.size_eq s
  omega
set_option maxHeartbeats 4000000 in
theorem implRead_any (s : ByteArray) (hs : s.size ≤ 2097152) (w : World) (HL : ∀ w', Below w.heap.size w w' → Libs w') :
    Calls Tryz.prog 8 #[.string s] w (RetRd w (implR s.data.toList)) := by
  obtain ⟨wa, hwa, XR, hba, hsa⟩ := one_box w #[.int .i64 0, .int .i64 0, .int .i64 0, .int .i64 0] 25
  have HWA := Lib.hid hwa
  have HX := Lib.hid XR
  have HBA := Lib.hid hba
  have HWO := Lib.hid (wordsOf_any s hs wa (HL wa hba).max)
  have HSH := Lib.hid (show ∀ x ∈ wordsL s.data.toList, x.length ≤ 2097152 from word_short hs)
  have HLN := Lib.hid (show (wordsL s.data.toList).length ≤ 2097153 from by rw [wordsL_len]; have h1 : s.data.toList.count 32 ≤ s.data.toList.length := List.count_le_length; have h2 := (Lib.size_eq s).symm; omega)
  have HLL := Lib.hid HL
  have hL : implR s.data.toList = implR s.data.toList := rfl
  conv at hL => rhs; unfold implR
  have hst := str_data s
  generalize s.data.toList = L at *
  generalize wordsL L = ws at *
  generalize implR L = R at *
  have HEQ := Lib.hid hL
  have HST := Lib.hid hst
  clear XR hba hsa hwa HL hL hst
  go_enter Tryz.func8, Tryz.ntmps8
  go_wp2_with fail
  rw [← HWA.out]
  clear HWA
  refine HWO.out.mono ?_
  rintro e w1 ⟨A, n, c, rfl, hrd, hb⟩
  have hln := hrd.len_str
  have HB1 := Lib.hid (HBA.out.trans (hb.mono HBA.out.size))
  have HX1 := Lib.hid (HX.out.below hb)
  have HRD := Lib.hid hrd
  have hn2 : n ≤ 2097153 := by have := HLN.out; omega
  have HLEN := Lib.hid hln
  clear hb HWO HX HBA hrd hln
  by_cases h3 : n < 3
  · have h3b : decide ((n : Int) < 3) = true := by simp; omega
    have heq := HEQ.out
    rw [if_pos (by have := HLEN.out; omega)] at heq
    have HE2 := Lib.hid heq
    have FX := HX1.out.f4
    clear heq HEQ
    go_wp2_with fail
    refine bodyPost_ret (v := .tuple #[.agg #[.int .i64 0, .int .i64 0, .int .i64 0, .int .i64 0], .bool false]) (by simp [results, Tryz.results8, go_sem, FX]) rfl ?_
    rw [HE2.out]
    have hput := put_chg (g := w.heap.size) [.int .i64 0, .int .i64 0, .int .i64 0, .int .i64 0] 0 (Chg.refl w.heap.size (w.heap.size + 1) w1) (Nat.le_refl _) (by omega)
    exact ⟨rfl, below_chg HB1.out hput (Nat.le_refl _) HB1.out.size⟩
  have h3b : decide ((n : Int) < 3) = false := by simp; omega
  have HN := Lib.hid (numbersOf_any A n c ws w1 HRD.out (by omega) HSH.out (fun w' hb => HLL.out _ (HB1.out.trans (hb.mono HB1.out.size))))
  go_wp2_with fail
  refine HN.out.mono ?_
  rintro e w2 ⟨B, m, cc, rfl, hrn, hb⟩
  have HB2 := Lib.hid (HB1.out.trans (hb.mono HB1.out.size))
  have HX2 := Lib.hid (HX1.out.below hb)
  have hmn : m = n := by have h1 := hrn.len; rw [ints_length] at h1; unfold nums at h1; rw [List.length_map] at h1; have := HLEN.out; omega
  subst hmn
  -- REGION
  have heq := HEQ.out
  rw [if_neg (by have := HLEN.out; omega)] at heq
  obtain ⟨r0, hr0⟩ : ∃ r0, r0 = (numF (ws.getD 0 [])).1 := ⟨_, rfl⟩
  obtain ⟨b0, hb0⟩ : ∃ b0, b0 = (numF (ws.getD 1 [])).1 := ⟨_, rfl⟩
  rw [← hr0, ← hb0] at heq
  obtain ⟨bB, oB, rfl, c0⟩ := hrn.num (k := 0) (by omega)
  obtain ⟨bB', oB', e1, c1⟩ := hrn.num (k := 1) (by omega)
  injection e1 with e1
  injection e1 with e1 e2
  subst e1; subst e2
  rw [nums_at (by have := HLEN.out; omega)] at c0 c1
  rw [← hr0] at c0
  rw [← hb0] at c1
  rw [Nat.add_zero] at c0
  have HRN := Lib.hid hrn
  have HEQ2 := Lib.hid heq
  have hbB : bB < w2.heap.size := cell_lt c0
  have hm0 : 0 < m := by omega
  have hm1 : 1 < m := by omega
  clear hb HN HX1 HB1 HRD hrn heq HEQ hr0 hb0
  go_wp2_with fail
  go_region
  obtain ⟨xb, hxb⟩ : ∃ xb, xb = w2.heap.size := ⟨_, rfl⟩
  refine gen_world (p := fun wz => Exit.then _ _ _ _ wz) (fun wz => Box wz w2.heap.size #[.int .i64 r0, .int .i64 b0, .int .i64 0, .int .i64 0] 25 ∧ Below w2.heap.size w2 wz) ⟨Box.new w2 #[.int .i64 r0, .int .i64 b0, .int .i64 0, .int .i64 0] 25, below_drewN ((Below.refl _ _).alloc (Nat.le_refl _) _) 1⟩ ?_
  rintro w3 ⟨hbx, hbz⟩
  have HB3 := Lib.hid (HB2.out.trans (hbz.mono HB2.out.size))
  have HX3 := Lib.hid (HX2.out.below hbz)
  have HZ3 := Lib.hid hbx
  have HRN3 := Lib.hid (HRN.out.below hbz)
  have hx2 := HX2.out.lt
  rw [← hxb] at HZ3
  (try rw [← hxb])
  have hxl : w.heap.size < xb := by omega
  have hx3 := HZ3.out.lt
  clear hbx hbz c0 c1 hbB hxb HX2 HB2 HRN hx2 hm0 hm1
  by_cases h4 : 3 < m
  · have h4b : decide ((3 : Int) < (m : Int)) = true := by simp; omega
    have hip : implP ws = (numF (ws.getD 3 [])).1 := by unfold implP; rw [if_pos (by have := HLEN.out; omega)]
    obtain ⟨bC, oC, e3, c3⟩ := HRN3.out.num (k := 3) h4
    injection e3 with e3
    injection e3 with e3 e4
    subst e3; subst e4
    rw [nums_at (by have := HLEN.out; omega), ← hip] at c3
    have heq := HEQ2.out
    generalize implP ws = p0 at *
    have HEQ3 := Lib.hid heq
    have hW : Box ((w3.setCell ⟨xb, 3, none⟩ (.int .i64 p0)).setCell ⟨xb, 2, none⟩ (.int .i64 1)) xb #[.int .i64 r0, .int .i64 b0, .int .i64 1, .int .i64 p0] 25 := by have := (HZ3.out.set 3 (.int .i64 p0)).set 2 (.int .i64 1); simpa using this
    have hV := (HX3.out.other (c := xb) (i := 3) (by omega) (.int .i64 p0)).other (c := xb) (i := 2) (by omega) (.int .i64 1)
    have hU : Below w.heap.size w ((w3.setCell ⟨xb, 3, none⟩ (.int .i64 p0)).setCell ⟨xb, 2, none⟩ (.int .i64 1)) := (HB3.out.setCell (by simp; omega) _).setCell (by simp; omega) _
    clear heq hip HEQ2
    have HW := Lib.hid hW
    have HV := Lib.hid hV
    have HU := Lib.hid hU
    have FX := HZ3.out.f4
    clear hW hV hU
    go_wp2_with fail
    clear FX HB3 HX3 HZ3
    go_loopg [7] 3 (fun q t wr => ∃ k : Nat, 1 ≤ k ∧ k ≤ 4 ∧ q = 4 - k ∧ Hid (R = implGo L r0 b0 p0 (4 - k) k) ∧ Hid (Box wr xb #[.int .i64 r0, .int .i64 b0, .int .i64 k, .int .i64 p0] 25) ∧ Hid (Box wr w.heap.size #[.int .i64 0, .int .i64 0, .int .i64 0, .int .i64 0] 25) ∧ Hid (Below w.heap.size w wr))
    case atStart => exact ⟨1, by omega, by omega, rfl, HEQ3, HW, HV, HU⟩
    case round =>
      clear HW HV HU HEQ3
      obtain ⟨k, hk1, hk4, hq, HI, HZ, HX, HB⟩ := hrel
      have HQ := Lib.hid hq
      clear hq
      obtain ⟨wo, hwo⟩ : ∃ wo : World, wo = wr := ⟨_, rfl⟩
      subst hwo
      have FX := HZ.out.f4
      by_cases hlt : k ≤ 3
      · have hkd : decide ((k : Int) ≤ 3) = true := by simp; omega
        have HT := Lib.hid (implRedText_any r0 b0 k p0 wo (fun w' hb => (HLL.out _ (HB.out.trans (hb.mono HB.out.size))).pow))
        have hi := HI.out
        rw [show 4 - k = (4 - (k + 1)) + 1 from by omega, implGo] at hi
        have hle : (str (redS (r0, b0, (k : Int), p0))).toList.isEmpty = (redS (r0, b0, (k : Int), p0)).isEmpty := by rw [ByteArray.toList_eq, str_list]
        by_cases hT : redS (r0, b0, (k : Int), p0) = []
        · rw [if_neg (fun h => h.1 hT)] at hi
          rw [show (k : Int) + 1 = ((k + 1 : Nat) : Int) from by omega] at hi
          have HI2 := Lib.hid hi
          rw [hT] at hle
          have hle2 : (str (redS (r0, b0, (k : Int), p0))).toList.isEmpty = true := by rw [hT]; rw [ByteArray.toList_eq, str_list]; rfl
          generalize str (redS (r0, b0, (k : Int), p0)) = Z at *
          clear hi HI hT hle
          go_wp2_with fail
          clear FX
          refine HT.out.mono ?_
          rintro e w5 ⟨rfl, hb⟩
          have HB5 := Lib.hid (show Below w.heap.size w (w5.setCell ⟨xb, 2, none⟩ (.int .i64 ((k : Int) + 1))) from (HB.out.trans (hb.mono HB.out.size)).setCell (by simp; omega) _)
          have HZ0 := Lib.hid (HZ.out.below hb)
          have HZ5 := Lib.hid (show Box (w5.setCell ⟨xb, 2, none⟩ (.int .i64 ((k : Int) + 1))) xb #[.int .i64 r0, .int .i64 b0, .int .i64 ((k + 1 : Nat) : Int), .int .i64 p0] 25 from by have := HZ0.out.set 2 (.int .i64 ((k : Int) + 1)); simpa using this)
          have HX5 := Lib.hid ((HX.out.below hb).other (c := xb) (i := 2) (by omega) (.int .i64 ((k : Int) + 1)))
          clear hb HZ HX HB HT
          have FX := HZ0.out.f4
          go_wp2_with fail
          go_roundg (4 - (k + 1))
          case measure => have := HQ.out; omega
          case rel => exact ⟨k + 1, by omega, by omega, rfl, HI2, HZ5, HX5, HB5⟩
        · have hle2 : (str (redS (r0, b0, (k : Int), p0))).toList.isEmpty = false := by rw [hle]; simp [hT]
          by_cases hE : redS (r0, b0, (k : Int), p0) = L
          · rw [if_pos ⟨hT, hE⟩] at hi
            have HI2 := Lib.hid hi
            have hZ : str (redS (r0, b0, (k : Int), p0)) = s := by rw [hE, HST.out]
            rw [hZ] at HT hle2
            clear hi HI hT hE hZ hle
            go_wp2_with fail
            clear FX
            refine HT.out.mono ?_
            rintro e w5 ⟨rfl, hb⟩
            have HB5 := Lib.hid (HB.out.trans (hb.mono HB.out.size))
            have HZ5 := Lib.hid (HZ.out.below hb)
            have HX5 := Lib.hid (HX.out.below hb)
            clear hb HZ HX HB HT
            have FX := HZ5.out.f4
            have FR := HX5.out.f4
            go_wp2_with fail
            refine bodyPost_ret (v := .tuple #[.agg #[.int .i64 r0, .int .i64 b0, .int .i64 k, .int .i64 p0], .bool true]) (by simp [results, Tryz.results8, go_sem, FR]) rfl ?_
            rw [HI2.out]
            have hput := put_chg (g := w.heap.size) [.int .i64 r0, .int .i64 b0, .int .i64 k, .int .i64 p0] 0 (Chg.refl w.heap.size (w.heap.size + 1) w5) (Nat.le_refl _) (by omega)
            exact ⟨rfl, below_chg HB5.out hput (Nat.le_refl _) HB5.out.size⟩
          · rw [if_neg (fun h => hE h.2)] at hi
            rw [show (k : Int) + 1 = ((k + 1 : Nat) : Int) from by omega] at hi
            have HI2 := Lib.hid hi
            have hZ : ((str (redS (r0, b0, (k : Int), p0))).toList == s.toList) = false := ne_list (fun e => hE (by rw [← str_list (redS (r0, b0, (k : Int), p0)), e, ← HST.out, str_list]))
            generalize str (redS (r0, b0, (k : Int), p0)) = Z at *
            clear hi HI hT hE hle
            go_wp2_with fail
            clear FX
            refine HT.out.mono ?_
            rintro e w5 ⟨rfl, hb⟩
            have HB5 := Lib.hid (show Below w.heap.size w (w5.setCell ⟨xb, 2, none⟩ (.int .i64 ((k : Int) + 1))) from (HB.out.trans (hb.mono HB.out.size)).setCell (by simp; omega) _)
            have HZ0 := Lib.hid (HZ.out.below hb)
            have HZ5 := Lib.hid (show Box (w5.setCell ⟨xb, 2, none⟩ (.int .i64 ((k : Int) + 1))) xb #[.int .i64 r0, .int .i64 b0, .int .i64 ((k + 1 : Nat) : Int), .int .i64 p0] 25 from by have := HZ0.out.set 2 (.int .i64 ((k : Int) + 1)); simpa using this)
            have HX5 := Lib.hid ((HX.out.below hb).other (c := xb) (i := 2) (by omega) (.int .i64 ((k : Int) + 1)))
            clear hb HZ HX HB HT
            have FX := HZ0.out.f4
            go_wp2_with fail
            go_roundg (4 - (k + 1))
            case measure => have := HQ.out; omega
            case rel => exact ⟨k + 1, by omega, by omega, rfl, HI2, HZ5, HX5, HB5⟩
      · obtain rfl : k = 4 := by omega
        have hi := HI.out
        rw [Nat.sub_self] at hi
        have HI2 := Lib.hid (show R = none from hi)
        have FR := HX.out.f4
        clear hi HI
        go_wp2_with fail
        refine bodyPost_ret (v := .tuple #[.agg #[.int .i64 0, .int .i64 0, .int .i64 0, .int .i64 0], .bool false]) (by simp [results, Tryz.results8, go_sem, FR]) rfl ?_
        rw [HI2.out]
        have hput := put_chg (g := w.heap.size) [.int .i64 0, .int .i64 0, .int .i64 0, .int .i64 0] 0 (Chg.refl w.heap.size (w.heap.size + 1) wo) (Nat.le_refl _) (by omega)
        exact ⟨rfl, below_chg HB.out hput (Nat.le_refl _) HB.out.size⟩
  · have h4b : decide ((3 : Int) < (m : Int)) = false := by simp; omega
    have hip : implP ws = 0 := by unfold implP; rw [if_neg (by have := HLEN.out; omega)]
    have heq := HEQ2.out
    rw [hip] at heq
    have HEQ3 := Lib.hid heq
    have hW : Box (w3.setCell ⟨xb, 2, none⟩ (.int .i64 1)) xb #[.int .i64 r0, .int .i64 b0, .int .i64 1, .int .i64 0] 25 := by have := HZ3.out.set 2 (.int .i64 1); simpa using this
    have hV := HX3.out.other (c := xb) (i := 2) (by omega) (.int .i64 1)
    have hU : Below w.heap.size w (w3.setCell ⟨xb, 2, none⟩ (.int .i64 1)) := HB3.out.setCell (by simp; omega) _
    clear heq hip HEQ2
    have HW := Lib.hid hW
    have HV := Lib.hid hV
    have HU := Lib.hid hU
    have FX := HZ3.out.f4
    clear hW hV hU
    go_wp2_with fail
    clear FX HB3 HX3 HZ3
    go_loopg [7] 3 (fun q t wr => ∃ k : Nat, 1 ≤ k ∧ k ≤ 4 ∧ q = 4 - k ∧ Hid (R = implGo L r0 b0 0 (4 - k) k) ∧ Hid (Box wr xb #[.int .i64 r0, .int .i64 b0, .int .i64 k, .int .i64 0] 25) ∧ Hid (Box wr w.heap.size #[.int .i64 0, .int .i64 0, .int .i64 0, .int .i64 0] 25) ∧ Hid (Below w.heap.size w wr))
    case atStart => exact ⟨1, by omega, by omega, rfl, HEQ3, HW, HV, HU⟩
    case round =>
      clear HW HV HU HEQ3
      obtain ⟨k, hk1, hk4, hq, HI, HZ, HX, HB⟩ := hrel
      have HQ := Lib.hid hq
      clear hq
      obtain ⟨wo, hwo⟩ : ∃ wo : World, wo = wr := ⟨_, rfl⟩
      subst hwo
      have FX := HZ.out.f4
      by_cases hlt : k ≤ 3
      · have hkd : decide ((k : Int) ≤ 3) = true := by simp; omega
        have HT := Lib.hid (implRedText_any r0 b0 k 0 wo (fun w' hb => (HLL.out _ (HB.out.trans (hb.mono HB.out.size))).pow))
        have hi := HI.out
        rw [show 4 - k = (4 - (k + 1)) + 1 from by omega, implGo] at hi
        have hle : (str (redS (r0, b0, (k : Int), 0))).toList.isEmpty = (redS (r0, b0, (k : Int), 0)).isEmpty := by rw [ByteArray.toList_eq, str_list]
        by_cases hT : redS (r0, b0, (k : Int), 0) = []
        · rw [if_neg (fun h => h.1 hT)] at hi
          rw [show (k : Int) + 1 = ((k + 1 : Nat) : Int) from by omega] at hi
          have HI2 := Lib.hid hi
          rw [hT] at hle
          have hle2 : (str (redS (r0, b0, (k : Int), 0))).toList.isEmpty = true := by rw [hT]; rw [ByteArray.toList_eq, str_list]; rfl
          generalize str (redS (r0, b0, (k : Int), 0)) = Z at *
          clear hi HI hT hle
          go_wp2_with fail
          clear FX
          refine HT.out.mono ?_
          rintro e w5 ⟨rfl, hb⟩
          have HB5 := Lib.hid (show Below w.heap.size w (w5.setCell ⟨xb, 2, none⟩ (.int .i64 ((k : Int) + 1))) from (HB.out.trans (hb.mono HB.out.size)).setCell (by simp; omega) _)
          have HZ0 := Lib.hid (HZ.out.below hb)
          have HZ5 := Lib.hid (show Box (w5.setCell ⟨xb, 2, none⟩ (.int .i64 ((k : Int) + 1))) xb #[.int .i64 r0, .int .i64 b0, .int .i64 ((k + 1 : Nat) : Int), .int .i64 0] 25 from by have := HZ0.out.set 2 (.int .i64 ((k : Int) + 1)); simpa using this)
          have HX5 := Lib.hid ((HX.out.below hb).other (c := xb) (i := 2) (by omega) (.int .i64 ((k : Int) + 1)))
          clear hb HZ HX HB HT
          have FX := HZ0.out.f4
          go_wp2_with fail
          go_roundg (4 - (k + 1))
          case measure => have := HQ.out; omega
          case rel => exact ⟨k + 1, by omega, by omega, rfl, HI2, HZ5, HX5, HB5⟩
        · have hle2 : (str (redS (r0, b0, (k : Int), 0))).toList.isEmpty = false := by rw [hle]; simp [hT]
          by_cases hE : redS (r0, b0, (k : Int), 0) = L
          · rw [if_pos ⟨hT, hE⟩] at hi
            have HI2 := Lib.hid hi
            have hZ : str (redS (r0, b0, (k : Int), 0)) = s := by rw [hE, HST.out]
            rw [hZ] at HT hle2
            clear hi HI hT hE hZ hle
            go_wp2_with fail
            clear FX
            refine HT.out.mono ?_
            rintro e w5 ⟨rfl, hb⟩
            have HB5 := Lib.hid (HB.out.trans (hb.mono HB.out.size))
            have HZ5 := Lib.hid (HZ.out.below hb)
            have HX5 := Lib.hid (HX.out.below hb)
            clear hb HZ HX HB HT
            have FX := HZ5.out.f4
            have FR := HX5.out.f4
            go_wp2_with fail
            refine bodyPost_ret (v := .tuple #[.agg #[.int .i64 r0, .int .i64 b0, .int .i64 k, .int .i64 0], .bool true]) (by simp [results, Tryz.results8, go_sem, FR]) rfl ?_
            rw [HI2.out]
            have hput := put_chg (g := w.heap.size) [.int .i64 r0, .int .i64 b0, .int .i64 k, .int .i64 0] 0 (Chg.refl w.heap.size (w.heap.size + 1) w5) (Nat.le_refl _) (by omega)
            exact ⟨rfl, below_chg HB5.out hput (Nat.le_refl _) HB5.out.size⟩
          · rw [if_neg (fun h => hE h.2)] at hi
            rw [show (k : Int) + 1 = ((k + 1 : Nat) : Int) from by omega] at hi
            have HI2 := Lib.hid hi
            have hZ : ((str (redS (r0, b0, (k : Int), 0))).toList == s.toList) = false := ne_list (fun e => hE (by rw [← str_list (redS (r0, b0, (k : Int), 0)), e, ← HST.out, str_list]))
            generalize str (redS (r0, b0, (k : Int), 0)) = Z at *
            clear hi HI hT hE hle
            go_wp2_with fail
            clear FX
            refine HT.out.mono ?_
            rintro e w5 ⟨rfl, hb⟩
            have HB5 := Lib.hid (show Below w.heap.size w (w5.setCell ⟨xb, 2, none⟩ (.int .i64 ((k : Int) + 1))) from (HB.out.trans (hb.mono HB.out.size)).setCell (by simp; omega) _)
            have HZ0 := Lib.hid (HZ.out.below hb)
            have HZ5 := Lib.hid (show Box (w5.setCell ⟨xb, 2, none⟩ (.int .i64 ((k : Int) + 1))) xb #[.int .i64 r0, .int .i64 b0, .int .i64 ((k + 1 : Nat) : Int), .int .i64 0] 25 from by have := HZ0.out.set 2 (.int .i64 ((k : Int) + 1)); simpa using this)
            have HX5 := Lib.hid ((HX.out.below hb).other (c := xb) (i := 2) (by omega) (.int .i64 ((k : Int) + 1)))
            clear hb HZ HX HB HT
            have FX := HZ0.out.f4
            go_wp2_with fail
            go_roundg (4 - (k + 1))
            case measure => have := HQ.out; omega
            case rel => exact ⟨k + 1, by omega, by omega, rfl, HI2, HZ5, HX5, HB5⟩
      · obtain rfl : k = 4 := by omega
        have hi := HI.out
        rw [Nat.sub_self] at hi
        have HI2 := Lib.hid (show R = none from hi)
        have FR := HX.out.f4
        clear hi HI
        go_wp2_with fail
        refine bodyPost_ret (v := .tuple #[.agg #[.int .i64 0, .int .i64 0, .int .i64 0, .int .i64 0], .bool false]) (by simp [results, Tryz.results8, go_sem, FR]) rfl ?_
        rw [HI2.out]
        have hput := put_chg (g := w.heap.size) [.int .i64 0, .int .i64 0, .int .i64 0, .int .i64 0] 0 (Chg.refl w.heap.size (w.heap.size + 1) wo) (Nat.le_refl _) (by omega)
        exact ⟨rfl, below_chg HB.out hput (Nat.le_refl _) HB.out.size⟩
end Go.Proofs.YtalgdeieejpelaaGreatDoor

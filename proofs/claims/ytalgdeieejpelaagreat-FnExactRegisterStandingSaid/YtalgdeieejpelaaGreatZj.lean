/- Walks: the standing, both sides (chapter 28). -/
import Derived.Test.YtalgdeieejpelaaGreatZh
namespace Go.Proofs.YtalgdeieejpelaaGreat
open Go.RowKit Go.Sort
set_option linter.unusedVariables false
set_option maxRecDepth 100000

set_option maxHeartbeats 2000000 in
theorem standClo_any (P : Option Addr) (n c : Nat) (C : Option Addr) (m d : Nat) (t : Tb) (ok : TabOk t) (A : Option Addr) (l cl : Nat) (rule : List Int) (hrule : rule.length ≤ 3) (b1 b2 : Nat) (w : World) (h : RdT w P n C m t) (hl : Rd w 1 A l (ints rule)) (hx1 : Box w b1 #[.int .i64 t.boats, .slice P n c, .slice C m d] 53) (hx2 : Box w b2 #[.slice A l cl] 25) (i j : Int) (hi0 : 0 ≤ i) (hi1 : i < t.boats) (hj0 : 0 ≤ j) (hj1 : j < t.boats) :
    Calls Tryz.prog 78 #[.int .i64 i, .int .i64 j, .pointer (some ⟨b1, 0, none⟩), .pointer (some ⟨b2, 0, none⟩)] w fun e w' => e = .returned (.int .i64 (cmpT t rule i j).1) ∧ Below w.heap.size w w' := by
  obtain ⟨a, rfl⟩ := int_up i hi0
  obtain ⟨b, rfl⟩ := int_up j hj0
  have HC := Lib.hid (fun w' (hb : w = w') => (implCmp_any P n c C m d t ok A l cl rule hrule a b hi1 hj1 w' (hb ▸ h) (hb ▸ hl)))
  have HC := Lib.hid (HC.out w rfl)
  have F1 := hx1.f3
  have F2 := hx2.cell (i := 0) rfl
  generalize cmpT t rule (a : Int) (b : Int) = q at *
  clear h hl ok hrule hx1 hx2
  go_enter Tryz.func78, Tryz.ntmps78
  go_wp2_with fail
  refine HC.out.mono ?_
  rintro e w3 ⟨rfl, hb3⟩
  have HB3 := Lib.hid hb3
  clear hb3 HC F1 F2
  go_wp2_with fail
  go_ret
  exact ⟨rfl, HB3.out⟩
set_option maxHeartbeats 2000000 in
theorem implStanding_any (P : Option Addr) (n c : Nat) (C : Option Addr) (m d : Nat) (t : Tb) (ok : TabOk t) (A : Option Addr) (l cl : Nat) (rule : List Int) (hrule : rule.length ≤ 3) (w : World) (h : RdT w P n C m t) (hl : Rd w 1 A l (ints rule)) :
    Calls Tryz.prog 42 #[.agg #[.int .i64 t.boats, .slice P n c, .slice C m d], .slice A l cl] w (RetCopy w (standT t rule)) := by
  obtain ⟨N, hN⟩ : ∃ N : Nat, t.boats = (N : Int) := ⟨t.boats.toNat, by have := ok.b1; omega⟩
  have hN16 : N ≤ 16 := by have := ok.b2; omega
  obtain ⟨w1, hw1, X0, X1, hb1, hs1⟩ := two_boxes w #[.int .i64 t.boats, .slice P n c, .slice C m d] #[.slice A l cl] 53 25
  have HW1 := Lib.hid hw1
  have HS := Lib.hid (sortedIndicesS_any N hN16 (some ⟨w.heap.size, 0, none⟩) (some ⟨w.heap.size + 1, 0, none⟩) (fun a b => (cmpT t rule a b).1) (ltT t rule) (fun a b => rfl) w1 (fun W hW a b ha0 ha1 hb0 hb1' =>
    standClo_any P n c C m d t ok A l cl rule hrule w.heap.size (w.heap.size + 1) W (h.below (hb1.trans (hW.mono hb1.size))) (hl.below (hb1.trans (hW.mono hb1.size))) (X0.below hW) (X1.below hW) a b ha0 (by omega) hb0 (by omega)))
  have HD := Lib.hid (show standT t rule = insSort (ltT t rule) (idx N) from by unfold standT; rw [hN, Int.toNat_natCast])
  have HB1 := Lib.hid hb1
  have F0 := X0.f3
  rw [HD.out]
  rw [hN] at F0 X0 hw1 ⊢
  have HW1 := Lib.hid hw1
  generalize insSort (ltT t rule) (idx N) = D at *
  clear hw1 X0 X1 h hl ok hrule hN hb1 HD
  go_enter Tryz.func42, Tryz.ntmps42
  go_wp2_with fail
  rw [← HW1.out]
  clear HW1
  go_wp2_with fail
  refine HS.out.mono ?_
  rintro e w2 ⟨A2, n2, c2, rfl, ho2, hn2, hb2⟩
  have HO2 := Lib.hid (own_base ho2 HB1.out.size)
  have HB2 := Lib.hid (HB1.out.trans (hb2.mono HB1.out.size))
  clear ho2 hb2 F0
  go_wp2_with fail
  go_ret
  exact ⟨A2, n2, c2, rfl, HO2.out, hn2, HB2.out⟩

theorem idx_drop {N k : Nat} (h : k < N) : (idx N).drop k = (k : Int) :: (idx N).drop (k + 1) := by
  rw [List.drop_eq_getElem_cons (by rw [idx_length]; exact h)]
  congr 1
  unfold idx
  simp
/-- The boats of one rank, from boat k on. -/
def atRk (t : Tb) (rule : List Int) (N k r : Nat) : List Int := ((idx N).drop k).filter fun x => decide (rankT t rule x = (r : Int))
/-- What comes at rank r and behind it. -/
def fromRk (t : Tb) (rule : List Int) (N r : Nat) : List Int := (List.range' r (N + 1 - r)).flatMap fun q => atRk t rule N 0 q
theorem atRk_step {t : Tb} {rule : List Int} {N k r : Nat} (h : k < N) : atRk t rule N k r = if rankT t rule (k : Int) = (r : Int) then (k : Int) :: atRk t rule N (k + 1) r else atRk t rule N (k + 1) r := by
  unfold atRk
  rw [idx_drop h, List.filter_cons]
  by_cases e : rankT t rule (k : Int) = (r : Int)
  · rw [if_pos (by simpa using e), if_pos e]
  · rw [if_neg (by simpa using e), if_neg e]
theorem atRk_end {t : Tb} {rule : List Int} {N r : Nat} : atRk t rule N N r = [] := by
  unfold atRk
  rw [List.drop_eq_nil_of_le (by rw [idx_length]; exact Nat.le_refl _)]
  rfl
theorem fromRk_step {t : Tb} {rule : List Int} {N r : Nat} (h : r ≤ N) : fromRk t rule N r = atRk t rule N 0 r ++ fromRk t rule N (r + 1) := by
  unfold fromRk
  rw [show N + 1 - r = (N + 1 - (r + 1)) + 1 by omega, List.range'_succ, List.flatMap_cons]
theorem fromRk_end {t : Tb} {rule : List Int} {N : Nat} : fromRk t rule N (N + 1) = [] := by
  unfold fromRk
  rw [Nat.sub_self]
  rfl
theorem stand_from {t : Tb} (ok : TabOk t) (rule : List Int) {N : Nat} (hN : t.boats = (N : Int)) : standT t rule = fromRk t rule N 1 := by
  rw [standT_eq ok, hN, Int.toNat_natCast]
  unfold standL fromRk
  rw [show N + 1 - 1 = N by omega]
  congr 1
  funext q
  unfold atRk
  rw [List.drop_zero]
  congr 1
  funext x
  unfold rankT
  rw [hN, Int.toNat_natCast]
  have e : (((rankL (ltT t rule) N x : Nat) : Int) = (q : Int)) ↔ (rankL (ltT t rule) N x = q) := by omega
  simp only [e]
set_option maxHeartbeats 8000000 in
theorem specStanding_any (P : Option Addr) (n c : Nat) (C : Option Addr) (m d : Nat) (t : Tb) (ok : TabOk t) (A : Option Addr) (l cl : Nat) (rule : List Int) (hrule : rule.length ≤ 3) (w : World) (h : RdT w P n C m t) (hl : Rd w 1 A l (ints rule)) :
    Calls Tryz.prog 37 #[.agg #[.int .i64 t.boats, .slice P n c, .slice C m d], .slice A l cl] w (RetCopy w (standT t rule)) := by
  obtain rfl : n = m := by have := h.cds.len; have := h.pts.len; have := ok.same; omega
  obtain ⟨N, hN⟩ : ∃ N : Nat, t.boats = (N : Int) := ⟨t.boats.toNat, by have := ok.b1; omega⟩
  have hN16 : N ≤ 16 := by have := ok.b2; omega
  have HRK := Lib.hid (fun (k : Nat) (hk : (k : Int) < t.boats) w' (hb : Below w.heap.size w w') => specRank_any P n c C n d t ok A l cl rule hrule k hk w' (h.below hb) (hl.below hb))
  have hdl := standT_len t rule
  rw [hN, Int.toNat_natCast] at hdl
  obtain ⟨D, hD⟩ : ∃ D, D = standT t rule := ⟨_, rfl⟩
  have HD0 := Lib.hid (show D = [] ++ fromRk t rule N 1 from by rw [hD, stand_from ok rule hN]; rfl)
  rw [← hD] at hdl ⊢
  have HDL := Lib.hid hdl
  rw [hN] at HRK ⊢
  obtain ⟨wa, hwa, XT, hba, hsa⟩ := one_box w #[.int .i64 (N : Int), .slice P n c, .slice C n d] 53
  have HWA := Lib.hid hwa
  obtain ⟨wb, hwb⟩ : ∃ wb, wb = wa.alloc (.cells #[] 2) := ⟨_, rfl⟩
  have hoe := own_empty wa wa.heap.size 2 (Nat.le_refl _)
  rw [← hwb, hsa] at hoe
  have hbb : Below wa.heap.size wa wb := by rw [hwb]; exact (Below.refl _ _).alloc (Nat.le_refl _) _
  have hsb : wb.heap.size = wa.heap.size + 1 := by rw [hwb]; simp
  have HWB := Lib.hid hwb
  have HBB := Lib.hid (hba.trans (hbb.mono hba.size))
  have HXT := Lib.hid (XT.below hbb)
  have HOE := Lib.hid hoe
  have hsz : w.heap.size + 1 + 1 ≤ wb.heap.size := by omega
  have HC0 := Lib.hid (Chg.refl (w.heap.size + 1) (w.heap.size + 1 + 1) wb)
  clear hwa XT hba hwb hbb hoe hsa hsb h hl ok hrule hN hdl hD
  go_enter Tryz.func37, Tryz.ntmps37
  go_wp2_with fail
  rw [← HWA.out]
  clear HWA
  go_wp2_with fail
  rw [← HWB.out]
  clear HWB
  go_wp2_with fail
  go_loopw [5, 6] (fun v i wr => ∃ (r g' c' : Nat) (out : List Int), 1 ≤ r ∧ r ≤ N + 1 ∧ i = .int .i64 r ∧ v = .slice (some ⟨g', 0, none⟩) out.length c' ∧ (g' = w.heap.size + 1 ∨ wb.heap.size ≤ g') ∧ Hid (D = out ++ fromRk t rule N r) ∧ Hid (wr.ownsRow (w.heap.size + 1) 2 1 (.slice (some ⟨g', 0, none⟩) out.length c') out.length (ints out)) ∧ Hid (Chg (w.heap.size + 1) (w.heap.size + 1 + 1) wb wr)) (fun _ i _ => N + 1 - (intOf i).toNat)
  case atStart => exact ⟨1, _, 0, [], Nat.le_refl _, by omega, rfl, rfl, .inl rfl, HD0, HOE, HC0⟩
  case round =>
    clear HOE HC0 HD0
    obtain ⟨r, g', c', out, hr1, hrN, rfl, rfl, hg', HI, HO, HC⟩ := hrel
    obtain ⟨wo, hwo⟩ : ∃ wo : World, wo = wr := ⟨_, rfl⟩
    subst hwo
    have HG := Lib.hid hg'
    clear hg'
    have FX := (HXT.out.chg HC.out (.inl (by omega))).f3
    by_cases hrr : r ≤ N
    · have hrd : decide ((r : Int) ≤ (N : Int)) = true := by simpa using hrr
      have hi := HI.out
      rw [fromRk_step hrr] at hi
      have HI0 := Lib.hid (show D = out ++ (atRk t rule N 0 r ++ fromRk t rule N (r + 1)) from hi)
      clear hi HI
      go_wp2_with fail
      clear FX hrd
      go_loopw [5, 7] (fun v i wr => ∃ (k g' c' : Nat) (out : List Int), k ≤ N ∧ i = .int .i64 k ∧ v = .slice (some ⟨g', 0, none⟩) out.length c' ∧ (g' = w.heap.size + 1 ∨ wb.heap.size ≤ g') ∧ Hid (D = out ++ (atRk t rule N k r ++ fromRk t rule N (r + 1))) ∧ Hid (wr.ownsRow (w.heap.size + 1) 2 1 (.slice (some ⟨g', 0, none⟩) out.length c') out.length (ints out)) ∧ Hid (Chg (w.heap.size + 1) (w.heap.size + 1 + 1) wb wr)) (fun _ i _ => N - (intOf i).toNat)
      case atStart => exact ⟨0, g', c', out, Nat.zero_le _, rfl, rfl, HG.out, HI0, HO, HC⟩
      case round =>
        clear HI0 HO HC HG
        obtain ⟨k, g', c', out, hk, rfl, rfl, hg', HI, HO, HC⟩ := hrel
        obtain ⟨wp, hwp⟩ : ∃ wp : World, wp = wr := ⟨_, rfl⟩
        subst hwp
        have HG := Lib.hid hg'
        clear hg'
        have hout : out.length ≤ 16 := by have := HDL.out; have := congrArg List.length HI.out; rw [List.length_append] at this; omega
        have FX := (HXT.out.chg HC.out (.inl (by omega))).f3
        by_cases hlt : k < N
        · have hkd : decide ((k : Int) < (N : Int)) = true := by simpa using hlt
          have HCL := Lib.hid (HRK.out k (by omega) wp (below_chg HBB.out HC.out (by omega) (by omega)))
          have hi := HI.out
          rw [atRk_step hlt] at hi
          have HI1 := Lib.hid hi
          clear hi HI
          generalize rankT t rule (k : Int) = q at *
          by_cases hq : q = (r : Int)
          · have hqd : (q == (r : Int)) = true := by simp [hq]
            have hI2 := HI1.out
            rw [if_pos hq] at hI2
            have HI2 := Lib.hid (show D = (out ++ [(k : Int)]) ++ (atRk t rule N (k + 1) r ++ fromRk t rule N (r + 1)) from by rw [hI2]; simp)
            clear hI2 HI1 hq
            go_wp2_with fail
            refine HCL.out.mono ?_
            rintro e w3 ⟨rfl, hb3⟩
            have HO3 := Lib.hid (own_below HO.out hb3)
            have HC3 := Lib.hid (chg_bel HC.out hb3)
            have hs3 := hb3.size
            have hcs := HC3.out.size
            clear hb3 HO HC HCL FX
            go_wp2_with (at_builtin; refine app_num (y := (k : Int)) _ rfl _ _ rfl rfl (own_below HO3.out ((Below.refl _ _).alloc (Nat.le_refl _) _)) rfl (heap_alloc_new _ _) (by omega) ?cBb ?_; rotate_left; intro g9 c9 w9 hown9 hgr9 hor9 hlt9)
            · have HC9 := Lib.hid (chg_grow1 (chg_bel HC3.out ((Below.refl _ _).alloc (Nat.le_refl _) _)) hgr9 rfl HG.out)
              have HO9 := Lib.hid (show w9.ownsRow (w.heap.size + 1) 2 1 (.slice (some ⟨g9, 0, none⟩) (out ++ [(k : Int)]).length c9) (out ++ [(k : Int)]).length (ints (out ++ [(k : Int)])) from by rw [List.length_append]; exact hown9)
              have HG9 := Lib.hid (show g9 = w.heap.size + 1 ∨ wb.heap.size ≤ g9 from by
                rcases hor9 with e | e
                · have e2 : g' = g9 := by simpa [Value.ownBlock] using e
                  rw [← e2]; exact HG.out
                · rw [e]
                  have h1 := HC3.out.size
                  simp
                  omega)
              clear hown9 hgr9 hor9
              go_roundw
              case rel => exact ⟨k + 1, g9, c9, out ++ [(k : Int)], by omega, by go_num, by rw [List.length_append]; rfl, HG9.out, HI2, HO9, HC9⟩
              case measure => simp [intOf] <;> omega
            · first | omega | (simp; omega)
          · have hqd : (q == (r : Int)) = false := by simp [hq]
            have hI2 := HI1.out
            rw [if_neg hq] at hI2
            have HI2 := Lib.hid hI2
            clear hI2 HI1 hq
            go_wp2_with fail
            refine HCL.out.mono ?_
            rintro e w3 ⟨rfl, hb3⟩
            have HO3 := Lib.hid (own_below HO.out hb3)
            have HC3 := Lib.hid (chg_bel HC.out hb3)
            clear hb3 HO HC HCL FX
            go_wp2_with fail
            go_roundw
            case rel => exact ⟨k + 1, g', c', out, by omega, by go_num, rfl, HG.out, HI2, HO3, HC3⟩
            case measure => simp [intOf] <;> omega
        · obtain rfl : k = N := by omega
          have hkd : decide ((k : Int) < (k : Int)) = false := by simp
          have hi := HI.out
          rw [atRk_end, List.nil_append] at hi
          have HI2 := Lib.hid hi
          clear hi HI HRK
          go_wp2_with fail
          go_roundw
          case rel => exact ⟨r + 1, g', c', out, by omega, by omega, by go_num, rfl, HG.out, HI2, HO, HC⟩
          case measure => simp [intOf] <;> omega
    · obtain rfl : r = N + 1 := by omega
      have hrd : decide ((((N + 1 : Nat) : Int)) ≤ (N : Int)) = false := decide_eq_false (by omega)
      have hrd2 : decide ((N : Int) + 1 ≤ (N : Int)) = false := decide_eq_false (by omega)
      have hi := HI.out
      rw [fromRk_end, List.append_nil] at hi
      have HI2 := Lib.hid hi
      have HO3 := Lib.hid (own_base HO.out (show w.heap.size ≤ w.heap.size + 1 by omega))
      have HBo := Lib.hid (below_chg HBB.out HC.out (by omega) (by omega))
      have hol : out.length ≤ 16 := by have := HDL.out; rw [hi] at this; omega
      clear hi HI HO HRK
      go_wp2_with fail
      go_ret
      exact ⟨_, out.length, c', rfl, by rw [HI2.out]; exact HO3.out, by omega, HBo.out⟩
end Go.Proofs.YtalgdeieejpelaaGreat

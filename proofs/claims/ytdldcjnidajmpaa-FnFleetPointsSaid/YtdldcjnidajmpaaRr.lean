/- Walks: points of a race by scheme, the program. -/
import Derived.Test.YtdldcjnidajmpaaRq
import Derived.Test.YtdldcjnidajmpaaA1
import Derived.Test.YtdldcjnidajmpaaRt
namespace Go.Proofs.Ytdldcjnidajmpaa
open Go.RowKit
set_option linter.unusedVariables false
set_option maxRecDepth 100000

set_option maxHeartbeats 4000000 in
theorem racePoints_any (A : Option Addr) (n c : Nat) (fs : List FinishT) (scheme : Int) (hn : n ≤ 16) (w : World) (h : Rd w 3 A n (fins fs)) :
    Calls Try.prog 83 #[.slice A n c, .int .i64 scheme] w (RetCopy w (racePointsF fs scheme)) := by
  have HN := Lib.hid h.len_fin
  have HRD := Lib.hid (fun w' (hb : Below w.heap.size w w') => h.below hb)
  have HP := Lib.hid (placesOf_any A n c fs hn w h)
  clear h
  go_enter Try.func83, Try.ntmps83
  go_wp2_with fail
  refine HP.out.mono ?_
  rintro e w2 ⟨P1, p2, c1, P2, c2, rfl, hop, hos, hb2⟩
  have hp1 : fs.length = p2 := by have := own_len hop; simpa using this
  rw [HN.out] at hp1
  subst hp1
  have HP2 := Lib.hid hop
  have HQ2 := Lib.hid hos
  have HB2 := Lib.hid hb2
  have hs2 := hb2.size
  have hb0 : Below w2.heap.size w2 (w2.alloc (.cells #[] 2)) := (Below.refl _ _).alloc (Nat.le_refl _) _
  clear hop hos hb2 HP
  go_wp2_with fail
  go_loopw [7, 18] (fun s i wr => ∃ (t c' : Nat) (A' : Option Addr), t ≤ n ∧ i = .int .i64 t ∧ s = .slice A' t c' ∧ Hid (wr.ownsRow w2.heap.size 2 1 (.slice A' t c') t (ints ((racePointsF fs scheme).take t))) ∧ Hid (Below w2.heap.size w2 wr)) (fun _ i _ => n - (intOf i).toNat)
  case atStart => exact ⟨0, _, _, Nat.zero_le _, rfl, rfl, Lib.hid (own_empty _ _ _ (Nat.le_refl _)), Lib.hid hb0⟩
  case round =>
    clear hb0
    obtain ⟨t, c', A', ht, rfl, rfl, HO, HB⟩ := hrel
    obtain ⟨wo, hwo⟩ : ∃ wo : World, wo = wr := ⟨_, rfl⟩
    subst hwo
    have hso := HB.out.size
    by_cases htn : t < n
    · obtain ⟨b, o, x0, x1, x2, rfl, hx, _, hc0, hc1, hc2⟩ := (HRD.out _ (HB2.out.trans (HB.out.mono hs2))).fin htn
      have HSN := Lib.hid (show (racePointsF fs scheme).take (t + 1) = (racePointsF fs scheme).take t ++ [if x1 = 0 then 5 * (2 * (placeF fs (x0, x1, x2)).1 + (placeF fs (x0, x1, x2)).2 - 1) else codePointsF fs x1 scheme] from take_snoc_get (by unfold racePointsF; rw [List.getElem?_map, hx]; rfl))
      have hp9 := HP2.out
      have hq9 := HQ2.out
      obtain ⟨g3, pl, rfl, hg31, hg32, hpl, hplc, hplf⟩ := own_int_at hp9 htn
      obtain ⟨g4, sh, rfl, hg41, hg42, hsh, hshc, hshf⟩ := own_int_at hq9 htn
      rw [List.getElem?_map, hx] at hpl hsh
      injection hpl with hpl
      injection hsh with hsh
      clear hx hp9 hq9
      obtain ⟨wa, hwa, XA, hba, hsa⟩ := one_box wo #[.int .i64 x0, .int .i64 x1, .int .i64 x2] 88
      have HBA := Lib.hid (HB.out.trans (hba.mono hso))
      have HOA := Lib.hid (own_below HO.out hba)
      have HZP := Lib.hid (fun w1 (hb : Below w2.heap.size w2 w1) => (hb.cell (p := ⟨g3, t, none⟩) hg32).trans hplc)
      have HZS := Lib.hid (fun w1 (hb : Below w2.heap.size w2 w1) => (hb.cell (p := ⟨g4, t, none⟩) hg42).trans hshc)
      have FA := XA.f3
      have has := HBA.out.size
      clear hba hsa hplc hshc hplf hshf
      by_cases e1 : x1 = 0
      · subst e1
        have hb1 := ltN_le x2 fs
        have hb2 := eqN_le x2 fs
        rw [HN.out] at hb1 hb2
        simp only [placeF, if_pos] at hpl hsh
        have HV := Lib.hid (show (if (0 : Int) = 0 then 5 * (2 * (placeF fs (x0, 0, x2)).1 + (placeF fs (x0, 0, x2)).2 - 1) else codePointsF fs 0 scheme) = 5 * (2 * (1 + (ltN x2 fs : Int)) + eqN x2 fs - 1) from by rw [if_pos rfl]; simp only [placeF, if_pos])
        subst hpl
        subst hsh
        generalize ltN x2 fs = ln at *
        generalize eqN x2 fs = en at *
        go_wp2_with fail
        rw [← hwa]
        clear hwa hc0 hc1 hc2
        obtain ⟨S, hSE, hSI⟩ : ∃ S : World → Prop, (∀ w1, S w1 → Below w2.heap.size w2 w1) ∧ (∀ w1, Below w2.heap.size w2 w1 → S w1) := ⟨fun w1 => Below w2.heap.size w2 w1, fun _ h => h, fun _ h => h⟩
        have HSE := Lib.hid hSE; have HSI := Lib.hid hSI
        clear hSE hSI
        have HBD := Lib.hid (HBA.out.trans ((below_drewN' wa.heap.size wa 1).mono has))
        have HOD := Lib.hid (own_below HOA.out (below_drewN' wa.heap.size wa 1))
        refine wp_region_T2 (n := 16) S (fun j => decide (16 ≤ j)) (by kernel_rfl) rfl ?_
        intro ops HOPS
        have hS := HSI.out _ HBD.out
        refine wpAnyT_take 0 (.slice A' t c') (by rw [HOPS.out]; rfl) (by rw [HOPS.out]; kernel_rfl) (by exact fun _ _ _ h => h) (by rfl) (fun w1 hS => by go_simp) hS ?_
        go_simp
        refine wpAnyT_take 1 (.slice (some ⟨g3, 0, none⟩) n c1) (by rw [HOPS.out]; rfl) (by rw [HOPS.out]; kernel_rfl) (by exact fun _ _ _ h => h) (by rfl) (fun w1 hS => by go_simp) hS ?_
        go_simp
        refine wpAnyT_take 2 (.int .i64 (t : Int)) (by rw [HOPS.out]; rfl) (by rw [HOPS.out]; kernel_rfl) (by exact fun _ _ _ h => h) (by rfl) (fun w1 hS => by go_simp) hS ?_
        go_simp
        refine wpAnyT_take 3 (.pointer (some ⟨g3, t, none⟩)) (by rw [HOPS.out]; rfl) (by rw [HOPS.out]; kernel_rfl) (by exact fun _ _ _ h => h) (by rfl) (fun w1 hS => by go_simp) hS ?_
        go_simp
        refine wpAnyT_take 4 (.int .i64 (1 + (ln : Int))) (by rw [HOPS.out]; rfl) (by rw [HOPS.out]; kernel_rfl) (by exact fun _ _ _ h => h) (by rfl) (fun w1 hS => by have hz := HZP.out _ (HSE.out _ hS); go_simp) hS ?_
        go_simp
        refine wpAnyT_take 5 (.int .i64 (2 * (1 + (ln : Int)))) (by rw [HOPS.out]; rfl) (by rw [HOPS.out]; kernel_rfl) (by exact fun _ _ _ h => h) (by rfl) (fun w1 hS => by go_simp; exact IntWalk.i64_in (2 * (1 + (ln : Int))) (by omega)) hS ?_
        go_simp
        refine wpAnyT_take 6 (.slice (some ⟨g4, 0, none⟩) n c2) (by rw [HOPS.out]; rfl) (by rw [HOPS.out]; kernel_rfl) (by exact fun _ _ _ h => h) (by rfl) (fun w1 hS => by go_simp) hS ?_
        go_simp
        refine wpAnyT_take 7 (.int .i64 (t : Int)) (by rw [HOPS.out]; rfl) (by rw [HOPS.out]; kernel_rfl) (by exact fun _ _ _ h => h) (by rfl) (fun w1 hS => by go_simp) hS ?_
        go_simp
        refine wpAnyT_take 8 (.pointer (some ⟨g4, t, none⟩)) (by rw [HOPS.out]; rfl) (by rw [HOPS.out]; kernel_rfl) (by exact fun _ _ _ h => h) (by rfl) (fun w1 hS => by go_simp) hS ?_
        go_simp
        refine wpAnyT_take 9 (.int .i64 (en : Int)) (by rw [HOPS.out]; rfl) (by rw [HOPS.out]; kernel_rfl) (by exact fun _ _ _ h => h) (by rfl) (fun w1 hS => by have hz := HZS.out _ (HSE.out _ hS); go_simp) hS ?_
        go_simp
        refine wpAnyT_take 10 (.int .i64 (2 * (1 + (ln : Int)) + en)) (by rw [HOPS.out]; rfl) (by rw [HOPS.out]; kernel_rfl) (by exact fun _ _ _ h => h) (by rfl) (fun w1 hS => by go_simp; exact IntWalk.i64_in (2 * (1 + (ln : Int)) + en) (by omega)) hS ?_
        go_simp
        refine wpAnyT_take 11 (.int .i64 (2 * (1 + (ln : Int)) + en - 1)) (by rw [HOPS.out]; rfl) (by rw [HOPS.out]; kernel_rfl) (by exact fun _ _ _ h => h) (by rfl) (fun w1 hS => by go_simp; exact IntWalk.i64_in (2 * (1 + (ln : Int)) + en - 1) (by omega)) hS ?_
        go_simp
        refine wpAnyT_take 12 (.int .i64 (5 * (2 * (1 + (ln : Int)) + en - 1))) (by rw [HOPS.out]; rfl) (by rw [HOPS.out]; kernel_rfl) (by exact fun _ _ _ h => h) (by rfl) (fun w1 hS => by go_simp; exact IntWalk.i64_in (5 * (2 * (1 + (ln : Int)) + en - 1)) (by omega)) hS ?_
        go_simp
        refine wpAnyT_one 13 (by rw [HOPS.out]; rfl) (by rw [HOPS.out]; kernel_rfl) ?_
        intro K' hK
        have HK := Lib.hid hK
        clear hK
        go_simp
        refine HK.out _ _ (.inr (HSI.out _ (Below.alloc HBD.out HBD.out.size _))) ?_
        clear HK
        go_simp
        refine wpAnyT_one 14 (by rw [HOPS.out]; rfl) (by rw [HOPS.out]; kernel_rfl) ?_
        intro K' hK
        have HK := Lib.hid hK
        clear hK
        refine step_i64 _ rfl _ _ rfl rfl (HOD.out.alloc _) rfl (cell_new1 _ _ _) (by omega) (by have := HBD.out.size; simp; omega) ?_
        intro g9 c9 w9 hown9 hgr9 _ hgl9
        have HBN := Lib.hid (below_app HBD.out HBD.out.size (Nat.le_refl _) HOD.out hgr9)
        have HON := Lib.hid hown9
        clear hown9 hgr9
        refine HK.out _ _ (.inr (HSI.out _ HBN.out)) ?_
        clear HK
        go_simp
        refine wpAnyT_take 15 (.slice (some ⟨g9, 0, none⟩) (t + 1) c9) (by rw [HOPS.out]; rfl) (by rw [HOPS.out]; kernel_rfl) (by exact fun _ _ _ h => h) (by rfl) (fun w1 hS => by go_simp) (HSI.out _ HBN.out) ?_
        go_simp
        refine wpAnyT_done (by rw [HOPS.out]; kernel_rfl) ?_ _
        go_wp2_with fail
        go_roundw
        case rel => exact ⟨t + 1, _, _, by omega, by go_num, rfl, Lib.hid (by rw [HSN.out, HV.out]; exact HON.out), HBN⟩
        case measure => simp [intOf] <;> omega
      · have e0 : (x1 == 0) = false := by simp [e1]
        have HV := Lib.hid (show (if x1 = 0 then 5 * (2 * (placeF fs (x0, x1, x2)).1 + (placeF fs (x0, x1, x2)).2 - 1) else codePointsF fs x1 scheme) = codePointsF fs x1 scheme from if_neg e1)
        have HCP := Lib.hid (fun w' (hb : Below w.heap.size w w') => codePoints_any (some ⟨b, o, none⟩) n c fs x1 scheme hn w' (HRD.out _ hb))
        clear hpl hsh HZP HZS e1
        go_wp2_with fail
        rw [← hwa]
        clear hwa hc0 hc1 hc2
        go_wp2_with fail
        refine (HCP.out _ (HB2.out.trans (HBA.out.mono hs2))).mono ?_
        rintro e wb ⟨rfl, hbb⟩
        have HBC := Lib.hid (HBA.out.trans (hbb.mono has))
        have HOC := Lib.hid (own_below HOA.out hbb)
        have hcs := HBC.out.size
        clear hbb FA
        go_wp2_with (at_builtin; refine app_i64 _ rfl _ _ rfl rfl (HOC.out.alloc _) rfl (cell_new1 _ _ _) (by omega) ?cB2 ?_; rotate_left; intro A1 c1 w1 hown1 hgr1)
        · have HON := Lib.hid hown1
          have HBN := Lib.hid (below_app HBC.out hcs (Nat.le_refl _) HOC.out hgr1)
          clear hown1 hgr1
          go_roundw
          case rel => exact ⟨t + 1, _, _, by omega, by go_num, rfl, Lib.hid (by rw [HSN.out, HV.out]; exact HON.out), HBN⟩
          case measure => simp [intOf] <;> omega
        · simp; omega
    · obtain rfl : t = n := by omega
      have HTK := Lib.hid (show (racePointsF fs scheme).take t = racePointsF fs scheme from List.take_of_length_le (by rw [racePointsF_len, HN.out]; exact Nat.le_refl _))
      rw [HTK.out] at HO
      go_wp2_with fail
      go_ret
      exact ⟨_, _, _, rfl, own_base HO.out hs2, by omega, HB2.out.trans (HB.out.mono hs2)⟩
end Go.Proofs.Ytdldcjnidajmpaa

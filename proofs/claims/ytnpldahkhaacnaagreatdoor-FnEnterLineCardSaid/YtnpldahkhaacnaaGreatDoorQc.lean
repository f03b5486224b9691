/- Walks: numbers as texts, the reference's side. -/
import Derived.Test.YtnpldahkhaacnaaGreatDoorZma
import Derived.Laws.BytesArg
namespace Go.Proofs.YtnpldahkhaacnaaGreatDoor
open Go.RowKit Go.Sort
set_option linter.unusedVariables false
set_option maxRecDepth 100000

/-- A string out of one byte of a new block. -/
theorem conv1 (w : World) (b : Nat) (x : Int) (hc : w.cell? ⟨b, 0, none⟩ = some (.int .u8 x)) : (convert 22 9 (.slice (some ⟨b, 0, none⟩) 1 1)).run Tryz.prog w = .ok (.string (str [UInt8.ofNat x.toNat])) w := by
  have h := run_convert_bytes_arg (P := Tryz.prog) w 22 5 Tryz.underlying22 Tryz.underlying5 b 0 1 1 [x] rfl (fun i hi => by obtain rfl : i = 0 := (by omega); simpa using hc) 9 Tryz.underlying9
  rw [h]
  rfl
theorem conv1_new (w : World) (x : Int) : (convert 22 9 (.slice (some ⟨w.heap.size, 0, none⟩) 1 1)).run Tryz.prog (w.alloc (.cells #[.int .u8 x] 5)) = .ok (.string (str [UInt8.ofNat x.toNat])) (w.alloc (.cells #[.int .u8 x] 5)) :=
  conv1 _ _ x (Box.new w #[.int .u8 x] 5).c1
theorem dgt_of (n : Nat) : UInt8.ofNat (48 + (n : Int) % 10).toNat = dgt n := by
  unfold dgt
  have e : (48 + (n : Int) % 10).toNat = 48 + n % 10 := by omega
  rw [e]
/-- A world by what is known of it. -/
theorem gen_world {p : World → Prop} {W : World} (Q : World → Prop) (hQ : Q W) (h : ∀ wz, Q wz → p wz) : p W := h W hQ
set_option maxHeartbeats 4000000 in
theorem number_any : ∀ (f n : Nat) (hf : n ≤ f) (hn : n ≤ 1000000000000000) (w : World),
    Calls Tryz.prog 36 #[.int .i64 n] w fun e w' => e = .returned (.string (str (dec n))) ∧ Below w.heap.size w w' := by
  intro f
  induction f with
  | zero => 
    intro n hf hn w
    have h : n < 10 := by omega
    have hd : decide ((n : Int) < 10) = true := by simp; omega
    have HD := Lib.hid (dec_small h)
    have hcv := conv1_new w (48 + (n : Int))
    have hdg : UInt8.ofNat (48 + (n : Int)).toNat = dgt n := by unfold dgt; congr 1; omega
    rw [hdg] at hcv
    have HDG := Lib.hid hdg
    clear hdg
    go_enter Tryz.func36, Tryz.ntmps36
    go_wp2_with fail
    rw [HD.out]
    go_ret
    exact ⟨rfl, (Below.refl _ _).alloc (Nat.le_refl _) _⟩
  | succ f ih =>
    intro n hf hn w
    by_cases h : n < 10
    · have hd : decide ((n : Int) < 10) = true := by simp; omega
      have HD := Lib.hid (dec_small h)
      have hcv := conv1_new w (48 + (n : Int))
      have hdg : UInt8.ofNat (48 + (n : Int)).toNat = dgt n := by unfold dgt; congr 1; omega
      rw [hdg] at hcv
      have HDG := Lib.hid hdg
      clear hdg
      go_enter Tryz.func36, Tryz.ntmps36
      go_wp2_with fail
      rw [HD.out]
      go_ret
      exact ⟨rfl, (Below.refl _ _).alloc (Nat.le_refl _) _⟩
    · have hd : decide ((n : Int) < 10) = false := by simp; omega
      have HE := Lib.hid (show str (dec (n / 10)) ++ str [UInt8.ofNat (48 + (n : Int) % 10).toNat] = str (dec n) from by rw [str_add, dgt_of, ← dec_big h])
      have hi := ih (n / 10) (by omega) (by omega)
      rw [show ((n / 10 : Nat) : Int) = (n : Int) / 10 from by omega] at hi
      have HI := Lib.hid hi
      clear ih hi
      have hs1 := dec_len 15 (n / 10) (by omega)
      have hsz : (str (dec (n / 10))).size ≤ 16 := by rw [str_size]; exact hs1
      have H2 := Lib.hid (str_size [UInt8.ofNat (48 + (n : Int) % 10).toNat])
      simp only [List.length_cons, List.length_nil] at H2
      go_enter Tryz.func36, Tryz.ntmps36
      go_wp2_with fail
      refine wp_region_T2 (n := 11) (fun _ => True) (fun _ => false) (by kernel_rfl) rfl ?_
      intro ops HOPS
      have hS := trivial
      refine wpAnyT_take 0 (.int .i64 (n : Int)) (by rw [HOPS.out]; rfl) (by rw [HOPS.out]; kernel_rfl) (by exact fun _ _ _ h => h) (by rfl) (fun w1 hS => by go_simp; first | done | (rw [Int.tdiv_eq_ediv_of_nonneg (by omega)]; exact IntWalk.i64_in _ (by omega)) | (rw [Int.tmod_eq_emod_of_nonneg (by omega)]; try exact IntWalk.i64_in _ (by omega)) | exact IntWalk.i64_in _ (by omega) | exact IntWalk.u8_in _ (by omega) | omega) trivial ?_
      go_simp
      refine wpAnyT_take 1 (.int .i64 ((n : Int) / 10)) (by rw [HOPS.out]; rfl) (by rw [HOPS.out]; kernel_rfl) (by exact fun _ _ _ h => h) (by rfl) (fun w1 hS => by go_simp; first | done | (rw [Int.tdiv_eq_ediv_of_nonneg (by omega)]; exact IntWalk.i64_in _ (by omega)) | (rw [Int.tmod_eq_emod_of_nonneg (by omega)]; try exact IntWalk.i64_in _ (by omega)) | exact IntWalk.i64_in _ (by omega) | exact IntWalk.u8_in _ (by omega) | omega) trivial ?_
      go_simp
      refine wpAnyT_take 3 (.int .i64 (n : Int)) (by rw [HOPS.out]; rfl) (by rw [HOPS.out]; kernel_rfl) (by exact fun _ _ _ h => h) (by rfl) (fun w1 hS => by go_simp; first | done | (rw [Int.tdiv_eq_ediv_of_nonneg (by omega)]; exact IntWalk.i64_in _ (by omega)) | (rw [Int.tmod_eq_emod_of_nonneg (by omega)]; try exact IntWalk.i64_in _ (by omega)) | exact IntWalk.i64_in _ (by omega) | exact IntWalk.u8_in _ (by omega) | omega) trivial ?_
      go_simp
      refine wpAnyT_take 4 (.int .i64 ((n : Int) % 10)) (by rw [HOPS.out]; rfl) (by rw [HOPS.out]; kernel_rfl) (by exact fun _ _ _ h => h) (by rfl) (fun w1 hS => by go_simp; first | done | (rw [Int.tdiv_eq_ediv_of_nonneg (by omega)]; exact IntWalk.i64_in _ (by omega)) | (rw [Int.tmod_eq_emod_of_nonneg (by omega)]; try exact IntWalk.i64_in _ (by omega)) | exact IntWalk.i64_in _ (by omega) | exact IntWalk.u8_in _ (by omega) | omega) trivial ?_
      go_simp
      refine wpAnyT_take 5 (.int .i64 (48 + (n : Int) % 10)) (by rw [HOPS.out]; rfl) (by rw [HOPS.out]; kernel_rfl) (by exact fun _ _ _ h => h) (by rfl) (fun w1 hS => by go_simp; first | done | (rw [Int.tdiv_eq_ediv_of_nonneg (by omega)]; exact IntWalk.i64_in _ (by omega)) | (rw [Int.tmod_eq_emod_of_nonneg (by omega)]; try exact IntWalk.i64_in _ (by omega)) | exact IntWalk.i64_in _ (by omega) | exact IntWalk.u8_in _ (by omega) | omega) trivial ?_
      go_simp
      refine wpAnyT_take 6 (.int .u8 (48 + (n : Int) % 10)) (by rw [HOPS.out]; rfl) (by rw [HOPS.out]; kernel_rfl) (by exact fun _ _ _ h => h) (by rfl) (fun w1 hS => by go_simp; first | done | (rw [Int.tdiv_eq_ediv_of_nonneg (by omega)]; exact IntWalk.i64_in _ (by omega)) | (rw [Int.tmod_eq_emod_of_nonneg (by omega)]; try exact IntWalk.i64_in _ (by omega)) | exact IntWalk.i64_in _ (by omega) | exact IntWalk.u8_in _ (by omega) | omega) trivial ?_
      go_simp
      refine wpAnyT_two 2 7 (by rw [HOPS.out]; rfl) (by rw [HOPS.out]; rfl) (by rw [HOPS.out]; kernel_rfl) ?_ ?_
      · intro K' hK
        have HK := Lib.hid hK
        clear hK
        go_simp
        go_at_call 36
        refine (HI.out _).mono ?_
        rintro e w1 ⟨rfl, hb⟩
        refine HK.out _ _ (.inr trivial) ?_
        clear HK
        have HB := Lib.hid ((below_drewN' w.heap.size w 1).trans hb)
        clear hb
        go_simp
        refine wpAnyT_one 7 (by rw [HOPS.out]; rfl) (by rw [HOPS.out]; kernel_rfl) ?_
        intro K' hK
        have HK := Lib.hid hK
        clear hK
        go_simp
        refine HK.out _ _ (.inr trivial) ?_
        clear HK
        go_simp
        refine wpAnyT_one 8 (by rw [HOPS.out]; rfl) (by rw [HOPS.out]; kernel_rfl) ?_
        intro K' hK
        have HK := Lib.hid hK
        clear hK
        have hcv := conv1_new w1 (48 + (n : Int) % 10)
        go_simp
        refine HK.out _ _ (.inr trivial) ?_
        clear HK
        clear hcv
        go_simp
        refine wpAnyT_take 9 (.string (str (dec (n / 10)) ++ str [UInt8.ofNat (48 + (n : Int) % 10).toNat])) (by rw [HOPS.out]; rfl) (by rw [HOPS.out]; kernel_rfl) (by exact fun _ _ _ h => h) (by rfl) (fun w1 hS => by go_simp; rw [H2.out]; omega) trivial ?_
        go_simp
        refine wpAnyT_take 10 (.string (str (dec (n / 10)) ++ str [UInt8.ofNat (48 + (n : Int) % 10).toNat])) (by rw [HOPS.out]; rfl) (by rw [HOPS.out]; kernel_rfl) (by exact fun _ _ _ h => h) (by rfl) (fun w1 hS => by go_simp) trivial ?_
        go_simp
        refine wpAnyT_done (by rw [HOPS.out]; kernel_rfl) ?_ _
        go_wp2_with fail
        rw [HE.out]
        go_ret
        exact ⟨rfl, HB.out.alloc HB.out.size _⟩
      · intro K' hK
        have HK := Lib.hid hK
        clear hK
        go_simp
        refine HK.out _ _ (.inr trivial) ?_
        clear HK
        go_simp
        refine gen_world (p := fun wz => wpAnyT _ _ _ _ _ _ _ _ _ wz) (fun wz => wz.cell? ⟨w.heap.size, 0, none⟩ = some (.int .u8 (48 + (n : Int) % 10)) ∧ Below w.heap.size w wz) ⟨(Box.new w #[.int .u8 (48 + (n : Int) % 10)] 5).c1, below_drewN ((Below.refl _ _).alloc (Nat.le_refl _) _) 1⟩ ?_
        rintro wz ⟨hz, hbz⟩
        have HZ := Lib.hid hz
        have HBZ := Lib.hid hbz
        clear hz hbz
        refine wpAnyT_two 2 8 (by rw [HOPS.out]; rfl) (by rw [HOPS.out]; rfl) (by rw [HOPS.out]; kernel_rfl) ?_ ?_
        · intro K' hK
          have HK := Lib.hid hK
          clear hK
          go_simp
          go_at_call 36
          refine (HI.out _).mono ?_
          rintro e w1 ⟨rfl, hb⟩
          refine HK.out _ _ (.inr trivial) ?_
          clear HK
          have HB := Lib.hid (HBZ.out.trans (hb.mono HBZ.out.size))
          have HZ1 := Lib.hid ((hb.cell (p := ⟨w.heap.size, 0, none⟩) (cell_lt HZ.out)).trans HZ.out)
          clear hb
          go_simp
          refine wpAnyT_one 8 (by rw [HOPS.out]; rfl) (by rw [HOPS.out]; kernel_rfl) ?_
          intro K' hK
          have HK := Lib.hid hK
          clear hK
          have hcv := conv1 w1 w.heap.size (48 + (n : Int) % 10) HZ1.out
          go_simp
          refine HK.out _ _ (.inr trivial) ?_
          clear HK
          clear hcv
          go_simp
          refine wpAnyT_take 9 (.string (str (dec (n / 10)) ++ str [UInt8.ofNat (48 + (n : Int) % 10).toNat])) (by rw [HOPS.out]; rfl) (by rw [HOPS.out]; kernel_rfl) (by exact fun _ _ _ h => h) (by rfl) (fun w1 hS => by go_simp; rw [H2.out]; omega) trivial ?_
          go_simp
          refine wpAnyT_take 10 (.string (str (dec (n / 10)) ++ str [UInt8.ofNat (48 + (n : Int) % 10).toNat])) (by rw [HOPS.out]; rfl) (by rw [HOPS.out]; kernel_rfl) (by exact fun _ _ _ h => h) (by rfl) (fun w1 hS => by go_simp) trivial ?_
          go_simp
          refine wpAnyT_done (by rw [HOPS.out]; kernel_rfl) ?_ _
          go_wp2_with fail
          rw [HE.out]
          go_ret
          exact ⟨rfl, HB.out⟩
        · intro K' hK
          have HK := Lib.hid hK
          clear hK
          have hcv := conv1 wz w.heap.size (48 + (n : Int) % 10) HZ.out
          go_simp
          refine HK.out _ _ (.inr trivial) ?_
          clear HK
          clear hcv
          go_simp
          refine wpAnyT_one 2 (by rw [HOPS.out]; rfl) (by rw [HOPS.out]; kernel_rfl) ?_
          intro K' hK
          have HK := Lib.hid hK
          clear hK
          go_simp
          go_at_call 36
          refine (HI.out _).mono ?_
          rintro e w1 ⟨rfl, hb⟩
          refine HK.out _ _ (.inr trivial) ?_
          clear HK
          have HB := Lib.hid (HBZ.out.trans (hb.mono HBZ.out.size))
          clear hb
          go_simp
          refine wpAnyT_take 9 (.string (str (dec (n / 10)) ++ str [UInt8.ofNat (48 + (n : Int) % 10).toNat])) (by rw [HOPS.out]; rfl) (by rw [HOPS.out]; kernel_rfl) (by exact fun _ _ _ h => h) (by rfl) (fun w1 hS => by go_simp; rw [H2.out]; omega) trivial ?_
          go_simp
          refine wpAnyT_take 10 (.string (str (dec (n / 10)) ++ str [UInt8.ofNat (48 + (n : Int) % 10).toNat])) (by rw [HOPS.out]; rfl) (by rw [HOPS.out]; kernel_rfl) (by exact fun _ _ _ h => h) (by rfl) (fun w1 hS => by go_simp) trivial ?_
          go_simp
          refine wpAnyT_done (by rw [HOPS.out]; kernel_rfl) ?_ _
          go_wp2_with fail
          rw [HE.out]
          go_ret
          exact ⟨rfl, HB.out⟩
end Go.Proofs.YtnpldahkhaacnaaGreatDoor

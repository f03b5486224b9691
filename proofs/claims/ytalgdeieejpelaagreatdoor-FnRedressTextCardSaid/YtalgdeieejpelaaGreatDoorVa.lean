/- Walks: a redress is drawn, and its text (chapter 29). -/
import Derived.Test.YtalgdeieejpelaaGreatDoorQo
import Derived.Test.YtalgdeieejpelaaGreatDoorZmb
import Derived.Test.YtalgdeieejpelaaGreatDoorZme
import Derived.Test.YtalgdeieejpelaaGreatDoorZma
import Derived.Lib.ConvBytes
import Derived.Laws.BytesArg
import Derived.IntWalk
namespace Go.Proofs.YtalgdeieejpelaaGreatDoor
open Go.RowKit Go.Sort
set_option linter.unusedVariables false
set_option maxRecDepth 100000

set_option maxHeartbeats 4000000 in
theorem drawRT_any (w0 : World) (A : Option Addr) (n cap : Nat) (code : List Int) (hcode : Code0 w0 A n code) (w : World) (hb : Below w0.heap.size w0 w) :
    Calls Tryz.prog 5 #[.slice A n cap] w fun e w' => ∃ x0 x1 x2 x3, e = .returned (.agg #[.int .i64 x0, .int .i64 x1, .int .i64 x2, .int .i64 x3]) ∧ Below w.heap.size w w' := by
  have HFR := Lib.hid (fun w' h => from_any w0 A n cap code hcode w' h)
  have HNX := Lib.hid (fun g s k hk w' h => next_any w0 A n cap code hcode g s k hk w' h)
  obtain ⟨s0, hs0⟩ : ∃ s0, s0 = fromF code := ⟨_, rfl⟩
  rw [← hs0] at HFR
  clear hs0
  obtain ⟨wa, hwa, XR, hba, hsa⟩ := one_box w #[.int .i64 0, .int .i64 0, .int .i64 0, .int .i64 0] 25
  have HB := Lib.hid (hb.trans (hba.mono hb.size))
  have HX := Lib.hid XR
  have HBA := Lib.hid hba
  have hza : w.heap.size < wa.heap.size := by omega
  clear hb XR hba hsa
  go_enter Tryz.func5, Tryz.ntmps5
  go_wp2_with fail
  rw [← hwa]
  clear hwa
  (try go_wp2_with fail)
  refine (HFR.out _ HB.out).mono ?_
  rintro e w1 ⟨g, rfl, hs1, hge, hb1⟩
  have HX := Lib.hid (HX.out.below hb1)
  have HS := Lib.hid hs1
  have HB1 := Lib.hid (HBA.out.trans (hb1.mono HBA.out.size))
  have hgl := hs1.lt
  have hwg : w.heap.size < g := by omega
  clear hs1 hb1 HFR HB HBA
  have HN := HNX.out g s0 14 (by omega) _ HS.out
  have qb1 := nextF_bd code s0 14 (by omega)
  generalize nextF code s0 14 = r at HN qb1
  obtain ⟨v1, s1⟩ := r
  simp only at qb1
  go_wp2_with fail
  refine HN.mono ?_
  rintro e wb ⟨rfl, hs, hc⟩
  have HS := Lib.hid hs
  have hzb := hc.size
  have HX := Lib.hid (HX.out.chg hc (.inl (by omega)))
  have HB1 := Lib.hid (below_chg HB1.out hc (by omega) HB1.out.size)
  clear hs hc HN
  have HN := HNX.out g s1 18 (by omega) _ HS.out
  have qb2 := nextF_bd code s1 18 (by omega)
  generalize nextF code s1 18 = r at HN qb2
  obtain ⟨v2, s2⟩ := r
  simp only at qb2
  go_wp2_with fail
  refine HN.mono ?_
  rintro e w2 ⟨rfl, hs, hc⟩
  have HS := Lib.hid hs
  have hz2 := hc.size
  have HX := Lib.hid (HX.out.chg hc (.inl (by omega)))
  have HB1 := Lib.hid (below_chg HB1.out hc (by omega) HB1.out.size)
  clear hs hc HN
  have HN := HNX.out g s2 5 (by omega) _ HS.out
  have qb3 := nextF_bd code s2 5 (by omega)
  generalize nextF code s2 5 = r at HN qb3
  obtain ⟨v3, s3⟩ := r
  simp only at qb3
  go_wp2_with fail
  refine HN.mono ?_
  rintro e w3 ⟨rfl, hs, hc⟩
  have HS := Lib.hid hs
  have hz3 := hc.size
  have HX := Lib.hid (HX.out.chg hc (.inl (by omega)))
  have HB1 := Lib.hid (below_chg HB1.out hc (by omega) HB1.out.size)
  clear hs hc HN
  obtain ⟨w4, hw4, XY, hb4, hs4⟩ := one_box w3 #[.int .i64 (v1 - 1), .int .i64 (v2 - 1), .int .i64 v3, .int .i64 0] 25
  have HW4 := Lib.hid hw4
  have HY := Lib.hid XY
  have HX := Lib.hid (HX.out.below hb4)
  have HS := Lib.hid (HS.out.below hb4)
  have HB1 := Lib.hid (HB1.out.trans (hb4.mono HB1.out.size))
  have hg3 : g < w3.heap.size := by omega
  clear XY hb4 hw4
  by_cases h3 : v3 = 3
  · have h3b : (v3 == 3) = true := by simp [h3]
    clear h3
    have FY := HY.out.f4
    rw [HW4.out] at FY
    go_wp2_with fail
    rw [← HW4.out]
    clear HW4 FY
    have HN := HNX.out g s3 200 (by omega) _ HS.out
    have qb6a := nextF_bd code s3 200 (by omega)
    generalize nextF code s3 200 = r at HN qb6a
    obtain ⟨v6a, s6a⟩ := r
    simp only at qb6a
    go_wp2_with fail
    refine HN.mono ?_
    rintro e w6a ⟨rfl, hs, hc⟩
    have HS := Lib.hid hs
    have hz6a := hc.size
    have HX := Lib.hid (HX.out.chg hc (.inl (by omega)))
    have HY := Lib.hid (HY.out.chg hc (.inr (by omega)))
    have HB1 := Lib.hid (below_chg HB1.out hc (by omega) HB1.out.size)
    clear hs hc HN
    have HN := HNX.out g s6a 8 (by omega) _ HS.out
    have qb7a := nextF_bd code s6a 8 (by omega)
    generalize nextF code s6a 8 = r at HN qb7a
    obtain ⟨v7a, s7a⟩ := r
    simp only at qb7a
    go_wp2_with fail
    refine HN.mono ?_
    rintro e w7a ⟨rfl, hs, hc⟩
    have HS := Lib.hid hs
    have hz7a := hc.size
    have HX := Lib.hid (HX.out.chg hc (.inl (by omega)))
    have HY := Lib.hid (HY.out.chg hc (.inr (by omega)))
    have HB1 := Lib.hid (below_chg HB1.out hc (by omega) HB1.out.size)
    clear hs hc HN
    have FY := HY.out.f4
    have hq : IntKind.i64.wrap (Int.tdiv v7a 7) = v7a / 7 := by rw [Int.tdiv_eq_ediv_of_nonneg (by omega)]; exact IntWalk.i64_in _ (by omega)
    have hd : 0 ≤ v7a / 7 ∧ v7a / 7 ≤ 2 := by omega
    have hm : IntKind.i64.wrap (9900 * (v7a / 7)) = 9900 * (v7a / 7) := IntWalk.i64_in _ (by omega)
    have ha : IntKind.i64.wrap (v6a + 9900 * (v7a / 7)) = v6a + 9900 * (v7a / 7) := IntWalk.i64_in _ (by omega)
    obtain ⟨wy, hwy⟩ : ∃ wy : World, wy = w7a.setCell ⟨w3.heap.size, 3, none⟩ (.int .i64 (v6a + 9900 * (v7a / 7))) := ⟨_, rfl⟩
    have HYN := Lib.hid (show Box wy w3.heap.size #[.int .i64 (v1 - 1), .int .i64 (v2 - 1), .int .i64 v3, .int .i64 (v6a + 9900 * (v7a / 7))] 25 from by rw [hwy]; have := HY.out.set 3 (.int .i64 (v6a + 9900 * (v7a / 7))); simpa using this)
    have HXN := Lib.hid (show Box wy w.heap.size #[.int .i64 0, .int .i64 0, .int .i64 0, .int .i64 0] 25 from by rw [hwy]; exact HX.out.other (by omega) _)
    have HBN := Lib.hid (show Below w.heap.size w wy from by rw [hwy]; exact HB1.out.setCell (p := ⟨w3.heap.size, 3, none⟩) (by show w.heap.size ≤ w3.heap.size; omega) _)
    have hzy : w7a.heap.size ≤ wy.heap.size := by rw [hwy]; simp [World.setCell]
    have HWY := Lib.hid hwy
    clear hwy HX HY HB1 HS
    have HX := HXN
    have HY := HYN
    have HB1 := HBN
    clear HXN HYN HBN
    have FX := HX.out.f4
    have FY2 := HY.out.f4
    rw [HWY.out] at FX FY2
    go_wp2_with fail
    refine bodyPost_ret (v := .agg #[.int .i64 (v1 - 1), .int .i64 (v2 - 1), .int .i64 v3, .int .i64 (v6a + 9900 * (v7a / 7))]) (by simp [results, Tryz.results5, go_sem, FX]) rfl ?_
    rw [← HWY.out]
    have hput := put_chg (g := w.heap.size) [.int .i64 (v1 - 1), .int .i64 (v2 - 1), .int .i64 v3, .int .i64 (v6a + 9900 * (v7a / 7))] 0 (Chg.refl w.heap.size (w.heap.size + 1) wy) (Nat.le_refl _) (by omega)
    exact ⟨_, _, _, _, rfl, below_chg HB1.out hput (Nat.le_refl _) HB1.out.size⟩
  · have h3b : (v3 == 3) = false := by simp [h3]
    clear h3
    have FY := HY.out.f4
    rw [HW4.out] at FY
    go_wp2_with fail
    rw [← HW4.out]
    clear HW4 FY
    have HN := HNX.out g s3 12 (by omega) _ HS.out
    have qb5 := nextF_bd code s3 12 (by omega)
    generalize nextF code s3 12 = r at HN qb5
    obtain ⟨v5, s5⟩ := r
    simp only at qb5
    go_wp2_with fail
    refine HN.mono ?_
    rintro e w5 ⟨rfl, hs, hc⟩
    have HS := Lib.hid hs
    have hz5 := hc.size
    have HX := Lib.hid (HX.out.chg hc (.inl (by omega)))
    have HY := Lib.hid (HY.out.chg hc (.inr (by omega)))
    have HB1 := Lib.hid (below_chg HB1.out hc (by omega) HB1.out.size)
    clear hs hc HN
    by_cases h5 : v5 = 0
    · have h5b : (v5 == 0) = true := by simp [h5]
      clear h5
      go_wp2_with fail
      have HN := HNX.out g s5 200 (by omega) _ HS.out
      have qb6b := nextF_bd code s5 200 (by omega)
      generalize nextF code s5 200 = r at HN qb6b
      obtain ⟨v6b, s6b⟩ := r
      simp only at qb6b
      go_wp2_with fail
      refine HN.mono ?_
      rintro e w6b ⟨rfl, hs, hc⟩
      have HS := Lib.hid hs
      have hz6b := hc.size
      have HX := Lib.hid (HX.out.chg hc (.inl (by omega)))
      have HY := Lib.hid (HY.out.chg hc (.inr (by omega)))
      have HB1 := Lib.hid (below_chg HB1.out hc (by omega) HB1.out.size)
      clear hs hc HN
      have HN := HNX.out g s6b 8 (by omega) _ HS.out
      have qb7b := nextF_bd code s6b 8 (by omega)
      generalize nextF code s6b 8 = r at HN qb7b
      obtain ⟨v7b, s7b⟩ := r
      simp only at qb7b
      go_wp2_with fail
      refine HN.mono ?_
      rintro e w7b ⟨rfl, hs, hc⟩
      have HS := Lib.hid hs
      have hz7b := hc.size
      have HX := Lib.hid (HX.out.chg hc (.inl (by omega)))
      have HY := Lib.hid (HY.out.chg hc (.inr (by omega)))
      have HB1 := Lib.hid (below_chg HB1.out hc (by omega) HB1.out.size)
      clear hs hc HN
      have FY := HY.out.f4
      have hq : IntKind.i64.wrap (Int.tdiv v7b 7) = v7b / 7 := by rw [Int.tdiv_eq_ediv_of_nonneg (by omega)]; exact IntWalk.i64_in _ (by omega)
      have hd : 0 ≤ v7b / 7 ∧ v7b / 7 ≤ 2 := by omega
      have hm : IntKind.i64.wrap (9900 * (v7b / 7)) = 9900 * (v7b / 7) := IntWalk.i64_in _ (by omega)
      have ha : IntKind.i64.wrap (v6b + 9900 * (v7b / 7)) = v6b + 9900 * (v7b / 7) := IntWalk.i64_in _ (by omega)
      obtain ⟨wy, hwy⟩ : ∃ wy : World, wy = w7b.setCell ⟨w3.heap.size, 3, none⟩ (.int .i64 (v6b + 9900 * (v7b / 7))) := ⟨_, rfl⟩
      have HYN := Lib.hid (show Box wy w3.heap.size #[.int .i64 (v1 - 1), .int .i64 (v2 - 1), .int .i64 v3, .int .i64 (v6b + 9900 * (v7b / 7))] 25 from by rw [hwy]; have := HY.out.set 3 (.int .i64 (v6b + 9900 * (v7b / 7))); simpa using this)
      have HXN := Lib.hid (show Box wy w.heap.size #[.int .i64 0, .int .i64 0, .int .i64 0, .int .i64 0] 25 from by rw [hwy]; exact HX.out.other (by omega) _)
      have HBN := Lib.hid (show Below w.heap.size w wy from by rw [hwy]; exact HB1.out.setCell (p := ⟨w3.heap.size, 3, none⟩) (by show w.heap.size ≤ w3.heap.size; omega) _)
      have hzy : w7b.heap.size ≤ wy.heap.size := by rw [hwy]; simp [World.setCell]
      have HWY := Lib.hid hwy
      clear hwy HX HY HB1 HS
      have HX := HXN
      have HY := HYN
      have HB1 := HBN
      clear HXN HYN HBN
      have FX := HX.out.f4
      have FY2 := HY.out.f4
      rw [HWY.out] at FX FY2
      go_wp2_with fail
      refine bodyPost_ret (v := .agg #[.int .i64 (v1 - 1), .int .i64 (v2 - 1), .int .i64 v3, .int .i64 (v6b + 9900 * (v7b / 7))]) (by simp [results, Tryz.results5, go_sem, FX]) rfl ?_
      rw [← HWY.out]
      have hput := put_chg (g := w.heap.size) [.int .i64 (v1 - 1), .int .i64 (v2 - 1), .int .i64 v3, .int .i64 (v6b + 9900 * (v7b / 7))] 0 (Chg.refl w.heap.size (w.heap.size + 1) wy) (Nat.le_refl _) (by omega)
      exact ⟨_, _, _, _, rfl, below_chg HB1.out hput (Nat.le_refl _) HB1.out.size⟩
    · have h5b : (v5 == 0) = false := by simp [h5]
      clear h5
      have FX := HX.out.f4
      have FY := HY.out.f4
      go_wp2_with fail
      refine bodyPost_ret (v := .agg #[.int .i64 (v1 - 1), .int .i64 (v2 - 1), .int .i64 v3, .int .i64 (0)]) (by simp [results, Tryz.results5, go_sem, FX]) rfl ?_
      have hput := put_chg (g := w.heap.size) [.int .i64 (v1 - 1), .int .i64 (v2 - 1), .int .i64 v3, .int .i64 (0)] 0 (Chg.refl w.heap.size (w.heap.size + 1) w5) (Nat.le_refl _) (by omega)
      exact ⟨_, _, _, _, rfl, below_chg HB1.out hput (Nat.le_refl _) HB1.out.size⟩
theorem redS_len (x : RdX) : (redS x).length ≤ 40 := by
  cases h : rdOk x with
  | false => rw [redS_no h]; simp
  | true =>
    rw [redS_yes h]
    obtain ⟨h1, h2, h3⟩ := rd_bounds h
    have l1 := dec_len 1 x.1.toNat (by omega)
    have l2 := dec_len 1 x.2.1.toNat (by omega)
    have l3 := dec_len 4 x.2.2.2.toNat (by omega)
    have l4 : (kw x.2.2.1).length ≤ 6 := by
      unfold kw
      split
      · decide
      · split <;> decide
    unfold redL
    simp only [List.length_append, List.length_cons]
    split
    · simp only [List.length_cons]; omega
    · simp only [List.length_nil]; omega
theorem bytes_free (w : World) (e : TypeId) (s : ByteArray) {k : Nat} (hk : k < s.size) : (Lib.bytesWorld w e s).frozen? ⟨w.heap.size, k, none⟩ = false := by
  have hc : s.size ≤ (Lib.bytesCells w e s).size := by
    unfold Lib.bytesCells
    simp
  simp [World.frozen?, Lib.bytesWorld_at_new]
  try omega
/-- Bytes in a row of block g. -/
def BytesAt (w : World) (g m : Nat) (ys : List Int) : Prop := ys.length = m ∧ ∀ i, i < m → w.cell? ⟨g, 0 + i, none⟩ = some (.int .u8 (ys.getD i 0))
theorem bytes_at (w : World) (e : TypeId) (s : ByteArray) : ∃ ys, BytesAt (Lib.bytesWorld w e s) w.heap.size s.size ys := by
  refine ⟨s.data.toList.map fun b => (b.toNat : Int), by simp, fun i hi => ?_⟩
  rw [Nat.zero_add, Lib.bytesWorld_cell w e s i hi]
  have h1 : i < s.data.toList.length := by simpa using hi
  simp [List.getD, List.getElem?_map, List.getElem?_eq_getElem h1]
theorem BytesAt.keep {w w' : World} {g m : Nat} {ys : List Int} (h : BytesAt w g m ys) (hb : w'.heap[g]? = w.heap[g]?) : BytesAt w' g m ys :=
  ⟨h.1, fun i hi => by have := h.2 i hi; unfold World.cell? at this ⊢; simp only at this ⊢; rw [hb]; exact this⟩
theorem BytesAt.set {w : World} {g m k : Nat} {ys : List Int} (h : BytesAt w g m ys) (hk : k < m) (c : Int) : BytesAt (w.setCell ⟨g, k, none⟩ (.int .u8 c)) g m (ys.set k c) := by
  refine ⟨by rw [List.length_set]; exact h.1, fun i hi => ?_⟩
  have hl := h.1
  by_cases e : i = k
  · subst e
    have h0 := h.2 i hi
    rw [Nat.zero_add] at h0 ⊢
    rw [World.cell?_setCell_same _ _ _ h0]
    simp [List.getD, show i < ys.length by omega]
  · rw [World.cell?_setCell_other _ _ _ _ (by simp; try omega), h.2 i hi]
    have : ¬ k = i := fun e' => e e'.symm
    simp [List.getD, this]
theorem BytesAt.conv {w : World} {g m cap : Nat} {ys : List Int} (h : BytesAt w g m ys) : (convert 22 9 (.slice (some ⟨g, 0, none⟩) m cap)).run Tryz.prog w = .ok (.string (strOfNums ys)) w :=
  run_convert_bytes_arg (P := Tryz.prog) w 22 5 Tryz.underlying22 Tryz.underlying5 g 0 m cap ys h.1 h.2 9 Tryz.underlying9
theorem frozen_keep {w w' : World} {g : Nat} (h : w'.heap[g]? = w.heap[g]?) (k : Nat) : w'.frozen? ⟨g, k, none⟩ = w.frozen? ⟨g, k, none⟩ := by
  unfold World.frozen?
  simp only
  rw [h]
set_option maxHeartbeats 8000000 in
theorem drawRR29_any (w0 : World) (A : Option Addr) (n cap : Nat) (code : List Int) (hcode : Code0 w0 A n code) (hn : n ≤ 4096) (w : World) (hb : Below w0.heap.size w0 w) :
    Calls Tryz.prog 7 #[.slice A n cap] w fun e w' => ∃ s : ByteArray, e = .returned (.string s) ∧ s.size ≤ 1000 ∧ Below w.heap.size w w' := by
  have HRT := Lib.hid (fun w' h => drawRT_any w0 A n cap code hcode w' h)
  have HB0 := Lib.hid hb
  have hb0 := hb.size
  have HRD := Lib.hid (fun w' (h : Below w.heap.size w w') => (hcode.rd.below hb).below h)
  have hby := hcode.byte
  have HBY := Lib.hid hby
  clear hb hcode hby
  go_enter Tryz.func7, Tryz.ntmps7
  go_wp2_with (at_builtin; refine wpl_code _ rfl _ _ rfl rfl (lit_one w w.heap.size 1 (Nat.le_refl _)) rfl (HRD.out _ ((Below.refl _ _).alloc (Nat.le_refl _) _)) (by omega) (by simp) ?_; intro A9 c9 w9 hown9 hgr9)
  have HB9 := Lib.hid (((Below.refl w.heap.size w).alloc (Nat.le_refl _) (.cells #[.int .u8 1] 5)).grown hgr9 (by simp) (fun j hj => by injection hj with hj; omega))
  have HC9 := Lib.hid (show Code0 w9 A9 (1 + n) (1 :: code) from ⟨own_rd hown9, by omega, fun c hc => by
    rcases List.mem_cons.1 hc with rfl | hc
    · omega
    · exact HBY.out c hc⟩)
  clear hown9 hgr9
  have HFR := Lib.hid (from_any w9 A9 (1 + n) c9 (1 :: code) HC9.out w9 (Below.refl _ _))
  have HNX := Lib.hid (fun g s k hk w' h => next_any w9 A9 (1 + n) c9 (1 :: code) HC9.out g s k hk w' h)
  obtain ⟨s0, hs0⟩ : ∃ s0, s0 = fromF (1 :: code) := ⟨_, rfl⟩
  rw [← hs0] at HFR
  clear hs0
  refine HFR.out.mono ?_
  rintro e w1 ⟨g, rfl, hs1, hge, hb1⟩
  have HS := Lib.hid hs1
  have HB1 := Lib.hid (HB9.out.trans (hb1.mono HB9.out.size))
  have hgl := hs1.lt
  have hz9 := HB9.out.size
  clear hs1 hb1 HFR
  go_wp2_with fail
  refine (HRT.out _ (HB0.out.trans (HB1.out.mono hb0))).mono ?_
  rintro e w2 ⟨x0, x1, x2, x3, rfl, hb2⟩
  have HS := Lib.hid (HS.out.below hb2)
  have HB1 := Lib.hid (HB1.out.trans (hb2.mono HB1.out.size))
  have hz2 := hb2.size
  clear hb2 HRT
  go_wp2_with fail
  refine (specRedText_any x0 x1 x2 x3 _).mono ?_
  rintro e w3 ⟨rfl, hb3⟩
  have HS := Lib.hid (HS.out.below hb3)
  have HB1 := Lib.hid (HB1.out.trans (hb3.mono HB1.out.size))
  have hz3 := hb3.size
  clear hb3
  obtain ⟨sx, hsx⟩ : ∃ sx, sx = str (redS (x0, x1, x2, x3)) := ⟨_, rfl⟩
  have hsl : sx.size ≤ 40 := by rw [hsx]; have := redS_len (x0, x1, x2, x3); simpa [str, ByteArray.size] using this
  rw [← hsx]
  clear hsx
  have hcv := Lib.run_convert_string_bytes (P := Tryz.prog) w3 9 22 5 sx Tryz.underlying9 Tryz.underlying22 Tryz.underlying5
  obtain ⟨ys, hys⟩ := bytes_at w3 5 sx
  have hfz := fun (k : Nat) (hk : k < sx.size) => bytes_free w3 5 sx hk
  have hbw := Lib.bytesWorld_below w3 5 sx
  generalize grownCap w3 sx.size 0 5 = cap4 at hcv
  generalize Lib.bytesWorld w3 5 sx = w4 at *
  have HY := Lib.hid hys
  have HFZ := Lib.hid hfz
  have HS := Lib.hid (HS.out.below hbw)
  have HB1 := Lib.hid (HB1.out.trans (hbw.mono HB1.out.size))
  have hz4 := hbw.size
  have hgb : w3.heap.size < w4.heap.size ∨ sx.size = 0 := by
    rcases Nat.eq_zero_or_pos sx.size with h | h
    · exact .inr h
    · exact .inl (by have := HY.out.2 0 h; exact cell_lt this)
  clear hys hfz hbw
  generalize hmm : sx.size = m at *
  by_cases hm : m = 0
  · subst hm
    have hmd : decide (((0 : Nat) : Int) > 0) = false := by simp
    have hc := HY.out.conv (cap := cap4)
    have hyl := strOfNums_size ys
    have hy0 := HY.out.1
    go_wp2_with fail
    go_ret
    exact ⟨_, rfl, by omega, HB1.out⟩
  have hmd : decide ((m : Int) > 0) = true := decide_eq_true (by omega)
  have hmd2 : decide ((0 : Int) < (m : Int)) = true := decide_eq_true (by omega)
  have hmd3 : decide (0 < m) = true := decide_eq_true (by omega)
  have hgb2 : w3.heap.size < w4.heap.size := by omega
  have HN := HNX.out g s0 4 (by omega) _ HS.out
  have qb5 := nextF_bd (1 :: code) s0 4 (by omega)
  generalize nextF (1 :: code) s0 4 = r at HN qb5
  obtain ⟨v5, s5⟩ := r
  simp only at qb5
  go_wp2_with fail
  refine HN.mono ?_
  rintro e w5 ⟨rfl, hs, hc⟩
  have HS := Lib.hid hs
  have hz5 := hc.size
  have HY := Lib.hid (HY.out.keep (hc.block _ hgb2 (.inr (by omega))))
  have HFZ := Lib.hid (fun (k : Nat) (hk : k < m) => (frozen_keep (hc.block _ hgb2 (.inr (by omega))) k).trans (HFZ.out k hk))
  replace hgb2 : w3.heap.size < w5.heap.size := by omega
  have HB1 := Lib.hid (below_chg HB1.out hc (by omega) HB1.out.size)
  clear hs hc HN
  by_cases h5 : v5 = 0
  rotate_left
  · have h5b : (v5 == 0) = false := by simp [h5]
    clear h5
    have hc := HY.out.conv (cap := cap4)
    have hyl := strOfNums_size ys
    have hy0 := HY.out.1
    go_wp2_with fail
    go_ret
    exact ⟨_, rfl, by omega, HB1.out⟩
  have h5b : (v5 == 0) = true := by simp [h5]
  clear h5
  have HN := HNX.out g s5 (m : Int) (by omega) _ HS.out
  have qb6 := nextF_bd (1 :: code) s5 (m : Int) (by omega)
  generalize nextF (1 :: code) s5 (m : Int) = r at HN qb6
  obtain ⟨v6, s6⟩ := r
  simp only at qb6
  go_wp2_with fail
  refine HN.mono ?_
  rintro e w6 ⟨rfl, hs, hc⟩
  have HS := Lib.hid hs
  have hz6 := hc.size
  have HY := Lib.hid (HY.out.keep (hc.block _ hgb2 (.inr (by omega))))
  have HFZ := Lib.hid (fun (k : Nat) (hk : k < m) => (frozen_keep (hc.block _ hgb2 (.inr (by omega))) k).trans (HFZ.out k hk))
  replace hgb2 : w3.heap.size < w6.heap.size := by omega
  have HB1 := Lib.hid (below_chg HB1.out hc (by omega) HB1.out.size)
  clear hs hc HN
  have HN := HNX.out g s6 6 (by omega) _ HS.out
  have qb7 := nextF_bd (1 :: code) s6 6 (by omega)
  generalize nextF (1 :: code) s6 6 = r at HN qb7
  obtain ⟨v7, s7⟩ := r
  simp only at qb7
  go_wp2_with fail
  refine HN.mono ?_
  rintro e w7 ⟨rfl, hs, hc⟩
  have HS := Lib.hid hs
  have hz7 := hc.size
  have HY := Lib.hid (HY.out.keep (hc.block _ hgb2 (.inr (by omega))))
  have HFZ := Lib.hid (fun (k : Nat) (hk : k < m) => (frozen_keep (hc.block _ hgb2 (.inr (by omega))) k).trans (HFZ.out k hk))
  replace hgb2 : w3.heap.size < w7.heap.size := by omega
  have HB1 := Lib.hid (below_chg HB1.out hc (by omega) HB1.out.size)
  clear hs hc HN
  obtain ⟨k, rfl⟩ := int_up v6 qb6.1
  have hk : k < m := by omega
  have hfk := HFZ.out k hk
  obtain ⟨yk, hyk⟩ : ∃ y, w7.cell? ⟨w3.heap.size, k, none⟩ = some (.int .u8 y) := ⟨_, by have := HY.out.2 k hk; rw [Nat.zero_add] at this; exact this⟩
  have HW := Lib.hid (fun c => HY.out.set hk c)
  have HBW := Lib.hid (fun c => HB1.out.setCell (p := ⟨w3.heap.size, k, none⟩) (show w.heap.size ≤ w3.heap.size by omega) (.int .u8 c))
  have hcase : v7 = 0 ∨ v7 = 1 ∨ v7 = 2 ∨ v7 = 3 ∨ v7 = 4 ∨ v7 = 5 := by omega
  rcases hcase with rfl | rfl | rfl | rfl | rfl | rfl
  · have hc := (HW.out (((⟨#[48, 32, 57, 97, 98, 112]⟩ : ByteArray)[0]'(by decide)).toNat : Int)).conv (cap := cap4)
    have hyl := strOfNums_size (ys.set k (((⟨#[48, 32, 57, 97, 98, 112]⟩ : ByteArray)[0]'(by decide)).toNat : Int))
    have hy0 := (HW.out (((⟨#[48, 32, 57, 97, 98, 112]⟩ : ByteArray)[0]'(by decide)).toNat : Int)).1
    go_wp2_with fail
    go_ret
    exact ⟨_, rfl, by omega, HBW.out _⟩
  · have hc := (HW.out (((⟨#[48, 32, 57, 97, 98, 112]⟩ : ByteArray)[1]'(by decide)).toNat : Int)).conv (cap := cap4)
    have hyl := strOfNums_size (ys.set k (((⟨#[48, 32, 57, 97, 98, 112]⟩ : ByteArray)[1]'(by decide)).toNat : Int))
    have hy0 := (HW.out (((⟨#[48, 32, 57, 97, 98, 112]⟩ : ByteArray)[1]'(by decide)).toNat : Int)).1
    go_wp2_with fail
    go_ret
    exact ⟨_, rfl, by omega, HBW.out _⟩
  · have hc := (HW.out (((⟨#[48, 32, 57, 97, 98, 112]⟩ : ByteArray)[2]'(by decide)).toNat : Int)).conv (cap := cap4)
    have hyl := strOfNums_size (ys.set k (((⟨#[48, 32, 57, 97, 98, 112]⟩ : ByteArray)[2]'(by decide)).toNat : Int))
    have hy0 := (HW.out (((⟨#[48, 32, 57, 97, 98, 112]⟩ : ByteArray)[2]'(by decide)).toNat : Int)).1
    go_wp2_with fail
    go_ret
    exact ⟨_, rfl, by omega, HBW.out _⟩
  · have hc := (HW.out (((⟨#[48, 32, 57, 97, 98, 112]⟩ : ByteArray)[3]'(by decide)).toNat : Int)).conv (cap := cap4)
    have hyl := strOfNums_size (ys.set k (((⟨#[48, 32, 57, 97, 98, 112]⟩ : ByteArray)[3]'(by decide)).toNat : Int))
    have hy0 := (HW.out (((⟨#[48, 32, 57, 97, 98, 112]⟩ : ByteArray)[3]'(by decide)).toNat : Int)).1
    go_wp2_with fail
    go_ret
    exact ⟨_, rfl, by omega, HBW.out _⟩
  · have hc := (HW.out (((⟨#[48, 32, 57, 97, 98, 112]⟩ : ByteArray)[4]'(by decide)).toNat : Int)).conv (cap := cap4)
    have hyl := strOfNums_size (ys.set k (((⟨#[48, 32, 57, 97, 98, 112]⟩ : ByteArray)[4]'(by decide)).toNat : Int))
    have hy0 := (HW.out (((⟨#[48, 32, 57, 97, 98, 112]⟩ : ByteArray)[4]'(by decide)).toNat : Int)).1
    go_wp2_with fail
    go_ret
    exact ⟨_, rfl, by omega, HBW.out _⟩
  · have hc := (HW.out (((⟨#[48, 32, 57, 97, 98, 112]⟩ : ByteArray)[5]'(by decide)).toNat : Int)).conv (cap := cap4)
    have hyl := strOfNums_size (ys.set k (((⟨#[48, 32, 57, 97, 98, 112]⟩ : ByteArray)[5]'(by decide)).toNat : Int))
    have hy0 := (HW.out (((⟨#[48, 32, 57, 97, 98, 112]⟩ : ByteArray)[5]'(by decide)).toNat : Int)).1
    go_wp2_with fail
    go_ret
    exact ⟨_, rfl, by omega, HBW.out _⟩
end Go.Proofs.YtalgdeieejpelaaGreatDoor

/- Walks: all permutations as the laws list them (chapter 31). -/
import Derived.Test.YtfkllgnenbbccaaMv
import Derived.Test.YtfkllgnenbbccaaWu2
import Derived.Test.YtfkllgnenbbccaaWyr
namespace Go.Proofs.Ytfkllgnenbbccaa
open Go.RowKit
set_option linter.unusedVariables false
set_option maxRecDepth 100000

/-- Result: new rows. -/
def RetRows (w : World) (rows : List (List Int)) (e : Ending) (w' : World) : Prop :=
  ∃ A n c vs, e = .returned (.slice A n c) ∧ OwnRows w' w.heap.size 22 2 A n c vs rows ∧ Below w.heap.size w w'
theorem allL_small : ∀ n : Fin 6, ∀ k : Fin 6, k.val ≤ n.val → ((allGo k.val 1 [[]]).length ≤ 120 ∧ (allGo k.val 1 [[]]).all (fun p => p.length == k.val) = true) := by decide +kernel
theorem insL_get {k : Int} {p : List Int} {at_ : Nat} (h : at_ ≤ p.length) : (insL k p)[at_]? = some (p.take at_ ++ [k] ++ p.drop at_) := by
  unfold insL
  rw [List.getElem?_map, List.getElem?_range (by omega)]
  rfl
theorem insL_len (k : Int) (p : List Int) : (insL k p).length = p.length + 1 := by simp [insL]
theorem allGo_snoc (m k : Nat) (out : List (List Int)) : allGo (m + 1) k out = (allGo m k out).flatMap (insL ((k + m : Nat) : Int)) := by
  induction m generalizing k out with
  | zero => rfl
  | succ m ih =>
    rw [allGo, ih, allGo]
    congr 2
    omega
theorem Rd.upto {w : World} {b o n : Nat} {xs : List Int} (h : Rd w 1 (some ⟨b, o, none⟩) n (ints xs)) (k : Nat) : ∀ (j : Nat) (y : Int), (xs.take k)[j]? = some y → w.cell? ((⟨b, o, none⟩ : Addr).add j) = some (.int .i64 y) := by
  intro j y hy
  have := h.drop 0 j y
  rw [List.drop_zero, Nat.add_zero] at this
  rw [List.getElem?_take] at hy
  split at hy
  · exact this hy
  · cases hy
/-- No row is nil. -/
def NN (vs : List Value) : Prop := ∀ v ∈ vs, ∃ g m c, v = .slice (some ⟨g, 0, none⟩) m c
theorem NN.snoc {vs : List Value} (h : NN vs) (g m c : Nat) : NN (vs ++ [.slice (some ⟨g, 0, none⟩) m c]) := by
  intro v hv
  rcases List.mem_append.1 hv with hv | hv
  · exact h v hv
  · simp at hv; exact ⟨g, m, c, hv⟩
theorem rows_one (w : World) (base eo ei : Nat) (hb : base ≤ w.heap.size) : OwnRows ((w.alloc (.cells #[] ei)).alloc (.cells #[.slice (some ⟨w.heap.size, 0, none⟩) 0 0] eo)) base eo ei (some ⟨w.heap.size + 1, 0, none⟩) 1 1 [.slice (some ⟨w.heap.size, 0, none⟩) 0 0] [[]] := by
  have h1 := own_empty w base ei hb
  have h2 := World.ownsRow_lit (base := base) (e := eo) (size := 1) (w.alloc (.cells #[] ei)) #[.slice (some ⟨w.heap.size, 0, none⟩) 0 0] 1 (by simp; omega) (by unfold maxLen; omega) (by simp)
  have e : (w.alloc (.cells #[] ei)).heap.size = w.heap.size + 1 := by simp
  rw [e] at h2
  refine ⟨h2, rfl, ?_, ?_⟩
  · intro k v xs hv hx
    cases k with
    | zero =>
      simp at hv hx
      subst hv hx
      exact ⟨_, _, rfl, h1.alloc _⟩
    | succ k => simp at hv
  · intro i j u v hne hu hv
    cases i with
    | zero => cases j with
      | zero => exact absurd rfl hne
      | succ j => simp at hv
    | succ i => simp at hu
theorem flat_len (k : Int) (d : Nat) (rows : List (List Int)) (h : ∀ p ∈ rows, p.length = d) : (rows.flatMap (insL k)).length = rows.length * (d + 1) := by
  induction rows with
  | nil => simp
  | cons x r ih =>
    rw [List.flatMap_cons, List.length_append, insL_len, ih (fun p hp => h p (by simp [hp])), h x (by simp), List.length_cons, Nat.add_mul]
    omega

/-- A slice of own rows, none of them nil. -/
def RowsAt (w : World) (base : Nat) (v : Value) (rows : List (List Int)) : Prop :=
  ∃ m c A vs, v = .slice A m c ∧ OwnRows w base 22 2 A m c vs rows ∧ NN vs

set_option maxHeartbeats 4000000 in
theorem l31All_any (n : Nat) (hn5 : n ≤ 5) (w : World) : Calls Try.prog 68 #[.int .i64 (n : Int)] w (RetRows w (allL n)) := by
  have hsm : ∀ k, k ≤ n → (allGo k 1 [[]]).length ≤ 120 ∧ ∀ p ∈ allGo k 1 [[]], p.length = k := by
    intro k hk
    obtain ⟨h1, h2⟩ := allL_small ⟨n, by omega⟩ ⟨k, by omega⟩ hk
    rw [List.all_eq_true] at h2
    exact ⟨h1, fun p hp => by simpa using h2 p hp⟩
  have HSM := Lib.hid hsm
  clear hsm
  go_enter Try.func68, Try.ntmps68
  go_wp2_with fail
  have hone := rows_one w w.heap.size 22 2 (Nat.le_refl _)
  have hb1 : Below w.heap.size w ((w.alloc (.cells #[] 2)).alloc (.cells #[.slice (some ⟨w.heap.size, 0, none⟩) 0 0] 22)) := ((Below.refl _ _).alloc (Nat.le_refl _) _).alloc (by simp) _
  go_loopw [3, 4] (fun v i wr => ∃ k : Nat, k ≤ n ∧ i = .int .i64 ((k : Int) + 1) ∧ RowsAt wr w.heap.size v (allGo k 1 [[]]) ∧ Below w.heap.size w wr) (fun _ i _ => n + 1 - (intOf i).toNat)
  case atStart => exact ⟨0, Nat.zero_le _, rfl, ⟨1, 1, _, _, rfl, hone, (fun v hv => by simp at hv; exact ⟨_, _, _, hv⟩)⟩, hb1⟩
  case round =>
    clear hone hb1
    obtain ⟨k, hk, rfl, ⟨m, c, A, vs, rfl, ho, hnn⟩, hb⟩ := hrel
    obtain ⟨hs1, hs2⟩ := HSM.out k hk
    have hlm := ho.len
    have HS2 := Lib.hid hs2; have HLM := Lib.hid hlm
    have hm120 : m ≤ 120 := by omega
    have hall := allGo_snoc k 1 [[]]
    rw [show ((1 + k : Nat) : Int) = (k : Int) + 1 from by omega] at hall
    have HALL := Lib.hid hall
    by_cases hlt : k < n
    · generalize allGo k 1 [[]] = rows at *
      clear hall hs1 hs2 hlm
      have O := Lib.hid ho; have NV := Lib.hid hnn; have B := Lib.hid hb
      clear ho hnn hb
      have hsb := B.out.size
      obtain ⟨wo, rfl⟩ : ∃ wo : World, wo = wr := ⟨_, rfl⟩
      have hne := OwnRows.empty wo wo.heap.size 22 2 (Nat.le_refl _)
      have hbe : Below wo.heap.size wo (wo.alloc (.cells #[] 22)) := (Below.refl _ _).alloc (Nat.le_refl _) _
      go_wp2_with fail
      go_loopw [5, 6] (fun v i w5 => ∃ q : Nat, q ≤ m ∧ i = .int .i64 q ∧ RowsAt w5 wo.heap.size v ((rows.take q).flatMap (insL ((k : Int) + 1))) ∧ Below wo.heap.size wo w5) (fun _ i _ => m - (intOf i).toNat)
      case atStart => exact ⟨0, Nat.zero_le _, rfl, ⟨0, 0, _, [], rfl, hne, (fun v hv => by cases hv)⟩, hbe⟩
      case round =>
        clear hne hbe
        obtain ⟨q, hqm, rfl, ⟨m2, c2, A2, vs2, rfl, ho2, hnn2⟩, hb2⟩ := hrel
        have hlm2 : m2 = q * (k + 1) := by
          have h1 := ho2.len
          rw [flat_len _ k _ (fun p hp => HS2.out p (List.mem_of_mem_take hp)), List.length_take, HLM.out] at h1
          rw [← h1, Nat.min_eq_left hqm]
        have hm2 : m2 ≤ 1000 := by
          have h1 : q * (k + 1) ≤ 120 * 6 := Nat.mul_le_mul (by omega) (by omega)
          omega
        have HLM2 := Lib.hid hlm2
        clear hlm2
        by_cases hltq : q < m
        · obtain ⟨v, A', c', xs, hv, hx, _, hve, hown⟩ := O.out.get hltq
          obtain ⟨gx, mx, cx, hvg⟩ := NV.out v (List.mem_of_getElem? hv)
          rw [hve] at hvg
          injection hvg with hvg1 hvg2 hvg3
          subst hvg1
          have hxl : xs.length = k := HS2.out xs (List.mem_of_getElem? hx)
          have hcap := own_cap hown
          have hout := O.out.outer
          obtain ⟨ga, u, rfl, _, _, hu, hcu, _⟩ := own_at hout hltq
          obtain rfl : v = u := by rw [hv] at hu; injection hu
          rw [hve] at hcu
          have hrx := own_rd hown
          have hlg := hown.lt gx rfl
          rw [hxl] at hcu hrx hcap
          have HX := Lib.hid hx; have O2 := Lib.hid ho2; have NV2 := Lib.hid hnn2; have B2 := Lib.hid hb2; have HRX := Lib.hid hrx; have HCX := Lib.hid hcu; have HXL := Lib.hid hxl
          have hs2 := hb2.size
          clear hcu hv hx hve hown hvg2 hvg3 hout hu hrx ho2 hnn2 hb2 hxl
          obtain ⟨w5, rfl⟩ : ∃ w5 : World, w5 = wr := ⟨_, rfl⟩
          have hcx2 := Keeps.below B2.out _ _ HCX.out
          have hbl := insL_len ((k : Int) + 1) xs
          rw [HXL.out] at hbl
          go_wp2_with fail
          go_loopw [5, 7, 8] (fun v i _ w6 => ∃ t : Nat, t ≤ k + 1 ∧ i = .int .i64 t ∧ RowsAt w6 wo.heap.size v ((rows.take q).flatMap (insL ((k : Int) + 1)) ++ (insL ((k : Int) + 1) xs).take t) ∧ Below wo.heap.size wo w6) (fun _ i _ _ => k + 1 - (intOf i).toNat)
          case atStart => exact ⟨0, Nat.zero_le _, rfl, ⟨m2, c2, A2, vs2, rfl, by simpa using O2.out, NV2.out⟩, B2.out⟩
          case round =>
            clear O2 NV2 B2 hcx2
            obtain ⟨t, htk, rfl, ⟨m3, c3, A3, vs3, rfl, ho3, hnn3⟩, hb3⟩ := hrel
            have hm3 : m3 = m2 + t := by
              have h1 := ho3.len
              rw [List.length_append, List.length_take, flat_len _ k _ (fun p hp => HS2.out p (List.mem_of_mem_take hp)), List.length_take, HLM.out, Nat.min_eq_left hqm, insL_len, HXL.out, Nat.min_eq_left htk] at h1
              have := HLM2.out
              omega
            have hcx := Keeps.below hb3 _ _ HCX.out
            have hrx := HRX.out.below hb3
            have hm31 : m3 ≤ 2000 := by omega
            have HM3 := Lib.hid hm3
            clear hm3
            by_cases htlt : t < k + 1
            · have hins : (insL ((k : Int) + 1) xs)[t]? = some (xs.take t ++ [(k : Int) + 1] ++ xs.drop t) := insL_get (by rw [HXL.out]; omega)
              have hin := ho3.in_
              have HIN := Lib.hid hin; have O3 := Lib.hid ho3; have NV3 := Lib.hid hnn3; have B3 := Lib.hid hb3; have HINS := Lib.hid hins
              have hs3 := hb3.size
              have hup := Rd.upto hrx t
              have HUP := Lib.hid hup
              have hdr := Rd.drop hrx t
              simp only [Nat.zero_add] at hdr
              have HDR := Lib.hid hdr
              clear hin ho3 hnn3 hb3 hins hup hdr hrx
              obtain ⟨w6, rfl⟩ : ∃ w6 : World, w6 = wr := ⟨_, rfl⟩
              have hbe6 : Below w6.heap.size w6 (w6.alloc (.cells #[] 2)) := (Below.refl _ _).alloc (Nat.le_refl _) _
              have hcxa := Keeps.below hbe6 _ _ hcx
              have hdt : decide (t ≤ k) = true := by simp; omega
              have tok1 : True := trivial
              have tok2 : True := trivial
              have tok3 : True := trivial
              have tok4 : True := trivial
              by_cases hct : c' = t
              · obtain rfl : k = t := by omega
                obtain rfl : k = c' := hct.symm
                go_wp2_with (first | (at_builtin; have _t := tok1; refine app_src2 _ rfl _ _ rfl (xs := []) rfl (own_empty w6 w6.heap.size _ (Nat.le_refl _)) (m := k) (d := k) (ys := xs.take k) rfl k (Nat.zero_add _) (xs.take k) (List.nil_append _) (by rw [List.length_take, HXL.out]; omega) (fun j y hy => Keeps.below hbe6 _ _ (HUP.out j y hy)) (by omega) (by simp) ?_; intro g1 c1 w7 ho7 hgr7; clear tok1; have b7 : Below w6.heap.size w6 w7 := hbe6.grown hgr7 (by simp) (fun q' e => by injection e with e; subst e; exact Nat.le_refl _); have hs7 := b7.size) | (at_builtin; have _t := tok2; refine app_i64w _ rfl _ _ rfl rfl (ho7.alloc _) rfl (cell_new1 _ _ _) (by omega) (by simp; omega) ?_; intro g2 c2' w8 ho8 hgr8 _; clear tok2; have b8 : Below w6.heap.size w6 w8 := below_app b7 hs7 (Nat.le_refl _) ho7 hgr8; have hs8 := b8.size; have hcx8 := Keeps.below b8 _ _ hcx) | (at_builtin; have _t := tok3; go_loud (refine app_src2 _ rfl _ _ rfl rfl ho8 (m := 0) (d := 0) (ys := xs.drop k) rfl (k + 1) (by omega) (xs.take k ++ [(k : Int) + 1] ++ xs.drop k) rfl (by rw [List.length_drop, HXL.out, Nat.sub_self]) (fun j y hy => by rw [List.drop_eq_nil_of_le (by rw [HXL.out]; omega)] at hy; simp at hy) (by omega) (by omega) ?_); intro g3 c3' w9 ho9 hgr9; clear tok3; have b9 : Below w6.heap.size w6 w9 := b8.grown hgr9 hs8 (fun q' e => by injection e with e; subst e; exact (ho8.lt g2 rfl).1); have hs9 := b9.size; have hO9 := O3.out.below b9; have hou := hO9.outer) | (at_builtin; have _t := tok4; go_loud (refine app_row (base := wo.heap.size) _ rfl _ _ rfl rfl (hou.alloc _) rfl (cell_new1 _ _ _) (by omega) (by simp; omega) ?_); intro A4 c4 w10 ho10 hgr10; clear tok4))
                have hlen9 : (xs.take k ++ [(k : Int) + 1] ++ xs.drop k).length = k + 1 := own_len ho9
                have hrow : w9.ownsRow wo.heap.size 2 1 (.slice (some ⟨g3, 0, none⟩) (xs.take k ++ [(k : Int) + 1] ++ xs.drop k).length c3') (xs.take k ++ [(k : Int) + 1] ++ xs.drop k).length (ints (xs.take k ++ [(k : Int) + 1] ++ xs.drop k)) := by rw [hlen9]; exact own_base ho9 hs3
                have hap : ∀ u ∈ vs3, ∀ b, (Value.slice (some ⟨g3, 0, none⟩) (xs.take k ++ [(k : Int) + 1] ++ xs.drop k).length c3').ownBlock = some b → u.ownBlock ≠ some b := by
                  intro u hu b hb hb'
                  have h1 := (ho9.lt g3 rfl).1
                  have h2 := (HIN.out.2 u hu b hb').2
                  simp [Value.ownBlock] at hb
                  omega
                have ho11 := hO9.append (by decide) hrow hap _ hgr10 (by rw [hlen9]; exact ho10)
                have hb11 : Below wo.heap.size wo w10 := below_app (B3.out.trans (b9.mono hs3)) (by omega) (Nat.le_refl _) hou hgr10
                have HO11 := Lib.hid ho11; have HB11 := Lib.hid hb11
                have hnv : NN (vs3 ++ [.slice (some ⟨g3, 0, none⟩) (xs.take k ++ [(k : Int) + 1] ++ xs.drop k).length c3']) := NV3.out.snoc _ _ _
                have HNV := Lib.hid hnv
                clear ho11 hb11 hnv hrow hap hlen9 ho9 ho10 hgr10 hou hO9 b9 b8 b7 hgr7 hgr8 hgr9 ho7 ho8 hcx8
                go_wp2_with fail
                go_roundw
                case rel => exact ⟨k + 1, by omega, by go_num, ⟨_, _, _, _, rfl, by rw [take_snoc_get HINS.out, ← List.append_assoc]; exact HO11.out, HNV.out⟩, HB11.out⟩
                case measure => simp [intOf] <;> omega
              · go_wp2_with (first | (at_builtin; have _t := tok1; refine app_src2 _ rfl _ _ rfl (xs := []) rfl (own_empty w6 w6.heap.size _ (Nat.le_refl _)) (m := t) (d := c') (ys := xs.take t) rfl t (Nat.zero_add _) (xs.take t) (List.nil_append _) (by rw [List.length_take, HXL.out]; omega) (fun j y hy => Keeps.below hbe6 _ _ (HUP.out j y hy)) (by omega) (by simp) ?_; intro g1 c1 w7 ho7 hgr7; clear tok1; have b7 : Below w6.heap.size w6 w7 := hbe6.grown hgr7 (by simp) (fun q' e => by injection e with e; subst e; exact Nat.le_refl _); have hs7 := b7.size) | (at_builtin; have _t := tok2; refine app_i64w _ rfl _ _ rfl rfl (ho7.alloc _) rfl (cell_new1 _ _ _) (by omega) (by simp; omega) ?_; intro g2 c2' w8 ho8 hgr8 _; clear tok2; have b8 : Below w6.heap.size w6 w8 := below_app b7 hs7 (Nat.le_refl _) ho7 hgr8; have hs8 := b8.size; have hcx8 := Keeps.below b8 _ _ hcx) | (at_builtin; have _t := tok3; go_loud (refine app_src2 _ rfl _ _ rfl rfl ho8 (m := k - t) (d := c' - t) (ys := xs.drop t) rfl (k + 1) (by omega) (xs.take t ++ [(k : Int) + 1] ++ xs.drop t) rfl (by rw [List.length_drop, HXL.out]) (fun j y hy => Keeps.below b8 _ _ (HDR.out j y hy)) (by omega) (by omega) ?_); intro g3 c3' w9 ho9 hgr9; clear tok3; have b9 : Below w6.heap.size w6 w9 := b8.grown hgr9 hs8 (fun q' e => by injection e with e; subst e; exact (ho8.lt g2 rfl).1); have hs9 := b9.size; have hO9 := O3.out.below b9; have hou := hO9.outer) | (at_builtin; have _t := tok4; go_loud (refine app_row (base := wo.heap.size) _ rfl _ _ rfl rfl (hou.alloc _) rfl (cell_new1 _ _ _) (by omega) (by simp; omega) ?_); intro A4 c4 w10 ho10 hgr10; clear tok4))
                have hlen9 : (xs.take t ++ [(k : Int) + 1] ++ xs.drop t).length = k + 1 := own_len ho9
                have hrow : w9.ownsRow wo.heap.size 2 1 (.slice (some ⟨g3, 0, none⟩) (xs.take t ++ [(k : Int) + 1] ++ xs.drop t).length c3') (xs.take t ++ [(k : Int) + 1] ++ xs.drop t).length (ints (xs.take t ++ [(k : Int) + 1] ++ xs.drop t)) := by rw [hlen9]; exact own_base ho9 hs3
                have hap : ∀ u ∈ vs3, ∀ b, (Value.slice (some ⟨g3, 0, none⟩) (xs.take t ++ [(k : Int) + 1] ++ xs.drop t).length c3').ownBlock = some b → u.ownBlock ≠ some b := by
                  intro u hu b hb hb'
                  have h1 := (ho9.lt g3 rfl).1
                  have h2 := (HIN.out.2 u hu b hb').2
                  simp [Value.ownBlock] at hb
                  omega
                have ho11 := hO9.append (by decide) hrow hap _ hgr10 (by rw [hlen9]; exact ho10)
                have hb11 : Below wo.heap.size wo w10 := below_app (B3.out.trans (b9.mono hs3)) (by omega) (Nat.le_refl _) hou hgr10
                have HO11 := Lib.hid ho11; have HB11 := Lib.hid hb11
                have hnv : NN (vs3 ++ [.slice (some ⟨g3, 0, none⟩) (xs.take t ++ [(k : Int) + 1] ++ xs.drop t).length c3']) := NV3.out.snoc _ _ _
                have HNV := Lib.hid hnv
                clear ho11 hb11 hnv hrow hap hlen9 ho9 ho10 hgr10 hou hO9 b9 b8 b7 hgr7 hgr8 hgr9 ho7 ho8 hcx8
                go_wp2_with fail
                go_roundw
                case rel => exact ⟨t + 1, by omega, by go_num, ⟨_, _, _, _, rfl, by rw [take_snoc_get HINS.out, ← List.append_assoc]; exact HO11.out, HNV.out⟩, HB11.out⟩
                case measure => simp [intOf] <;> omega
            · obtain rfl : t = k + 1 := by omega
              have htk2 : (insL ((k : Int) + 1) xs).take (k + 1) = insL ((k : Int) + 1) xs := List.take_of_length_le (by rw [insL_len, HXL.out]; exact Nat.le_refl _)
              rw [htk2] at ho3
              have hfm : (rows.take (q + 1)).flatMap (insL ((k : Int) + 1)) = (rows.take q).flatMap (insL ((k : Int) + 1)) ++ insL ((k : Int) + 1) xs := by rw [take_snoc_get HX.out, List.flatMap_append]; simp
              rw [← hfm] at ho3
              have O3 := Lib.hid ho3; have NV3 := Lib.hid hnn3; have B3 := Lib.hid hb3
              clear htk2 hfm ho3 hnn3 hb3
              go_wp2_with fail
              go_roundw
              case rel => exact ⟨q + 1, by omega, by go_num, ⟨_, _, _, _, rfl, O3.out, NV3.out⟩, B3.out⟩
              case measure => simp [intOf] <;> omega
        · obtain rfl : q = m := by omega
          rw [List.take_of_length_le (by rw [HLM.out]; exact Nat.le_refl _), ← HALL.out] at ho2
          have O2 := Lib.hid (ho2.base' hsb); have NV2 := Lib.hid hnn2; have B2 := Lib.hid (B.out.trans (hb2.mono hsb))
          clear ho2 hnn2 hb2
          go_wp2_with fail
          go_roundw
          case rel => exact ⟨k + 1, by omega, by go_num, ⟨_, _, _, _, rfl, O2.out, NV2.out⟩, B2.out⟩
          case measure => simp [intOf] <;> omega
    · obtain rfl : k = n := by omega
      have HO := Lib.hid ho; have HB := Lib.hid hb
      clear ho hb hall
      unfold RetRows
      go_wp2_with fail
      go_ret
      exact ⟨_, _, _, _, rfl, HO.out, HB.out⟩
end Go.Proofs.Ytfkllgnenbbccaa

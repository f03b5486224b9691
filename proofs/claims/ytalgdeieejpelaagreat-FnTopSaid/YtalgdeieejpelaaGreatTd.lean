/- Walks: averages of points (chapter 29), both sides. -/
import Derived.Test.YtalgdeieejpelaaGreatTc
namespace Go.Proofs.YtalgdeieejpelaaGreat
open Go.RowKit
set_option linter.unusedVariables false
set_option maxRecDepth 100000

theorem getD_of_drop {α : Type} {xs r : List α} {k : Nat} {x d : α} (h : xs.drop k = x :: r) : xs.getD k d = x := by
  have h0 : (xs.drop k)[0]? = some x := by rw [h]; rfl
  have : xs[k]? = some x := by rw [List.getElem?_drop] at h0; simpa using h0
  simp [List.getD, this]
theorem tab_row {w : World} {P C : Option Addr} {n m k : Nat} {t : Tb} (h : RdT w P n C m t) (ok : TabOk t) (hk : k < n) {bt : Nat} (hb : (bt : Int) < t.boats) :
    ∃ b o A' c' p b' o' A2 c2 q x y b3 o3 b4 o4, P = some ⟨b, o, none⟩ ∧ C = some ⟨b', o', none⟩ ∧ t.pts.drop k = p :: t.pts.drop (k + 1) ∧ t.cds.drop k = q :: t.cds.drop (k + 1) ∧
      w.cell? ⟨b, o + k, none⟩ = some (.slice A' p.length c') ∧ w.cell? ⟨b', o' + k, none⟩ = some (.slice A2 q.length c2) ∧ A' = some ⟨b3, o3, none⟩ ∧ A2 = some ⟨b4, o4, none⟩ ∧
      bt < p.length ∧ bt < q.length ∧ p.length ≤ 16 ∧ q.length ≤ 16 ∧ p.getD bt 0 = x ∧ q.getD bt 0 = y ∧ 0 ≤ x ∧ x ≤ 10000 ∧ w.cell? ⟨b3, o3 + bt, none⟩ = some (.int .i64 x) ∧ w.cell? ⟨b4, o4 + bt, none⟩ = some (.int .i64 y) := by
  have hl := ok.same
  have hpl := h.pts.len
  have hcl := h.cds.len
  have hkm : k < m := by omega
  obtain ⟨b, o, A', c', p, rfl, hp, hd, hc, hrd⟩ := h.pts.row hk
  obtain ⟨b', o', A2, c2, q, rfl, hq, hd', hc', hrd'⟩ := h.cds.row hkm
  obtain ⟨⟨r1, r2⟩, r3, r4⟩ := ok.row k p q hp hq
  have h2 := ok.b2
  obtain ⟨b3, o3, x, rfl, hx, _, hxc⟩ := hrd.int (k := bt) (by omega)
  obtain ⟨b4, o4, y, rfl, hy, _, hyc⟩ := hrd'.int (k := bt) (by omega)
  have hxm := r2 x (List.mem_of_getElem? hx)
  exact ⟨b, o, _, c', p, b', o', _, c2, q, x, y, b3, o3, b4, o4, rfl, rfl, hd, hd', hc, hc', rfl, rfl, by omega, by omega, by omega, by omega, by simp [List.getD, hx], by simp [List.getD, hy], hxm.1, hxm.2, hxc, hyc⟩
theorem ret_two {a a' : Int} {b b' : Bool} (h : (a, b) = (a', b')) : Ending.returned (.tuple #[.int .i64 a, .bool b]) = .returned (.tuple #[.int .i64 a', .bool b']) := by
  injection h with h1 h2; rw [h1, h2]
set_option maxHeartbeats 2000000 in
theorem implAvg_any (P : Option Addr) (n c : Nat) (C : Option Addr) (m d : Nat) (t : Tb) (race : Int) (bt : Nat) (kind : Int) (hkind : kind = 1 ∨ kind = 2) (ok : TabOk t) (hbt : (bt : Int) < t.boats) (w : World) (h : RdT w P n C m t) :
    Calls Tryz.prog 108 #[.agg #[.int .i64 t.boats, .slice P n c, .slice C m d], .int .i64 race, .int .i64 bt, .int .i64 kind] w fun e w' => e = .returned (.tuple #[.int .i64 (avgF t race bt kind).1, .bool (avgF t race bt kind).2]) ∧ Below w.heap.size w w' := by
  have hn := h.pts.le
  have hm := h.cds.le
  have hn12 : n ≤ 12 := by have := ok.many; have := h.pts.len; omega
  have HN := Lib.hid h.pts.len
  have hnm : n = m := by have := ok.same; have := h.pts.len; have := h.cds.len; omega
  subst hnm
  have E := Lib.hid (show avgF t race bt kind = avgOf (avgGo race kind bt 0 t.pts t.cds 0 0) from rfl)
  generalize avgF t race bt kind = R at *
  have HB := Lib.hid (show ∀ o, Below w.heap.size w (w.alloc o) from fun o => (Below.refl _ _).alloc (Nat.le_refl _) o)
  have HOK := Lib.hid ok; have HBT := Lib.hid hbt
  clear ok hbt
  go_enter Tryz.func108, Tryz.ntmps108
  go_wp2_with fail
  obtain ⟨w1, hw1, X0, hb1, hs1⟩ := one_box w #[.int .i64 t.boats, .slice P n c, .slice C n d] 53
  rw [← hw1]
  clear hw1 hs1
  have F0 := X0.f3
  have h1 := h.below hb1
  have HB1 := Lib.hid hb1
  clear h hb1 X0
  go_loop [10, 11, 18] (fun s m i => ∃ (k : Nat) (S M : Int), k ≤ n ∧ i = .int .i64 k ∧ s = .int .i64 S ∧ m = .int .i64 M ∧ 0 ≤ S ∧ S ≤ 10000 * k ∧ 0 ≤ M ∧ M ≤ k ∧ Hid (avgGo race kind bt k (t.pts.drop k) (t.cds.drop k) S M = avgGo race kind bt 0 t.pts t.cds 0 0)) (fun _ _ i => n - (intOf i).toNat)
  case atStart => exact ⟨0, 0, 0, Nat.zero_le _, rfl, rfl, rfl, by omega, by omega, by omega, by omega, Lib.hid rfl⟩
  case round =>
    obtain ⟨k, S, M, hk, rfl, rfl, rfl, hS0, hS1, hM0, hM1, HR⟩ := hrel
    by_cases hlt : k < n
    · obtain ⟨b, o, A', c', p, b', o', A2, c2, q, x, y, b3, o3, b4, o4, rfl, rfl, hd, hd', hc, hc', rfl, rfl, hbp, hbq, hp16, hq16, hx, hy, hx0, hx1, hxc, hyc⟩ := tab_row h1 HOK.out hlt HBT.out
      have HD := Lib.hid hd; have HD' := Lib.hid hd'; have HX := Lib.hid hx; have HY := Lib.hid hy
      clear hd hd' hx hy h1
      by_cases hr : (k : Int) < race
      · have HOT := Lib.hid (show otherB race kind k = true by rw [otherB_all k hkind]; simp [hr])
        by_cases h9 : y = 9
        · have HO := Lib.hid (show ¬ ((otherB race kind k && !(y == 9)) = true) by simp [h9])
          subst h9
          go_wp2_with fail
          go_round
          case rel => exact ⟨k + 1, S, M, by omega, by go_num, rfl, rfl, by omega, by omega, by omega, by omega, Lib.hid (by rw [← HR.out, HD.out, HD'.out, avgGo, HX.out, HY.out, if_neg HO.out])⟩
          case measure => simp [intOf] <;> omega
        · have HO := Lib.hid (show (otherB race kind k && !(y == 9)) = true by rw [HOT.out]; simp [h9])
          have e9 : (y == 9) = false := by simp [h9]
          have e9' : (y != 9) = true := by simp [h9]
          go_wp2_with fail
          go_round
          case rel => exact ⟨k + 1, S + x, M + 1, by omega, by go_num, by go_num, by go_num, by omega, by omega, by omega, by omega, Lib.hid (by rw [← HR.out, HD.out, HD'.out, avgGo, HX.out, HY.out, if_pos HO.out])⟩
          case measure => simp [intOf] <;> omega
      · by_cases hr2 : race < (k : Int)
        · rcases hkind with rfl | rfl
          · have HOT := Lib.hid (show otherB race 1 k = true by rw [otherB_all k (.inl rfl)]; simp [hr, hr2])
            by_cases h9 : y = 9
            · have HO := Lib.hid (show ¬ ((otherB race 1 k && !(y == 9)) = true) by simp [h9])
              subst h9
              go_wp2_with fail
              go_round
              case rel => exact ⟨k + 1, S, M, by omega, by go_num, rfl, rfl, by omega, by omega, by omega, by omega, Lib.hid (by rw [← HR.out, HD.out, HD'.out, avgGo, HX.out, HY.out, if_neg HO.out])⟩
              case measure => simp [intOf] <;> omega
            · have HO := Lib.hid (show (otherB race 1 k && !(y == 9)) = true by rw [HOT.out]; simp [h9])
              have e9 : (y == 9) = false := by simp [h9]
              have e9' : (y != 9) = true := by simp [h9]
              go_wp2_with fail
              go_round
              case rel => exact ⟨k + 1, S + x, M + 1, by omega, by go_num, by go_num, by go_num, by omega, by omega, by omega, by omega, Lib.hid (by rw [← HR.out, HD.out, HD'.out, avgGo, HX.out, HY.out, if_pos HO.out])⟩
              case measure => simp [intOf] <;> omega
          · have HOF := Lib.hid (show otherB race 2 k = false by rw [otherB_all k (.inr rfl)]; simp [hr])
            have HO := Lib.hid (show ¬ ((otherB race 2 k && !(y == 9)) = true) by rw [HOF.out]; simp)
            go_wp2_with fail
            go_round
            case rel => exact ⟨k + 1, S, M, by omega, by go_num, rfl, rfl, by omega, by omega, by omega, by omega, Lib.hid (by rw [← HR.out, HD.out, HD'.out, avgGo, HX.out, HY.out, if_neg HO.out])⟩
            case measure => simp [intOf] <;> omega
        · have HOF := Lib.hid (show otherB race kind k = false by rw [otherB_all k hkind]; simp [hr]; omega)
          have HO := Lib.hid (show ¬ ((otherB race kind k && !(y == 9)) = true) by rw [HOF.out]; simp)
          go_wp2_with fail
          go_round
          case rel => exact ⟨k + 1, S, M, by omega, by go_num, rfl, rfl, by omega, by omega, by omega, by omega, Lib.hid (by rw [← HR.out, HD.out, HD'.out, avgGo, HX.out, HY.out, if_neg HO.out])⟩
          case measure => simp [intOf] <;> omega
    · obtain rfl : k = n := by omega
      rw [List.drop_eq_nil_of_le (by rw [HN.out]; omega), avgGo_nil] at HR
      rw [← HR.out] at E
      clear HR h1
      by_cases hM : M = 0
      · subst hM
        go_wp2_with fail
        go_ret2
        exact ⟨ret_two (by rw [E.out]; rfl), HB1.out⟩
      · have e0 : (M == 0) = false := by simp [hM]
        have hMp : 0 < M := by omega
        go_wp2_with fail
        go_ret2
        exact ⟨ret_two (by rw [E.out]; unfold avgOf; rw [if_neg hM]), HB1.out⟩
set_option maxHeartbeats 2000000 in
theorem specAvg_any (P : Option Addr) (n c : Nat) (C : Option Addr) (m d : Nat) (t : Tb) (race : Int) (bt : Nat) (kind : Int) (ok : TabOk t) (hbt : (bt : Int) < t.boats) (w : World) (h : RdT w P n C m t) :
    Calls Tryz.prog 70 #[.agg #[.int .i64 t.boats, .slice P n c, .slice C m d], .int .i64 race, .int .i64 bt, .int .i64 kind] w fun e w' => e = .returned (.tuple #[.int .i64 (avgF t race bt kind).1, .bool (avgF t race bt kind).2]) ∧ Below w.heap.size w w' := by
  have hn := h.pts.le
  have hm := h.cds.le
  have hn12 : n ≤ 12 := by have := ok.many; have := h.pts.len; omega
  have HN := Lib.hid h.pts.len
  have hnm : n = m := by have := ok.same; have := h.pts.len; have := h.cds.len; omega
  subst hnm
  have E := Lib.hid (show avgF t race bt kind = avgOf (avgGo race kind bt 0 t.pts t.cds 0 0) from rfl)
  generalize avgF t race bt kind = R at *
  have HB := Lib.hid (show ∀ o, Below w.heap.size w (w.alloc o) from fun o => (Below.refl _ _).alloc (Nat.le_refl _) o)
  have HOK := Lib.hid ok; have HBT := Lib.hid hbt
  clear ok hbt
  go_enter Tryz.func70, Tryz.ntmps70
  go_wp2_with fail
  obtain ⟨w1, hw1, X0, hb1, hs1⟩ := one_box w #[.int .i64 t.boats, .slice P n c, .slice C n d] 53
  rw [← hw1]
  clear hw1 hs1
  have F0 := X0.f3
  have h1 := h.below hb1
  have HB1 := Lib.hid hb1
  clear h hb1 X0
  go_loop [10, 11, 12] (fun s m i => ∃ (k : Nat) (S M : Int), k ≤ n ∧ i = .int .i64 k ∧ s = .int .i64 S ∧ m = .int .i64 M ∧ 0 ≤ S ∧ S ≤ 10000 * k ∧ 0 ≤ M ∧ M ≤ k ∧ Hid (avgGo race kind bt k (t.pts.drop k) (t.cds.drop k) S M = avgGo race kind bt 0 t.pts t.cds 0 0)) (fun _ _ i => n - (intOf i).toNat)
  case atStart => exact ⟨0, 0, 0, Nat.zero_le _, rfl, rfl, rfl, by omega, by omega, by omega, by omega, Lib.hid rfl⟩
  case round =>
    obtain ⟨k, S, M, hk, rfl, rfl, rfl, hS0, hS1, hM0, hM1, HR⟩ := hrel
    by_cases hlt : k < n
    · obtain ⟨b, o, A', c', p, b', o', A2, c2, q, x, y, b3, o3, b4, o4, rfl, rfl, hd, hd', hc, hc', rfl, rfl, hbp, hbq, hp16, hq16, hx, hy, hx0, hx1, hxc, hyc⟩ := tab_row h1 HOK.out hlt HBT.out
      have HD := Lib.hid hd; have HD' := Lib.hid hd'; have HX := Lib.hid hx; have HY := Lib.hid hy
      clear hd hd' hx hy h1
      by_cases hr : (k : Int) = race
      · have er : ((k : Int) == race) = true := by simp [hr]
        have HOF := Lib.hid (show otherB race kind k = false by unfold otherB; simp [hr])
        have HO := Lib.hid (show ¬ ((otherB race kind k && !(y == 9)) = true) by rw [HOF.out]; simp)
        go_wp2_with fail
        go_round
        case rel => exact ⟨k + 1, S, M, by omega, by go_num, rfl, rfl, by omega, by omega, by omega, by omega, Lib.hid (by rw [← HR.out, HD.out, HD'.out, avgGo, HX.out, HY.out, if_neg HO.out])⟩
        case measure => simp [intOf] <;> omega
      · have er : ((k : Int) == race) = false := by simp [hr]
        by_cases hk2 : kind = 2
        · subst hk2
          by_cases hr2 : race < (k : Int)
          · have HOF := Lib.hid (show otherB race 2 k = false by unfold otherB; simp [hr2])
            have HO := Lib.hid (show ¬ ((otherB race 2 k && !(y == 9)) = true) by rw [HOF.out]; simp)
            go_wp2_with fail
            go_round
            case rel => exact ⟨k + 1, S, M, by omega, by go_num, rfl, rfl, by omega, by omega, by omega, by omega, Lib.hid (by rw [← HR.out, HD.out, HD'.out, avgGo, HX.out, HY.out, if_neg HO.out])⟩
            case measure => simp [intOf] <;> omega
          · have HOT := Lib.hid (show otherB race 2 k = true by unfold otherB; simp [hr, hr2] <;> omega)
            by_cases h9 : y = 9
            · have HO := Lib.hid (show ¬ ((otherB race 2 k && !(y == 9)) = true) by simp [h9])
              subst h9
              go_wp2_with fail
              go_round
              case rel => exact ⟨k + 1, S, M, by omega, by go_num, rfl, rfl, by omega, by omega, by omega, by omega, Lib.hid (by rw [← HR.out, HD.out, HD'.out, avgGo, HX.out, HY.out, if_neg HO.out])⟩
              case measure => simp [intOf] <;> omega
            · have HO := Lib.hid (show (otherB race 2 k && !(y == 9)) = true by rw [HOT.out]; simp [h9])
              have e9 : (y == 9) = false := by simp [h9]
              have e9' : (y != 9) = true := by simp [h9]
              go_wp2_with fail
              go_round
              case rel => exact ⟨k + 1, S + x, M + 1, by omega, by go_num, by go_num, by go_num, by omega, by omega, by omega, by omega, Lib.hid (by rw [← HR.out, HD.out, HD'.out, avgGo, HX.out, HY.out, if_pos HO.out])⟩
              case measure => simp [intOf] <;> omega
        · have e2 : (kind == 2) = false := by simp [hk2]
          have HOT := Lib.hid (show otherB race kind k = true by unfold otherB; simp [hr, hk2])
          by_cases h9 : y = 9
          · have HO := Lib.hid (show ¬ ((otherB race kind k && !(y == 9)) = true) by simp [h9])
            subst h9
            go_wp2_with fail
            go_round
            case rel => exact ⟨k + 1, S, M, by omega, by go_num, rfl, rfl, by omega, by omega, by omega, by omega, Lib.hid (by rw [← HR.out, HD.out, HD'.out, avgGo, HX.out, HY.out, if_neg HO.out])⟩
            case measure => simp [intOf] <;> omega
          · have HO := Lib.hid (show (otherB race kind k && !(y == 9)) = true by rw [HOT.out]; simp [h9])
            have e9 : (y == 9) = false := by simp [h9]
            have e9' : (y != 9) = true := by simp [h9]
            go_wp2_with fail
            go_round
            case rel => exact ⟨k + 1, S + x, M + 1, by omega, by go_num, by go_num, by go_num, by omega, by omega, by omega, by omega, Lib.hid (by rw [← HR.out, HD.out, HD'.out, avgGo, HX.out, HY.out, if_pos HO.out])⟩
            case measure => simp [intOf] <;> omega
    · obtain rfl : k = n := by omega
      rw [List.drop_eq_nil_of_le (by rw [HN.out]; omega), avgGo_nil] at HR
      rw [← HR.out] at E
      clear HR h1
      by_cases hM : M = 0
      · subst hM
        go_wp2_with fail
        go_ret2
        exact ⟨ret_two (by rw [E.out]; rfl), HB1.out⟩
      · have e0 : (M == 0) = false := by simp [hM]
        have hMp : 0 < M := by omega
        go_wp2_with fail
        go_ret2
        exact ⟨ret_two (by rw [E.out]; unfold avgOf; rw [if_neg hM]), HB1.out⟩
end Go.Proofs.YtalgdeieejpelaaGreat

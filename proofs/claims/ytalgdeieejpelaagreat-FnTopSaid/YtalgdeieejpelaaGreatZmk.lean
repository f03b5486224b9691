/- General and plain lemmas, and light walks (merged): Jg Jc. -/
import Derived.Test.YtalgdeieejpelaaGreatZme
import Derived.Test.YtalgdeieejpelaaGreatJb
/- Walks: a register with one more entry, the spec (chapter 33). -/
namespace Go.Proofs.YtalgdeieejpelaaGreat
open Go.RowKit Go.Sort Go.Lib
set_option linter.unusedVariables false
set_option maxRecDepth 100000

end Go.Proofs.YtalgdeieejpelaaGreat

/- Walks: current entries (chapter 33), both sides. -/
namespace Go.Proofs.YtalgdeieejpelaaGreat
open Go.RowKit Go.Sort
set_option linter.unusedVariables false
set_option maxRecDepth 100000

def curL (b s : Int) (xs : List EntryT) : List EntryT := if regB b s xs = true then currF b xs else []
def curC (b s : Int) (xs : List EntryT) : Int := if regB b s xs = true then 0 else 1
set_option maxHeartbeats 8000000 in
theorem implCurrent_any (b s : Int) (A : Option Addr) (n c : Nat) (xs : List EntryT) (w : World) (hr : RegRd w A n c xs) (hlen : n ≤ 400) (hok : ∀ x ∈ xs, okE x) (hkey : xs.Pairwise fun x y => sameB x y = false) (hb0 : 1 ≤ b) (hb16 : b ≤ 16) :
    Calls Tryz.prog 79 #[.agg #[.int .i64 b, .int .i64 s, .slice A n c]] w (RetEntryS w (currF b xs)) := by
  obtain ⟨bn, rfl⟩ : ∃ bn : Nat, b = (bn : Int) := ⟨b.toNat, by omega⟩
  have hbn : bn ≤ 16 := by omega
  have HE := Lib.hid (show currF (bn : Int) xs = currC xs bn 12 from rfl)
  obtain ⟨w1, hw1, X0, hb1, hs1⟩ := one_box w #[.int .i64 (bn : Int), .int .i64 s, .slice A n c] 31
  have HB1 := Lib.hid hb1
  have HX1 := Lib.hid X0
  have HH := Lib.hid (fun (race boat : Int) (w' : World) (hb : Below w1.heap.size w1 w') => implHistory_any (bn : Int) s race boat A n c xs w' ((hr.below hb1).below hb) hlen hok hkey)
  have HLH := Lib.hid (fun race boat => Nat.le_trans (hist_len xs race boat) (by rw [hr.1.len_ent]; exact hlen))
  clear hr hb1 X0 hok hkey
  have hoe : (w1.alloc (.cells #[] 50)).ownsRow w1.heap.size 50 7 (.slice (some ⟨w1.heap.size, 0, none⟩) 0 0) 0 (ents (currC xs bn 0)) := own_emptyE w1 w1.heap.size 50 7 (Nat.le_refl _)
  have hbe : Below w1.heap.size w1 (w1.alloc (.cells #[] 50)) := (Below.refl _ _).alloc (Nat.le_refl _) _
  go_enter Tryz.func79, Tryz.ntmps79
  have F0 := HX1.out.f3
  go_wp2_with fail
  rw [← hw1]
  clear hw1
  go_wp2_with fail
  go_loopw [3, 8] (fun s' i wr => ∃ (r m c' : Nat) (A' : Option Addr), r ≤ 12 ∧ m ≤ r * 16 ∧ i = .int .i64 r ∧ s' = .slice A' m c' ∧ Hid (wr.ownsRow w1.heap.size 50 7 (.slice A' m c') m (ents (currC xs bn r))) ∧ Hid (Below w1.heap.size w1 wr)) (fun _ i _ => 12 - (intOf i).toNat)
  case atStart => exact ⟨0, 0, _, _, Nat.zero_le _, Nat.zero_le _, rfl, rfl, Lib.hid (by simpa only [hs1] using hoe), Lib.hid hbe⟩
  case round =>
    clear hoe hbe F0
    obtain ⟨r, m, c', A', hr, hm, rfl, rfl, HO, HB⟩ := hrel
    obtain ⟨wo, hwo⟩ : ∃ wo : World, wo = wr := ⟨_, rfl⟩
    subst hwo
    have F0 := (HX1.out.below HB.out).f3
    by_cases hlt : r < 12
    · have HO0 := Lib.hid (show wo.ownsRow w1.heap.size 50 7 (.slice A' m c') m (ents (currC xs bn r ++ rowC xs (r : Int) 0)) from by have := HO.out; unfold rowC; simpa using this)
      have hltI : ((r : Int) < 12) = True := by simp; omega
      go_wp2_with fail
      have HLT := Lib.hid hlt
      clear hlt hltI
      go_loopw [3, 13] (fun s' i wr => ∃ (k m2 c2 : Nat) (A2 : Option Addr), k ≤ bn ∧ m2 ≤ m + k ∧ i = .int .i64 k ∧ s' = .slice A2 m2 c2 ∧ Hid (wr.ownsRow w1.heap.size 50 7 (.slice A2 m2 c2) m2 (ents (currC xs bn r ++ rowC xs (r : Int) k))) ∧ Hid (Below w1.heap.size w1 wr)) (fun _ i _ => bn - (intOf i).toNat)
      case atStart => exact ⟨0, m, _, _, Nat.zero_le _, Nat.le_refl _, rfl, rfl, HO0, HB⟩
      case round =>
        clear HO0 HO HB F0
        obtain ⟨k, m2, c2, A2, hk, hm2, rfl, rfl, HO, HB⟩ := hrel
        obtain ⟨wi, hwi⟩ : ∃ wi : World, wi = wr := ⟨_, rfl⟩
        subst hwi
        have HX2 := Lib.hid (HX1.out.below HB.out)
        have F0 := HX2.out.f3
        by_cases hkb : k < bn
        · have HSU := Lib.hid (rowC_succ xs (r : Int) k)
          have HC := Lib.hid (HH.out (r : Int) (k : Int) wi HB.out)
          go_wp2_with fail
          refine HC.out.mono ?_
          rintro e w3 ⟨A3, n3, c3, rfl, ho3, hn3, hb3⟩
          have hl3 := own_len_flat entC_len (by decide) ho3
          have HL3 := Lib.hid hl3
          have hn3b : n3 ≤ 400 := by rw [← hl3]; exact HLH.out (r : Int) (k : Int)
          have HO3 := Lib.hid ho3
          have HB3 := Lib.hid (HB.out.trans (hb3.mono HB.out.size))
          have HOW := Lib.hid (own_below HO.out hb3)
          clear ho3 hb3 hl3 HC F0
          by_cases h0 : n3 = 0
          · subst h0
            have HS2 := Lib.hid (show rowC xs (r : Int) (k + 1) = rowC xs (r : Int) k from by rw [HSU.out, List.eq_nil_of_length_eq_zero HL3.out, lastL_nil, List.append_nil])
            go_wp2_with fail
            go_roundw
            case rel => exact ⟨k + 1, m2, _, _, by omega, by omega, by go_num, rfl, Lib.hid (by rw [HS2.out]; exact HOW.out), HB3⟩
            case measure => simp [intOf] <;> omega
          · obtain ⟨j, rfl⟩ : ∃ j, n3 = j + 1 := ⟨n3 - 1, by omega⟩
            obtain ⟨g9, z0, z1, z2, z3, z4, z5, z6, rfl, _, _, hzx, hzd, hz0, hz1, hz2, hz3, hz4, hz5, hz6, _⟩ := own_ent_at HO3.out (k := j) (by omega)
            have HS2 := Lib.hid (show currC xs bn r ++ rowC xs (r : Int) (k + 1) = (currC xs bn r ++ rowC xs (r : Int) k) ++ [(z0, z1, z2, z3, z4, z5, z6)] from by rw [HSU.out, lastL_some (by rw [HL3.out]; exact hzx), List.append_assoc])
            clear hzx hzd
            go_wp2_with (at_builtin; refine app_ent (x0 := z0) (x1 := z1) (x2 := z2) (x3 := z3) (x4 := z4) (x5 := z5) (x6 := z6) _ rfl _ _ rfl rfl (own_below HOW.out ((Below.refl _ _).alloc (Nat.le_refl _) _)) rfl (by exact Box.new _ _ _) (by have := HLT.out; omega) (by have := HB3.out.size; simp; omega) ?_; intro g4 c4 w4 ho4 hg4 hw4 hl4)
            have HO4 := Lib.hid ho4
            have HB4 := Lib.hid ((HB3.out.alloc HB3.out.size _).grown hg4 (by have := HB3.out.size; simp; omega) (fun k hk => (HOW.out.lt k hk).1))
            clear ho4 hg4 hw4 hl4 hz0 hz1 hz2 hz3 hz4 hz5 hz6
            go_roundw
            case rel => exact ⟨k + 1, m2 + 1, _, _, by omega, by omega, by go_num, rfl, Lib.hid (by rw [HS2.out]; exact HO4.out), HB4⟩
            case measure => simp [intOf] <;> omega
        · obtain rfl : k = bn := by omega
          rw [← currC_succ] at HO
          go_wp2_with fail
          go_roundw
          case rel => exact ⟨r + 1, m2, _, _, by have := HLT.out; omega, by omega, by go_num, rfl, HO, HB⟩
          case measure => have := HLT.out; simp [intOf] <;> omega
    · obtain rfl : r = 12 := by omega
      go_wp2_with fail
      go_ret
      exact ⟨_, _, _, rfl, own_base (by rw [HE.out]; exact HO.out) HB1.out.size, by omega, HB1.out.trans (HB.out.mono HB1.out.size)⟩
set_option maxHeartbeats 8000000 in
theorem specCurrent_any (b s : Int) (A : Option Addr) (n c : Nat) (xs : List EntryT) (w : World) (hr : RegRd w A n c xs) (hlen : n ≤ 400) (hok : ∀ x ∈ xs, okE x) (hkey : xs.Pairwise fun x y => sameB x y = false) (hb0 : 1 ≤ b) (hb16 : b ≤ 16) :
    Calls Tryz.prog 69 #[.agg #[.int .i64 b, .int .i64 s, .slice A n c]] w (RetEntryS w (currF b xs)) := by
  obtain ⟨bn, rfl⟩ : ∃ bn : Nat, b = (bn : Int) := ⟨b.toNat, by omega⟩
  have hbn : bn ≤ 16 := by omega
  have HE := Lib.hid (show currF (bn : Int) xs = currC xs bn 12 from rfl)
  obtain ⟨w1, hw1, X0, hb1, hs1⟩ := one_box w #[.int .i64 (bn : Int), .int .i64 s, .slice A n c] 31
  have HB1 := Lib.hid hb1
  have HX1 := Lib.hid X0
  have HH := Lib.hid (fun (race boat : Int) (w' : World) (hb : Below w1.heap.size w1 w') => specHistory_any (bn : Int) s race boat A n c xs w' ((hr.below hb1).below hb) hlen hok hkey)
  have HLH := Lib.hid (fun race boat => Nat.le_trans (hist_len xs race boat) (by rw [hr.1.len_ent]; exact hlen))
  clear hr hb1 X0 hok hkey
  have hoe : (w1.alloc (.cells #[] 50)).ownsRow w1.heap.size 50 7 (.slice (some ⟨w1.heap.size, 0, none⟩) 0 0) 0 (ents (currC xs bn 0)) := own_emptyE w1 w1.heap.size 50 7 (Nat.le_refl _)
  have hbe : Below w1.heap.size w1 (w1.alloc (.cells #[] 50)) := (Below.refl _ _).alloc (Nat.le_refl _) _
  go_enter Tryz.func69, Tryz.ntmps69
  have F0 := HX1.out.f3
  go_wp2_with fail
  rw [← hw1]
  clear hw1
  go_wp2_with fail
  go_loopw [3, 4] (fun s' i wr => ∃ (r m c' : Nat) (A' : Option Addr), r ≤ 12 ∧ m ≤ r * 16 ∧ i = .int .i64 r ∧ s' = .slice A' m c' ∧ Hid (wr.ownsRow w1.heap.size 50 7 (.slice A' m c') m (ents (currC xs bn r))) ∧ Hid (Below w1.heap.size w1 wr)) (fun _ i _ => 12 - (intOf i).toNat)
  case atStart => exact ⟨0, 0, _, _, Nat.zero_le _, Nat.zero_le _, rfl, rfl, Lib.hid (by simpa only [hs1] using hoe), Lib.hid hbe⟩
  case round =>
    clear hoe hbe F0
    obtain ⟨r, m, c', A', hr, hm, rfl, rfl, HO, HB⟩ := hrel
    obtain ⟨wo, hwo⟩ : ∃ wo : World, wo = wr := ⟨_, rfl⟩
    subst hwo
    have F0 := (HX1.out.below HB.out).f3
    by_cases hlt : r < 12
    · have HO0 := Lib.hid (show wo.ownsRow w1.heap.size 50 7 (.slice A' m c') m (ents (currC xs bn r ++ rowC xs (r : Int) 0)) from by have := HO.out; unfold rowC; simpa using this)
      have hltI : ((r : Int) < 12) = True := by simp; omega
      go_wp2_with fail
      have HLT := Lib.hid hlt
      clear hlt hltI
      go_loopw [3, 5] (fun s' i wr => ∃ (k m2 c2 : Nat) (A2 : Option Addr), k ≤ bn ∧ m2 ≤ m + k ∧ i = .int .i64 k ∧ s' = .slice A2 m2 c2 ∧ Hid (wr.ownsRow w1.heap.size 50 7 (.slice A2 m2 c2) m2 (ents (currC xs bn r ++ rowC xs (r : Int) k))) ∧ Hid (Below w1.heap.size w1 wr)) (fun _ i _ => bn - (intOf i).toNat)
      case atStart => exact ⟨0, m, _, _, Nat.zero_le _, Nat.le_refl _, rfl, rfl, HO0, HB⟩
      case round =>
        clear HO0 HO HB F0
        obtain ⟨k, m2, c2, A2, hk, hm2, rfl, rfl, HO, HB⟩ := hrel
        obtain ⟨wi, hwi⟩ : ∃ wi : World, wi = wr := ⟨_, rfl⟩
        subst hwi
        have HX2 := Lib.hid (HX1.out.below HB.out)
        have F0 := HX2.out.f3
        by_cases hkb : k < bn
        · have HSU := Lib.hid (rowC_succ xs (r : Int) k)
          have HC := Lib.hid (HH.out (r : Int) (k : Int) wi HB.out)
          go_wp2_with fail
          refine HC.out.mono ?_
          rintro e w3 ⟨A3, n3, c3, rfl, ho3, hn3, hb3⟩
          have hl3 := own_len_flat entC_len (by decide) ho3
          have HL3 := Lib.hid hl3
          have hn3b : n3 ≤ 400 := by rw [← hl3]; exact HLH.out (r : Int) (k : Int)
          have HO3 := Lib.hid ho3
          have HB3 := Lib.hid (HB.out.trans (hb3.mono HB.out.size))
          have HOW := Lib.hid (own_below HO.out hb3)
          clear ho3 hb3 hl3 HC F0
          by_cases h0 : n3 = 0
          · subst h0
            have HS2 := Lib.hid (show rowC xs (r : Int) (k + 1) = rowC xs (r : Int) k from by rw [HSU.out, List.eq_nil_of_length_eq_zero HL3.out, lastL_nil, List.append_nil])
            go_wp2_with fail
            go_roundw
            case rel => exact ⟨k + 1, m2, _, _, by omega, by omega, by go_num, rfl, Lib.hid (by rw [HS2.out]; exact HOW.out), HB3⟩
            case measure => simp [intOf] <;> omega
          · obtain ⟨j, rfl⟩ : ∃ j, n3 = j + 1 := ⟨n3 - 1, by omega⟩
            obtain ⟨g9, z0, z1, z2, z3, z4, z5, z6, rfl, _, _, hzx, hzd, hz0, hz1, hz2, hz3, hz4, hz5, hz6, _⟩ := own_ent_at HO3.out (k := j) (by omega)
            have HS2 := Lib.hid (show currC xs bn r ++ rowC xs (r : Int) (k + 1) = (currC xs bn r ++ rowC xs (r : Int) k) ++ [(z0, z1, z2, z3, z4, z5, z6)] from by rw [HSU.out, lastL_some (by rw [HL3.out]; exact hzx), List.append_assoc])
            clear hzx hzd
            go_wp2_with (at_builtin; refine app_ent (x0 := z0) (x1 := z1) (x2 := z2) (x3 := z3) (x4 := z4) (x5 := z5) (x6 := z6) _ rfl _ _ rfl rfl (own_below HOW.out ((Below.refl _ _).alloc (Nat.le_refl _) _)) rfl (by exact Box.new _ _ _) (by have := HLT.out; omega) (by have := HB3.out.size; simp; omega) ?_; intro g4 c4 w4 ho4 hg4 hw4 hl4)
            have HO4 := Lib.hid ho4
            have HB4 := Lib.hid ((HB3.out.alloc HB3.out.size _).grown hg4 (by have := HB3.out.size; simp; omega) (fun k hk => (HOW.out.lt k hk).1))
            clear ho4 hg4 hw4 hl4 hz0 hz1 hz2 hz3 hz4 hz5 hz6
            go_roundw
            case rel => exact ⟨k + 1, m2 + 1, _, _, by omega, by omega, by go_num, rfl, Lib.hid (by rw [HS2.out]; exact HO4.out), HB4⟩
            case measure => simp [intOf] <;> omega
        · obtain rfl : k = bn := by omega
          rw [← currC_succ] at HO
          go_wp2_with fail
          go_roundw
          case rel => exact ⟨r + 1, m2, _, _, by have := HLT.out; omega, by omega, by go_num, rfl, HO, HB⟩
          case measure => have := HLT.out; simp [intOf] <;> omega
    · obtain rfl : r = 12 := by omega
      go_wp2_with fail
      go_ret
      exact ⟨_, _, _, rfl, own_base (by rw [HE.out]; exact HO.out) HB1.out.size, by omega, HB1.out.trans (HB.out.mono HB1.out.size)⟩
end Go.Proofs.YtalgdeieejpelaaGreat

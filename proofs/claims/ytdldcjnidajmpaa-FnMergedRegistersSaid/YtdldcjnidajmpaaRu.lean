/- Walks: registers and entries compared; drawn registers and entries. -/
import Derived.Test.YtdldcjnidajmpaaRx
namespace Go.Proofs.Ytdldcjnidajmpaa
open Go.RowKit Go.Sort
set_option linter.unusedVariables false
set_option maxRecDepth 100000

theorem w6Entries_same (A A' : Option Addr) (n c n' c' : Nat) (xs : List EntryT) (w : World) (h : Rd w 7 A n (ents xs)) (h' : Rd w 7 A' n' (ents xs)) :
    Calls Try.prog 58 #[.slice A n c, .slice A' n' c'] w fun e w' => e = .returned (.bool true) ∧ Below w.heap.size w w' := by
  obtain rfl : n = n' := h.len_ent.symm.trans h'.len_ent
  have hm := h.le
  have H := Lib.hid (fun w' (hb : Below w.heap.size w w') => h.below hb)
  have H' := Lib.hid (fun w' (hb : Below w.heap.size w w') => h'.below hb)
  clear h h'
  go_enter Try.func58, Try.ntmps58
  go_wp2_with fail
  go_loopw [5] (fun i wr => ∃ k : Nat, k ≤ n ∧ i = .int .i64 k ∧ Hid (Below w.heap.size w wr)) (fun i _ => n - (intOf i).toNat)
  case atStart => exact ⟨0, Nat.zero_le _, rfl, Lib.hid (Below.refl _ _)⟩
  case round =>
    obtain ⟨k, hk, rfl, HB⟩ := hrel
    by_cases hlt : k < n
    · obtain ⟨b1, o1, x0, x1, x2, x3, x4, x5, x6, rfl, hx, hd, hc0, hc1, hc2, hc3, hc4, hc5, hc6⟩ := (H.out _ HB.out).ent hlt
      obtain ⟨b2, o2, y0, y1, y2, y3, y4, y5, y6, rfl, hy, hd', gc0, gc1, gc2, gc3, gc4, gc5, gc6⟩ := (H'.out _ HB.out).ent hlt
      rw [hx] at hy
      injection hy with hy
      simp only [Prod.mk.injEq] at hy
      obtain ⟨rfl, rfl, rfl, rfl, rfl, rfl, rfl⟩ := hy
      clear hx hd hd'
      go_wp2_with fail
      go_region
      have HB2 := Lib.hid (HB.out.trans ((below_drewN' wr.heap.size wr 1).mono HB.out.size))
      go_wp2_with fail
      go_roundw
      case rel => exact ⟨k + 1, by omega, by go_num, HB2⟩
      case measure => simp [intOf] <;> omega
    · obtain rfl : k = n := by omega
      go_wp2_with fail
      go_ret
      exact ⟨rfl, HB.out⟩
theorem w6Registers_same (b s : Int) (A A' : Option Addr) (n c n' c' : Nat) (xs : List EntryT) (w : World) (h : Rd w 7 A n (ents xs)) (h' : Rd w 7 A' n' (ents xs)) :
    Calls Try.prog 56 #[.agg #[.int .i64 b, .int .i64 s, .slice A n c], .agg #[.int .i64 b, .int .i64 s, .slice A' n' c']] w fun e w' => e = .returned (.bool true) ∧ Below w.heap.size w w' := by
  have HC := Lib.hid (fun w' (hb : Below w.heap.size w w') => w6Entries_same A A' n c n' c' xs w' (h.below hb) (h'.below hb))
  clear h h'
  obtain ⟨w1, hw1, X0, X1, hb1, hs1⟩ := two_boxes w #[.int .i64 b, .int .i64 s, .slice A n c] #[.int .i64 b, .int .i64 s, .slice A' n' c'] 51 51
  have F0 := X0.f3
  have F1 := X1.f3
  go_enter Try.func56, Try.ntmps56
  go_wp2_with fail
  rw [← hw1]
  clear hw1
  go_wp2_with fail
  refine (HC.out _ hb1).mono ?_
  rintro e w2 ⟨rfl, hb2⟩
  have HB2 := Lib.hid (hb1.trans (hb2.mono hb1.size))
  clear hb2 X0 X1 F0 F1
  go_wp2_with fail
  go_ret
  exact ⟨rfl, HB2.out⟩
theorem drawCur_any (w0 : World) (A : Option Addr) (n cap : Nat) (code : List Int) (hcode : Code0 w0 A n code) (w : World) (hb : Below w0.heap.size w0 w) :
    Calls Try.prog 57 #[.slice A n cap] w (RetReg w (regD code (fromF code)).1.1 (regD code (fromF code)).1.2.1 (regD code (fromF code)).1.2.2) := by
  have HFR := Lib.hid (fun w' h => from_any w0 A n cap code hcode w' h)
  have HRD := Lib.hid (fun g w' h => regD_any w0 A n cap code hcode g (fromF code) w' h)
  have hlen := regD_len code (fromF code)
  generalize regD code (fromF code) = R at *
  obtain ⟨⟨rb, rs, rl⟩, s'⟩ := R
  simp only at hlen
  obtain ⟨wa, hwa, XR, hba, hsa⟩ := one_box w #[.int .i64 0, .int .i64 0, .slice none 0 0] 51
  have HB := Lib.hid (hb.trans (hba.mono hb.size))
  have HX := Lib.hid XR
  have HBA := Lib.hid hba
  clear hb XR hba
  go_enter Try.func57, Try.ntmps57
  go_wp2_with fail
  rw [← hwa]
  clear hwa
  go_wp2_with fail
  refine (HFR.out _ HB.out).mono ?_
  rintro e w1 ⟨g, rfl, hs1, hge, hb1⟩
  have HX1 := Lib.hid (HX.out.below hb1)
  have HS1 := Lib.hid hs1
  have HB1 := Lib.hid (HBA.out.trans (hb1.mono HBA.out.size))
  have hz1 := hb1.size
  clear hs1 hb1 HFR HX HB HBA
  go_wp2_with fail
  refine (HRD.out _ _ HS1.out).mono ?_
  rintro e w2 ⟨A', m, c, rfl, ho, hs, hc⟩
  have hml := own_len_flat entC_len (by decide) ho
  simp only at hml
  have HO := Lib.hid ho
  have HB2 := Lib.hid (below_chg HB1.out hc (by omega) HB1.out.size)
  have hz2 := hc.size
  have F0 := (HX1.out.chg hc (.inl (by omega))).f3
  clear ho hs hc
  simp only
  go_wp2_with fail
  refine bodyPost_ret (v := .agg #[.int .i64 rb, .int .i64 rs, .slice A' m c]) (by simp [results, Try.results57, go_sem, F0]) rfl ?_
  have hch := put_chg (g := w.heap.size) [.int .i64 rb, .int .i64 rs, .slice A' m c] 0 (Chg.refl w.heap.size (w.heap.size + 1) w2) (by omega) (by omega)
  exact ⟨A', m, c, rfl, own_base (own_chg HO.out hch (fun b hb => .inr (by have := (HO.out.lt b hb).1; omega))) (by omega), by omega, below_chg HB2.out hch (by omega) (by omega)⟩
end Go.Proofs.Ytdldcjnidajmpaa

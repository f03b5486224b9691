/- Walks: the library's stable sort of few integers by a comparison that makes memory. -/
import Derived.Test.YtalgdeieejpelaaGreatDoorZmc
import Derived.Test.YtalgdeieejpelaaGreatDoorZmb
import Derived.BigRegion
import Derived.Lib.QuietBelow
import Derived.Lib.Hide
namespace Go.Proofs.YtalgdeieejpelaaGreatDoor
open Go.RowKit Go.Sort
set_option linter.unusedVariables false
set_option maxRecDepth 100000

theorem chg_dN {lo hi : Nat} {w w' : World} (h : Chg lo hi w w') (q : Nat) : Chg lo hi w (w'.drewN q) := ⟨h.os, h.tape, h.output, h.size, h.block⟩

theorem chg_sC {lo hi : Nat} {w w' : World} (h : Chg lo hi w w') {g i : Nat} (h1 : lo ≤ g) (h2 : g < hi) (v : Value) : Chg lo hi w (w'.setCell ⟨g, i, none⟩ v) :=
  h.trans ⟨rfl, rfl, rfl, by simp [World.setCell], fun k hk hn => Below.heap_setCell _ _ _ _ (by simp; omega)⟩
theorem swap_mem {xs o2 : List Int} {p : Nat} {x y : Int} (h : ∀ z ∈ o2, z ∈ xs) (hx : x ∈ xs) (hy : y ∈ xs) : ∀ z ∈ (o2.set (p + 1) y).set p x, z ∈ xs := by
  intro z hz
  rcases List.mem_or_eq_of_mem_set hz with hz | rfl
  · rcases List.mem_or_eq_of_mem_set hz with hz | rfl
    · exact h z hz
    · exact hy
  · exact hx
theorem insertionB_any (g c n base : Nat) (xs : List Int) (P : Option Addr) (cf : Int → Int → Int) (lt : Int → Int → Bool) (hcf : ∀ a b, decide (cf a b < 0) = lt a b) (w : World) (hn16 : n ≤ 16)
    (hown : w.ownsRow base 2 1 (.slice (some ⟨g, 0, none⟩) n c) n (ints xs))
    (hc : ∀ W, Chg g (g + 1) w W → ∀ a b : Int, a ∈ xs → b ∈ xs → Calls Tryz.prog 140 #[.int .i64 a, .int .i64 b, .pointer P] W fun e w' => e = .returned (.int .i64 (cf a b)) ∧ Below W.heap.size W w') :
    Calls Tryz.prog 149 #[.slice (some ⟨g, 0, none⟩) n c, .int .i64 0, .int .i64 (n : Int), .func (.func 140) #[] #[.pointer P]] w
      fun e w' => e = .returned (.tuple #[]) ∧ w'.ownsRow base 2 1 (.slice (some ⟨g, 0, none⟩) n c) n (ints (insSort lt xs)) ∧ Chg g (g + 1) w w' := by
  have HLT := Lib.hid hcf; have HC := Lib.hid hc
  have HN := Lib.hid (own_len hown)
  have hg := hown.lt g rfl
  clear hcf hc
  go_enter Tryz.func149, Tryz.ntmps149
  go_wp2_with fail
  go_loopw [8] (fun i wr => ∃ (k : Nat) (out : List Int), 1 ≤ k ∧ k ≤ n + 1 ∧ k ≤ 17 ∧ i = .int .i64 k ∧ insOut lt (n - k) k out = insSort lt xs ∧ (∀ x ∈ out, x ∈ xs) ∧ wr.ownsRow base 2 1 (.slice (some ⟨g, 0, none⟩) n c) n (ints out) ∧ Chg g (g + 1) w wr) (fun i _ => 17 - (intOf i).toNat)
  case atStart => exact ⟨1, xs, by omega, by omega, by omega, rfl, by unfold insSort; rw [HN.out], fun x h => h, hown, Chg.refl _ _ _⟩
  case round =>
    obtain ⟨k, out, hk1, hkn, hk17, rfl, hr, hm, ho, hch⟩ := hrel
    clear hown
    have HR := Lib.hid hr; have HM := Lib.hid hm
    clear hr hm
    by_cases hlt : k < n
    · have e : n - k = (n - (k + 1)) + 1 := by omega
      rw [e, insOut] at HR
      clear e
      go_wp2_with fail
      go_loopw [9] (fun i wr => ∃ (j : Nat) (o2 : List Int), j ≤ k ∧ i = .int .i64 j ∧ Hid (insIn lt j o2 = insIn lt k out) ∧ (∀ x ∈ o2, x ∈ xs) ∧ wr.ownsRow base 2 1 (.slice (some ⟨g, 0, none⟩) n c) n (ints o2) ∧ Chg g (g + 1) w wr) (fun i _ => (intOf i).toNat)
      case atStart => exact ⟨k, out, Nat.le_refl _, rfl, rfl, HM.out, ho, hch⟩
      case round =>
        clear ho hch
        obtain ⟨j, o2, hjk, rfl, HI, hm2, ho, hch⟩ := hrel
        have HM2 := Lib.hid hm2; clear hm2
        by_cases hj : j = 0
        · subst hj
          go_wp2_with fail
          go_quiet (fail)
          go_wp2_with fail
          go_roundw
          case rel => exact ⟨k + 1, o2, by omega, by omega, by omega, by go_num, by rw [← HR.out, ← HI.out, insIn], HM2.out, (Drawn.refl _).own ho, chg_dN hch _⟩
          case measure => simp [intOf]; omega
        · obtain ⟨p, rfl⟩ : ∃ p, j = p + 1 := ⟨j - 1, by omega⟩
          obtain ⟨g1, x, hg1, _, _, hx, hcx, hfx⟩ := own_int_at ho (k := p + 1) (by omega)
          obtain rfl : g = g1 := by injection hg1 with e; injection e
          obtain ⟨g2, y, hg2, _, _, hy, hcy, hfy⟩ := own_int_at ho (k := p) (by omega)
          obtain rfl : g = g2 := by injection hg2 with e; injection e
          have hxm := HM2.out x (List.mem_of_getElem? hx)
          have hym := HM2.out y (List.mem_of_getElem? hy)
          have hcall := fun W h => HC.out W h x y hxm hym
          have hstep : insIn lt (p + 1) o2 = if lt x y then insIn lt p ((o2.set (p + 1) y).set p x) else o2 := by
            rw [insIn, swapAt, List.getD_eq_getElem?_getD, List.getD_eq_getElem?_getD, hx, hy]; rfl
          have hltb := HLT.out x y
          have HST := Lib.hid hstep
          have HX := Lib.hid hx; have HY := Lib.hid hy
          clear hg1 hg2 hstep hx hy
          have hw1 : IntKind.i64.wrap (((p + 1 : Nat) : Int) - 1) = (p : Int) := by rw [IntWalk.i64_in _ (by omega)]; omega
          by_cases hb : lt x y = true
          · rw [hb] at hltb HST
            rw [if_pos rfl] at HST
            generalize cf x y = v at *
            have HCALL := Lib.hid (fun d os => hcall (grow (redrawn wr d) os) (hch.trans (Chg.of_below (below_regrown wr d os)))); clear hcall
            have hg0 : decide (0 < p + 1) = true := by simp
            have HO := Lib.hid ho; have HCH := Lib.hid hch; clear ho hch
            go_wp2_with fail
            have kq0 := cell_regrown (hcx)
            have kq1 := cell_regrown (hcy)
            refine wp_region_quiet_below (by kernel_rfl) (by kernel_rfl) ?_
            repeat (first | go_big_quiet_step ((first | (go_at_call 140; (with_reducible exact Calls.regrown_of (HCALL.out _ _))))) | quiet_step ((first | (go_at_call 140; (with_reducible exact Calls.regrown_of (HCALL.out _ _))))))
            refine wpQuiet_nil ?_
            intro _ hw'
            obtain ⟨⟨dq, osq⟩, hw''⟩ := hw'
            subst hw''
            obtain ⟨wq, hq0, hq⟩ : ∃ wnew, wnew = grow (redrawn wr dq) osq ∧ Below wr.heap.size wr wnew := ⟨_, rfl, below_regrown _ _ _⟩
            rw [← hq0]
            clear hq0 kq0 kq1
            go_wp2_with fail
            have hcx' := (hq.cell (p := ⟨g, p + 1, none⟩) (cell_lt hcx)).trans hcx
            have hcy' := (hq.cell (p := ⟨g, p, none⟩) (cell_lt hcy)).trans hcy
            have hfx' := (hq.frozen (p := ⟨g, p + 1, none⟩) (cell_lt hcx)).trans hfx
            have hfy' := (hq.frozen (p := ⟨g, p, none⟩) (cell_lt hcy)).trans hfy
            replace HO := Lib.hid (own_below HO.out hq)
            replace HCH := Lib.hid (HCH.out.trans (Chg.of_below hq))
            have hgq := Nat.lt_of_lt_of_le (cell_lt hcx) hq.size
            clear hcx hcy hfx hfy hq
            go_region
            have ho3 := own_set (k := p) (own_set (k := p + 1) HO.out y) x
            have hc3 := chg_dN (chg_sC (i := p) (chg_sC (i := p + 1) HCH.out (Nat.le_refl _) (Nat.lt_succ_self _) (.int .i64 y)) (Nat.le_refl _) (Nat.lt_succ_self _) (.int .i64 x)) 1
            have O3 := Lib.hid ho3; have C3 := Lib.hid hc3
            clear ho3 hc3
            go_wp2_with fail
            go_roundw
            case rel => exact ⟨p, _, by omega, by go_num, by unfold Hid; rw [← HI.out, HST.out], swap_mem HM2.out hxm hym, (Drawn.refl _).own O3.out, C3.out⟩
            case measure => simp [intOf]
          · have hb' : lt x y = false := by simpa using hb
            rw [hb'] at hltb HST
            rw [if_neg (by simp)] at HST
            clear hb hb'
            generalize cf x y = v at *
            have HCALL := Lib.hid (fun d os => hcall (grow (redrawn wr d) os) (hch.trans (Chg.of_below (below_regrown wr d os)))); clear hcall
            have hg0 : decide (0 < p + 1) = true := by simp
            have HO := Lib.hid ho; have HCH := Lib.hid hch; clear ho hch
            go_wp2_with fail
            have kq0 := cell_regrown (hcx)
            have kq1 := cell_regrown (hcy)
            refine wp_region_quiet_below (by kernel_rfl) (by kernel_rfl) ?_
            repeat (first | go_big_quiet_step ((first | (go_at_call 140; (with_reducible exact Calls.regrown_of (HCALL.out _ _))))) | quiet_step ((first | (go_at_call 140; (with_reducible exact Calls.regrown_of (HCALL.out _ _))))))
            refine wpQuiet_nil ?_
            intro _ hw'
            obtain ⟨⟨dq, osq⟩, hw''⟩ := hw'
            subst hw''
            obtain ⟨wq, hq0, hq⟩ : ∃ wnew, wnew = grow (redrawn wr dq) osq ∧ Below wr.heap.size wr wnew := ⟨_, rfl, below_regrown _ _ _⟩
            rw [← hq0]
            clear hq0 kq0 kq1
            go_wp2_with fail
            go_roundw
            case rel => exact ⟨k + 1, o2, by omega, by omega, by omega, by go_num, by rw [← HR.out, ← HI.out, HST.out], HM2.out, own_below HO.out hq, HCH.out.trans (Chg.of_below hq)⟩
            case measure => simp [intOf]; omega
    · have e : n - k = 0 := by omega
      rw [e, insOut] at HR
      go_wp2_with fail
      go_end0
      exact ⟨rfl, by rw [← HR.out]; exact ho, hch⟩

theorem stableB_any (g c n base : Nat) (xs : List Int) (P : Option Addr) (cf : Int → Int → Int) (lt : Int → Int → Bool) (hcf : ∀ a b, decide (cf a b < 0) = lt a b) (w : World) (hn16 : n ≤ 16)
    (hown : w.ownsRow base 2 1 (.slice (some ⟨g, 0, none⟩) n c) n (ints xs))
    (hc : ∀ W, Chg g (g + 1) w W → ∀ a b : Int, a ∈ xs → b ∈ xs → Calls Tryz.prog 140 #[.int .i64 a, .int .i64 b, .pointer P] W fun e w' => e = .returned (.int .i64 (cf a b)) ∧ Below W.heap.size W w') :
    Calls Tryz.prog 139 #[.slice (some ⟨g, 0, none⟩) n c, .func (.func 140) #[] #[.pointer P]] w
      fun e w' => e = .returned (.tuple #[]) ∧ w'.ownsRow base 2 1 (.slice (some ⟨g, 0, none⟩) n c) n (ints (insSort lt xs)) ∧ Chg g (g + 1) w w' := by
  have H := Lib.hid (insertionB_any g c n base xs P cf lt hcf w hn16 hown hc)
  clear hown hc hcf
  have hst : Calls Tryz.prog 147 #[.slice (some ⟨g, 0, none⟩) n c, .int .i64 (n : Int), .func (.func 140) #[] #[.pointer P]] w
      fun e w' => e = .returned (.tuple #[]) ∧ w'.ownsRow base 2 1 (.slice (some ⟨g, 0, none⟩) n c) n (ints (insSort lt xs)) ∧ Chg g (g + 1) w w' := by
    have hd1 : decide ((20 : Int) ≤ (n : Int)) = false := by simp; omega
    have hd2 : decide ((20 : Int) < (n : Int)) = false := by simp; omega
    go_enter Tryz.func147, Tryz.ntmps147
    go_wp2_with fail
    go_loopw [7, 8] (fun a b wr => a = .int .i64 0 ∧ b = .int .i64 20 ∧ wr = w) (fun _ _ _ => 0)
    case atStart => exact ⟨rfl, rfl, rfl⟩
    case round =>
      obtain ⟨rfl, rfl, rfl⟩ := hrel
      go_wp2_with fail
      refine H.out.mono ?_
      rintro e w1 ⟨rfl, ho1, hc1⟩
      go_wp2_with fail
      go_loopw [6] (fun a wr => a = .int .i64 20 ∧ wr = w1) (fun _ _ => 0)
      case atStart => exact ⟨rfl, rfl⟩
      case round =>
        obtain ⟨rfl, rfl⟩ := hrel
        go_wp2_with fail
        go_end0
        exact ⟨rfl, ho1, hc1⟩
  have HS := Lib.hid hst
  clear hst
  go_enter Tryz.func139, Tryz.ntmps139
  go_wp2_with fail
  refine HS.out.mono ?_
  rintro e w1 ⟨rfl, ho1, hc1⟩
  go_wp2_with fail
  go_end0
  exact ⟨rfl, ho1, hc1⟩
theorem sgnZ_negB (v : Int) : decide (sgnZ v < 0) = decide (v < 0) := by simp only [sgnZ_neg]
theorem signZ_any (v : Int) (w : World) : Calls Tryz.prog 60 #[.int .i64 v] w fun e w' => e = .returned (.int .i64 (sgnZ v)) ∧ w = w' := by
  by_cases h1 : v < 0
  · have e : sgnZ v = -1 := by unfold sgnZ; rw [if_pos h1]
    rw [e]
    go_enter Tryz.func60, Tryz.ntmps60
    go_wp2_with fail
    go_ret
    refine ⟨ret_int ?_, rfl⟩
    omega
  · by_cases h2 : 0 < v
    · have e : sgnZ v = 1 := by unfold sgnZ; rw [if_neg h1, if_pos h2]
      rw [e]
      go_enter Tryz.func60, Tryz.ntmps60
      go_wp2_with fail
      go_ret
      refine ⟨ret_int ?_, rfl⟩
      omega
    · have e : sgnZ v = 0 := by unfold sgnZ; rw [if_neg h1, if_neg h2]
      obtain rfl : v = 0 := by omega
      rw [e]
      go_enter Tryz.func60, Tryz.ntmps60
      go_wp2_with fail
      go_ret
      exact ⟨rfl, rfl⟩

theorem cmpD_any (B : Nat) (a b v : Int) (pa pb : Option Addr) (W : World) (hcell : W.cell? ⟨B, 0, none⟩ = some (.func (.func 123) #[] #[.pointer pa, .pointer pb]))
    (hc : Calls Tryz.prog 123 #[.int .i64 a, .int .i64 b, .pointer pa, .pointer pb] W fun e w' => e = .returned (.int .i64 v) ∧ Below W.heap.size W w') :
    Calls Tryz.prog 140 #[.int .i64 a, .int .i64 b, .pointer (some ⟨B, 0, none⟩)] W fun e w' => e = .returned (.int .i64 (sgnZ v)) ∧ Below W.heap.size W w' := by
  have HC := Lib.hid hc
  clear hc
  go_enter Tryz.func140, Tryz.ntmps140
  go_wp2_with fail
  refine HC.out.mono ?_
  rintro e w1 ⟨rfl, hd⟩
  have HD := Lib.hid hd
  clear hd
  go_wp2_with fail
  refine (signZ_any _ _).mono ?_
  rintro e w2 ⟨rfl, rfl⟩
  go_wp2_with fail
  go_ret
  exact ⟨rfl, HD.out⟩

theorem sortedIndicesD_any (n : Nat) (hn : n ≤ 16) (pa pb : Option Addr) (cf : Int → Int → Int) (lt : Int → Int → Bool) (hcf : ∀ a b, decide (cf a b < 0) = lt a b) (w : World)
    (hc : ∀ W, Below w.heap.size w W → ∀ a b : Int, 0 ≤ a → a < n → 0 ≤ b → b < n → Calls Tryz.prog 123 #[.int .i64 a, .int .i64 b, .pointer pa, .pointer pb] W fun e w' => e = .returned (.int .i64 (cf a b)) ∧ Below W.heap.size W w') :
    Calls Tryz.prog 122 #[.int .i64 (n : Int), .func (.func 123) #[] #[.pointer pa, .pointer pb]] w (RetCopy w (insSort lt (idx n))) := by
  have HC := Lib.hid hc
  clear hc
  go_enter Tryz.func122, Tryz.ntmps122
  go_wp2_with fail
  obtain ⟨wb, hwb⟩ : ∃ wb, wb = w.alloc (.cells #[.func (.func 123) #[] #[.pointer pa, .pointer pb]] 90) := ⟨_, rfl⟩
  have hcb : wb.cell? ⟨w.heap.size, 0, none⟩ = some (.func (.func 123) #[] #[.pointer pa, .pointer pb]) := by rw [hwb]; exact cell_new1 _ _ _
  have hsb : wb.heap.size = w.heap.size + 1 := by rw [hwb]; simp
  have hbb : Below w.heap.size w wb := by rw [hwb]; exact (Below.refl _ _).alloc (Nat.le_refl _) _
  have hoe := own_empty wb wb.heap.size 2 (Nat.le_refl _)
  have hbe : Below wb.heap.size wb (wb.alloc (.cells #[] 2)) := (Below.refl _ _).alloc (Nat.le_refl _) _
  rw [← hwb]
  rw [show w.heap.size + 1 = wb.heap.size from hsb.symm]
  have HBB := Lib.hid hbb; have HCB := Lib.hid hcb
  have HSB := Lib.hid hsb
  clear hwb hbb hcb hsb
  go_loopw [5, 6, 9] (fun v _ i wr => ∃ (k g' c' : Nat), k ≤ n ∧ i = .int .i64 k ∧ v = .slice (some ⟨g', 0, none⟩) k c' ∧ wr.ownsRow wb.heap.size 2 1 (.slice (some ⟨g', 0, none⟩) k c') k (ints ((idx n).take k)) ∧ Below wb.heap.size wb wr) (fun _ _ i _ => n - (intOf i).toNat)
  case atStart => exact ⟨0, _, 0, Nat.zero_le _, rfl, rfl, hoe, hbe⟩
  case round =>
    clear hoe hbe
    obtain ⟨k, g', c', hk, rfl, rfl, ho, hb⟩ := hrel
    have hsz := hb.size
    by_cases hlt : k < n
    · go_wp2_with (at_builtin; refine app_i64 _ rfl _ _ rfl rfl (ho.alloc _) rfl (cell_new1 _ _ _) (by omega) ?cB ?_; rotate_left; intro A1 c1 w1 hown1 hgr1)
      · obtain ⟨g1, _, rfl, _, _, _⟩ := own_at hown1 (k := 0) (by omega)
        go_roundw
        case rel =>
          exact ⟨k + 1, _, _, by omega, by go_num, rfl, by rw [take_snoc_get (idx_get hlt)]; exact hown1, below_app hb hsz (Nat.le_refl _) ho hgr1⟩
        case measure => simp [intOf]; omega
      · simp; omega
    · obtain rfl : k = n := by omega
      rw [List.take_of_length_le (by rw [idx_length]; omega)] at ho
      have hg := ho.lt g' rfl
      have hst := stableB_any g' c' k wb.heap.size (idx k) (some ⟨w.heap.size, 0, none⟩) (fun a b => sgnZ (cf a b)) lt (fun a b => by rw [sgnZ_negB]; exact hcf a b) wr hn ho (fun W hW a b ha hb' => by
        have h1 := idx_mem.1 ha
        have h2 := idx_mem.1 hb'
        have hbW : Below wb.heap.size wb W := below_chg hb hW hg.1 hsz
        refine cmpD_any w.heap.size a b (cf a b) pa pb W ?_ (HC.out W (HBB.out.trans (hbW.mono HBB.out.size)) a b h1.1 h1.2 h2.1 h2.2)
        exact Keeps.below hbW _ _ HCB.out)
      have HST := Lib.hid hst
      clear hst ho hcf
      go_wp2_with fail
      refine HST.out.mono ?_
      rintro e w1 ⟨rfl, ho1, hc1⟩
      have hb1 := below_chg hb hc1 hg.1 hsz
      have hb2 := HBB.out.trans (hb1.mono HBB.out.size)
      have O1 := Lib.hid (own_base ho1 HBB.out.size)
      clear ho1
      go_wp2_with fail
      go_ret
      exact ⟨_, _, _, rfl, O1.out, by omega, hb2⟩
end Go.Proofs.YtalgdeieejpelaaGreatDoor

/- Walks: fleets (chapter 30), boats of a fleet, fleets of blocks. -/
import Derived.Test.YtoccfbkklponnaaWf
namespace Go.Proofs.Ytoccfbkklponnaa
open Go.RowKit
set_option linter.unusedVariables false
set_option maxRecDepth 100000

theorem implBoats_any (A : Option Addr) (n c : Nat) (xs : List Int) (k fleet : Int) (w : World) (h0 : Rd w 1 A n (ints xs)) :
    Calls Try.prog 24 #[.slice A n c, .int .i64 k, .int .i64 fleet] w (RetI w (fleetBoatsF xs k fleet)) := by
  have h := h0; clear h0
  have HN := Lib.hid h.len_int
  have e1 : isFleetsB xs k = (withinB k 1 4 && fleetsB xs k) := rfl
  have E := Lib.hid e1; clear e1
  have e2 : fleetBoatsF xs k fleet = if withinB k 1 4 && withinB fleet 0 (k - 1) then (if fleetsCodeF xs k = 0 then (boatsF fleet 0 xs, 0) else ([], 1)) else ([], 2) := rfl
  have e3 : fleetsCodeF xs k = if withinB k 1 4 then (if fleetsB xs k then 0 else 1) else 2 := rfl
  rw [e2, e3]; clear e2 e3
  cases hw : withinB k 1 4 with
  | true =>
    obtain ⟨hk1, hk2⟩ := withinB_iff.1 hw
    cases hv : withinB fleet 0 (k - 1) with
    | true =>
      cases hf : fleetsB xs k with
      | true =>
        have hi : isFleetsB xs k = true := by rw [E.out, hw, hf]; rfl
        have hl := fleetsB_len hf
        rw [HN.out] at hl
        obtain ⟨hl1, hl2⟩ := hl
        clear hf
        go_enter Try.func24, Try.ntmps24
        go_wp2_with (first | (go_at_call 54; refine (isFleetCount_any _ _).mono ?_; rintro e w' ⟨rfl, rfl⟩) | (go_at_call 55; refine (within_any _ _ _ _).mono ?_; rintro e w' ⟨rfl, rfl⟩) | (go_at_call 17; refine (implIsFleets_any _ _ _ _ _ _ h).mono ?_; rintro e w' ⟨rfl, rfl⟩))
        refine (fleetBoats_any _ _ _ _ _ hl2 _ h).mono ?_
        rintro e w1 ⟨A1, n1, c1, rfl, ho1, hn1, hb1⟩
        go_wp2_with fail
        go_ret2
        exact ⟨_, _, _, rfl, ho1, hn1, hb1⟩
      | false =>
        have hi : isFleetsB xs k = false := by rw [E.out, hw, hf]; rfl
        clear hf
        go_enter Try.func24, Try.ntmps24
        go_wp2_with (first | (go_at_call 54; refine (isFleetCount_any _ _).mono ?_; rintro e w' ⟨rfl, rfl⟩) | (go_at_call 55; refine (within_any _ _ _ _).mono ?_; rintro e w' ⟨rfl, rfl⟩) | (go_at_call 17; refine (implIsFleets_any _ _ _ _ _ _ h).mono ?_; rintro e w' ⟨rfl, rfl⟩))
        go_ret2
        exact RetI.nil _ _ _ (Below.refl _ _)
    | false =>
      go_enter Try.func24, Try.ntmps24
      go_wp2_with (first | (go_at_call 54; refine (isFleetCount_any _ _).mono ?_; rintro e w' ⟨rfl, rfl⟩) | (go_at_call 55; refine (within_any _ _ _ _).mono ?_; rintro e w' ⟨rfl, rfl⟩))
      go_ret2
      exact RetI.nil _ _ _ (Below.refl _ _)
  | false =>
    go_enter Try.func24, Try.ntmps24
    go_wp2_with (first | (go_at_call 54; refine (isFleetCount_any _ _).mono ?_; rintro e w' ⟨rfl, rfl⟩))
    go_ret2
    exact RetI.nil _ _ _ (Below.refl _ _)

theorem specBoats_any (A : Option Addr) (n c : Nat) (xs : List Int) (k fleet : Int) (w : World) (h0 : Rd w 1 A n (ints xs)) :
    Calls Try.prog 23 #[.slice A n c, .int .i64 k, .int .i64 fleet] w (RetI w (fleetBoatsF xs k fleet)) := by
  have h := h0; clear h0
  have HN := Lib.hid h.len_int
  have e2 : fleetBoatsF xs k fleet = if withinB k 1 4 && withinB fleet 0 (k - 1) then (if fleetsCodeF xs k = 0 then (boatsF fleet 0 xs, 0) else ([], 1)) else ([], 2) := rfl
  rw [e2]; clear e2
  have hc1 := fun w => l30Code_any A n c xs k w
  have e3 : fleetsCodeF xs k = if withinB k 1 4 then (if fleetsB xs k then 0 else 1) else 2 := rfl
  rw [e3]; simp only [e3] at hc1; clear e3
  have HC := Lib.hid hc1; clear hc1
  cases hw : withinB k 1 4 with
  | true =>
    obtain ⟨hk1, hk2⟩ := withinB_iff.1 hw
    cases hv : withinB fleet 0 (k - 1) with
    | true =>
      cases hf : fleetsB xs k with
      | true =>
        have hl := fleetsB_len hf
        rw [HN.out] at hl
        obtain ⟨hl1, hl2⟩ := hl
        rw [hw, hf] at HC
        clear hf
        show Calls Try.prog _ _ w (RetI w (boatsF fleet 0 xs, 0))
        go_enter Try.func23, Try.ntmps23
        go_wp2_with (first | (go_at_call 52; refine (l30Kinds_any _ _).mono ?_; rintro e w' ⟨rfl, rfl⟩) | (go_at_call 59; refine (l01In_any _ _ _ _).mono ?_; rintro e w' ⟨rfl, rfl⟩) | (go_at_call 60; refine (HC.out _ h).mono ?_; rintro e w' ⟨rfl, rfl⟩))
        go_loopw [9, 10] (fun v i wr => ∃ (j m c' : Nat) (A' : Option Addr) (ys : List Int), j ≤ n ∧ i = .int .i64 j ∧ v = .slice A' m c' ∧ wr.ownsRow w.heap.size 2 1 (.slice A' m c') m (ints ys) ∧ m ≤ j ∧ ys ++ boatsF fleet j (xs.drop j) = boatsF fleet 0 xs ∧ Below w.heap.size w wr) (fun _ i _ => n - (intOf i).toNat)
        case atStart => exact ⟨0, 0, 0, _, [], Nat.zero_le _, rfl, rfl, own_empty _ _ _ (Nat.le_refl _), Nat.le_refl _, rfl, (Below.refl _ _).alloc (Nat.le_refl _) _⟩
        case round =>
          obtain ⟨j, m, c', A', ys, hj, rfl, rfl, ho, hmj, hr, hb⟩ := hrel
          have HR := Lib.hid hr; clear hr
          have hbs := hb.size
          by_cases hlt : j < n
          · obtain ⟨b, o, x, rfl, hx, hd, hc⟩ := (h.below hb).int hlt
            have HD := Lib.hid hd; clear hd hx
            by_cases hxf : x = fleet
            · subst hxf
              go_wp2_with (at_builtin; refine app_i64 _ rfl _ _ rfl rfl (ho.alloc _) rfl (cell_new1 _ _ _) (by omega) ?cB ?_; rotate_left; intro A1 c1 w1 hown1 hgr1)
              · go_roundw
                case rel => exact ⟨j + 1, m + 1, _, _, _, by omega, by go_num, rfl, hown1, by omega, by rw [← HR.out, HD.out, boatsF, if_pos rfl, List.append_assoc]; rfl, below_app hb hbs (Nat.le_refl _) ho hgr1⟩
                case measure => simp [intOf]; omega
              · simp; omega
            · have hne : (x == fleet) = false := by simp [hxf]
              go_wp2
              go_roundw
              case rel => exact ⟨j + 1, m, _, _, ys, by omega, by go_num, rfl, ho, by omega, by rw [← HR.out, HD.out, boatsF, if_neg hxf], hb⟩
              case measure => simp [intOf]; omega
          · obtain rfl : j = n := by omega
            go_wp2
            go_ret2
            rw [List.drop_eq_nil_of_le (by rw [HN.out]; omega), boatsF, List.append_nil] at HR
            refine ⟨_, _, _, rfl, ?_, by omega, hb⟩
            show wr.ownsRow _ _ _ _ _ (ints (boatsF fleet 0 xs))
            rw [← HR.out]
            exact ho
      | false =>
        rw [hw, hf] at HC
        show Calls Try.prog _ _ w (RetI w ([], 1))
        go_enter Try.func23, Try.ntmps23
        go_wp2_with (first | (go_at_call 52; refine (l30Kinds_any _ _).mono ?_; rintro e w' ⟨rfl, rfl⟩) | (go_at_call 59; refine (l01In_any _ _ _ _).mono ?_; rintro e w' ⟨rfl, rfl⟩) | (go_at_call 60; refine (HC.out _ h).mono ?_; rintro e w' ⟨rfl, rfl⟩))
        go_ret2
        exact RetI.nil _ _ _ (Below.refl _ _)
    | false =>
      show Calls Try.prog _ _ w (RetI w ([], 2))
      go_enter Try.func23, Try.ntmps23
      go_wp2_with (first | (go_at_call 52; refine (l30Kinds_any _ _).mono ?_; rintro e w' ⟨rfl, rfl⟩) | (go_at_call 59; refine (l01In_any _ _ _ _).mono ?_; rintro e w' ⟨rfl, rfl⟩))
      go_ret2
      exact RetI.nil _ _ _ (Below.refl _ _)
  | false =>
    show Calls Try.prog _ _ w (RetI w ([], 2))
    go_enter Try.func23, Try.ntmps23
    go_wp2_with (first | (go_at_call 52; refine (l30Kinds_any _ _).mono ?_; rintro e w' ⟨rfl, rfl⟩))
    go_ret2
    exact RetI.nil _ _ _ (Below.refl _ _)

/-! ### Blocks -/
theorem implBlock_any (A0 : Option Addr) (n c : Nat) (xs : List Int) (A1 : Option Addr) (m c1 : Nat) (ss : List Int) (w : World) (h0 : Rd w 1 A0 n (ints xs)) (h1 : Rd w 1 A1 m (ints ss)) :
    Calls Try.prog 28 #[.slice A0 n c, .slice A1 m c1] w (RetI w (blockF xs ss)) := by
  have HN := Lib.hid h0.len_int
  have HM := Lib.hid h1.len_int
  have hm0 := h0.le
  have hm1 := h1.le
  have hoc := fun w => orderCode_any A0 n c xs ss.length w
  have eb : blockF xs ss = if orderCodeF xs ss.length = 0 then endBlock xs.length (goBlock xs 0 ss 0 (List.replicate xs.length 0)) else ([], orderCodeF xs ss.length) := rfl
  rw [HM.out] at hoc eb
  rw [HN.out] at eb
  rw [eb]; clear eb
  have HOC := Lib.hid hoc; clear hoc
  by_cases hcode : orderCodeF xs m = 0
  · obtain ⟨hk1, hk2, hok⟩ := orderCode_ok hcode
    have hlen := orderB_len hok
    rw [HN.out] at hlen
    obtain ⟨hl1, hl2⟩ := hlen
    have HO := Lib.hid hok; clear hok
    rw [if_pos hcode]
    rw [hcode] at HOC
    clear hcode
    go_enter Try.func28, Try.ntmps28
    go_wp2_with fail
    refine (HOC.out _ h0).mono ?_
    rintro e w1 ⟨rfl, hb1⟩
    have hmk := run_make_i64 n (by omega)
    have hown := own_made w1 w.heap.size 2 n (.int .i64 0) hb1.size (by omega)
    rw [← ints_replicate] at hown
    have hb0 : Below w.heap.size w (w1.alloc (.cells (madeCells #[.int .i64 0] n) 2)) := hb1.alloc hb1.size _
    go_wp2_with fail
    go_loopw [8, 9, 10, 23] (fun t _ _ i wr => ∃ (f at_ : Nat) (out : List Int), f ≤ m ∧ i = .int .i64 f ∧ at_ ≤ n ∧ t = .int .i64 at_ ∧ wr.ownsRow w.heap.size 2 1 (.slice (some ⟨w1.heap.size, 0, none⟩) n n) n (ints out) ∧ goBlock xs f (ss.drop f) at_ out = goBlock xs 0 ss 0 (List.replicate n 0) ∧ Below w.heap.size w wr) (fun _ _ _ i _ => m - (intOf i).toNat)
    case atStart => exact ⟨0, 0, _, Nat.zero_le _, rfl, Nat.zero_le _, rfl, hown, rfl, hb0⟩
    case round =>
      obtain ⟨f, at_, out, hf, rfl, hat, rfl, ho, hr, hb⟩ := hrel
      have HR := Lib.hid hr; clear hr hown hb0 hmk
      by_cases hlt : f < m
      · obtain ⟨b, o, s, rfl, hx, hd, hc⟩ := (h1.below hb).int hlt
        have HD := Lib.hid hd; clear hd hx
        have ew : ((xs.length : Int) - at_) = (n : Int) - at_ := by rw [HN.out]
        have EW := Lib.hid ew; clear ew
        cases hw : withinB s 0 ((n : Int) - at_) with
        | true =>
          obtain ⟨hw1, hw2⟩ := withinB_iff.1 hw
          obtain ⟨s, rfl⟩ := int_up s hw1
          go_wp2_with (go_at_call 55; refine (within_any _ _ _ _).mono ?_; rintro e w' ⟨rfl, rfl⟩)
          obtain ⟨wo, rfl⟩ : ∃ wo : World, wo = wr := ⟨_, rfl⟩
          go_loopw [8, 36] (fun t i wr => ∃ (j : Nat) (out' : List Int), j ≤ s ∧ i = .int .i64 j ∧ t = .int .i64 ((at_ + j : Nat) : Int) ∧ wr.ownsRow w.heap.size 2 1 (.slice (some ⟨w1.heap.size, 0, none⟩) n n) n (ints out') ∧ fillF xs f (at_ + j) (s - j) out' = fillF xs f at_ s out ∧ Below w.heap.size w wr) (fun _ i _ => s - (intOf i).toNat)
          case atStart => exact ⟨0, _, Nat.zero_le _, rfl, rfl, ho, rfl, hb⟩
          case round =>
            clear ho hb
            obtain ⟨j, out', hj, rfl, rfl, ho, hr', hb⟩ := hrel
            have HR' := Lib.hid hr'; clear hr'
            by_cases hlt' : j < s
            · obtain ⟨b0, o0, x, rfl, hx, hd, hc0⟩ := (h0.below hb).int (k := at_ + j) (by omega)
              obtain ⟨y, rfl, hy⟩ := orderB_mem HO.out hx
              rw [HN.out] at hy
              have hgd : xs.getD (at_ + j) 0 = (y : Int) := by rw [List.getD_eq_getElem?_getD, hx]; rfl
              have HG := Lib.hid hgd; clear hgd hd hx
              obtain ⟨g, y', hg, hg1, hg2, hy', hcy, hfy⟩ := own_int_at ho (k := y) hy
              obtain rfl : w1.heap.size = g := by injection hg with hg; injection hg
              clear hy' hg
              have ho' := own_set (k := y) ho (f : Int)
              have hb' := hb.setCell (p := ⟨w1.heap.size, y, none⟩) hg1 (.int .i64 (f : Int))
              have es : s - j = (s - (j + 1)) + 1 := by omega
              have ES := Lib.hid es; clear es
              go_wp2
              go_roundw
              case rel => exact ⟨j + 1, _, by omega, by go_num, by rw [show at_ + (j + 1) = (at_ + j) + 1 from by omega]; go_num, ho', by rw [← HR'.out, ES.out, fillF, HG.out]; rfl, hb'⟩
              case measure => simp [intOf]; omega
            · obtain rfl : j = s := by omega
              go_wp2
              go_roundw
              case rel =>
                refine ⟨f + 1, at_ + j, out', by omega, by go_num, by omega, rfl, ho, ?_, hb⟩
                have e0 : out' = fillF xs f at_ j out := by rw [← HR'.out, Nat.sub_self]; rfl
                rw [← HR.out, HD.out, goBlock, EW.out, hw, if_pos rfl, Int.toNat_natCast, e0]
              case measure => simp [intOf]; omega
        | false =>
          go_wp2_with (go_at_call 55; refine (within_any _ _ _ _).mono ?_; rintro e w' ⟨rfl, rfl⟩)
          go_ret2
          rw [← HR.out, HD.out, goBlock, EW.out, hw, if_neg (by decide)]
          exact RetI.nil _ _ _ hb
      · obtain rfl : f = m := by omega
        rw [List.drop_eq_nil_of_le (by rw [HM.out]; omega), goBlock] at HR
        by_cases hlt' : at_ < n
        · go_wp2
          go_ret2
          rw [← HR.out, endBlock, if_pos hlt']
          exact RetI.nil _ _ _ hb
        · go_wp2
          go_ret2
          rw [← HR.out, endBlock, if_neg hlt']
          exact ⟨_, _, _, rfl, ho, by omega, hb⟩
  · rw [if_neg hcode]
    generalize orderCodeF xs m = code at *
    have hne : (code != 0) = true := by simp [hcode]
    clear hcode
    go_enter Try.func28, Try.ntmps28
    go_wp2_with fail
    refine (HOC.out _ h0).mono ?_
    rintro e w1 ⟨rfl, hb1⟩
    go_wp2_with fail
    go_ret2
    exact RetI.nil _ _ _ hb1

theorem leftF_drop {left : Int} {ss : List Int} (f : Nat) : ∀ {l : Int}, leftF left ss = some l → ∃ l', leftF left (ss.take f) = some l' ∧ leftF l' (ss.drop f) = some l := by
  intro l h
  induction f generalizing left ss with
  | zero => exact ⟨left, rfl, h⟩
  | succ f ih =>
    cases ss with
    | nil => exact ⟨left, rfl, h⟩
    | cons s r =>
      unfold leftF at h
      split at h
      · rename_i hw
        obtain ⟨l', h1, h2⟩ := ih h
        exact ⟨l', by simp only [List.take_succ_cons, leftF]; rw [if_pos hw]; exact h1, h2⟩
      · cases h

theorem specBlock_any (A0 : Option Addr) (n c : Nat) (xs : List Int) (A1 : Option Addr) (m c1 : Nat) (ss : List Int) (w : World) (h0 : Rd w 1 A0 n (ints xs)) (h1 : Rd w 1 A1 m (ints ss)) :
    Calls Try.prog 27 #[.slice A0 n c, .slice A1 m c1] w (RetI w (blockF xs ss)) := by
  have HN := Lib.hid h0.len_int
  have HM := Lib.hid h1.len_int
  have hm0 := h0.le
  have hm1 := h1.le
  have eb : blockF xs ss = if orderCodeF xs ss.length = 0 then endBlock xs.length (goBlock xs 0 ss 0 (List.replicate xs.length 0)) else ([], orderCodeF xs ss.length) := rfl
  rw [HM.out, HN.out] at eb
  have e3 : orderCodeF xs m = if withinB m 1 4 then (if orderB xs then 0 else 1) else 2 := rfl
  rw [eb, e3]; clear eb e3
  cases hw : withinB (m : Int) 1 4 with
  | true =>
    obtain ⟨hk1, hk2⟩ := withinB_iff.1 hw
    cases hok : orderB xs with
    | true =>
      have hlen := orderB_len hok
      rw [HN.out] at hlen
      obtain ⟨hl1, hl2⟩ := hlen
      have HO := Lib.hid hok; clear hok
      show Calls Try.prog _ _ w (RetI w (endBlock n (goBlock xs 0 ss 0 (List.replicate n 0))))
      go_enter Try.func27, Try.ntmps27
      go_wp2_with fail
      refine (l30Kinds_any _ _).mono ?_
      rintro e w' ⟨rfl, rfl⟩
      go_wp2_with fail
      refine (l30Order_any _ _ _ _ _ h0).mono ?_
      rintro e w1 ⟨rfl, hb1⟩
      rw [HO.out]
      have hs1 := hb1.size
      go_wp2_with fail
      -- the sizes are checked
      go_loop [6, 7] (fun t i => ∃ (f : Nat) (left : Int), f ≤ m ∧ i = .int .i64 f ∧ 0 ≤ left ∧ left ≤ n ∧ t = .int .i64 left ∧ leftF left (ss.drop f) = leftF n ss) (fun _ i => m - (intOf i).toNat)
      case atStart => exact ⟨0, n, Nat.zero_le _, rfl, by omega, by omega, rfl, rfl⟩
      case round =>
        obtain ⟨f, left, hf, rfl, hl0, hln, rfl, hr⟩ := hrel
        have HR := Lib.hid hr; clear hr
        by_cases hlt : f < m
        · obtain ⟨b, o, s, rfl, hx, hd, hc⟩ := (h1.below hb1).int hlt
          have HD := Lib.hid hd; clear hd hx
          cases hw : withinB s 0 left with
          | true =>
            obtain ⟨hw1, hw2⟩ := withinB_iff.1 hw
            go_wp2_with (go_at_call 59; refine (l01In_any _ _ _ _).mono ?_; rintro e w' ⟨rfl, rfl⟩)
            go_round
            case rel => exact ⟨f + 1, left - s, by omega, by go_num, by omega, by omega, rfl, by rw [← HR.out, HD.out, leftF, hw, if_pos rfl]⟩
            case measure => simp [intOf]; omega
          | false =>
            go_wp2_with (go_at_call 59; refine (l01In_any _ _ _ _).mono ?_; rintro e w' ⟨rfl, rfl⟩)
            go_ret2
            rw [HD.out, leftF, hw, if_neg (by decide)] at HR
            rw [goBlock_none xs ss 0 0 _ (Nat.zero_le _) (by rw [HN.out]; simpa using HR.out.symm)]
            exact RetI.nil _ _ _ hb1
        · obtain rfl : m = f := by omega
          rw [List.drop_eq_nil_of_le (by rw [HM.out]; omega), leftF] at HR
          have hgb := goBlock_some xs ss 0 0 (List.replicate n 0) left (Nat.zero_le _) (by rw [HN.out]; simpa using HR.out.symm)
          rw [HN.out] at hgb
          have HGB := Lib.hid hgb; clear hgb
          by_cases hz : left = 0
          · subst hz
            have hmk := run_make_i64 n (by omega)
            have hown := own_made w1 w.heap.size 2 n (.int .i64 0) hs1 (by omega)
            rw [← ints_replicate] at hown
            have hb0 : Below w.heap.size w (w1.alloc (.cells (madeCells #[.int .i64 0] n) 2)) := hb1.alloc hs1 _
            go_wp2_with fail
            go_loopw [9, 10, 11] (fun t i _ wr => ∃ (f at_ : Nat) (out : List Int), f ≤ m ∧ i = .int .i64 f ∧ at_ ≤ n ∧ t = .int .i64 at_ ∧ leftF ((n : Int) - at_) (ss.drop f) = some 0 ∧ wr.ownsRow w.heap.size 2 1 (.slice (some ⟨w1.heap.size, 0, none⟩) n n) n (ints out) ∧ fillsF xs f (ss.drop f) at_ out = fillsF xs 0 ss 0 (List.replicate n 0) ∧ Below w.heap.size w wr) (fun _ i _ _ => m - (intOf i).toNat)
            case atStart => exact ⟨0, 0, _, Nat.zero_le _, rfl, Nat.zero_le _, rfl, by simpa using HR.out.symm, hown, rfl, hb0⟩
            case round =>
              clear HR hown hb0 hmk
              obtain ⟨f, at_, out, hf, rfl, hat, rfl, hleft, ho, hr, hb⟩ := hrel
              have HR := Lib.hid hr; clear hr
              have HL := Lib.hid hleft; clear hleft
              by_cases hlt : f < m
              · obtain ⟨b, o, s, rfl, hx, hd, hc⟩ := (h1.below hb).int hlt
                have HD := Lib.hid hd; clear hd
                have HX := Lib.hid hx; clear hx
                rw [HD.out, leftF] at HL
                cases hw : withinB s 0 ((n : Int) - at_) with
                | false => rw [hw] at HL; cases HL.out
                | true =>
                  rw [hw, if_pos rfl] at HL
                  obtain ⟨hw1, hw2⟩ := withinB_iff.1 hw
                  obtain ⟨s, rfl⟩ := int_up s hw1
                  go_wp2
                  obtain ⟨wo, rfl⟩ : ∃ wo : World, wo = wr := ⟨_, rfl⟩
                  go_loopw [9, 11] (fun t i wr => ∃ (j : Nat) (out' : List Int), j ≤ s ∧ i = .int .i64 j ∧ t = .int .i64 ((at_ + j : Nat) : Int) ∧ wr.ownsRow w.heap.size 2 1 (.slice (some ⟨w1.heap.size, 0, none⟩) n n) n (ints out') ∧ fillF xs f (at_ + j) (s - j) out' = fillF xs f at_ s out ∧ Below w.heap.size w wr) (fun _ i _ => s - (intOf i).toNat)
                  case atStart => exact ⟨0, _, Nat.zero_le _, rfl, rfl, ho, rfl, hb⟩
                  case round =>
                    clear ho hb hc
                    obtain ⟨j, out', hj, rfl, rfl, ho, hr', hb⟩ := hrel
                    have HR' := Lib.hid hr'; clear hr'
                    obtain ⟨b1, o1, s1, hb1', hx1, _, hc⟩ := (h1.below hb).int hlt
                    rw [HX.out] at hx1
                    obtain rfl : (s : Int) = s1 := by injection hx1
                    obtain ⟨rfl, rfl⟩ : b = b1 ∧ o = o1 := by injection hb1' with hb1'; injection hb1' with e1 e2; exact ⟨e1, e2⟩
                    clear hx1 hb1'
                    by_cases hlt' : j < s
                    · obtain ⟨b0, o0, x, rfl, hx, hd, hc0⟩ := (h0.below hb).int (k := at_ + j) (by omega)
                      obtain ⟨y, rfl, hy⟩ := orderB_mem HO.out hx
                      rw [HN.out] at hy
                      have hgd : xs.getD (at_ + j) 0 = (y : Int) := by rw [List.getD_eq_getElem?_getD, hx]; rfl
                      have HG := Lib.hid hgd; clear hgd hd hx
                      obtain ⟨g, y', hg, hg1, hg2, hy', hcy, hfy⟩ := own_int_at ho (k := y) hy
                      obtain rfl : w1.heap.size = g := by injection hg with hg; injection hg
                      clear hy' hg
                      have ho' := own_set (k := y) ho (f : Int)
                      have hb' := hb.setCell (p := ⟨w1.heap.size, y, none⟩) hg1 (.int .i64 (f : Int))
                      have es : s - j = (s - (j + 1)) + 1 := by omega
                      have ES := Lib.hid es; clear es
                      go_wp2
                      go_roundw
                      case rel => exact ⟨j + 1, _, by omega, by go_num, by rw [show at_ + (j + 1) = (at_ + j) + 1 from by omega]; go_num, ho', by rw [← HR'.out, ES.out, fillF, HG.out]; rfl, hb'⟩
                      case measure => simp [intOf]; omega
                    · obtain rfl : j = s := by omega
                      go_wp2
                      go_roundw
                      case rel =>
                        refine ⟨f + 1, at_ + j, out', by omega, by go_num, by omega, rfl, ?_, ho, ?_, hb⟩
                        · rw [← HL.out]; congr 1; omega
                        · have e0 : out' = fillF xs f at_ j out := by rw [← HR'.out, Nat.sub_self]; rfl
                          rw [← HR.out, HD.out, fillsF, Int.toNat_natCast, e0]
                      case measure => simp [intOf]; omega
              · obtain rfl : f = m := by omega
                rw [List.drop_eq_nil_of_le (by rw [HM.out]; omega), fillsF] at HR
                go_wp2
                go_ret2
                rw [HGB.out, endBlock, if_neg (by omega)]
                exact ⟨_, _, _, rfl, by rw [← HR.out]; exact ho, by omega, hb⟩
          · have hne : (left != 0) = true := by simp [hz]
            go_wp2
            go_ret2
            rw [HGB.out, endBlock, if_pos (by omega)]
            exact RetI.nil _ _ _ hb1
    | false =>
      show Calls Try.prog _ _ w (RetI w ([], 1))
      go_enter Try.func27, Try.ntmps27
      go_wp2_with fail
      refine (l30Kinds_any _ _).mono ?_
      rintro e w' ⟨rfl, rfl⟩
      go_wp2_with fail
      refine (l30Order_any _ _ _ _ _ h0).mono ?_
      rintro e w1 ⟨rfl, hb1⟩
      go_wp2_with fail
      go_ret2
      exact RetI.nil _ _ _ hb1
  | false =>
    show Calls Try.prog _ _ w (RetI w ([], 2))
    go_enter Try.func27, Try.ntmps27
    go_wp2_with fail
    refine (l30Kinds_any _ _).mono ?_
    rintro e w' ⟨rfl, rfl⟩
    go_wp2_with fail
    go_ret2
    exact RetI.nil _ _ _ (Below.refl _ _)
end Go.Proofs.Ytoccfbkklponnaa

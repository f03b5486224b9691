/- Walks: the fastest times of the program (chapter 32). -/
import Derived.Test.YtpaamhkgokkgpaaHc
import Derived.Test.YtpaamhkgokkgpaaGy
import Derived.Test.YtpaamhkgokkgpaaWpb
import Derived.Test.YtpaamhkgokkgpaaSs
import Derived.Test.YtpaamhkgokkgpaaGg
import Derived.Deep.RegionHeld3
import Derived.Deep.LoopGhost
import Derived.Outline
namespace Go.Proofs.Ytpaamhkgokkgpaa
open Go.RowKit
set_option linter.unusedVariables false
set_option maxRecDepth 100000

theorem rd_lit (v : Int) (w : World) : Rd (w.alloc (.cells #[.int .i64 v] 2)) 1 (some ⟨w.heap.size, 0, none⟩) 1 (ints [v]) :=
  ⟨rfl, by omega, fun _ => ⟨_, _, rfl, fun i u hu => by
    cases i with
    | zero => simp [ints] at hu; subst hu; exact cell_new1 _ _ _
    | succ i => simp [ints] at hu⟩⟩
theorem own_other {w : World} {base e s n g : Nat} {v : Value} {xs : List Value} (h : w.ownsRow base e s v n xs) (k : Nat) (u : Value) (hv : v.ownBlock ≠ some g) : (w.setCell ⟨g, k, none⟩ u).ownsRow base e s v n xs :=
  h.kept (grown_set ⟨rfl, rfl, rfl, Nat.le_refl _, fun _ _ _ => rfl⟩ k u) (.inr hv)
theorem scan_next {T : List Int} {dn : List Bool} {n k : Nat} {b t : Int} {y : Bool} (hk : k < n) (ht : tm T k = t) (hy : dnB dn k = y) : scanF T dn ((List.range n).drop k) b = scanF T dn ((List.range n).drop (k + 1)) (if ((!y && decide (0 ≤ t)) && (decide (b < 0) || decide (t < tm T b.toNat))) = true then (k : Int) else b) := by
  rw [rng_drop hk, scanF]
  unfold candB
  rw [ht, hy]
theorem dn_get {dn : List Bool} {k : Nat} {y : Bool} (h : dn[k]? = some y) : dnB dn k = y := by
  unfold dnB; rw [List.getD_eq_getElem?_getD, h]; rfl
def leftB (dn : List Bool) : Nat := dn.countP fun b => !b
theorem left_set {dn : List Bool} {b : Nat} (h : dn[b]? = some false) : leftB dn = leftB (dn.set b true) + 1 := by
  obtain ⟨hb, he⟩ := List.getElem?_eq_some_iff.1 h
  unfold leftB
  rw [List.countP_set hb]
  have hpos : 0 < dn.countP (fun b => !b) := List.countP_pos_iff.2 ⟨false, by rw [← he]; exact List.getElem_mem _, rfl⟩
  simp [he]
  omega
theorem dij_stop {n : Nat} {A : Nat → List Arc} {T : List Int} {dn : List Bool} (q : Nat) (h : bestF n T dn < 0) : dijG n A q T dn = T := by
  cases q with
  | zero => rfl
  | succ q => rw [dijG, if_pos h]
theorem row_out (W H : Int) (xs : List (Int × Int)) (T : List Int) (u : Nat) : rowF false W H xs T u = (outF W H xs u).foldl relF T := by
  unfold rowF
  rw [step_row]
  have : wayA false = id := by funext x; rfl
  rw [this, List.map_id]
  rfl
theorem dij_go {W H : Int} {xs : List (Int × Int)} {n b : Nat} {T : List Int} {dn : List Bool} (q : Nat) (h : bestF n T dn = b) : dijG n (outF W H xs) (q + 1) T dn = dijG n (outF W H xs) q (rowF false W H xs T b) (dn.set b true) := by
  rw [dijG, h, if_neg (by omega), Int.toNat_natCast, row_out]
theorem step_none {back : Bool} {W H : Int} {xs : List (Int × Int)} {u d : Nat} {T : List Int} (h : moveB W H xs u d = false) : stepF back W H xs u T d = T := by
  unfold stepF arcF; rw [h]; rfl
theorem step_some {back : Bool} {W H : Int} {xs : List (Int × Int)} {u d v : Nat} {c : Int} {T : List Int} (h : moveB W H xs u d = true) (hn : nbF W H u d = v) (ht : takeF xs u d = c) : stepF back W H xs u T d = relF T (wayA back (u, v, c)) := by
  unfold stepF arcF; rw [h, hn, ht]; rfl
theorem relF_yes {T : List Int} {a b : Nat} {c : Int} (h0 : 0 ≤ tm T a) (h : tm T b < 0 ∨ tm T a + c < tm T b) : relF T (a, b, c) = T.set b (tm T a + c) := if_pos ⟨h0, h⟩
theorem relF_no {T : List Int} {a b : Nat} {c : Int} (h : tm T a < 0 ∨ (0 ≤ tm T b ∧ tm T b ≤ tm T a + c)) : relF T (a, b, c) = T := if_neg (by simp only; omega)
theorem best_at {n : Nat} {T : List Int} {dn : List Bool} {b : Int} (h : bestF n T dn = b) (h0 : 0 ≤ b) : ∃ k : Nat, b = k ∧ k < n ∧ 0 ≤ tm T k := by
  obtain ⟨k, e, h1, _, h2, _⟩ := best_some (n := n) (T := T) (dn := dn) (by omega)
  exact ⟨k, by omega, h1, h2⟩
theorem best_free {n : Nat} {T : List Int} {dn : List Bool} {b : Nat} (h : bestF n T dn = b) : dnB dn b = false := by
  obtain ⟨k, e, h1, h3, h2, _⟩ := best_some (n := n) (T := T) (dn := dn) (by omega)
  have : k = b := by omega
  rw [← this]; exact h3
set_option maxHeartbeats 4000000 in
theorem fastest_any (W H : Int) (A : Option Addr) (n c : Nat) (xs : List (Int × Int)) (s : Nat) (hg : GridOk W H xs) (hs : s < n) (w : World) (h : Rd w 2 A n (winds xs)) :
    Calls Try.prog 66 #[.agg #[.int .i64 W, .int .i64 H, .slice A n c], .int .i64 (s : Int)] w (RetCopy w (timesF W H xs s)) := by
  have HX := Lib.hid h.len_wind
  have hn := h.le
  have hn100 : n ≤ 100 := by
    have h1 := hg.len
    have h2 := mul_bd (show 0 ≤ W by have := hg.w1; omega) hg.w2 (show 0 ≤ H by have := hg.h1; omega) hg.h2
    have h3 := HX.out
    omega
  have HREP := Lib.hid (fun A c w' (h : Rd w' 1 A 1 (ints [-1])) => repeat_any A c (-1) n (by omega) hn100 w' h)
  have HMAKE := Lib.hid (fun w' : World => own_made w' w'.heap.size 4 n (.bool false) (Nat.le_refl _) (by omega))
  have HLIT := Lib.hid (fun (w1 w2 : World) (hb : Below (w1.alloc (.cells #[.int .i64 (-1)] 2)).heap.size (w1.alloc (.cells #[.int .i64 (-1)] 2)) w2) => (rd_lit (-1) w1).below hb)
  have hmk := run_make_bool n (by omega)
  have HB := Lib.hid (show ∀ o, Below w.heap.size w (w.alloc o) from fun o => (Below.refl _ _).alloc (Nat.le_refl _) o)
  have HMT := Lib.hid (fun c' d (g1 : 0 ≤ c') (g2 : c' < W * H) (d1 : 0 ≤ d) (d2 : d ≤ 7) w' (hb : Below w.heap.size w w') => moveTime_any W H A n c xs c' d hg g1 g2 d1 d2 w' (h.below hb))
  have HNB := Lib.hid (fun c' d (g1 : 0 ≤ c') (g2 : c' < W * H) (d1 : 0 ≤ d) (d2 : d ≤ 7) w' => implNb_any W H A n c c' d hg.w1 hg.w2 hg.h1 hg.h2 g1 g2 d1 d2 w')
  have HBD := Lib.hid (fun c' d (g1 : 0 ≤ c') (g2 : c' < W * H) hh => moveF_bd (d := d) hg hh g1 g2)
  have HCL := Lib.hid (fun c' d (hh : moveB W H xs c' d = true) => nb_cell (cell := c') (d := d) hg.w1 hg.h1 (moveB_nb hh))
  have HMF := Lib.hid (show ∀ c' d, moveF W H xs c' d = if moveB W H xs c' d = true then takeF xs c' d else -1 from fun _ _ => rfl)
  have hNm : W * H = n := by have := hg.len; have := HX.out; omega
  rw [hNm] at HMT HNB HBD HCL
  generalize hres : timesF W H xs s = res
  unfold timesF at hres
  rw [HX.out] at hres
  have HRES := Lib.hid hres
  clear hres hg hNm h
  go_enter Try.func66, Try.ntmps66
  go_wp2_with fail
  obtain ⟨wb, hwb⟩ : ∃ wb, wb = w.alloc (.cells #[.int .i64 W, .int .i64 H, .slice A n c] 29) := ⟨_, rfl⟩
  rw [← hwb]
  have hb0 : Below w.heap.size w wb := by rw [hwb]; exact (Below.refl _ _).alloc (Nat.le_refl _) _
  have x0 : wb.cell? ⟨w.heap.size, 0, none⟩ = some (.int .i64 W) := by rw [hwb]; exact cell_top _ _ _ rfl rfl
  have x1 : wb.cell? ⟨w.heap.size, 1, none⟩ = some (.int .i64 H) := by rw [hwb]; exact cell_top _ _ _ rfl rfl
  have x2 : wb.cell? ⟨w.heap.size, 2, none⟩ = some (.slice A n c) := by rw [hwb]; exact cell_top _ _ _ rfl rfl
  have hsz : w.heap.size < wb.heap.size := by rw [hwb]; simp
  have HB0 := Lib.hid hb0
  clear hwb hb0
  have HR1 := Lib.hid (HLIT.out wb)
  have HSR := Lib.hid (show ∀ w1, Below wb.heap.size wb w1 → (w1.cell? ⟨w.heap.size, 2, none⟩ = some (.slice A n c) ∧ Below wb.heap.size wb w1) from fun Y hb => ⟨(hb.cell (p := ⟨w.heap.size, 2, none⟩) hsz).trans x2, hb⟩)
  have HC1 := Lib.hid (HLIT.out wb)
  have HC2 := Lib.hid (show ∀ w2, Below _ _ w2 → Rd w2 1 (some ⟨wb.heap.size + 1, 0, none⟩) 1 (ints [-1]) from fun w2 hb => by have := HLIT.out (wb.alloc (.cells (madeCells #[.bool false] n) 4)) w2 hb; simpa using this)
  go_cut [5, 6] (fun s5 s6 wx => ∃ (A5 : Option Addr) (c5 g6 : Nat), s5 = .slice A5 n c5 ∧ s6 = .slice (some ⟨g6, 0, none⟩) n n ∧ wx.ownsRow wb.heap.size 2 1 (.slice A5 n c5) n (ints (List.replicate n (-1))) ∧ wx.ownsRow wb.heap.size 4 1 (.slice (some ⟨g6, 0, none⟩) n n) n (bools (List.replicate n false)) ∧ Below wb.heap.size wb wx)
  case first =>
    go_region_held3 (fun w1 => w1.cell? ⟨w.heap.size, 2, none⟩ = some (.slice A n c) ∧ Below wb.heap.size wb w1) (first | exact HSR.out _ HBq | exact HSR.out _ (Below.alloc HBq HBq.size _) | exact HSR.out _ (by (repeat (first | exact Below.refl _ _ | refine below_drewN ?_ 1 | refine Below.alloc ?_ (by simp <;> omega) _)))) (first | (go_at_call 86; (have hq := (‹_ ∧ Below wb.heap.size wb _›).2); (refine (HREP.out _ _ _ ?_).mono ?_); (first | exact HC1.out _ (by (repeat (first | exact Below.refl _ _ | refine below_drewN ?_ 1 | refine Below.alloc ?_ (by simp <;> omega) _))) | exact HC2.out _ (by (repeat (first | exact Below.refl _ _ | refine below_drewN ?_ 1 | refine Below.alloc ?_ (by simp <;> omega) _)))); (rintro e wq ⟨A5, n5, c5, rfl, ho, hn5, hbq⟩); (have HBq := hq.trans (hbq.mono hq.size))))
    all_goals
      go_wp2_with fail
      go_meet
      have hl5 := own_len ho
      rw [List.length_replicate] at hl5
      obtain rfl : n = n5 := hl5
      have hbase : wb.heap.size ≤ wq.heap.size := HBq.size
      clear HREP HC1 HC2 HSR HMT HNB HBD HCL HMF hmk
      first
        | (refine ⟨A5, c5, _, rfl, rfl, own_base (own_below ho ((Below.refl _ _).alloc (Nat.le_refl _) _)) (by simp <;> omega), ?_, HBq.alloc HBq.size _⟩
           rw [bools_replicate]
           exact own_base (HMAKE.out wq) hbase)
        | (refine ⟨A5, c5, _, rfl, rfl, own_base ho (by simp <;> omega), ?_, HBq⟩
           rw [bools_replicate]
           have hm := own_below (own_drewN (own_below (HMAKE.out wb) ((Below.refl _ _).alloc (Nat.le_refl _) _)) 1) hbq
           exact own_base hm (Nat.le_refl _))
        | (refine ⟨A5, c5, _, rfl, rfl, own_base ho (by simp <;> omega), ?_, HBq⟩
           rw [bools_replicate]
           have hm := own_below (own_drewN (HMAKE.out (wb.alloc (.cells #[.int .i64 (-1)] 2))) 1) hbq
           have hm := own_base hm (show wb.heap.size ≤ _ by simp <;> omega)
           simpa using hm)
  case rest =>
    obtain ⟨A5, c5, g6, rfl, rfl, h5, h6, hbc⟩ := hcut
    obtain ⟨g5, z, rfl, hg5, _, _, hz1, hz2⟩ := own_int_at h5 hs
    have h56 : g6 ≠ g5 := fun e => own_type_ne h5 h6 (by decide) g5 rfl (by rw [e]; rfl)
    have t5 := own_set h5 (k := s) 0
    have t6 := own_other h6 s (.int .i64 0) (g := g5) (by intro e; injection e with e; exact h56 e)
    have hbs := hbc.setCell (p := ⟨g5, s, none⟩) hg5 (.int .i64 0)
    have HA := Lib.hid (And.intro t5 (And.intro t6 hbs))
    clear h5 h6 hbc t5 t6 hbs HREP HMAKE HLIT hmk
    go_wp2_with fail
    clear hz1 hz2
    go_loopg [7] n (fun q _ wr => ∃ (T : List Int) (dn : List Bool), leftB dn = q ∧ dn.length = n ∧ Cap n T ∧ dijG n (outF W H xs) q T dn = res ∧ wr.ownsRow wb.heap.size 2 1 (.slice (some ⟨g5, 0, none⟩) n c5) n (ints T) ∧ wr.ownsRow wb.heap.size 4 1 (.slice (some ⟨g6, 0, none⟩) n n) n (bools dn) ∧ Below wb.heap.size wb wr)
    case atStart =>
      refine ⟨_, _, ?_, ?_, cap_start hs, HRES.out, HA.out.1, HA.out.2.1, HA.out.2.2⟩
      · unfold leftB; simp [List.countP_replicate]
      · simp
    case round =>
      clear HRES HA
      obtain ⟨T, dn, hq, hdl, hcap, hR, ho5, ho6, hb⟩ := hrel
      obtain ⟨wo, rfl⟩ : ∃ wo : World, wo = wr := ⟨_, rfl⟩
      have HT := Lib.hid ho5
      have HD := Lib.hid ho6
      have HBR := Lib.hid hb
      have HC := Lib.hid hcap
      have HDL := Lib.hid hdl
      have HQ := Lib.hid hq
      have HR := Lib.hid hR
      have y0 := Keeps.below hb _ _ x0
      have y1 := Keeps.below hb _ _ x1
      have y2 := Keeps.below hb _ _ x2
      obtain ⟨bst, hbst⟩ : ∃ b, b = bestF n T dn := ⟨_, rfl⟩
      have HBST := Lib.hid hbst
      clear ho5 ho6 hb hcap hdl hq hR hbst
      go_wp2_with fail
      go_loop [7, 27] (fun s7 i => ∃ (k : Nat) (b : Int), k ≤ n ∧ i = .int .i64 k ∧ s7 = .int .i64 b ∧ -1 ≤ b ∧ b < n ∧ scanF T dn ((List.range n).drop k) b = bst) (fun _ i => n - (intOf i).toNat)
      case atStart => exact ⟨0, -1, Nat.zero_le _, rfl, rfl, by omega, by omega, HBST.out.symm⟩
      case round =>
        obtain ⟨k, b, hk, rfl, rfl, hb1, hb2, hS⟩ := hrel
        by_cases hlt : k < n
        · obtain ⟨g5', t, e5, _, _, ht, hct, _⟩ := own_int_at HT.out hlt
          obtain rfl : g5 = g5' := by injection e5 with e5; injection e5
          obtain ⟨g6', y, e6, _, _, hy, hcy, _⟩ := own_bool_at HD.out hlt
          obtain rfl : g6 = g6' := by injection e6 with e6; injection e6
          have hnx := scan_next (b := b) hlt (tm_get ht) (dn_get hy)
          rw [hnx] at hS
          have HS := Lib.hid hS
          have HTM := Lib.hid (tm_get ht)
          clear hS hnx e5 e6 ht hy
          cases y with
          | true =>
            go_wp2_with fail
            go_round
            case rel => exact ⟨k + 1, b, by omega, by go_num, rfl, hb1, hb2, HS.out⟩
            case measure => simp [intOf] <;> omega
          | false =>
            by_cases ht0 : 0 ≤ t
            · by_cases hb0 : b < 0
              · have HS2 := Lib.hid (show scanF T dn ((List.range n).drop (k + 1)) (k : Int) = bst by rw [← HS.out]; simp [ht0, hb0])
                go_wp2_with fail
                go_round
                case rel => exact ⟨k + 1, k, by omega, by go_num, rfl, by omega, by omega, HS2.out⟩
                case measure => simp [intOf] <;> omega
              · obtain ⟨j, rfl⟩ := int_up b (by omega)
                have hj : j < n := by omega
                obtain ⟨g5', t2, e5, _, _, ht2, hct2, _⟩ := own_int_at HT.out hj
                obtain rfl : g5 = g5' := by injection e5 with e5; injection e5
                have htm2 := tm_get ht2
                clear e5 ht2
                by_cases hlt2 : t < t2
                · have HS2 := Lib.hid (show scanF T dn ((List.range n).drop (k + 1)) (k : Int) = bst by rw [← HS.out]; simp [ht0, htm2, hlt2, hb0])
                  clear htm2
                  go_wp2_with fail
                  go_round
                  case rel => exact ⟨k + 1, k, by omega, by go_num, rfl, by omega, by omega, HS2.out⟩
                  case measure => simp [intOf] <;> omega
                · have HS2 := Lib.hid (show scanF T dn ((List.range n).drop (k + 1)) (j : Int) = bst by rw [← HS.out]; simp [ht0, htm2, hlt2, hb0])
                  clear htm2
                  go_wp2_with fail
                  go_round
                  case rel => exact ⟨k + 1, j, by omega, by go_num, rfl, by omega, by omega, HS2.out⟩
                  case measure => simp [intOf] <;> omega
            · have HS2 := Lib.hid (show scanF T dn ((List.range n).drop (k + 1)) b = bst by rw [← HS.out]; simp [ht0])
              go_wp2_with fail
              go_round
              case rel => exact ⟨k + 1, b, by omega, by go_num, rfl, by omega, by omega, HS2.out⟩
              case measure => simp [intOf] <;> omega
        · obtain rfl : n = k := by omega
          rw [List.drop_eq_nil_of_le (by simp)] at hS
          obtain rfl : bst = b := hS.symm
          by_cases hbn : bst < 0
          · have hres : T = res := by rw [← HR.out, dij_stop _ (by rw [← HBST.out]; exact hbn)]
            have HRS := Lib.hid hres
            clear hres
            go_wp2_with fail
            go_ret
            rw [← HRS.out]
            exact ⟨_, _, _, rfl, own_base HT.out (by omega), by omega, HB0.out.trans (HBR.out.mono (by omega))⟩
          · obtain ⟨u, hu, hun, hu0⟩ := best_at HBST.out.symm (by omega)
            subst hu
            have hfree := best_free HBST.out.symm
            obtain ⟨g5', tb, e5, _, _, htb, hctb, _⟩ := own_int_at HT.out hun
            obtain rfl : g5 = g5' := by injection e5 with e5; injection e5
            obtain ⟨g6', y, e6, hg6, _, hy, hcy, hfy⟩ := own_bool_at HD.out hun
            obtain rfl : g6 = g6' := by injection e6 with e6; injection e6
            obtain rfl : y = false := by rw [← dn_get hy]; exact hfree
            have hls := left_set hy
            rw [HQ.out] at hls
            have HGO := Lib.hid (show dijG n (outF W H xs) (leftB (dn.set u true)) (rowF false W H xs T u) (dn.set u true) = res by rw [← HR.out, hls]; exact (dij_go _ HBST.out.symm).symm)
            have htm : tm T u = tb := tm_get htb
            have tb0 : 0 ≤ tb := by rw [← htm]; exact hu0
            have tb1 : tb ≤ 252000 := by rw [← htm]; exact HC.out.bd hn100 u
            have HA := Lib.hid (And.intro (own_set_bool HD.out (k := u) true) (And.intro (own_other HT.out u (.bool true) (g := g6) (by intro e; injection e with e; exact h56 e.symm)) (HBR.out.setCell (p := ⟨g6, u, none⟩) hg6 (.bool true))))
            have HTM := Lib.hid htm
            have HLS := Lib.hid hls
            have hiu0 : (0 : Int) ≤ u := by omega
            have hiu1 : (u : Int) < n := by omega
            clear htm hls hy htb hfree e5 e6 hu0 hctb
            go_wp2_with fail
            clear hcy hfy y0 y1 y2
            go_loopw [61] (fun j w5 => ∃ (d : Nat) (T' : List Int), d ≤ 8 ∧ j = .int .i64 d ∧ ((List.range 8).drop d).foldl (stepF false W H xs u) T' = rowF false W H xs T u ∧ Cap n T' ∧ tm T' u = tb ∧ w5.ownsRow wb.heap.size 2 1 (.slice (some ⟨g5, 0, none⟩) n c5) n (ints T') ∧ w5.ownsRow wb.heap.size 4 1 (.slice (some ⟨g6, 0, none⟩) n n) n (bools (dn.set u true)) ∧ Below wb.heap.size wb w5) (fun j _ => 8 - (intOf j).toNat)
            case atStart => exact ⟨0, T, by omega, rfl, rfl, HC.out, HTM.out, HA.out.2.1, HA.out.1, HA.out.2.2⟩
            case round =>
              clear HA
              obtain ⟨d, T', hd8, rfl, hF, hcap, htu, ho5, ho6, hb⟩ := hrel
              by_cases hdlt : d < 8
              · rw [rng_drop hdlt, List.foldl_cons] at hF
                obtain ⟨w5, rfl⟩ : ∃ w5 : World, w5 = wr := ⟨_, rfl⟩
                have z0 := Keeps.below hb _ _ x0
                have z1 := Keeps.below hb _ _ x1
                have z2 := Keeps.below hb _ _ x2
                have HF := Lib.hid hF
                have HO5 := Lib.hid ho5
                have HO6 := Lib.hid ho6
                have HB5 := Lib.hid hb
                have HCAP := Lib.hid hcap
                have HTU := Lib.hid htu
                clear hF ho5 ho6 hb hcap htu
                have hd0 : (0 : Int) ≤ d := by omega
                have hd7 : (d : Int) ≤ 7 := by omega
                have HM := Lib.hid (HMF.out u d)
                generalize hmf : moveF W H xs u d = r at *
                have HMT1 := Lib.hid (fun w' hb => HMT.out u d hiu0 hiu1 hd0 hd7 w' hb)
                rw [hmf] at HMT1
                clear hmf
                have HW5 := Lib.hid (HB0.out.trans (HB5.out.mono (by omega)))
                cases hmb : moveB W H xs u d with
                | false =>
                  obtain rfl : r = -1 := by rw [HM.out, hmb]; rfl
                  have HF2 := Lib.hid (show ((List.range 8).drop (d + 1)).foldl (stepF false W H xs u) T' = rowF false W H xs T u by rw [← HF.out, step_none hmb])
                  clear hmb
                  go_wp2_with fail
                  refine (HMT1.out _ HW5.out).mono ?_
                  rintro e w6 ⟨rfl, hb6⟩
                  have HK6 := Lib.hid (And.intro (own_below HO5.out hb6) (And.intro (own_below HO6.out hb6) (HB5.out.trans (hb6.mono HB5.out.size))))
                  clear hb6 z0 z1 z2
                  go_wp2_with fail
                  all_goals
                    go_roundw
                    case rel => exact ⟨d + 1, T', by omega, by go_num, HF2.out, HCAP.out, HTU.out, HK6.out.1, HK6.out.2.1, HK6.out.2.2⟩
                    case measure => simp [intOf] <;> omega
                | true =>
                  obtain ⟨k1, k2⟩ := HBD.out u d hiu0 hiu1 hmb
                  obtain ⟨n1, n2⟩ := HCL.out u d hmb
                  have htk : takeF xs u d = r := by rw [HM.out, hmb]; rfl
                  rw [htk] at k1 k2
                  have HNB1 := Lib.hid (fun w' => HNB.out u d hiu0 hiu1 hd0 hd7 w')
                  generalize hnf : nbF W H u d = nf at *
                  obtain ⟨v, rfl⟩ := int_up nf n1
                  have HST := Lib.hid (step_some (back := false) (T := T') hmb hnf htk)
                  clear hmb hnf HM htk
                  have hv : v < n := by omega
                  obtain ⟨g5', q, e5, hg5', _, hq, hcq, hfq⟩ := own_int_at HO5.out hv
                  obtain rfl : g5 = g5' := by injection e5 with e5; injection e5
                  obtain ⟨g5', tb', e5, _, hgl, htb, hctb, _⟩ := own_int_at HO5.out hun
                  obtain rfl : g5 = g5' := by injection e5 with e5; injection e5
                  obtain rfl : tb = tb' := by rw [← HTU.out]; exact tm_get htb
                  have htq := tm_get hq
                  have q0 : -1 ≤ q := by rw [← htq]; exact HCAP.out.low v
                  have q1 : q ≤ 252000 := by rw [← htq]; exact HCAP.out.bd hn100 v
                  have HTQ := Lib.hid htq
                  have hwr : IntKind.i64.wrap (tb + r) = tb + r := IntWalk.i64_in _ (by omega)
                  have HCE := Lib.hid (fun w' (hb : Below w5.heap.size w5 w') => And.intro ((hb.cell (p := ⟨g5, v, none⟩) hgl).trans hcq) (And.intro ((hb.cell (p := ⟨g5, u, none⟩) hgl).trans hctb) ((hb.frozen (p := ⟨g5, v, none⟩) hgl).trans hfq)))
                  clear e5 hq hcq hfq hctb htb htq
                  have HYES := Lib.hid (fun (hc : q < 0 ∨ tb + r < q) => show ((List.range 8).drop (d + 1)).foldl (stepF false W H xs u) (T'.set v (tb + r)) = rowF false W H xs T u ∧ Cap n (T'.set v (tb + r)) ∧ tm (T'.set v (tb + r)) u = tb by
                    have hc' : tm T' v < 0 ∨ tm T' u + r < tm T' v := by rw [HTQ.out, HTU.out]; exact hc
                    have h0' : 0 ≤ tm T' u := by rw [HTU.out]; exact tb0
                    have e := relF_yes (a := u) (b := v) (c := r) h0' hc'
                    rw [HTU.out] at e
                    refine ⟨by rw [← HF.out, HST.out, ← e]; rfl, ?_, ?_⟩
                    · have := HCAP.out.set hv k1 k2 h0' hc'
                      rwa [HTU.out] at this
                    · rw [tm_set_ne _ (by rintro rfl; rw [HTU.out] at HTQ; have := HTQ.out; omega)]; exact HTU.out)
                  have HNO := Lib.hid (fun (hc : ¬ (q < 0 ∨ tb + r < q)) => show ((List.range 8).drop (d + 1)).foldl (stepF false W H xs u) T' = rowF false W H xs T u by
                    have e := relF_no (T := T') (a := u) (b := v) (c := r) (.inr (by rw [HTQ.out, HTU.out]; omega))
                    rw [← HF.out, HST.out]
                    show _ = List.foldl _ (relF T' (u, v, r)) _
                    rw [e])
                  by_cases hq0 : q < 0
                  · skip
                    have HY := Lib.hid (HYES.out (.inl hq0))
                    go_wp2_with fail
                    refine (HMT1.out _ HW5.out).mono ?_
                    rintro e w6 ⟨rfl, hb6⟩
                    replace z0 := Keeps.below hb6 _ _ z0
                    replace z1 := Keeps.below hb6 _ _ z1
                    replace z2 := Keeps.below hb6 _ _ z2
                    have B6 := Lib.hid hb6
                    clear hb6
                    go_wp2_with fail
                    refine (HNB1.out _).mono ?_
                    rintro e w7 ⟨rfl, hb7⟩
                    have hb57 := B6.out.trans (hb7.mono B6.out.size)
                    obtain ⟨a1, a2, a3⟩ := HCE.out _ hb57
                    have HK7 := Lib.hid (And.intro (own_below HO5.out hb57) (And.intro (own_below HO6.out hb57) (HB5.out.trans (hb57.mono HB5.out.size))))
                    clear hb7 z0 z1 z2 hb57
                    go_wp2_with fail
                    go_quiet (fail)
                    go_wp2_with fail
                    all_goals
                      go_roundw
                      case rel => exact ⟨d + 1, T'.set v (tb + r), by omega, by go_num, HY.out.1, HY.out.2.1, HY.out.2.2, own_set (own_drewN HK7.out.1 _) _, own_other (own_drewN HK7.out.2.1 _) _ _ (by intro e; injection e with e; exact h56 e), (below_drewN HK7.out.2.2 _).setCell (p := ⟨g5, v, none⟩) hg5' _⟩
                      case measure => simp [intOf] <;> omega
                  · by_cases hq1 : tb + r < q
                    · skip
                      have HY := Lib.hid (HYES.out (.inr hq1))
                      go_wp2_with fail
                      refine (HMT1.out _ HW5.out).mono ?_
                      rintro e w6 ⟨rfl, hb6⟩
                      replace z0 := Keeps.below hb6 _ _ z0
                      replace z1 := Keeps.below hb6 _ _ z1
                      replace z2 := Keeps.below hb6 _ _ z2
                      have B6 := Lib.hid hb6
                      clear hb6
                      go_wp2_with fail
                      refine (HNB1.out _).mono ?_
                      rintro e w7 ⟨rfl, hb7⟩
                      have hb57 := B6.out.trans (hb7.mono B6.out.size)
                      obtain ⟨a1, a2, a3⟩ := HCE.out _ hb57
                      have HK7 := Lib.hid (And.intro (own_below HO5.out hb57) (And.intro (own_below HO6.out hb57) (HB5.out.trans (hb57.mono HB5.out.size))))
                      clear hb7 z0 z1 z2 hb57
                      go_wp2_with fail
                      go_quiet (fail)
                      go_wp2_with fail
                      all_goals
                        go_roundw
                        case rel => exact ⟨d + 1, T'.set v (tb + r), by omega, by go_num, HY.out.1, HY.out.2.1, HY.out.2.2, own_set (own_drewN HK7.out.1 _) _, own_other (own_drewN HK7.out.2.1 _) _ _ (by intro e; injection e with e; exact h56 e), (below_drewN HK7.out.2.2 _).setCell (p := ⟨g5, v, none⟩) hg5' _⟩
                        case measure => simp [intOf] <;> omega
                    · skip
                      have HN1 := Lib.hid (HNO.out (by omega))
                      go_wp2_with fail
                      refine (HMT1.out _ HW5.out).mono ?_
                      rintro e w6 ⟨rfl, hb6⟩
                      replace z0 := Keeps.below hb6 _ _ z0
                      replace z1 := Keeps.below hb6 _ _ z1
                      replace z2 := Keeps.below hb6 _ _ z2
                      have B6 := Lib.hid hb6
                      clear hb6
                      go_wp2_with fail
                      refine (HNB1.out _).mono ?_
                      rintro e w7 ⟨rfl, hb7⟩
                      have hb57 := B6.out.trans (hb7.mono B6.out.size)
                      obtain ⟨a1, a2, a3⟩ := HCE.out _ hb57
                      have HK7 := Lib.hid (And.intro (own_below HO5.out hb57) (And.intro (own_below HO6.out hb57) (HB5.out.trans (hb57.mono HB5.out.size))))
                      clear hb7 z0 z1 z2 hb57
                      go_wp2_with fail
                      go_quiet (fail)
                      go_wp2_with fail
                      all_goals
                        go_roundw
                        case rel => exact ⟨d + 1, T', by omega, by go_num, HN1.out, HCAP.out, HTU.out, own_drewN HK7.out.1 _, own_drewN HK7.out.2.1 _, below_drewN HK7.out.2.2 _⟩
                        case measure => simp [intOf] <;> omega
              · obtain rfl : d = 8 := by omega
                have HK := Lib.hid (And.intro ho5 (And.intro ho6 hb))
                have hT' : T' = rowF false W H xs T u := hF
                have HTT := Lib.hid hT'
                have HCAP := Lib.hid hcap
                clear hF ho5 ho6 hb hT' hcap htu
                go_wp2_with fail
                go_roundg (leftB (dn.set u true))
                case measure => have := HLS.out; omega
                case rel => exact ⟨T', dn.set u true, rfl, by simp [HDL.out], HCAP.out, by rw [HTT.out]; exact HGO.out, HK.out.1, HK.out.2.1, HK.out.2.2⟩
end Go.Proofs.Ytpaamhkgokkgpaa

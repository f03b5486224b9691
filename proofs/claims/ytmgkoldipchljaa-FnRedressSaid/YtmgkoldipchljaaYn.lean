/- Walks: drawn series. -/
import Derived.Test.YtmgkoldipchljaaZmf
import Derived.Test.YtmgkoldipchljaaZmk
import Derived.Test.YtmgkoldipchljaaZmg
namespace Go.Proofs.Ytmgkoldipchljaa
open Go.RowKit Go.Sort
set_option linter.unusedVariables false
set_option maxRecDepth 100000

def lenOf (v : Value) : Nat := match v with | .slice _ k _ => k | _ => 0
theorem own_cap {w : World} {base e s n c : Nat} {A : Option Addr} {xs : List Value} (h : w.ownsRow base e s (.slice A n c) n xs) : n ≤ c := by
  rcases h.2 with ⟨e1, _⟩ | ⟨g, cap, cur, e1, h1, h2, h3, h4, h5, h6⟩
  · injection e1 with e1 e2 e3
    omega
  · injection e1 with e1 e2 e3
    omega
theorem OwnRaces.take {w : World} {base eo ei n c k : Nat} {A : Option Addr} {vs : List Value} {rows : List (List FinishT)} (h : OwnRaces w base eo ei A n c vs rows) (hk : k ≤ n) : OwnRaces w base eo ei A k c (vs.take k) (rows.take k) :=
  ⟨by simpa using own_take h.outer hk, by rw [List.length_take, h.len]; exact Nat.min_eq_left hk,
   fun i v xs h1 h2 => h.row i v xs (by rw [List.getElem?_take] at h1; split at h1; exact h1; cases h1) (by rw [List.getElem?_take] at h2; split at h2; exact h2; cases h2),
   fun i j u v hij h1 h2 b hb hb' => h.apart i j u v hij (by rw [List.getElem?_take] at h1; split at h1; exact h1; cases h1) (by rw [List.getElem?_take] at h2; split at h2; exact h2; cases h2) b hb hb'⟩
theorem OwnRaces.grown1 {w w' : World} {base eo ei n c : Nat} {A : Option Addr} {vs : List Value} {rows : List (List FinishT)} {r : Option Nat} (h : OwnRaces w base eo ei A n c vs rows) (hg : w.grownBy w' r)
    (h1 : ∀ b, (Value.slice A n c).ownBlock = some b → r ≠ some b) (h2 : ∀ v ∈ vs, ∀ b, v.ownBlock = some b → r ≠ some b) : OwnRaces w' base eo ei A n c vs rows := by
  have key : ∀ (u : Value) (e sz m : Nat) (zs : List Value), w.ownsRow base e sz u m zs → (∀ b, u.ownBlock = some b → r ≠ some b) → w'.ownsRow base e sz u m zs := by
    intro u e sz m zs hu hr
    refine hu.kept hg ?_
    rcases hb : u.ownBlock with _ | b
    · exact .inl rfl
    · exact .inr (fun he => hr b hb he.symm)
  exact ⟨key _ _ _ _ _ h.outer h1, h.len, fun i v xs e1 e2 => by
    obtain ⟨A', c', e, ho⟩ := h.row i v xs e1 e2
    exact ⟨A', c', e, key _ _ _ _ _ ho (h2 v (List.mem_of_getElem? e1))⟩, h.apart⟩
theorem OwnRaces.row_ty1 {w : World} {base eo ei n c : Nat} {A : Option Addr} {vs : List Value} {rows : List (List FinishT)} (h : OwnRaces w base eo ei A n c vs rows) {v : Value} (hv : v ∈ vs) : ∃ m zs, w.ownsRow base ei 3 v m zs := by
  obtain ⟨k, hk⟩ := List.mem_iff_getElem?.1 hv
  have hkn : k < n := by have := (List.getElem?_eq_some_iff.1 hk).1; rw [h.vlen] at this; exact this
  obtain ⟨u, A2, c2, xs, h1, h2, _, e, ho⟩ := h.get hkn
  obtain rfl : v = u := by rw [hk] at h1; injection h1
  exact ⟨_, _, by rw [e]; exact ho⟩
/-- A series is drawn. -/
def RetSD (w0 w : World) (A : Option Addr) (n cap : Nat) (code : List Int) (g : Nat) (r : SerT × St) (e : Ending) (w' : World) : Prop :=
  ∃ A' m c vs, e = .returned (.agg #[.int .i64 r.1.1, .int .i64 r.1.2.1, .slice A' m c]) ∧ OwnRaces w' w.heap.size 93 95 A' m c vs r.1.2.2 ∧ Src w0 w' A n cap code g r.2 ∧ Chg g (g + 1) w w'
theorem own_box_ne1 {w : World} {base e s n b : Nat} {v : Value} {xs : List Value} {vs : Array Value} {t : TypeId} (h : w.ownsRow base e s v n xs) (hb : Box w b vs t) (hne : e ≠ t) : v.ownBlock ≠ some b := by
  intro hv
  rcases h.2 with ⟨rfl, _⟩ | ⟨g1, cap, cur, rfl, _, hh, _⟩
  · simp [Value.ownBlock] at hv
  · simp [Value.ownBlock] at hv
    subst hv
    unfold Box at hb
    rw [hb] at hh
    injection hh with hh
    injection hh with _ hh _
    exact hne hh.symm
/-- What stands while a series is drawn: b0 the result's box, ob the box of boats and scheme. -/
structure SS (w0 w W : World) (A : Option Addr) (n cap : Nat) (code : List Int) (g : Nat) (ob : Nat) (b sc : Int) (q : Value) (A' : Option Addr) (m c : Nat) (vs : List Value) (s : St) (rows : List (List FinishT)) : Prop where
  d : DS w0 w W A n cap code g s
  bx : Box W w.heap.size #[.int .i64 0, .int .i64 0, .slice none 0 0] 89
  ox : Box W ob #[.int .i64 b, .int .i64 sc, q] 89
  ol : w.heap.size < ob
  ow : OwnRaces W (w.heap.size + 1) 93 95 A' m c vs rows
section
variable {w0 w W W' : World} {A A' : Option Addr} {n cap g m c ob : Nat} {code : List Int} {s s' : St} {rows : List (List FinishT)} {b sc : Int} {q : Value} {vs : List Value}
theorem races_ne_chg {w w' : World} {base n c g : Nat} {A : Option Addr} {vs : List Value} {rows : List (List FinishT)} (h : OwnRaces w base 93 95 A n c vs rows) (k : Chg g (g + 1) w w') (hb : g < base) : OwnRaces w' base 93 95 A n c vs rows :=
  h.chg k h.in_ (.inr (by omega))
theorem SS.turn (h : SS w0 w W A n cap code g ob b sc q A' m c vs s rows) (hs : Src w0 W' A n cap code g s') (hc : Chg g (g + 1) W W') : SS w0 w W' A n cap code g ob b sc q A' m c vs s' rows :=
  ⟨h.d.turn hs hc, h.bx.chg hc (.inr h.d.gl), h.ox.chg hc (.inr (by have := h.d.gl; have := h.ol; omega)), h.ol, races_ne_chg h.ow hc (by have := h.d.gl; omega)⟩
theorem SS.below (h : SS w0 w W A n cap code g ob b sc q A' m c vs s rows) (k : Below W.heap.size W W') : SS w0 w W' A n cap code g ob b sc q A' m c vs s rows := ⟨h.d.below k, h.bx.below k, h.ox.below k, h.ol, h.ow.below k⟩
/-- A new race is appended. -/
theorem SS.app {A1 B : Option Addr} {c1 d : Nat} {ys : List FinishT} {base2 : Nat} {w1 : World} (h : SS w0 w W A n cap code g ob b sc q A' m c vs s rows) (hw : W.heap.size ≤ base2) (hs : Src w0 w1 A n cap code g s') (hc : Chg g (g + 1) W w1)
    (hy : w1.ownsRow base2 95 3 (.slice B ys.length d) ys.length (fins ys)) (o : Obj) (hg : (w1.alloc o).grownBy W' (Value.slice A' m c).ownBlock) (ho : W'.ownsRow (w.heap.size + 1) 93 1 (.slice A1 (m + 1) c1) (m + 1) (vs ++ [.slice B ys.length d])) :
    SS w0 w W' A n cap code g ob b sc q A1 (m + 1) c1 (vs ++ [.slice B ys.length d]) s' (rows ++ [ys]) := by
  have h1 := (h.turn hs hc).below ((Below.refl _ _).alloc (Nat.le_refl _) o)
  have hsz := h.bx.lt
  refine ⟨h1.d.grown h1.ow.outer (by omega) hg, h1.bx.grown hg (own_box_ne1 h1.ow.outer h1.bx (by decide)), h1.ox.grown hg (own_box_ne1 h1.ow.outer h1.ox (by decide)), h.ol, ?_⟩
  refine OwnRaces.append (h.turn hs hc).ow (by decide) (own_base hy (by omega)) (fun u hu k hk e => ?_) o hg ho
  have h2 := (h.ow.in_.2 u hu k e).2
  have h3 := (hy.lt k hk).1
  omega
theorem SS.take {k : Nat} (h : SS w0 w W A n cap code g ob b sc q A' m c vs s rows) (hk : k ≤ m) : SS w0 w W A n cap code g ob b sc q A' k c (vs.take k) s (rows.take k) := ⟨h.d, h.bx, h.ox, h.ol, h.ow.take hk⟩
theorem SS.done (h : SS w0 w W A n cap code g ob b sc q A' m c vs s rows) : RetSD w0 w A n cap code g ((b, sc, rows), s) (.returned (.agg #[.int .i64 b, .int .i64 sc, .slice A' m c])) (putW W w.heap.size 0 [.int .i64 b, .int .i64 sc, .slice A' m c]) := by
  have hxl := h.bx.lt
  have hput := put_chg (g := w.heap.size) [.int .i64 b, .int .i64 sc, .slice A' m c] 0 (Chg.refl w.heap.size (w.heap.size + 1) W) (Nat.le_refl _) (by omega)
  have hd := h.d.puts [.int .i64 b, .int .i64 sc, .slice A' m c] (b := w.heap.size) (Nat.le_refl _) 0
  exact ⟨_, _, _, _, rfl, (h.ow.chg hput h.ow.in_ (.inr (by omega))).base' (by omega), hd.src, hd.ch⟩
end
set_option maxHeartbeats 4000000 in
theorem serX_any (w0 : World) (A : Option Addr) (n cap : Nat) (code : List Int) (hcode : Code0 w0 A n code) (g : Nat) (s : St) (w : World) (h : Src w0 w A n cap code g s) :
    Calls Try.prog 68 #[.pointer (some ⟨g, 0, none⟩)] w (RetSD w0 w A n cap code g (serX code s)) := by
  have hgl := h.lt
  have HNX := Lib.hid (fun s k hk w' h => next_any w0 A n cap code hcode g s k hk w' h)
  have HBT := Lib.hid (fun w' h => boatsD_any w0 A n cap code hcode g s w' h)
  have hbd := boatsD_bd code s
  obtain ⟨nb, sc, k, r, w9, hn, hsc, hk, hr, hw9, ex⟩ := serX_parts code s
  rw [← hn] at hbd HBT
  obtain ⟨N, hN⟩ := int_up nb.1 hbd.1
  have hN16 : N ≤ 16 := by omega
  have HRC := Lib.hid (fun s w' h => raceD_any w0 A n cap code hcode g s N (by omega) w' h)
  have HRC1 := Lib.hid (fun s w' h => raceD_any w0 A n cap code hcode g s (N + 1) (by omega) w' h)
  rw [show ((N + 1 : Nat) : Int) = (N : Int) + 1 from by push_cast; rfl] at HRC1
  have hkb := nextF_bd code sc.2 7 (by omega)
  rw [← hk] at hkb
  have H2 := Lib.hid (HNX.out nb.2 2 (by omega))
  have H3 := Lib.hid (HNX.out sc.2 7 (by omega))
  have H9 := Lib.hid (HNX.out r.2 30 (by omega))
  rw [← hsc] at H2
  rw [← hk] at H3
  rw [← hw9] at H9
  obtain ⟨K, hK⟩ := int_up k.1 hkb.1
  have hrl := racesGo_len code nb.1.toNat k.1.toNat [] k.2
  rw [← hr] at hrl
  have hr' := hr.symm
  rw [hN, hK, Int.toNat_natCast, Int.toNat_natCast] at hr'
  rw [hK, Int.toNat_natCast] at hrl
  rw [hN, Int.toNat_natCast] at ex
  obtain ⟨_, s1⟩ := nb
  obtain ⟨_, s3⟩ := k
  obtain ⟨v2, s2⟩ := sc
  obtain ⟨v9, s9⟩ := w9
  simp only at hN hK
  subst hN
  subst hK
  simp only [List.length_nil, Nat.zero_add] at hrl
  have hrl6 : r.1.length ≤ 6 := by omega
  have hK6 : K ≤ 6 := by omega
  simp only at ex hr' H2 H3 H9
  generalize serX code s = X at *
  have HR := Lib.hid hr'
  have HEX := Lib.hid ex
  have HRL := Lib.hid hrl
  clear hn hsc hk hr hw9 hr' ex hkb hbd hrl
  obtain ⟨wa, hwa, XR, hba, hsa⟩ := one_box w #[.int .i64 0, .int .i64 0, .slice none 0 0] 89
  have HD0 := Lib.hid (DS.below (w := w) ⟨h, Chg.refl _ _ _, hgl⟩ hba)
  have HX0 := Lib.hid XR
  clear h hba XR hsa
  go_enter Try.func68, Try.ntmps68
  go_wp2_with fail
  rw [← hwa]
  clear hwa
  go_wp2_with fail
  refine (HBT.out _ HD0.out.src).mono ?_
  rintro e w1 ⟨rfl, hs, hc⟩
  have HD1 := Lib.hid (HD0.out.turn hs hc)
  have HX1 := Lib.hid (HX0.out.chg hc (.inr (by omega)))
  clear hs hc HBT HD0 HX0
  simp only
  go_wp2_with fail
  refine (H2.out _ HD1.out.src).mono ?_
  rintro e w2 ⟨rfl, hs, hc⟩
  have HD2 := Lib.hid (HD1.out.turn hs hc)
  have HX2 := Lib.hid (HX1.out.chg hc (.inr (by omega)))
  clear hs hc H2 HD1 HX1
  simp only
  have hz2 := HX2.out.lt
  obtain ⟨wx, hwx, hbx, hsx⟩ : ∃ wx, wx = w2.alloc (.cells #[] 93) ∧ Below w2.heap.size w2 wx ∧ wx.heap.size = w2.heap.size + 1 := ⟨_, rfl, (Below.refl _ _).alloc (Nat.le_refl _) _, by simp⟩
  obtain ⟨wy, hwy, XO, hby, hsy⟩ := one_box wx #[.int .i64 (N : Int), .int .i64 v2, .slice (some ⟨w2.heap.size, 0, none⟩) 0 0] 89
  have hoe := OwnRaces.empty wy (w.heap.size + 1) 93 95 (by omega)
  have hbz : Below wy.heap.size wy (wy.alloc (.cells #[] 93)) := (Below.refl _ _).alloc (Nat.le_refl _) _
  have hzz : ((wy.alloc (.cells #[] 93))).heap.size = wy.heap.size + 1 := by simp
  have HSS := Lib.hid (show SS w0 w (wy.alloc (.cells #[] 93)) A n cap code g wx.heap.size (N : Int) v2 (.slice (some ⟨w2.heap.size, 0, none⟩) 0 0) (some ⟨wy.heap.size, 0, none⟩) 0 0 [] s2 [] from ⟨((HD2.out.below hbx).below hby).below hbz, ((HX2.out.below hbx).below hby).below hbz, XO.below hbz, by omega, hoe⟩)
  obtain ⟨wz, hwz⟩ : ∃ wz : World, wz = wy.alloc (.cells #[] 93) := ⟨_, rfl⟩
  rw [← hwz] at HSS
  have hsx' := hsx
  obtain ⟨ob, hob⟩ : ∃ ob, ob = wx.heap.size := ⟨_, rfl⟩
  obtain ⟨gy, hgy⟩ : ∃ gy, gy = wy.heap.size := ⟨_, rfl⟩
  rw [← hob, ← hgy] at HSS
  have e1 : w2.heap.size + 1 = ob := by omega
  have e2 : w2.heap.size + 1 + 1 = gy := by omega
  have HW1 := Lib.hid hwx; have HW2 := Lib.hid hwy; have HW3 := Lib.hid hwz; have HE1 := Lib.hid e1; have HE2 := Lib.hid e2
  clear hoe hbz hzz XO hby hbx HD2 HX2 hwx hwy hwz e1 e2 hob hgy hsx hsx' hsy
  go_wp2_with fail
  rw [← HW1.out, ← HW2.out, ← HW3.out]
  (try rw [HE2.out])
  (try rw [HE1.out])
  clear HW1 HW2 HW3
  refine (H3.out _ HSS.out.d.src).mono ?_
  rintro e w3 ⟨rfl, hs, hc⟩
  have HS3 := Lib.hid (HSS.out.turn hs hc)
  clear hs hc H3 HSS HE1 HE2
  simp only
  go_wp2_with fail
  go_loopw [5, 6] (fun v u wr => ∃ (j m' c' : Nat) (A' : Option Addr) (vs : List Value) (out : List (List FinishT)) (s' : St), j ≤ K ∧ m' + j = K ∧ u = .int .i64 j ∧ v = .slice A' m' c' ∧ Hid (racesGo code N j out s' = r) ∧ Hid (SS w0 w wr A n cap code g ob (N : Int) v2 (.slice (some ⟨w2.heap.size, 0, none⟩) 0 0) A' m' c' vs s' out)) (fun _ u _ => (intOf u).toNat)
  case atStart => exact ⟨K, 0, _, _, _, [], s3, Nat.le_refl _, by omega, rfl, rfl, HR, HS3⟩
  case round =>
    clear HR HS3
    obtain ⟨j, m', c', A', vs, out, s', hj, hmj, rfl, rfl, HR, HS⟩ := hrel
    obtain ⟨wo, hwo⟩ : ∃ wo : World, wo = wr := ⟨_, rfl⟩
    subst hwo
    rcases j with _ | j
    rotate_left
    · have hki : decide (((j + 1 : Nat) : Int) > 0) = true := by first | (simp; done) | (simp; omega)
      have hr := HR.out
      unfold racesGo at hr
      have H5 := Lib.hid (HRC.out s')
      generalize raceD code N s' = r5 at *
      obtain ⟨ys, s5⟩ := r5
      simp only at hr
      have HR2 := Lib.hid hr
      clear hr HR
      go_wp2_with fail
      refine (H5.out _ HS.out.d.src).mono ?_
      rintro e w5 ⟨B, m5, d5, rfl, ho5, hs5, hc5⟩
      have hl5 := own_len_flat finC_len (by decide) ho5
      simp only at hl5 ho5 hs5
      subst hl5
      have hsc := HS.out.bx.lt
      have hcz := hc5.size
      go_wp2_with (at_builtin; refine app_race _ rfl _ _ rfl rfl ((HS.out.turn hs5 hc5).ow.outer.alloc _) rfl (cell_new1 _ _ _) (by omega) ?cBa ?_; rotate_left; intro A9 c9 w9 hown9 hgr9)
      · have HS9 := Lib.hid (HS.out.app (Nat.le_refl _) hs5 hc5 ho5 _ hgr9 hown9)
        clear hown9 hgr9
        go_roundw
        case rel => exact ⟨j, m' + 1, _, _, _, _, s5, by omega, by omega, by go_num, rfl, HR2, HS9⟩
        case measure => simp [intOf] <;> omega
      · simp; omega
    · have hki : decide (((0 : Nat) : Int) > 0) = false := by simp
      have hr := HR.out
      unfold racesGo at hr
      subst hr
      clear HR
      simp only at HEX H9 HRL hrl6
      obtain rfl : m' = K := by omega
      have hm6 : m' ≤ 6 := by omega
      have HSx := HS
      go_wp2_with fail
      refine (H9.out _ HS.out.d.src).mono ?_
      rintro e w6 ⟨rfl, hs, hc⟩
      have HS6 := Lib.hid (HS.out.turn hs hc)
      clear hs hc HS HSx H9
      simp only
      by_cases t0 : v9 = 0
      · subst t0
        have ex := HEX.out
        clear HEX
        rw [if_pos rfl] at ex
        subst ex
        have F1 := HS6.out.ox.f3
        have F0 := HS6.out.bx.f3
        have hol := HS6.out.ol
        have hne : (w.heap.size = ob) = False := by simp; omega
        have hne2 : (ob = w.heap.size) = False := by simp; omega
        have HS7 := Lib.hid (show SS w0 w (w6.setCell ⟨ob, 1, none⟩ (.int .i64 2)) A n cap code g ob (N : Int) 2 (.slice (some ⟨w2.heap.size, 0, none⟩) 0 0) A' m' c' vs s9 out from ⟨HS6.out.d.put (by omega) _ _, HS6.out.bx.other (by omega) _, by have := HS6.out.ox.set 1 (.int .i64 2); simpa using this, hol, HS6.out.ow.grown1 (grown_set (World.grownBy.refl w6 (some ob)) 1 _) (fun g hg e => own_box_ne1 HS6.out.ow.outer HS6.out.ox (by decide) (by rw [hg, e])) (fun u hu g hg e => by
          obtain ⟨m9, zs9, ho9⟩ := HS6.out.ow.row_ty1 hu
          exact own_box_ne1 ho9 HS6.out.ox (by decide) (by rw [hg, e]))⟩)
        go_wp2_with fail
        refine bodyPost_ret (v := .agg #[.int .i64 (N : Int), .int .i64 2, .slice A' m' c']) (by simp [results, Try.results68, go_sem, F0]) rfl ?_
        exact HS7.out.done
      have t0b : (v9 == 0) = false := by simp [t0]
      by_cases t1 : v9 = 1
      · subst t1
        have ex := HEX.out
        clear HEX
        rw [if_neg (by decide), if_pos rfl] at ex
        have H5 := Lib.hid (HRC1.out s9)
        generalize raceD code (N + 1) s9 = r5 at *
        obtain ⟨ys, s5⟩ := r5
        simp only at ex
        subst ex
        go_wp2_with fail
        refine (H5.out _ HS6.out.d.src).mono ?_
        rintro e w5 ⟨B, m5, d5, rfl, ho5, hs5, hc5⟩
        have hl5 := own_len_flat finC_len (by decide) ho5
        simp only at hl5 ho5 hs5
        subst hl5
        have hsc := HS6.out.bx.lt
        have hcz := hc5.size
        go_wp2_with (at_builtin; refine app_race _ rfl _ _ rfl rfl ((HS6.out.turn hs5 hc5).ow.outer.alloc _) rfl (cell_new1 _ _ _) (by omega) ?cBb ?_; rotate_left; intro A9 c9 w9 hown9 hgr9; have HS9 := Lib.hid (HS6.out.app (Nat.le_refl _) hs5 hc5 ho5 _ hgr9 hown9); have F1 := HS9.out.ox.f3; have F0 := HS9.out.bx.f3; clear hown9 hgr9)
        · skip
          (try go_wp2_with fail)
          refine bodyPost_ret (v := .agg #[.int .i64 (N : Int), .int .i64 v2, .slice A9 (m' + 1) c9]) (by simp [results, Try.results68, go_sem, F0]) rfl ?_
          exact HS9.out.done
        · simp; omega
      have t1b : (v9 == 1) = false := by simp [t1]
      by_cases t2 : v9 = 2
      rotate_left
      · have t2b : (v9 == 2) = false := by simp [t2]
        have ex := HEX.out
        clear HEX
        rw [if_neg t0, if_neg t1, if_neg t2] at ex
        subst ex
        have F1 := HS6.out.ox.f3
        have F0 := HS6.out.bx.f3
        go_wp2_with fail
        refine bodyPost_ret (v := .agg #[.int .i64 (N : Int), .int .i64 v2, .slice A' m' c']) (by simp [results, Try.results68, go_sem, F0]) rfl ?_
        exact HS6.out.done
      subst t2
      have ex := HEX.out
      clear HEX
      rw [if_neg (by decide), if_neg (by decide), if_pos rfl] at ex
      have hlo : out.length = m' := by have := HRL.out; simpa using this
      rw [hlo] at ex
      obtain ⟨R, hR⟩ : ∃ R, racesGo code N (13 - m') out s9 = R := ⟨_, rfl⟩
      rw [hR] at ex
      have HR := Lib.hid hR
      have HEX := Lib.hid ex
      clear ex hR hlo
      go_wp2_with fail
      go_loopw [5] (fun v wr => ∃ (m2 c2 : Nat) (A2 : Option Addr) (vs : List Value) (out : List (List FinishT)) (s' : St), m2 ≤ 13 ∧ v = .slice A2 m2 c2 ∧ Hid (racesGo code N (13 - m2) out s' = R) ∧ Hid (SS w0 w wr A n cap code g ob (N : Int) v2 (.slice (some ⟨w2.heap.size, 0, none⟩) 0 0) A2 m2 c2 vs s' out)) (fun v _ => 13 - lenOf v)
      case atStart => exact ⟨m', _, _, _, out, s9, by omega, rfl, HR, HS6⟩
      case round =>
        clear HR HS6
        obtain ⟨m2, c2, A2, vs, out, s', hm2, rfl, HR, HS⟩ := hrel
        obtain ⟨wp, hwp⟩ : ∃ wp : World, wp = wr := ⟨_, rfl⟩
        subst hwp
        by_cases hlt : m2 < 13
        · have hr := HR.out
          rw [show 13 - m2 = (13 - (m2 + 1)) + 1 from by omega] at hr
          unfold racesGo at hr
          have H5 := Lib.hid (HRC.out s')
          generalize raceD code N s' = r5 at *
          obtain ⟨ys, s5⟩ := r5
          simp only at hr
          have HR2 := Lib.hid hr
          clear hr HR
          have hli : decide ((m2 : Int) < 13) = true := by simp; omega
          go_wp2_with fail
          refine (H5.out _ HS.out.d.src).mono ?_
          rintro e w5 ⟨B, m5, d5, rfl, ho5, hs5, hc5⟩
          have hl5 := own_len_flat finC_len (by decide) ho5
          simp only at hl5 ho5 hs5
          subst hl5
          have hsc := HS.out.bx.lt
          have hcz := hc5.size
          go_wp2_with (at_builtin; refine app_race _ rfl _ _ rfl rfl ((HS.out.turn hs5 hc5).ow.outer.alloc _) rfl (cell_new1 _ _ _) (by omega) ?cBc ?_; rotate_left; intro A9 c9 w9 hown9 hgr9)
          · have HS9 := Lib.hid (HS.out.app (Nat.le_refl _) hs5 hc5 ho5 _ hgr9 hown9)
            clear hown9 hgr9
            go_roundw
            case rel => exact ⟨m2 + 1, _, _, _, _, s5, by omega, rfl, HR2, HS9⟩
            case measure => simp [lenOf] <;> omega
          · simp; omega
        · obtain rfl : m2 = 13 := by omega
          have hr := HR.out
          rw [show racesGo code N (13 - 13) out s' = (out, s') from rfl] at hr
          subst hr
          clear HR
          have ex := HEX.out
          clear HEX
          simp only at ex
          have H7 := Lib.hid (HNX.out s' 2 (by omega))
          have q7 := nextF_bd code s' 2 (by omega)
          generalize nextF code s' 2 = r7 at *
          obtain ⟨v7, s7⟩ := r7
          simp only at ex q7
          have hcap := own_cap HS.out.ow.outer
          have hli : decide (((13 : Nat) : Int) < 13) = false := by simp
          have h01 : v7 = 0 ∨ v7 = 1 := by omega
          go_wp2_with fail
          refine (H7.out _ HS.out.d.src).mono ?_
          rintro e w7 ⟨rfl, hs, hc⟩
          have HS7 := Lib.hid (HS.out.turn hs hc)
          clear hs hc HS H7
          simp only
          have F1 := HS7.out.ox.f3
          have F0 := HS7.out.bx.f3
          obtain ⟨g2, _, rfl, _, _, _, _, _⟩ := own_at HS7.out.ow.outer (k := 0) (by omega)
          rcases h01 with rfl | rfl
          · subst ex
            have HT := Lib.hid (HS7.out.take (k := 12) (by omega))
            have hc12 : (12 : Nat) ≤ c2 := by omega
            go_wp2_with fail
            refine bodyPost_ret (v := .agg #[.int .i64 (N : Int), .int .i64 v2, .slice (some ⟨g2, 0, none⟩) 12 c2]) (by simp [results, Try.results68, go_sem, F0]) rfl ?_
            exact HT.out.done
          · subst ex
            have HT := Lib.hid (HS7.out.take (k := 13) (by omega))
            go_wp2_with fail
            refine bodyPost_ret (v := .agg #[.int .i64 (N : Int), .int .i64 v2, .slice (some ⟨g2, 0, none⟩) 13 c2]) (by simp [results, Try.results68, go_sem, F0]) rfl ?_
            exact HT.out.done
end Go.Proofs.Ytmgkoldipchljaa

/- Walks: the arguments of an average are drawn. -/
import Derived.Test.YtmgkoldipchljaaYt
namespace Go.Proofs.Ytmgkoldipchljaa
open Go.RowKit Go.Sort
set_option linter.unusedVariables false
set_option maxRecDepth 100000

theorem tabV_bd (v : SerT) : 0 ≤ (tabV v).boats ∧ (tabV v).boats ≤ 16 := by
  unfold tabV
  split
  · rename_i h
    have := seriesB_ok h
    exact ⟨by show 0 ≤ v.1; omega, by show v.1 ≤ 16; omega⟩
  · exact ⟨by decide, by decide⟩
theorem spoilT_boats (code : List Int) (t : Tb) (i k : Nat) (w : Int × St) : (spoilT code t i k w).1.boats = t.boats := by
  unfold spoilT
  repeat' split
  all_goals rfl
theorem tabX_bd (code : List Int) (s : St) : 0 ≤ (tabX code s).1.boats ∧ (tabX code s).1.boats ≤ 16 := by
  obtain ⟨v, r, t, _, _, ht, ex⟩ := tabX_parts code s
  rw [ex]
  have := tabV_bd (v.1.1, v.1.2.1, r.1)
  rw [← ht] at this
  split
  · exact this
  · rw [spoilT_boats]; exact this
theorem tabV_len (v : SerT) : (tabV v).pts.length ≤ 12 := by
  unfold tabV
  split
  · rename_i h
    unfold seriesB at h
    simp only [Bool.and_eq_true, decide_eq_true_eq] at h
    have : (tabS v.1 v.2.1 v.2.2).pts.length = v.2.2.length := by simp [tabS]
    omega
  · decide
theorem spoilT_len (code : List Int) (t : Tb) (i k : Nat) (w : Int × St) : (spoilT code t i k w).1.pts.length = t.pts.length := by
  unfold spoilT
  repeat' split
  all_goals first | rfl | exact setRC_len _ _ _ _ | exact List.length_set
theorem tabX_len (code : List Int) (s : St) : (tabX code s).1.pts.length ≤ 12 := by
  obtain ⟨v, r, t, _, _, ht, ex⟩ := tabX_parts code s
  rw [ex]
  have := tabV_len (v.1.1, v.1.2.1, r.1)
  rw [← ht] at this
  split
  · exact this
  · rw [spoilT_len]; exact this
theorem redTX_boats (code : List Int) : ∀ (m : Nat) (t : Tb) (s : St), (redTX code m t s).1.boats = t.boats := by
  intro m
  induction m with
  | zero => intro t s; rfl
  | succ m ih =>
    intro t s
    rw [redTX_succ]
    split
    · rw [ih]
    · rfl
theorem tab29_bd (code : List Int) (s : St) : 0 ≤ (tab29 code s).1.boats ∧ (tab29 code s).1.boats ≤ 16 := by
  unfold tab29
  rw [redTX_boats]
  exact tabX_bd code s
/-- What is drawn for an average: the table, a race, a boat, a kind. -/
def avgD (code : List Int) : Tb × Int × Int × Int :=
  let t := tab29 code (fromF code)
  let a := nextF code t.2 ((t.1.pts.length : Int) + 1)
  let b := nextF code a.2 24
  let c := boat27 code t.1.boats b.2
  let d := nextF code c.2 2
  let e := nextF code d.2 24
  (t.1, a.1 - b.1 / 23, c.1, 1 + d.1 + 2 * (e.1 / 23))
theorem avgD_parts (code : List Int) : ∃ t a b c d e, t = tab29 code (fromF code) ∧ a = nextF code t.2 ((t.1.pts.length : Int) + 1) ∧ b = nextF code a.2 24 ∧ c = boat27 code t.1.boats b.2 ∧ d = nextF code c.2 2 ∧ e = nextF code d.2 24 ∧ avgD code = (t.1, a.1 - b.1 / 23, c.1, 1 + d.1 + 2 * (e.1 / 23)) := ⟨_, _, _, _, _, _, rfl, rfl, rfl, rfl, rfl, rfl, rfl⟩
theorem redTX_len (code : List Int) : ∀ (m : Nat) (t : Tb) (s : St), (redTX code m t s).1.pts.length = t.pts.length := by
  intro m
  induction m with
  | zero => intro t s; rfl
  | succ m ih =>
    intro t s
    rw [redTX_succ]
    split
    · rw [ih]; exact setRC_len _ _ _ _
    · rfl
theorem tab29_len (code : List Int) (s : St) : (tab29 code s).1.pts.length ≤ 12 := by
  unfold tab29
  rw [redTX_len]
  exact tabX_len code s
/-- The arguments of an average are drawn. -/
def RetAvD (w : World) (r : Tb × Int × Int × Int) (e : Ending) (w' : World) : Prop :=
  ∃ P np cp C nc dc, e = .returned (.tuple #[.agg #[.int .i64 r.1.boats, .slice P np cp, .slice C nc dc], .int .i64 r.2.1, .int .i64 r.2.2.1, .int .i64 r.2.2.2]) ∧ KRd w' w.heap.size P np C nc r.1 ∧ Below w.heap.size w w'
/-- What stands while an average's arguments are drawn. -/
structure AvS (w0 w w1 W : World) (A : Option Addr) (n cap : Nat) (code : List Int) (g tb : Nat) (P : Option Addr) (np cp : Nat) (C : Option Addr) (nc dc : Nat) (s : St) (t : Tb) : Prop where
  d : DS w0 w1 W A n cap code g s
  kr : KRd W w1.heap.size P np C nc t
  tx : Box W tb #[.int .i64 t.boats, .slice P np cp, .slice C nc dc] 26
  rx : Box W w.heap.size #[.int .i64 0, .slice none 0 0, .slice none 0 0] 26
  tl : w1.heap.size ≤ tb
  wl : w.heap.size < g
  b1 : Below w.heap.size w w1
theorem AvS.turn {w0 w w1 W W' : World} {A P C : Option Addr} {n cap g tb np cp nc dc : Nat} {code : List Int} {s s' : St} {t : Tb} (h : AvS w0 w w1 W A n cap code g tb P np cp C nc dc s t) (hs : Src w0 W' A n cap code g s') (hc : Chg g (g + 1) W W') : AvS w0 w w1 W' A n cap code g tb P np cp C nc dc s' t := by
  have hgl := h.d.gl
  exact ⟨h.d.turn hs hc, h.kr.turn (chg_wide hc (Nat.zero_le _) (by omega)), h.tx.chg hc (.inr (by have := h.tl; omega)), h.rx.chg hc (.inl h.wl), h.tl, h.wl, h.b1⟩
theorem AvS.below {w0 w w1 W W' : World} {A P C : Option Addr} {n cap g tb np cp nc dc : Nat} {code : List Int} {s : St} {t : Tb} (h : AvS w0 w w1 W A n cap code g tb P np cp C nc dc s t) (k : Below W.heap.size W W') : AvS w0 w w1 W' A n cap code g tb P np cp C nc dc s t :=
  ⟨h.d.below k, h.kr.below k, h.tx.below k, h.rx.below k, h.tl, h.wl, h.b1⟩
theorem AvS.done {w0 w w1 W : World} {A P C : Option Addr} {n cap g tb np cp nc dc : Nat} {code : List Int} {s : St} {t : Tb} {x y z : Int} (h : AvS w0 w w1 W A n cap code g tb P np cp C nc dc s t) : RetAvD w (t, x, y, z) (.returned (.tuple #[.agg #[.int .i64 t.boats, .slice P np cp, .slice C nc dc], .int .i64 x, .int .i64 y, .int .i64 z])) (putW W w.heap.size 0 [.int .i64 t.boats, .slice P np cp, .slice C nc dc]) := by
  have hgl := h.d.gl
  have hwl := h.wl
  have hput := put_chg (g := w.heap.size) [.int .i64 t.boats, .slice P np cp, .slice C nc dc] 0 (Chg.refl w.heap.size (w.heap.size + 1) W) (Nat.le_refl _) (by omega)
  refine ⟨_, _, _, _, _, _, rfl, (h.kr.turn (chg_wide hput (Nat.zero_le _) (by omega))).less (by omega), below_chg (below_chg h.b1 h.d.ch (by omega) (by omega)) hput (Nat.le_refl _) (by have := h.d.ch.size; omega)⟩
theorem AvS.put {w0 w w1 W : World} {A P C : Option Addr} {n cap g tb np cp nc dc : Nat} {code : List Int} {s : St} {t : Tb} (h : AvS w0 w w1 W A n cap code g tb P np cp C nc dc s t) : Box (putW W w.heap.size 0 [.int .i64 t.boats, .slice P np cp, .slice C nc dc]) tb #[.int .i64 t.boats, .slice P np cp, .slice C nc dc] 26 ∧ Box (putW W w.heap.size 0 [.int .i64 t.boats, .slice P np cp, .slice C nc dc]) w.heap.size #[.int .i64 t.boats, .slice P np cp, .slice C nc dc] 26 := by
  have hgl := h.d.gl
  have hwl := h.wl
  have htl := h.tl
  have hput := put_chg (g := w.heap.size) [.int .i64 t.boats, .slice P np cp, .slice C nc dc] 0 (Chg.refl w.heap.size (w.heap.size + 1) W) (Nat.le_refl _) (by omega)
  exact ⟨h.tx.chg hput (.inr (by omega)), ((h.rx.set 0 _).set 1 _).set 2 _⟩
set_option maxHeartbeats 4000000 in
theorem drawAvg_any (w0 : World) (A : Option Addr) (n cap : Nat) (code : List Int) (hcode : Code0 w0 A n code) (w : World) (hb : Below w0.heap.size w0 w) :
    Calls Try.prog 7 #[.slice A n cap] w (RetAvD w (avgD code)) := by
  have HFR := Lib.hid (fun w' h => from_any w0 A n cap code hcode w' h)
  have HTX := Lib.hid (fun g w' h => tab29_any w0 A n cap code hcode g (fromF code) w' h)
  have HNX := Lib.hid (fun g s k hk w' h => next_any w0 A n cap code hcode g s k hk w' h)
  have HBO := Lib.hid (fun g s b h0 h1 P np cp C nc dc w' h => boat27_any w0 A n cap code hcode g s b h0 h1 P np cp C nc dc w' h)
  have hbb := tab29_bd code (fromF code)
  have hbl := tab29_len code (fromF code)
  obtain ⟨t, a, b, c, d, e, ht, ha, hbq, hc, hd, he, ex⟩ := avgD_parts code
  rw [← ht] at hbb hbl HTX
  have q4 := nextF_bd code a.2 24 (by omega)
  have q6 := nextF_bd code c.2 2 (by omega)
  have q7 := nextF_bd code d.2 24 (by omega)
  rw [← hbq] at q4
  rw [← hd] at q6
  rw [← he] at q7
  have H4 := Lib.hid (fun g => HNX.out g a.2 24 (by omega))
  have H6 := Lib.hid (fun g => HNX.out g c.2 2 (by omega))
  have H7 := Lib.hid (fun g => HNX.out g d.2 24 (by omega))
  have HB27 := Lib.hid (fun g => HBO.out g b.2 t.1.boats hbb.1 hbb.2)
  rw [← hbq] at H4
  rw [← hd] at H6
  rw [← he] at H7
  rw [← hc] at HB27
  have HA := Lib.hid ha
  generalize avgD code = D at *
  obtain ⟨t, s2⟩ := t
  obtain ⟨v3, s3⟩ := a
  obtain ⟨v4, s4⟩ := b
  obtain ⟨v5, s5⟩ := c
  obtain ⟨v6, s6⟩ := d
  obtain ⟨v7, s7⟩ := e
  simp only at ex q4 q6 q7 hbb hbl H4 H6 H7 HB27
  have HEX := Lib.hid ex
  obtain ⟨wa, hwa, XR, hba, hsa⟩ := one_box w #[.int .i64 0, .slice none 0 0, .slice none 0 0] 26
  have HB := Lib.hid (hb.trans (hba.mono hb.size))
  have HX0 := Lib.hid XR
  have HBA := Lib.hid hba
  have hza : w.heap.size < wa.heap.size := by omega
  clear hb XR hba ex ht ha hbq hc hd he HBO hsa
  go_enter Try.func7, Try.ntmps7
  go_wp2_with fail
  rw [← hwa]
  clear hwa
  go_wp2_with fail
  refine (HFR.out _ HB.out).mono ?_
  rintro e w1 ⟨g, rfl, hs1, hge, hb1⟩
  have hgl := hs1.lt
  have HD1 := Lib.hid (show DS w0 w1 w1 A n cap code g (fromF code) from ⟨hs1, Chg.refl _ _ _, hgl⟩)
  have HX1 := Lib.hid (HX0.out.below hb1)
  have HB1 := Lib.hid (HBA.out.trans (hb1.mono HBA.out.size))
  have hz1 := hb1.size
  clear hs1 hb1 HFR HX0 HB HBA
  go_wp2_with fail
  refine (HTX.out _ _ HD1.out.src).mono ?_
  rintro e w2 ⟨P, np, cp, C, nc, dc, rfl, hkr, _, hs, hc⟩
  have HD2 := Lib.hid (HD1.out.turn hs hc)
  simp only at hkr
  have hpl := hkr.rd.pts.len
  have hl12 := hbl
  rw [hpl] at hl12
  obtain ⟨wt, hwt, XT, hbt, hst⟩ := one_box w2 #[.int .i64 t.boats, .slice P np cp, .slice C nc dc] 26
  have hz2 := HD2.out.ch.size
  have HVT := Lib.hid (show AvS w0 w w1 wt A n cap code g w2.heap.size P np cp C nc dc s2 t from ⟨HD2.out.below hbt, hkr.below hbt, XT, (HX1.out.chg hc (.inl (by omega))).below hbt, hz2, by omega, HB1.out⟩)
  obtain ⟨tb, htb⟩ : ∃ tb, tb = w2.heap.size := ⟨_, rfl⟩
  rw [← htb] at HVT
  have htw : w1.heap.size ≤ tb := by omega
  have HTB := Lib.hid htb
  have HWT := Lib.hid hwt
  have HH := Lib.hid hpl
  have haq := HA.out
  rw [hpl] at haq
  have H3 := Lib.hid (HNX.out g s2 ((np : Int) + 1) (by omega))
  have q3 := nextF_bd code s2 ((np : Int) + 1) (by omega)
  rw [← haq] at H3 q3
  simp only at q3
  have HLN := Lib.hid (show IntKind.i64.wrap ((np : Int) + 1) = (np : Int) + 1 from IntWalk.i64_in _ (by omega))
  clear HX1 hkr hs hc hbt XT hwt htb hst hpl haq HA HNX HD2 HB1
  simp only
  have FT := HVT.out.tx.f3
  have FN := HLN.out
  go_wp2_with fail
  rw [← HWT.out]
  (try rw [← HTB.out])
  clear HWT
  go_wp2_with fail
  clear FT FN HLN
  refine (H3.out _ HVT.out.d.src).mono ?_
  rintro e w3 ⟨rfl, hs, hc⟩
  have HV3 := Lib.hid (HVT.out.turn hs hc)
  clear hs hc HVT H3
  simp only
  go_wp2_with fail
  refine (H4.out _ _ HV3.out.d.src).mono ?_
  rintro e w4 ⟨rfl, hs, hc⟩
  have HV4 := Lib.hid (HV3.out.turn hs hc)
  clear hs hc HV3 H4
  simp only
  go_wp2_with fail
  obtain ⟨S, hSE, hSI⟩ : ∃ S : World → Prop, (∀ w9, S w9 → w9.cell? ⟨tb, 0, none⟩ = some (.int .i64 t.boats) ∧ w9.cell? ⟨tb, 1, none⟩ = some (.slice P np cp) ∧ w9.cell? ⟨tb, 2, none⟩ = some (.slice C nc dc)) ∧ (∀ w9, Box w9 tb #[.int .i64 t.boats, .slice P np cp, .slice C nc dc] 26 → S w9) := ⟨fun w9 => Box w9 tb #[.int .i64 t.boats, .slice P np cp, .slice C nc dc] 26, fun _ h => ⟨h.cell rfl, h.cell rfl, h.cell rfl⟩, fun _ h => h⟩
  have HSE := Lib.hid hSE; have HSI := Lib.hid hSI
  have HVD := Lib.hid (HV4.out.below (below_drewN' _ w4 1))
  have hS := HSI.out _ HVD.out.tx
  clear hSE hSI HV4
  refine wp_region_T2 (n := 17) S (fun _ => false) (by kernel_rfl) rfl ?_
  intro ops HOPS
  refine wpAnyT_take 0 (.agg #[.int .i64 t.boats, .slice P np cp, .slice C nc dc]) (by rw [HOPS.out]; rfl) (by rw [HOPS.out]; kernel_rfl) (by exact fun _ _ _ h => h) (by rfl) (fun w1 hS => by obtain ⟨k0, k1, k2⟩ := HSE.out _ hS; go_simp) hS ?_
  go_simp
  refine wpAnyT_take 1 (.int .i64 (v3 - v4 / 23)) (by rw [HOPS.out]; rfl) (by rw [HOPS.out]; kernel_rfl) (by exact fun _ _ _ h => h) (by rfl) (fun w1 hS => by go_simp) hS ?_
  go_simp
  refine wpAnyT_take 2 (.pointer (some ⟨g, 0, none⟩)) (by rw [HOPS.out]; rfl) (by rw [HOPS.out]; kernel_rfl) (by exact fun _ _ _ h => h) (by rfl) (fun w1 hS => by go_simp) hS ?_
  go_simp
  refine wpAnyT_take 3 (.agg #[.int .i64 t.boats, .slice P np cp, .slice C nc dc]) (by rw [HOPS.out]; rfl) (by rw [HOPS.out]; kernel_rfl) (by exact fun _ _ _ h => h) (by rfl) (fun w1 hS => by obtain ⟨k0, k1, k2⟩ := HSE.out _ hS; go_simp) hS ?_
  go_simp
  refine wpAnyT_take 5 (.pointer (some ⟨g, 0, none⟩)) (by rw [HOPS.out]; rfl) (by rw [HOPS.out]; kernel_rfl) (by exact fun _ _ _ h => h) (by rfl) (fun w1 hS => by go_simp) hS ?_
  go_simp
  refine wpAnyT_take 8 (.pointer (some ⟨g, 0, none⟩)) (by rw [HOPS.out]; rfl) (by rw [HOPS.out]; kernel_rfl) (by exact fun _ _ _ h => h) (by rfl) (fun w1 hS => by go_simp) hS ?_
  go_simp
  refine wpAnyT_one 4 (by rw [HOPS.out]; rfl) (by rw [HOPS.out]; kernel_rfl) ?_
  intro K' hK
  have HK := Lib.hid hK
  clear hK
  go_simp
  go_at_call 30
  refine (HB27.out g P np cp C nc dc _ HVD.out.d.src).mono ?_
  rintro e wq1 ⟨rfl, hs1, hc1⟩
  have HV1 := Lib.hid (HVD.out.turn hs1 hc1)
  refine HK.out _ _ (.inr (HSI.out _ HV1.out.tx)) ?_
  clear HK
  go_simp
  refine wpAnyT_one 6 (by rw [HOPS.out]; rfl) (by rw [HOPS.out]; kernel_rfl) ?_
  intro K' hK
  have HK := Lib.hid hK
  clear hK
  go_simp
  go_at_call 29
  refine (H6.out g _ HV1.out.d.src).mono ?_
  rintro e wq2 ⟨rfl, hs2, hc2⟩
  have HV2 := Lib.hid (HV1.out.turn hs2 hc2)
  refine HK.out _ _ (.inr (HSI.out _ HV2.out.tx)) ?_
  clear HK
  go_simp
  refine wpAnyT_take 7 (.int .i64 (1 + v6)) (by rw [HOPS.out]; rfl) (by rw [HOPS.out]; kernel_rfl) (by exact fun _ _ _ h => h) (by rfl) (fun w1 hS => by go_simp; first | done | exact IntWalk.i64_in _ (by omega) | (rw [Int.tdiv_eq_ediv_of_nonneg (by omega)]; exact IntWalk.i64_in _ (by omega))) (HSI.out _ HV2.out.tx) ?_
  go_simp
  refine wpAnyT_one 9 (by rw [HOPS.out]; rfl) (by rw [HOPS.out]; kernel_rfl) ?_
  intro K' hK
  have HK := Lib.hid hK
  clear hK
  go_simp
  go_at_call 29
  refine (H7.out g _ HV2.out.d.src).mono ?_
  rintro e wq3 ⟨rfl, hs3, hc3⟩
  have HV3 := Lib.hid (HV2.out.turn hs3 hc3)
  refine HK.out _ _ (.inr (HSI.out _ HV3.out.tx)) ?_
  clear HK
  go_simp
  refine wpAnyT_take 10 (.int .i64 (v7 / 23)) (by rw [HOPS.out]; rfl) (by rw [HOPS.out]; kernel_rfl) (by exact fun _ _ _ h => h) (by rfl) (fun w1 hS => by go_simp; first | done | exact IntWalk.i64_in _ (by omega) | (rw [Int.tdiv_eq_ediv_of_nonneg (by omega)]; exact IntWalk.i64_in _ (by omega))) (HSI.out _ HV3.out.tx) ?_
  go_simp
  refine wpAnyT_take 11 (.int .i64 (2 * (v7 / 23))) (by rw [HOPS.out]; rfl) (by rw [HOPS.out]; kernel_rfl) (by exact fun _ _ _ h => h) (by rfl) (fun w1 hS => by go_simp; first | done | exact IntWalk.i64_in _ (by omega) | (rw [Int.tdiv_eq_ediv_of_nonneg (by omega)]; exact IntWalk.i64_in _ (by omega))) (HSI.out _ HV3.out.tx) ?_
  go_simp
  refine wpAnyT_take 12 (.int .i64 (1 + v6 + 2 * (v7 / 23))) (by rw [HOPS.out]; rfl) (by rw [HOPS.out]; kernel_rfl) (by exact fun _ _ _ h => h) (by rfl) (fun w1 hS => by go_simp; first | done | exact IntWalk.i64_in _ (by omega) | (rw [Int.tdiv_eq_ediv_of_nonneg (by omega)]; exact IntWalk.i64_in _ (by omega))) (HSI.out _ HV3.out.tx) ?_
  go_simp
  have FZ := HV3.out.rx.f3
  have HSS := Lib.hid (HSI.out _ HV3.out.put.1)
  refine wpAnyT_one 13 (by rw [HOPS.out]; rfl) (by rw [HOPS.out]; kernel_rfl) ?_
  intro K' hK
  have HK := Lib.hid hK
  clear hK
  go_simp
  refine HK.out _ _ (.inr HSS.out) ?_
  clear HK
  go_simp
  refine wpAnyT_take 14 (.int .i64 (v3 - v4 / 23)) (by rw [HOPS.out]; rfl) (by rw [HOPS.out]; kernel_rfl) (by exact fun _ _ _ h => h) (by rfl) (fun w1 hS => by go_simp) HSS.out ?_
  go_simp
  refine wpAnyT_take 15 (.int .i64 v5) (by rw [HOPS.out]; rfl) (by rw [HOPS.out]; kernel_rfl) (by exact fun _ _ _ h => h) (by rfl) (fun w1 hS => by go_simp) HSS.out ?_
  go_simp
  refine wpAnyT_take 16 (.int .i64 (1 + v6 + 2 * (v7 / 23))) (by rw [HOPS.out]; rfl) (by rw [HOPS.out]; kernel_rfl) (by exact fun _ _ _ h => h) (by rfl) (fun w1 hS => by go_simp) HSS.out ?_
  go_simp
  refine wpAnyT_done (by rw [HOPS.out]; kernel_rfl) ?_ _
  have FW := HV3.out.put.2.f3
  simp only [putW] at FW
  clear HSE HSI HOPS HSS FZ hs1 hs2 hs3 hc1 hc2 hc3 HV1 HV2
  go_wp2_with fail
  refine bodyPost_ret (v := .tuple #[.agg #[.int .i64 t.boats, .slice P np cp, .slice C nc dc], .int .i64 (v3 - v4 / 23), .int .i64 v5, .int .i64 (1 + v6 + 2 * (v7 / 23))]) (by simp [results, Try.results7, go_sem, FW]) rfl ?_
  rw [HEX.out]
  exact HV3.out.done
end Go.Proofs.Ytmgkoldipchljaa

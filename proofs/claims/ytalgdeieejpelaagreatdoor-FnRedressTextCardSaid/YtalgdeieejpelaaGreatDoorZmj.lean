/- General and plain lemmas, and light walks (merged): Yt Yu. -/
import Derived.Test.YtalgdeieejpelaaGreatDoorYq
import Derived.IntWalk
/- Walks: drawn tables with redress to come; averages are drawn. -/
namespace Go.Proofs.YtalgdeieejpelaaGreatDoor
open Go.RowKit Go.Sort
set_option linter.unusedVariables false
set_option maxRecDepth 100000

/-- What stands while codes become RDG: the table reads as T; where it is valid, it is the call's own. -/
structure US (w0 w W : World) (A : Option Addr) (n cap : Nat) (code : List Int) (g : Nat) (tb : Nat) (P : Option Addr) (np cp : Nat) (C : Option Addr) (nc dc : Nat) (s : St) (T : Tb) : Prop where
  d : DS w0 w W A n cap code g s
  bx : Box W w.heap.size #[.int .i64 0, .slice none 0 0, .slice none 0 0] 33
  tx : Box W tb #[.int .i64 T.boats, .slice P np cp, .slice C nc dc] 33
  tl : w.heap.size < tb
  kr : KRd W (w.heap.size + 1) P np C nc T
  ot : tableB T = true → ∃ vs us, OwnT W (w.heap.size + 1) P np cp vs C nc dc us T
section
variable {w0 w W W' : World} {A P C : Option Addr} {n cap g np cp nc dc tb : Nat} {code : List Int} {vs us : List Value} {s s' : St} {T : Tb}
theorem US.turn (h : US w0 w W A n cap code g tb P np cp C nc dc s T) (hs : Src w0 W' A n cap code g s') (hc : Chg g (g + 1) W W') : US w0 w W' A n cap code g tb P np cp C nc dc s' T := by
  have hgl := h.d.gl
  refine ⟨h.d.turn hs hc, h.bx.chg hc (.inr h.d.gl), h.tx.chg hc (.inr (by have := h.tl; omega)), h.tl, h.kr.turn (chg_wide hc (Nat.zero_le _) (by omega)), fun ht => ?_⟩
  obtain ⟨vs, us, ho⟩ := h.ot ht
  exact ⟨vs, us, ho.chg hc ho.in_ (.inr (by omega))⟩
theorem US.below (h : US w0 w W A n cap code g tb P np cp C nc dc s T) (k : Below W.heap.size W W') : US w0 w W' A n cap code g tb P np cp C nc dc s T :=
  ⟨h.d.below k, h.bx.below k, h.tx.below k, h.tl, h.kr.below k, fun ht => by obtain ⟨vs, us, ho⟩ := h.ot ht; exact ⟨vs, us, ho.below k⟩⟩
theorem US.of (h : TS w0 w W A n cap code g tb P np cp vs C nc dc us s T) : US w0 w W A n cap code g tb P np cp C nc dc s T := ⟨h.d, h.bx, h.tx, h.tl, h.ot.krd (Nat.le_refl _), fun _ => ⟨_, _, h.ot⟩⟩
theorem US.done (h : US w0 w W A n cap code g tb P np cp C nc dc s T) : RetTD w0 w A n cap code g (T, s) (.returned (.agg #[.int .i64 T.boats, .slice P np cp, .slice C nc dc])) (putW W w.heap.size 0 [.int .i64 T.boats, .slice P np cp, .slice C nc dc]) := by
  have hxl := h.bx.lt
  have hput := put_chg (g := w.heap.size) [.int .i64 T.boats, .slice P np cp, .slice C nc dc] 0 (Chg.refl w.heap.size (w.heap.size + 1) W) (Nat.le_refl _) (by omega)
  have hd := h.d.puts [.int .i64 T.boats, .slice P np cp, .slice C nc dc] (b := w.heap.size) (Nat.le_refl _) 0
  refine ⟨_, _, _, _, _, _, rfl, (h.kr.turn (chg_wide hput (Nat.zero_le _) (Nat.le_refl _))).less (by omega), fun ht => ?_, hd.src, hd.ch⟩
  obtain ⟨vs, us, ho⟩ := h.ot ht
  exact ⟨_, _, (ho.chg hput ho.in_ (.inr (Nat.le_refl _))).base' (by omega)⟩
end
theorem redTX_succ (code : List Int) (m : Nat) (t : Tb) (s : St) : redTX code (m + 1) t s =
    if tableB t = true ∧ 0 < t.pts.length then
      redTX code m ⟨t.boats, setRC t.pts (nextF code s (t.pts.length : Int)).1.toNat (nextF code (nextF code s (t.pts.length : Int)).2 t.boats).1.toNat 0, setRC t.cds (nextF code s (t.pts.length : Int)).1.toNat (nextF code (nextF code s (t.pts.length : Int)).2 t.boats).1.toNat 9⟩ (nextF code (nextF code s (t.pts.length : Int)).2 t.boats).2
    else (t, s) := rfl
set_option maxHeartbeats 4000000 in
theorem tab29_any (w0 : World) (A : Option Addr) (n cap : Nat) (code : List Int) (hcode : Code0 w0 A n code) (g : Nat) (s : St) (w : World) (h : Src w0 w A n cap code g s) :
    Calls Tryz.prog 41 #[.pointer (some ⟨g, 0, none⟩)] w (RetTD w0 w A n cap code g (tab29 code s)) := by
  have hgl := h.lt
  have HNX := Lib.hid (fun s k hk w' h => next_any w0 A n cap code hcode g s k hk w' h)
  have HTX := Lib.hid (fun w' h => tabX_any w0 A n cap code hcode g s w' h)
  have hex : redTX code (nextF code (tabX code s).2 4).1.toNat (tabX code s).1 (nextF code (tabX code s).2 4).2 = tab29 code s := rfl
  generalize tab29 code s = X at *
  generalize tabX code s = v at *
  obtain ⟨t, s1⟩ := v
  simp only at hex
  have H2 := Lib.hid (HNX.out s1 4 (by omega))
  have q2 := nextF_bd code s1 4 (by omega)
  generalize nextF code s1 4 = r2 at *
  obtain ⟨v2, s2⟩ := r2
  simp only at hex q2
  obtain ⟨K, rfl⟩ := int_up v2 q2.1
  rw [Int.toNat_natCast] at hex
  have hK : K ≤ 3 := by omega
  have HEX := Lib.hid hex
  clear hex
  obtain ⟨wa, hwa, XR, hba, hsa⟩ := one_box w #[.int .i64 0, .slice none 0 0, .slice none 0 0] 33
  have HD0 := Lib.hid (DS.below (w := w) ⟨h, Chg.refl _ _ _, hgl⟩ hba)
  have HX0 := Lib.hid XR
  have hza : wa.heap.size = w.heap.size + 1 := hsa
  clear h hba XR hsa
  go_enter Tryz.func41, Tryz.ntmps41
  go_wp2_with fail
  rw [← hwa]
  clear hwa
  refine (HTX.out _ HD0.out.src).mono ?_
  rintro e w1 ⟨P, np, cp, C, nc, dc, rfl, hkr, hot, hs, hc⟩
  have HD1 := Lib.hid (HD0.out.turn hs hc)
  have HX1 := Lib.hid (HX0.out.chg hc (.inr (by omega)))
  obtain ⟨wt, hwt, XT, hbt, hst⟩ := one_box w1 #[.int .i64 t.boats, .slice P np cp, .slice C nc dc] 33
  have hz1 := HX1.out.lt
  have HU0 := Lib.hid (show US w0 w wt A n cap code g w1.heap.size P np cp C nc dc s1 t from ⟨HD1.out.below hbt, HX1.out.below hbt, XT, hz1, by have := hkr.below hbt; rwa [hza] at this, fun ht => by obtain ⟨vs, us, ho⟩ := hot ht; rw [hza] at ho; exact ⟨vs, us, ho.below hbt⟩⟩)
  obtain ⟨tb, htb⟩ : ∃ tb, tb = w1.heap.size := ⟨_, rfl⟩
  rw [← htb] at HU0
  have HTB := Lib.hid htb
  have HWT := Lib.hid hwt
  clear hkr hot hs hc HTX HD0 HX0 HD1 HX1 hbt XT hwt htb hst hza
  simp only
  go_wp2_with fail
  rw [← HWT.out]
  (try rw [← HTB.out])
  clear HWT
  refine (H2.out _ HU0.out.d.src).mono ?_
  rintro e w2 ⟨rfl, hs, hc⟩
  have HU1 := Lib.hid (HU0.out.turn hs hc)
  clear hs hc H2 HU0
  simp only
  go_wp2_with fail
  go_loopw [4] (fun u wr => ∃ (k : Nat) (T : Tb) (s' : St), k ≤ K ∧ u = .int .i64 k ∧ Hid (T.boats = t.boats) ∧ Hid (redTX code k T s' = X) ∧ Hid (US w0 w wr A n cap code g tb P np cp C nc dc s' T)) (fun u _ => (intOf u).toNat)
  case atStart => exact ⟨K, t, s2, Nat.le_refl _, rfl, Lib.hid rfl, HEX, HU1⟩
  case round =>
    clear HEX HU1
    obtain ⟨k, T, s', hk, rfl, HTb, HEX, HU⟩ := hrel
    obtain ⟨wo, hwo⟩ : ∃ wo : World, wo = wr := ⟨_, rfl⟩
    subst hwo
    have hpl := HU.out.kr.rd.pts.len
    rcases k with _ | k
    · have hki : decide (((0 : Nat) : Int) > 0) = false := by simp
      have HU9 := HU
      have hex := HEX.out
      rw [show redTX code 0 T s' = (T, s') from rfl] at hex
      subst hex
      have FT := HU9.out.tx.f3
      have FB := HU9.out.bx.f3
      go_wp2_with fail
      refine bodyPost_ret (v := .agg #[.int .i64 T.boats, .slice P np cp, .slice C nc dc]) (by simp [results, Tryz.results41, go_sem, FB]) rfl ?_
      exact HU9.out.done
    · have hki : decide (((k + 1 : Nat) : Int) > 0) = true := by first | (simp; done) | (simp; omega)
      have hex := HEX.out
      rw [redTX_succ] at hex
      have HIT := Lib.hid (specIsTable_any P np cp C nc dc T wo HU.out.kr.rd)
      cases htb : tableB T with
      | false =>
        rw [htb] at HIT
        have HE2 := Lib.hid hex
        clear hex HEX
        have FT := HU.out.tx.f3
        go_wp2_with fail
        refine HIT.out.mono ?_
        rintro e w3 ⟨rfl, hb3⟩
        have HU9 := Lib.hid (HU.out.below hb3)
        have HEX := HE2
        clear hb3 HU FT HIT
        have hex := HEX.out
        rw [if_neg (by rw [htb]; simp)] at hex
        subst hex
        have FT := HU9.out.tx.f3
        have FB := HU9.out.bx.f3
        go_wp2_with fail
        refine bodyPost_ret (v := .agg #[.int .i64 T.boats, .slice P np cp, .slice C nc dc]) (by simp [results, Tryz.results41, go_sem, FB]) rfl ?_
        exact HU9.out.done
      | true =>
      rw [htb] at HIT
      by_cases hnp : np = 0
      · subst hnp
        have HE2 := Lib.hid hex
        clear hex HEX
        have FT := HU.out.tx.f3
        go_wp2_with fail
        refine HIT.out.mono ?_
        rintro e w3 ⟨rfl, hb3⟩
        have HU9 := Lib.hid (HU.out.below hb3)
        have HEX := HE2
        clear hb3 HU FT HIT
        have FT := HU9.out.tx.f3
        have hex := HEX.out
        rw [if_neg (by rw [hpl]; simp)] at hex
        subst hex
        have FT := HU9.out.tx.f3
        have FB := HU9.out.bx.f3
        go_wp2_with fail
        refine bodyPost_ret (v := .agg #[.int .i64 T.boats, .slice P 0 cp, .slice C nc dc]) (by simp [results, Tryz.results41, go_sem, FB]) rfl ?_
        exact HU9.out.done
      have hok := tableB_ok htb
      have hb1 := hok.b1; have hb16 := hok.b2; have hm12 := hok.many
      obtain ⟨vs, us, hown⟩ := HU.out.ot htb
      have HOW := Lib.hid hown
      rw [if_pos ⟨htb, by rw [hpl]; omega⟩, hpl] at hex
      have q3 := nextF_bd code s' (np : Int) (by omega)
      have H3 := Lib.hid (HNX.out s' (np : Int) (by omega))
      generalize nextF code s' (np : Int) = r3 at *
      obtain ⟨v3, s3⟩ := r3
      simp only at hex q3
      have q4 := nextF_bd code s3 T.boats (by omega)
      have H4 := Lib.hid (HNX.out s3 T.boats (by omega))
      generalize nextF code s3 T.boats = r4 at *
      obtain ⟨v4, s4⟩ := r4
      simp only at hex q4
      obtain ⟨i, rfl⟩ := int_up v3 q3.1
      obtain ⟨bt, rfl⟩ := int_up v4 q4.1
      rw [Int.toNat_natCast, Int.toNat_natCast] at hex
      have HE2 := Lib.hid hex
      have hin : i < np := by omega
      have hbtb : (bt : Int) < T.boats := by omega
      obtain ⟨p, hp, _⟩ := drop_cons (xs := T.pts) (k := i) (by omega)
      obtain ⟨q, hq, _⟩ := drop_cons (xs := T.cds) (k := i) (by have := hok.same; omega)
      have hrow := hok.row i p q hp hq
      have hpl1 : bt < p.length := by have := hrow.1.1; omega
      have hql1 : bt < q.length := by have := hrow.2.1; omega
      have hpl16 : p.length ≤ 16 := by have := hrow.1.1; omega
      have hql16 : q.length ≤ 16 := by have := hrow.2.1; omega
      have HP := Lib.hid hp; have HQ := Lib.hid hq
      have HT0 := Lib.hid (show TS w0 w wo A n cap code g tb P np cp vs C nc dc us s' T from ⟨HU.out.d, HU.out.bx, HU.out.tx, HU.out.tl, hown⟩)
      have FT := HU.out.tx.f3
      have hnpd : decide ((np : Int) > 0) = true := by simp; omega
      clear hex HEX hok hrow hp hq hown HOW htb q3 q4
      go_wp2_with fail
      refine HIT.out.mono ?_
      rintro e w3 ⟨rfl, hb3⟩
      have HT1 := Lib.hid (HT0.out.below hb3)
      clear hb3 HU HT0 FT HIT
      have FT := HT1.out.tx.f3
      go_wp2_with fail
      refine (H3.out _ HT1.out.d.src).mono ?_
      rintro e w4 ⟨rfl, hs, hc⟩
      have HT2 := Lib.hid (HT1.out.turn hs hc)
      clear hs hc HT1 FT H3
      simp only
      have FT := HT2.out.tx.f3
      go_wp2_with fail
      refine (H4.out _ HT2.out.d.src).mono ?_
      rintro e w5 ⟨rfl, hs, hc⟩
      have HT3 := Lib.hid (HT2.out.turn hs hc)
      clear hs hc HT2 FT H4
      simp only
      obtain ⟨gC, gq, cq, y, hCe, hvq, hcq, hcy, hfy, hgq0, hgq1, _, _, _⟩ := HT3.out.ot.at2 HQ.out hql1
      subst hCe
      have HT4 := Lib.hid (HT3.out.set2 (bt := bt) HQ.out hvq 9)
      obtain ⟨gP, gp, cp2, x, hPe, hvp, hcp, hcx, hfx, hgp0, hgp1, _, _, _⟩ := HT4.out.ot.at_ HP.out hpl1
      subst hPe
      have HT5 := Lib.hid (HT4.out.set1 (bt := bt) HP.out hvp 0)
      have FT := HT3.out.tx.f3
      have FT4 := HT4.out.tx.f3
      simp only at FT4 hcp hcx hfx
      clear hvq hvp
      go_wp2_with fail
      go_roundw
      case rel => exact ⟨k, _, s4, by omega, by go_num, Lib.hid (by exact HTb.out), HE2, US.of HT5.out |> Lib.hid⟩
      case measure => simp [intOf] <;> omega
/-- A boat is drawn, rarely none of the table's. -/
def boat27 (code : List Int) (b : Int) (s : St) : Int × St :=
  if (nextF code s 24).1 = 0 then (b - (b + 1) * (nextF code (nextF code s 24).2 2).1, (nextF code (nextF code s 24).2 2).2) else nextF code (nextF code s 24).2 (max 1 b)
set_option maxHeartbeats 2000000 in
theorem boat27_any (w0 : World) (A : Option Addr) (n cap : Nat) (code : List Int) (hcode : Code0 w0 A n code) (g : Nat) (s : St) (b : Int) (hb0 : 0 ≤ b) (hb16 : b ≤ 16) (P : Option Addr) (np cp : Nat) (C : Option Addr) (nc dc : Nat) (w : World) (h : Src w0 w A n cap code g s) :
    Calls Tryz.prog 29 #[.pointer (some ⟨g, 0, none⟩), .agg #[.int .i64 b, .slice P np cp, .slice C nc dc]] w (RetN w0 w A n cap code g (boat27 code b s)) := by
  have hgl := h.lt
  have HNX := Lib.hid (fun s k hk w' h => next_any w0 A n cap code hcode g s k hk w' h)
  have hex : boat27 code b s = if (nextF code s 24).1 = 0 then (b - (b + 1) * (nextF code (nextF code s 24).2 2).1, (nextF code (nextF code s 24).2 2).2) else nextF code (nextF code s 24).2 (max 1 b) := rfl
  generalize boat27 code b s = X at *
  have H1 := Lib.hid (HNX.out s 24 (by omega))
  generalize nextF code s 24 = r1 at *
  obtain ⟨v1, s1⟩ := r1
  simp only at hex
  have H2 := Lib.hid (HNX.out s1 2 (by omega))
  have q2 := nextF_bd code s1 2 (by omega)
  have H3 := Lib.hid (HNX.out s1 (max 1 b) (by omega))
  generalize nextF code s1 2 = r2 at *
  obtain ⟨v2, s2⟩ := r2
  simp only at hex q2
  generalize nextF code s1 (max 1 b) = r3 at *
  have HEX := Lib.hid hex
  obtain ⟨wa, hwa, XR, hba, hsa⟩ := one_box w #[.int .i64 b, .slice P np cp, .slice C nc dc] 33
  have HD0 := Lib.hid (DS.below (w := w) ⟨h, Chg.refl _ _ _, hgl⟩ hba)
  have HX0 := Lib.hid XR
  clear h hba XR hsa hex
  go_enter Tryz.func29, Tryz.ntmps29
  go_wp2_with fail
  rw [← hwa]
  clear hwa
  refine (H1.out _ HD0.out.src).mono ?_
  rintro e w1 ⟨rfl, hs, hc⟩
  have HD1 := Lib.hid (HD0.out.turn hs hc)
  have HX1 := Lib.hid (HX0.out.chg hc (.inr (by omega)))
  clear hs hc H1 HD0 HX0
  simp only
  by_cases hv : v1 = 0
  · subst hv
    have hex := HEX.out
    rw [if_pos rfl] at hex
    obtain ⟨y, hy⟩ : ∃ y, y = (b + 1) * v2 := ⟨_, rfl⟩
    obtain ⟨z, hz⟩ : ∃ z, z = b - y := ⟨_, rfl⟩
    have hv01 : v2 = 0 ∨ v2 = 1 := by omega
    have hyb : 0 ≤ y ∧ y ≤ 17 := by rcases hv01 with rfl | rfl <;> omega
    have HWR := Lib.hid (show IntKind.i64.wrap ((b + 1) * v2) = y from by rw [← hy, IntWalk.i64_in y (by omega)])
    have HWB := Lib.hid (show IntKind.i64.wrap (b + 1) = b + 1 from IntWalk.i64_in _ (by omega))
    have HWZ := Lib.hid (show IntKind.i64.wrap (b - y) = z from by rw [IntWalk.i64_in _ (by omega)]; exact hz.symm)
    rw [← hy, ← hz] at hex
    subst hex
    have HQ := Lib.hid (show ∀ Z, Chg g (g + 1) w1.drew Z → Src w0 Z A n cap code g s2 → DS w0 w Z A n cap code g s2 ∧ Box Z w.heap.size #[.int .i64 b, .slice P np cp, .slice C nc dc] 33 from fun Z hc hs => ⟨(HD1.out.below (below_drewN' _ w1 1)).turn hs hc, (HX1.out.below (below_drewN' _ w1 1)).chg hc (.inr (by omega))⟩)
    have HSD := Lib.hid (HD1.out.below (below_drewN' _ w1 1)).src
    clear hy hz hv01 HEX
    go_wp2_with fail
    obtain ⟨S, hSE, hSI⟩ : ∃ S : World → Prop, (∀ w9, S w9 → w9.cell? ⟨w.heap.size, 0, none⟩ = some (.int .i64 b)) ∧ (∀ w9, Box w9 w.heap.size #[.int .i64 b, .slice P np cp, .slice C nc dc] 33 → S w9) := ⟨fun w9 => Box w9 w.heap.size #[.int .i64 b, .slice P np cp, .slice C nc dc] 33, fun _ h => h.cell rfl, fun _ h => h⟩
    have HSE := Lib.hid hSE; have HSI := Lib.hid hSI
    have hS := hSI _ (HX1.out.below (below_drewN' _ w1 1))
    clear hSE hSI
    refine wp_region_T2 (n := 10) S (fun _ => false) (by kernel_rfl) rfl ?_
    intro ops HOPS
    refine wpAnyT_take 0 (.pointer (some ⟨w.heap.size, 0, none⟩)) (by rw [HOPS.out]; rfl) (by rw [HOPS.out]; kernel_rfl) (by exact fun _ _ _ h => h) (by rfl) (fun w1 hS => by go_simp) hS ?_
    go_simp
    refine wpAnyT_take 1 (.int .i64 b) (by rw [HOPS.out]; rfl) (by rw [HOPS.out]; kernel_rfl) (by exact fun _ _ _ h => h) (by rfl) (fun w1 hS => by have k0 := HSE.out _ hS; go_simp) hS ?_
    go_simp
    refine wpAnyT_take 2 (.pointer (some ⟨w.heap.size, 0, none⟩)) (by rw [HOPS.out]; rfl) (by rw [HOPS.out]; kernel_rfl) (by exact fun _ _ _ h => h) (by rfl) (fun w1 hS => by go_simp) hS ?_
    go_simp
    refine wpAnyT_take 3 (.int .i64 b) (by rw [HOPS.out]; rfl) (by rw [HOPS.out]; kernel_rfl) (by exact fun _ _ _ h => h) (by rfl) (fun w1 hS => by have k0 := HSE.out _ hS; go_simp) hS ?_
    go_simp
    refine wpAnyT_take 4 (.int .i64 (b + 1)) (by rw [HOPS.out]; rfl) (by rw [HOPS.out]; kernel_rfl) (by exact fun _ _ _ h => h) (by rfl) (fun w1 hS => by go_simp; rw [HWB.out]) hS ?_
    go_simp
    refine wpAnyT_take 5 (.pointer (some ⟨g, 0, none⟩)) (by rw [HOPS.out]; rfl) (by rw [HOPS.out]; kernel_rfl) (by exact fun _ _ _ h => h) (by rfl) (fun w1 hS => by go_simp) hS ?_
    go_simp
    refine wpAnyT_one 6 (by rw [HOPS.out]; rfl) (by rw [HOPS.out]; kernel_rfl) ?_
    intro K' hK
    have HK := Lib.hid hK
    clear hK
    go_simp
    go_at_call 16
    refine (H2.out _ HSD.out).mono ?_
    rintro e wq ⟨rfl, hsq, hcq⟩
    obtain ⟨hdq, hxq⟩ := HQ.out _ hcq hsq
    refine HK.out _ _ (.inr (HSI.out _ hxq)) ?_
    clear HK
    go_simp
    refine wpAnyT_take 7 (.int .i64 y) (by rw [HOPS.out]; rfl) (by rw [HOPS.out]; kernel_rfl) (by exact fun _ _ _ h => h) (by rfl) (fun w1 hS => by go_simp; rw [HWR.out]) (HSI.out _ hxq) ?_
    go_simp
    refine wpAnyT_take 8 (.int .i64 z) (by rw [HOPS.out]; rfl) (by rw [HOPS.out]; kernel_rfl) (by exact fun _ _ _ h => h) (by rfl) (fun w1 hS => by go_simp; rw [HWZ.out]) (HSI.out _ hxq) ?_
    go_simp
    refine wpAnyT_take 9 (.int .i64 z) (by rw [HOPS.out]; rfl) (by rw [HOPS.out]; kernel_rfl) (by exact fun _ _ _ h => h) (by rfl) (fun w1 hS => by go_simp) (HSI.out _ hxq) ?_
    go_simp
    refine wpAnyT_done (by rw [HOPS.out]; kernel_rfl) ?_ _
    clear HSE HSI HOPS HQ HSD HWR HWZ HWB
    have HDQ := Lib.hid hdq
    clear hdq hxq hsq hcq
    go_wp2_with fail
    go_ret
    exact ⟨rfl, HDQ.out.src, HDQ.out.ch⟩
  · have hvb : (v1 == 0) = false := by simp [hv]
    have hex := HEX.out
    rw [if_neg hv] at hex
    subst hex
    have FB := HX1.out.f3
    clear HEX
    go_wp2_with fail
    refine (H3.out _ HD1.out.src).mono ?_
    rintro e w2 ⟨rfl, hs, hc⟩
    have HD2 := Lib.hid (HD1.out.turn hs hc)
    clear hs hc H3 HD1 FB
    simp only
    go_wp2_with fail
    go_ret
    exact ⟨rfl, HD2.out.src, HD2.out.ch⟩
end Go.Proofs.YtalgdeieejpelaaGreatDoor

/- Walks: the arguments of an average are drawn. -/
namespace Go.Proofs.YtalgdeieejpelaaGreatDoor
open Go.RowKit Go.Sort
set_option linter.unusedVariables false
set_option maxRecDepth 100000

theorem tabV_bd (v : SerT) : 0 ≤ (tabV v).boats ∧ (tabV v).boats ≤ 16 := by
  unfold tabV
  split
  · rename_i h
    have := seriesB_ok h
    exact ⟨by show 0 ≤ v.1; omega, by show v.1 ≤ 16; omega⟩
  · exact ⟨by decide, by decide⟩
theorem spoilT_boats (code : List Int) (t : Tb) (i k : Nat) (w : Int × St) : (spoilT code t i k w).1.boats = t.boats := by
  unfold spoilT
  repeat' split
  all_goals rfl
theorem tabX_bd (code : List Int) (s : St) : 0 ≤ (tabX code s).1.boats ∧ (tabX code s).1.boats ≤ 16 := by
  obtain ⟨v, r, t, _, _, ht, ex⟩ := tabX_parts code s
  rw [ex]
  have := tabV_bd (v.1.1, v.1.2.1, r.1)
  rw [← ht] at this
  split
  · exact this
  · rw [spoilT_boats]; exact this
theorem tabV_len (v : SerT) : (tabV v).pts.length ≤ 12 := by
  unfold tabV
  split
  · rename_i h
    unfold seriesB at h
    simp only [Bool.and_eq_true, decide_eq_true_eq] at h
    have : (tabS v.1 v.2.1 v.2.2).pts.length = v.2.2.length := by simp [tabS]
    omega
  · decide
theorem spoilT_len (code : List Int) (t : Tb) (i k : Nat) (w : Int × St) : (spoilT code t i k w).1.pts.length = t.pts.length := by
  unfold spoilT
  repeat' split
  all_goals first | rfl | exact setRC_len _ _ _ _ | exact List.length_set
theorem tabX_len (code : List Int) (s : St) : (tabX code s).1.pts.length ≤ 12 := by
  obtain ⟨v, r, t, _, _, ht, ex⟩ := tabX_parts code s
  rw [ex]
  have := tabV_len (v.1.1, v.1.2.1, r.1)
  rw [← ht] at this
  split
  · exact this
  · rw [spoilT_len]; exact this
theorem redTX_boats (code : List Int) : ∀ (m : Nat) (t : Tb) (s : St), (redTX code m t s).1.boats = t.boats := by
  intro m
  induction m with
  | zero => intro t s; rfl
  | succ m ih =>
    intro t s
    rw [redTX_succ]
    split
    · rw [ih]
    · rfl
theorem tab29_bd (code : List Int) (s : St) : 0 ≤ (tab29 code s).1.boats ∧ (tab29 code s).1.boats ≤ 16 := by
  unfold tab29
  rw [redTX_boats]
  exact tabX_bd code s
/-- What is drawn for an average: the table, a race, a boat, a kind. -/
def avgD (code : List Int) : Tb × Int × Int × Int :=
  let t := tab29 code (fromF code)
  let a := nextF code t.2 ((t.1.pts.length : Int) + 1)
  let b := nextF code a.2 24
  let c := boat27 code t.1.boats b.2
  let d := nextF code c.2 2
  let e := nextF code d.2 24
  (t.1, a.1 - b.1 / 23, c.1, 1 + d.1 + 2 * (e.1 / 23))
theorem avgD_parts (code : List Int) : ∃ t a b c d e, t = tab29 code (fromF code) ∧ a = nextF code t.2 ((t.1.pts.length : Int) + 1) ∧ b = nextF code a.2 24 ∧ c = boat27 code t.1.boats b.2 ∧ d = nextF code c.2 2 ∧ e = nextF code d.2 24 ∧ avgD code = (t.1, a.1 - b.1 / 23, c.1, 1 + d.1 + 2 * (e.1 / 23)) := ⟨_, _, _, _, _, _, rfl, rfl, rfl, rfl, rfl, rfl, rfl⟩
theorem redTX_len (code : List Int) : ∀ (m : Nat) (t : Tb) (s : St), (redTX code m t s).1.pts.length = t.pts.length := by
  intro m
  induction m with
  | zero => intro t s; rfl
  | succ m ih =>
    intro t s
    rw [redTX_succ]
    split
    · rw [ih]; exact setRC_len _ _ _ _
    · rfl
theorem tab29_len (code : List Int) (s : St) : (tab29 code s).1.pts.length ≤ 12 := by
  unfold tab29
  rw [redTX_len]
  exact tabX_len code s
/-- The arguments of an average are drawn. -/
def RetAvD (w : World) (r : Tb × Int × Int × Int) (e : Ending) (w' : World) : Prop :=
  ∃ P np cp C nc dc, e = .returned (.tuple #[.agg #[.int .i64 r.1.boats, .slice P np cp, .slice C nc dc], .int .i64 r.2.1, .int .i64 r.2.2.1, .int .i64 r.2.2.2]) ∧ KRd w' w.heap.size P np C nc r.1 ∧ Below w.heap.size w w'
/-- What stands while an average's arguments are drawn. -/
structure AvS (w0 w w1 W : World) (A : Option Addr) (n cap : Nat) (code : List Int) (g tb : Nat) (P : Option Addr) (np cp : Nat) (C : Option Addr) (nc dc : Nat) (s : St) (t : Tb) : Prop where
  d : DS w0 w1 W A n cap code g s
  kr : KRd W w1.heap.size P np C nc t
  tx : Box W tb #[.int .i64 t.boats, .slice P np cp, .slice C nc dc] 33
  rx : Box W w.heap.size #[.int .i64 0, .slice none 0 0, .slice none 0 0] 33
  tl : w1.heap.size ≤ tb
  wl : w.heap.size < g
  b1 : Below w.heap.size w w1
theorem AvS.turn {w0 w w1 W W' : World} {A P C : Option Addr} {n cap g tb np cp nc dc : Nat} {code : List Int} {s s' : St} {t : Tb} (h : AvS w0 w w1 W A n cap code g tb P np cp C nc dc s t) (hs : Src w0 W' A n cap code g s') (hc : Chg g (g + 1) W W') : AvS w0 w w1 W' A n cap code g tb P np cp C nc dc s' t := by
  have hgl := h.d.gl
  exact ⟨h.d.turn hs hc, h.kr.turn (chg_wide hc (Nat.zero_le _) (by omega)), h.tx.chg hc (.inr (by have := h.tl; omega)), h.rx.chg hc (.inl h.wl), h.tl, h.wl, h.b1⟩
theorem AvS.below {w0 w w1 W W' : World} {A P C : Option Addr} {n cap g tb np cp nc dc : Nat} {code : List Int} {s : St} {t : Tb} (h : AvS w0 w w1 W A n cap code g tb P np cp C nc dc s t) (k : Below W.heap.size W W') : AvS w0 w w1 W' A n cap code g tb P np cp C nc dc s t :=
  ⟨h.d.below k, h.kr.below k, h.tx.below k, h.rx.below k, h.tl, h.wl, h.b1⟩
theorem AvS.done {w0 w w1 W : World} {A P C : Option Addr} {n cap g tb np cp nc dc : Nat} {code : List Int} {s : St} {t : Tb} {x y z : Int} (h : AvS w0 w w1 W A n cap code g tb P np cp C nc dc s t) : RetAvD w (t, x, y, z) (.returned (.tuple #[.agg #[.int .i64 t.boats, .slice P np cp, .slice C nc dc], .int .i64 x, .int .i64 y, .int .i64 z])) (putW W w.heap.size 0 [.int .i64 t.boats, .slice P np cp, .slice C nc dc]) := by
  have hgl := h.d.gl
  have hwl := h.wl
  have hput := put_chg (g := w.heap.size) [.int .i64 t.boats, .slice P np cp, .slice C nc dc] 0 (Chg.refl w.heap.size (w.heap.size + 1) W) (Nat.le_refl _) (by omega)
  refine ⟨_, _, _, _, _, _, rfl, (h.kr.turn (chg_wide hput (Nat.zero_le _) (by omega))).less (by omega), below_chg (below_chg h.b1 h.d.ch (by omega) (by omega)) hput (Nat.le_refl _) (by have := h.d.ch.size; omega)⟩
theorem AvS.put {w0 w w1 W : World} {A P C : Option Addr} {n cap g tb np cp nc dc : Nat} {code : List Int} {s : St} {t : Tb} (h : AvS w0 w w1 W A n cap code g tb P np cp C nc dc s t) : Box (putW W w.heap.size 0 [.int .i64 t.boats, .slice P np cp, .slice C nc dc]) tb #[.int .i64 t.boats, .slice P np cp, .slice C nc dc] 33 ∧ Box (putW W w.heap.size 0 [.int .i64 t.boats, .slice P np cp, .slice C nc dc]) w.heap.size #[.int .i64 t.boats, .slice P np cp, .slice C nc dc] 33 := by
  have hgl := h.d.gl
  have hwl := h.wl
  have htl := h.tl
  have hput := put_chg (g := w.heap.size) [.int .i64 t.boats, .slice P np cp, .slice C nc dc] 0 (Chg.refl w.heap.size (w.heap.size + 1) W) (Nat.le_refl _) (by omega)
  exact ⟨h.tx.chg hput (.inr (by omega)), ((h.rx.set 0 _).set 1 _).set 2 _⟩
end Go.Proofs.YtalgdeieejpelaaGreatDoor

/- Walks: drawn entries and registers. -/
import Derived.Test.YtalgdeieejpelaaGreatZmh
import Derived.Test.YtalgdeieejpelaaGreatZmg
import Derived.Test.YtalgdeieejpelaaGreatZml
namespace Go.Proofs.YtalgdeieejpelaaGreat
open Go.RowKit Go.Sort
set_option linter.unusedVariables false
set_option maxRecDepth 100000

/-- An entry is drawn. -/
def RetXD (w0 w : World) (A : Option Addr) (n cap : Nat) (code : List Int) (g : Nat) (r : EntryT × St) (e : Ending) (w' : World) : Prop :=
  e = .returned (.agg #[.int .i64 (E.race r.1), .int .i64 (E.boat r.1), .int .i64 (E.rev r.1), .int .i64 (E.code r.1), .int .i64 (E.time r.1), .int .i64 (E.kind r.1), .int .i64 (E.points r.1)]) ∧ Src w0 w' A n cap code g r.2 ∧ Chg g (g + 1) w w'
set_option maxHeartbeats 4000000 in
theorem entX_any (w0 : World) (A : Option Addr) (n cap : Nat) (code : List Int) (hcode : Code0 w0 A n code) (g : Nat) (s : St) (b : Int) (hb : b ≤ 1099511627776) (w : World) (h : Src w0 w A n cap code g s) :
    Calls Tryz.prog 85 #[.pointer (some ⟨g, 0, none⟩), .int .i64 b] w (RetXD w0 w A n cap code g (entX code b s)) := by
  have hgl := h.lt
  have HNX := Lib.hid (fun s k hk w' h => next_any w0 A n cap code hcode g s k hk w' h)
  have ex := entX_eq code b s
  generalize entX code b s = X at *
  have H1 := Lib.hid (HNX.out s 4 (by omega))
  have q1 := nextF_bd code s 4 (by omega)
  generalize nextF code s 4 = r1 at *
  obtain ⟨v1, s1⟩ := r1
  simp only at ex q1
  have H2 := Lib.hid (HNX.out s1 (max 1 b) (by omega))
  have q2 := nextF_bd code s1 (max 1 b) (by omega)
  generalize nextF code s1 (max 1 b) = r2 at *
  obtain ⟨v2, s2⟩ := r2
  simp only at ex q2
  have H3 := Lib.hid (HNX.out s2 3 (by omega))
  have q3 := nextF_bd code s2 3 (by omega)
  generalize nextF code s2 3 = r3 at *
  obtain ⟨v3, s3⟩ := r3
  simp only at ex q3
  have H4 := Lib.hid (HNX.out s3 12 (by omega))
  have q4 := nextF_bd code s3 12 (by omega)
  generalize nextF code s3 12 = r4 at *
  obtain ⟨v4, s4⟩ := r4
  simp only at ex q4
  have H5 := Lib.hid (HNX.out s4 5 (by omega))
  have q5 := nextF_bd code s4 5 (by omega)
  generalize nextF code s4 5 = r5 at *
  obtain ⟨v5, s5⟩ := r5
  simp only at ex q5
  have H6 := Lib.hid (HNX.out s5 8 (by omega))
  have q6 := nextF_bd code s5 8 (by omega)
  generalize nextF code s5 8 = r6 at *
  obtain ⟨v6, s6⟩ := r6
  simp only at ex q6
  have H7 := Lib.hid (HNX.out s5 4 (by omega))
  have q7 := nextF_bd code s5 4 (by omega)
  generalize nextF code s5 4 = r7 at *
  obtain ⟨v7, s7⟩ := r7
  simp only at ex q7
  have H8 := Lib.hid (HNX.out s7 20 (by omega))
  have q8 := nextF_bd code s7 20 (by omega)
  generalize nextF code s7 20 = r8 at *
  obtain ⟨v8, s8⟩ := r8
  simp only at ex q8
  obtain ⟨wa, hwa, XR, hba, hsa⟩ := one_box w #[.int .i64 0, .int .i64 0, .int .i64 0, .int .i64 0, .int .i64 0, .int .i64 0, .int .i64 0] 50
  have HD0 := Lib.hid (DS.below (w := w) ⟨h, Chg.refl _ _ _, hgl⟩ hba)
  have HR0 := Lib.hid XR
  have hza : w.heap.size < wa.heap.size := by omega
  have HEX := Lib.hid ex
  clear h hba hsa XR HNX ex
  go_enter Tryz.func85, Tryz.ntmps85
  go_wp2_with fail
  rw [← hwa]
  clear hwa
  go_wp2_with fail
  refine (H1.out _ HD0.out.src).mono ?_
  rintro e w1 ⟨rfl, hs, hc⟩
  have HD1 := Lib.hid (HD0.out.turn hs hc)
  have HR1 := Lib.hid (HR0.out.chg hc (.inr (by omega)))
  clear hs hc H1 HD0 HR0
  simp only
  go_wp2_with fail
  refine (H2.out _ HD1.out.src).mono ?_
  rintro e w2 ⟨rfl, hs, hc⟩
  have HD2 := Lib.hid (HD1.out.turn hs hc)
  have HR2 := Lib.hid (HR1.out.chg hc (.inr (by omega)))
  clear hs hc H2 HD1 HR1
  simp only
  go_wp2_with fail
  refine (H3.out _ HD2.out.src).mono ?_
  rintro e w3 ⟨rfl, hs, hc⟩
  have HD3 := Lib.hid (HD2.out.turn hs hc)
  have HR3 := Lib.hid (HR2.out.chg hc (.inr (by omega)))
  clear hs hc H3 HD2 HR2
  simp only
  go_wp2_with fail
  refine (H4.out _ HD3.out.src).mono ?_
  rintro e w4 ⟨rfl, hs, hc⟩
  have HD4 := Lib.hid (HD3.out.turn hs hc)
  have HR4 := Lib.hid (HR3.out.chg hc (.inr (by omega)))
  clear hs hc H4 HD3 HR3
  simp only
  go_wp2_with fail
  have hz4 := HR4.out.lt
  have hne1 : (w.heap.size = w4.heap.size) = False := by simp; omega
  have hne2 : (w4.heap.size = w.heap.size) = False := by simp; omega
  obtain ⟨wb, hwb, XB, hbb, hsb⟩ := one_box w4 #[.int .i64 v1, .int .i64 v2, .int .i64 (1 + v3), .int .i64 0, .int .i64 (1 + v4), .int .i64 0, .int .i64 0] 50
  rw [← hwb]
  clear hwb
  have HDb := Lib.hid (HD4.out.below hbb)
  have HRb := Lib.hid (HR4.out.below hbb)
  have HXb := Lib.hid XB
  clear XB hbb HD4 HR4
  refine (H5.out _ HDb.out.src).mono ?_
  rintro e w5 ⟨rfl, hs, hc⟩
  have HD5 := Lib.hid (HDb.out.turn hs hc)
  have HR5 := Lib.hid (HRb.out.chg hc (.inr (by omega)))
  have HX5 := Lib.hid (HXb.out.chg hc (.inr (by omega)))
  clear hs hc H5 HDb HRb HXb
  simp only
  by_cases t0 : v5 = 0
  · subst t0
    have ex := HEX.out
    rw [if_pos rfl] at ex
    subst ex
    go_wp2_with fail
    refine (H6.out _ HD5.out.src).mono ?_
    rintro e w6 ⟨rfl, hs, hc⟩
    have HD6 := Lib.hid (HD5.out.turn hs hc)
    have HR6 := Lib.hid (HR5.out.chg hc (.inr (by omega)))
    have HX6 := Lib.hid (HX5.out.chg hc (.inr (by omega)))
    clear hs hc H6 HD5 HR5 HX5
    simp only
    have FY := HX6.out.f7
    have y3 := HX6.out.fz (i := 3); have y4 := HX6.out.fz (i := 4); have y5 := HX6.out.fz (i := 5); have y6 := HX6.out.fz (i := 6)
    have FR := HR6.out.f7
    have FZ := HR6.out.z7
    go_wp2_with fail
    refine bodyPost_ret (v := .agg #[.int .i64 v1, .int .i64 v2, .int .i64 (1 + v3), .int .i64 (1 + v6), .int .i64 0, .int .i64 0, .int .i64 0]) (by simp [results, Tryz.results85, go_sem, FR]) rfl ?_
    exact ⟨rfl, (DS.puts [.int .i64 v1, .int .i64 v2, .int .i64 (1 + v3), .int .i64 (1 + v6), .int .i64 0, .int .i64 0, .int .i64 0] ((HD6.out.put (b := w4.heap.size) (by omega) 3 (.int .i64 (1 + v6))).put (b := w4.heap.size) (by omega) 4 (.int .i64 0)) (b := w.heap.size) (Nat.le_refl _) 0).src, (DS.puts [.int .i64 v1, .int .i64 v2, .int .i64 (1 + v3), .int .i64 (1 + v6), .int .i64 0, .int .i64 0, .int .i64 0] ((HD6.out.put (b := w4.heap.size) (by omega) 3 (.int .i64 (1 + v6))).put (b := w4.heap.size) (by omega) 4 (.int .i64 0)) (b := w.heap.size) (Nat.le_refl _) 0).ch⟩
  have t0b : (v5 == 0) = false := by simp [t0]
  by_cases t1 : v5 = 1
  · subst t1
    have ex := HEX.out
    rw [if_neg (by decide), if_pos rfl] at ex
    have HEX2 := Lib.hid ex
    clear t0 ex
    have FX := HX5.out.f7
    have z3 := HX5.out.fz (i := 3); have z4 := HX5.out.fz (i := 4); have z5 := HX5.out.fz (i := 5); have z6 := HX5.out.fz (i := 6)
    go_wp2_with fail
    have HDp := Lib.hid ((HD5.out.put (b := w4.heap.size) (by omega) 3 (.int .i64 9)).put (b := w4.heap.size) (by omega) 4 (.int .i64 0))
    have HRp := Lib.hid ((HR5.out.other (c := w4.heap.size) (i := 3) (by omega) (.int .i64 9)).other (c := w4.heap.size) (i := 4) (by omega) (.int .i64 0))
    have HXp := Lib.hid ((HX5.out.set 3 (.int .i64 9)).set 4 (.int .i64 0))
    generalize (w5.setCell ⟨w4.heap.size, 3, none⟩ (.int .i64 9)).setCell ⟨w4.heap.size, 4, none⟩ (.int .i64 0) = wp at *
    clear HD5 HR5 HX5 FX z3 z4 z5 z6
    refine (H7.out _ HDp.out.src).mono ?_
    rintro e w7 ⟨rfl, hs, hc⟩
    have HD7 := Lib.hid (HDp.out.turn hs hc)
    have HR7 := Lib.hid (HRp.out.chg hc (.inr (by omega)))
    have HX7 := Lib.hid (HXp.out.chg hc (.inr (by omega)))
    clear hs hc H7 HDp HRp HXp
    simp only
    by_cases t3 : v7 = 3
    · subst t3
      have ex := HEX2.out
      rw [if_pos rfl] at ex
      subst ex
      have HX7' := HX7.out
      simp at HX7'
      have FX := HX7'.f7
      have z5 := HX7.out.fz (i := 5); have z6 := HX7.out.fz (i := 6)
      go_wp2_with fail
      have HDq := Lib.hid (HD7.out.put (b := w4.heap.size) (by omega) 5 (.int .i64 3))
      have HRq := Lib.hid (HR7.out.other (c := w4.heap.size) (i := 5) (by omega) (.int .i64 3))
      have HXq := Lib.hid (HX7'.set 5 (.int .i64 3))
      generalize w7.setCell ⟨w4.heap.size, 5, none⟩ (.int .i64 3) = wq at *
      clear HD7 HR7 HX7 FX z5 z6 HX7'
      refine (H8.out _ HDq.out.src).mono ?_
      rintro e w8 ⟨rfl, hs, hc⟩
      have HD8 := Lib.hid (HDq.out.turn hs hc)
      have HR8 := Lib.hid (HRq.out.chg hc (.inr (by omega)))
      have HX8 := Lib.hid (HXq.out.chg hc (.inr (by omega)))
      clear hs hc H8 HDq HRq HXq
      simp only
      have HX8' := HX8.out
      simp at HX8'
      have FX := HX8'.f7
      have z6 := HX8.out.fz (i := 6)
      have FR := HR8.out.f7
      have FZ := HR8.out.z7
      go_wp2_with fail
      refine bodyPost_ret (v := .agg #[.int .i64 v1, .int .i64 v2, .int .i64 (1 + v3), .int .i64 9, .int .i64 0, .int .i64 3, .int .i64 (5 * v8)]) (by simp [results, Tryz.results85, go_sem, FR]) rfl ?_
      exact ⟨rfl, (DS.puts [.int .i64 v1, .int .i64 v2, .int .i64 (1 + v3), .int .i64 9, .int .i64 0, .int .i64 3, .int .i64 (5 * v8)] (HD8.out.put (b := w4.heap.size) (by omega) 6 (.int .i64 (5 * v8))) (b := w.heap.size) (Nat.le_refl _) 0).src, (DS.puts [.int .i64 v1, .int .i64 v2, .int .i64 (1 + v3), .int .i64 9, .int .i64 0, .int .i64 3, .int .i64 (5 * v8)] (HD8.out.put (b := w4.heap.size) (by omega) 6 (.int .i64 (5 * v8))) (b := w.heap.size) (Nat.le_refl _) 0).ch⟩
    · have t3b : (v7 == 3) = false := by simp [t3]
      have ex := HEX2.out
      rw [if_neg t3] at ex
      subst ex
      clear t3
      have HX7' := HX7.out
      simp at HX7'
      have FX := HX7'.f7
      have z5 := HX7.out.fz (i := 5); have z6 := HX7.out.fz (i := 6)
      have FR := HR7.out.f7
      have FZ := HR7.out.z7
      go_wp2_with fail
      refine bodyPost_ret (v := .agg #[.int .i64 v1, .int .i64 v2, .int .i64 (1 + v3), .int .i64 9, .int .i64 0, .int .i64 v7, .int .i64 0]) (by simp [results, Tryz.results85, go_sem, FR]) rfl ?_
      exact ⟨rfl, (DS.puts [.int .i64 v1, .int .i64 v2, .int .i64 (1 + v3), .int .i64 9, .int .i64 0, .int .i64 v7, .int .i64 0] (HD7.out.put (b := w4.heap.size) (by omega) 5 (.int .i64 v7)) (b := w.heap.size) (Nat.le_refl _) 0).src, (DS.puts [.int .i64 v1, .int .i64 v2, .int .i64 (1 + v3), .int .i64 9, .int .i64 0, .int .i64 v7, .int .i64 0] (HD7.out.put (b := w4.heap.size) (by omega) 5 (.int .i64 v7)) (b := w.heap.size) (Nat.le_refl _) 0).ch⟩
  have t1b : (v5 == 1) = false := by simp [t1]
  have ex := HEX.out
  rw [if_neg t0, if_neg t1] at ex
  subst ex
  clear t0 t1
  have FX := HX5.out.f7
  have z3 := HX5.out.fz (i := 3); have z4 := HX5.out.fz (i := 4); have z5 := HX5.out.fz (i := 5); have z6 := HX5.out.fz (i := 6)
  have FR := HR5.out.f7
  have FZ := HR5.out.z7
  go_wp2_with fail
  refine bodyPost_ret (v := .agg #[.int .i64 v1, .int .i64 v2, .int .i64 (1 + v3), .int .i64 0, .int .i64 (1 + v4), .int .i64 0, .int .i64 0]) (by simp [results, Tryz.results85, go_sem, FR]) rfl ?_
  exact ⟨rfl, (DS.puts [.int .i64 v1, .int .i64 v2, .int .i64 (1 + v3), .int .i64 0, .int .i64 (1 + v4), .int .i64 0, .int .i64 0] HD5.out (b := w.heap.size) (Nat.le_refl _) 0).src, (DS.puts [.int .i64 v1, .int .i64 v2, .int .i64 (1 + v3), .int .i64 0, .int .i64 (1 + v4), .int .i64 0, .int .i64 0] HD5.out (b := w.heap.size) (Nat.le_refl _) 0).ch⟩
end Go.Proofs.YtalgdeieejpelaaGreat

/- General and plain lemmas, and light walks (merged): Ru Zq. -/
import Derived.Test.YtalgdeieejpelaaGreatRx
import Derived.Test.YtalgdeieejpelaaGreatZmb
import Derived.Test.YtalgdeieejpelaaGreatZml
/- Walks: registers and entries compared; drawn registers and entries. -/
namespace Go.Proofs.YtalgdeieejpelaaGreat
open Go.RowKit Go.Sort
set_option linter.unusedVariables false
set_option maxRecDepth 100000

end Go.Proofs.YtalgdeieejpelaaGreat

/- Walks: a register and a discard rule are drawn (chapter 33). -/
namespace Go.Proofs.YtalgdeieejpelaaGreat
open Go.RowKit Go.Sort
set_option linter.unusedVariables false
set_option maxRecDepth 100000

def rrD (code : List Int) : RegT × List Int := ((regD code (fromF code)).1, (ruleD code (regD code (fromF code)).2).1)
theorem Src.chg2 {w0 w w' : World} {A : Option Addr} {n cap : Nat} {code : List Int} {g lo hi : Nat} {s : St} (h : Src w0 w A n cap code g s) (k : Chg lo hi w w') (hl : g < lo ∨ hi ≤ g) (hb : w0.heap.size ≤ lo) : Src w0 w' A n cap code g s :=
  ⟨(k.block g h.lt hl).trans h.blk, h.old, below_chg h.bel k hb h.bel.size, h.ok⟩
/-- A register and a rule, both in new memory. -/
def RetRR (w : World) (r : RegT × List Int) (e : Ending) (w' : World) : Prop :=
  ∃ A' m c A2 l cl, e = .returned (.tuple #[.agg #[.int .i64 r.1.1, .int .i64 r.1.2.1, .slice A' m c], .slice A2 l cl]) ∧ w'.ownsRow w.heap.size 50 7 (.slice A' m c) m (ents r.1.2.2) ∧ m ≤ 400 ∧ w'.ownsRow w.heap.size 2 1 (.slice A2 l cl) l (ints r.2) ∧ Below w.heap.size w w'
set_option maxHeartbeats 4000000 in
theorem drawRR_any (w0 : World) (A : Option Addr) (n cap : Nat) (code : List Int) (hcode : Code0 w0 A n code) (w : World) (hb : Below w0.heap.size w0 w) :
    Calls Tryz.prog 17 #[.slice A n cap] w (RetRR w (rrD code)) := by
  have hb0 := hb.size
  have HFR := Lib.hid (fun w' h => from_any w0 A n cap code hcode w' h)
  have HRD := Lib.hid (fun g w' h => regD_any w0 A n cap code hcode g (fromF code) w' h)
  have HRU := Lib.hid (fun g s w' h => ruleD_any w0 A n cap code hcode g s w' h)
  have hlen := regD_len code (fromF code)
  have ex : rrD code = ((regD code (fromF code)).1, (ruleD code (regD code (fromF code)).2).1) := rfl
  generalize rrD code = D at *
  generalize regD code (fromF code) = R at *
  obtain ⟨⟨rb, rs, rl⟩, s1⟩ := R
  simp only at hlen ex
  have HR2 := Lib.hid (fun g w' h => HRU.out g s1 w' h)
  generalize ruleD code s1 = U at *
  obtain ⟨ru, s2⟩ := U
  simp only at ex
  subst ex
  obtain ⟨wa, hwa, XR, hba, hsa⟩ := one_box w #[.int .i64 0, .int .i64 0, .slice none 0 0] 31
  have HB := Lib.hid (hb.trans (hba.mono hb.size))
  have HX := Lib.hid XR
  have HBA := Lib.hid hba
  clear hb XR hba HRU
  go_enter Tryz.func17, Tryz.ntmps17
  go_wp2_with fail
  rw [← hwa]
  clear hwa
  go_wp2_with fail
  refine (HFR.out _ HB.out).mono ?_
  rintro e w1 ⟨g, rfl, hs1, hge, hb1⟩
  have HX1 := Lib.hid (HX.out.below hb1)
  have HS1 := Lib.hid hs1
  have HB1 := Lib.hid (HBA.out.trans (hb1.mono HBA.out.size))
  have hz1 := hb1.size
  clear hs1 hb1 HFR HX HB HBA
  go_wp2_with fail
  refine (HRD.out _ _ HS1.out).mono ?_
  rintro e w2 ⟨A', m, c, rfl, ho, hs, hc⟩
  have hml := own_len_flat entC_len (by decide) ho
  simp only at hml
  have hgl := HS1.out.lt
  have HO2 := Lib.hid ho
  have HS2 := Lib.hid hs
  have HB2 := Lib.hid (below_chg HB1.out hc (by omega) HB1.out.size)
  have hz2 := hc.size
  have HX2 := Lib.hid (HX1.out.chg hc (.inl (by omega)))
  clear ho hs hc HX1 HB1 HS1 HRD
  simp only
  obtain ⟨w3, hw3, X5, hb3, hs3⟩ := one_box w2 #[.int .i64 rb, .int .i64 rs, .slice A' m c] 31
  have HX5 := Lib.hid X5
  have HW3 := Lib.hid hw3
  have HO3 := Lib.hid (own_below HO2.out hb3)
  have HS3 := Lib.hid (HS2.out.below hb3)
  have HX3 := Lib.hid (HX2.out.below hb3)
  have HB3 := Lib.hid (HB2.out.trans (hb3.mono HB2.out.size))
  clear X5 hw3 hb3 HO2 HS2 HX2 HB2
  go_wp2_with fail
  rw [← HW3.out]
  clear HW3
  obtain ⟨wd, hwd, hbd⟩ : ∃ wd : World, wd = w3.drew ∧ Below w3.heap.size w3 wd := ⟨_, rfl, below_drewN' _ w3 1⟩
  have HX5 := Lib.hid (HX5.out.below hbd)
  have HO3 := Lib.hid (own_below HO3.out hbd)
  have HS3 := Lib.hid (HS3.out.below hbd)
  have HX3 := Lib.hid (HX3.out.below hbd)
  have HB3 := Lib.hid (HB3.out.trans (hbd.mono HB3.out.size))
  have hzd := hbd.size
  clear hbd
  obtain ⟨S, hSE, hSI⟩ : ∃ S : World → Prop, (∀ w9, S w9 → (w9.cell? ⟨w2.heap.size, 0, none⟩ = some (.int .i64 rb) ∧ w9.cell? ⟨w2.heap.size, 1, none⟩ = some (.int .i64 rs) ∧ w9.cell? ⟨w2.heap.size, 2, none⟩ = some (.slice A' m c))) ∧ (∀ w9, Box w9 w2.heap.size #[.int .i64 rb, .int .i64 rs, .slice A' m c] 31 → S w9) :=
    ⟨fun w9 => Box w9 w2.heap.size #[.int .i64 rb, .int .i64 rs, .slice A' m c] 31, fun _ h => ⟨h.cell (i := 0) rfl, h.cell (i := 1) rfl, h.cell (i := 2) rfl⟩, fun _ h => h⟩
  have HSE := Lib.hid hSE; have HSI := Lib.hid hSI
  clear hSE hSI
  refine wp_region_T2 (n := 5) S (fun _ => false) (by kernel_rfl) rfl ?_
  intro ops HOPS
  rw [← hwd]
  clear hwd
  have hS := HSI.out _ HX5.out
  refine wpAnyT_take 0 (.agg #[.int .i64 rb, .int .i64 rs, .slice A' m c]) (by rw [HOPS.out]; rfl) (by rw [HOPS.out]; kernel_rfl) (by exact fun _ _ _ h => h) (by rfl) (fun w1 hS => by obtain ⟨s1, s2, s3⟩ := HSE.out _ hS; go_simp) hS ?_
  go_simp
  refine wpAnyT_take 1 (.pointer (some ⟨g, 0, none⟩)) (by rw [HOPS.out]; rfl) (by rw [HOPS.out]; kernel_rfl) (by exact fun _ _ _ h => h) (by rfl) (fun w1 hS => by go_simp) hS ?_
  go_simp
  refine wpAnyT_one 2 (by rw [HOPS.out]; rfl) (by rw [HOPS.out]; kernel_rfl) ?_
  intro K' hK
  have HK := Lib.hid hK
  clear hK
  go_simp
  go_at_call 48
  refine (HR2.out _ _ HS3.out).mono ?_
  rintro e wq ⟨A2, l, cl, rfl, ho, hs, hc⟩
  have HOq := Lib.hid ho
  have HO4 := Lib.hid (own_ne_chg HO3.out hc (by omega))
  have HX4 := Lib.hid (HX3.out.chg hc (.inl (by omega)))
  have HX9 := Lib.hid (HX5.out.chg hc (.inr (by omega)))
  have HB4 := Lib.hid (below_chg HB3.out hc (by omega) (by omega))
  have hz4 := hc.size
  clear ho hs hc
  refine HK.out _ _ (.inr (HSI.out _ HX9.out)) ?_
  clear HK
  have hS := HSI.out _ HX9.out
  go_simp
  have FZ := HX4.out.f3
  refine wpAnyT_one 3 (by rw [HOPS.out]; rfl) (by rw [HOPS.out]; kernel_rfl) ?_
  intro K' hK
  have HK := Lib.hid hK
  clear hK
  go_simp
  refine HK.out _ _ (.inr (HSI.out _ (((HX9.out.other (c := w.heap.size) (i := 0) (by omega) (.int .i64 rb)).other (c := w.heap.size) (i := 1) (by omega) (.int .i64 rs)).other (c := w.heap.size) (i := 2) (by omega) (.slice A' m c)))) ?_
  clear HK
  have hS := (HSI.out _ (((HX9.out.other (c := w.heap.size) (i := 0) (by omega) (.int .i64 rb)).other (c := w.heap.size) (i := 1) (by omega) (.int .i64 rs)).other (c := w.heap.size) (i := 2) (by omega) (.slice A' m c)))
  go_simp
  refine wpAnyT_take 4 (.slice A2 l cl) (by rw [HOPS.out]; rfl) (by rw [HOPS.out]; kernel_rfl) (by exact fun _ _ _ h => h) (by rfl) (fun w1 hS => by go_simp) hS ?_
  go_simp
  refine wpAnyT_done (by rw [HOPS.out]; kernel_rfl) ?_ _
  have F0 := HX4.out.f3
  go_wp2_with fail
  refine bodyPost_ret (v := .tuple #[.agg #[.int .i64 rb, .int .i64 rs, .slice A' m c], .slice A2 l cl]) (by simp [results, Tryz.results17, go_sem, F0]) rfl ?_
  have hch := put_chg (g := w.heap.size) [.int .i64 rb, .int .i64 rs, .slice A' m c] 0 (Chg.refl w.heap.size (w.heap.size + 1) wq) (by omega) (by omega)
  exact ⟨A', m, c, A2, l, cl, rfl, own_base (own_chg HO4.out hch (fun b hb => .inr (by have := (HO4.out.lt b hb).1; omega))) (by omega), by omega, own_base (own_chg HOq.out hch (fun b hb => .inr (by have := (HOq.out.lt b hb).1; omega))) (by omega), below_chg HB4.out hch (by omega) (by omega)⟩
end Go.Proofs.YtalgdeieejpelaaGreat

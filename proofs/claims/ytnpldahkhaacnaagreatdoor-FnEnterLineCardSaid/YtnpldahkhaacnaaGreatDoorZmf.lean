/- General and plain lemmas, and light walks (merged): Jd Je Jf Jg. -/
import Derived.Test.YtnpldahkhaacnaaGreatDoorJa
import Derived.Test.YtnpldahkhaacnaaGreatDoorJb
import Derived.Test.YtnpldahkhaacnaaGreatDoorZma
import Derived.Test.YtnpldahkhaacnaaGreatDoorZmc
import Derived.Lib.AppendZeros
import Derived.Maps.AppendAt
/- Walks: the library's Grow and Concat at entries; a register with more entries (chapter 33). -/
namespace Go.Proofs.YtnpldahkhaacnaaGreatDoor
open Go.RowKit Go.Sort Go.Lib
set_option linter.unusedVariables false
set_option maxRecDepth 100000

theorem run_append_zeroE (w : World) (ty : TypeId) (A : Option Addr) (n c : Nat) (hnc : n ≤ c) (B : Option Addr) (d : Nat) :
    (Builtin.append_ #[30, 30] ty #[.slice A n c, .slice B 0 d]).run Tryz.prog w = .ok (.slice A n c) w := by
  obtain ⟨i, hi, hz, hs1, hb1⟩ := info_parts Tryz.info_ent
  cases A <;> cases B <;>
    simp [Builtin.append_, run_underlying Tryz.underlying30, sizeOf, typeInfo, hi, Builtin.lenOf, Builtin.firstCells, loadCells, loadCellsFrom, storeCells, hnc]
theorem run_apps (w : World) (ty : TypeId) {base n c : Nat} {A : Option Addr} {xs : List EntryT} (hown : w.ownsRow base 25 7 (.slice A n c) n (ents xs)) {m d : Nat} {B : Option Addr} {ys : List EntryT}
    (hr : Rd w 7 B m (ents ys)) (hn : n + m ≤ 1048576) (hbase : base ≤ w.heap.size) :
    ∃ A' c' w', (Builtin.append_ #[30, 30] ty #[.slice A n c, .slice B m d]).run Tryz.prog w = .ok (.slice A' (n + m) c') w' ∧ w'.ownsRow base 25 7 (.slice A' (n + m) c') (n + m) (ents (xs ++ ys)) ∧ w.grownBy w' (Value.slice A n c).ownBlock := by
  have e : ents xs ++ ents ys = ents (xs ++ ys) := by unfold ents; rw [List.flatMap_append]
  rcases Nat.eq_zero_or_pos m with h0 | h0
  · subst h0
    have hy : ys = [] := List.eq_nil_of_length_eq_zero hr.len_ent
    subst hy
    exact ⟨A, c, w, run_append_zeroE w ty A n c (own_capE hown) B d, by rw [List.append_nil]; exact hown, World.grownBy.refl _ _⟩
  · obtain ⟨b, f, rfl, _⟩ := hr.pos (by omega)
    obtain ⟨i, hi, hz, hs1, hb1⟩ := info_parts Tryz.info_ent
    have hl : (ents ys).length = m * 7 := hr.len
    obtain ⟨v', w', h1, h2, h3, _, _⟩ := run_append_own_at (P := Tryz.prog) w base 30 ty 25 i (.agg #[.int .i64 0, .int .i64 0, .int .i64 0, .int .i64 0, .int .i64 0, .int .i64 0, .int .i64 0]) 7 56 Tryz.underlying30 hi hz hs1 hb1 rfl (by decide) (.slice A n c) n (ents xs) hown ⟨b, f, none⟩ m d (ents ys) hl (ents_news hr) (ents_one ys) (by unfold maxLen; omega) (by omega) hbase
    rw [e] at h2
    obtain ⟨A', c', rfl⟩ := own_is_slice h2
    exact ⟨A', c', w', h1, h2, h3⟩
section
variable {ops : Array Oper} {rest : List Oper} {o : Oper} {a : Act} {K : Act → World → Prop} {Q : Exit → Act → World → Prop} {E : Prop}
theorem wpl_apps (w : World) (hgd : o.guard = none) (s x : Operand)
    (ho : o.op = .call { callee := .builtin .append, args := #[s, x], argTypes := #[30, 30] }) {base n c : Nat} {A : Option Addr} {xs : List EntryT}
    (hs : a.eval s = .slice A n c) (hown : w.ownsRow base 25 7 (.slice A n c) n (ents xs)) {m d : Nat} {B : Option Addr} {ys : List EntryT} (hx : a.eval x = .slice B m d)
    (hr : Rd w 7 B m (ents ys)) (hn : n + m ≤ 1048576) (hbase : base ≤ w.heap.size)
    (h : ∀ A' c' w', w'.ownsRow base 25 7 (.slice A' (n + m) c') (n + m) (ents (xs ++ ys)) → w.grownBy w' (Value.slice A n c).ownBlock → wpList Tryz.prog ops Q rest (a.put o.dst (.slice A' (n + m) c')) w') :
    wpList Tryz.prog ops Q (o :: rest) a w := by
  obtain ⟨A', c', w', h1, h2, h3⟩ := run_apps w o.type hown hr (d := d) hn hbase
  exact Lib.wpList_append_run w hgd s x _ _ ho _ _ hs hx _ w' h1 (h A' c' w' h2 h3)
theorem step_apps (w : World) (hgd : o.guard = none) (s x : Operand)
    (ho : o.op = .call { callee := .builtin .append, args := #[s, x], argTypes := #[30, 30] }) {base n c : Nat} {A : Option Addr} {xs : List EntryT}
    (hs : a.eval s = .slice A n c) (hown : w.ownsRow base 25 7 (.slice A n c) n (ents xs)) {m d : Nat} {B : Option Addr} {ys : List EntryT} (hx : a.eval x = .slice B m d)
    (hr : Rd w 7 B m (ents ys)) (hn : n + m ≤ 1048576) (hbase : base ≤ w.heap.size)
    (h : ∀ A' c' w', w'.ownsRow base 25 7 (.slice A' (n + m) c') (n + m) (ents (xs ++ ys)) → w.grownBy w' (Value.slice A n c).ownBlock → K (a.put o.dst (.slice A' (n + m) c')) w') :
    if Region.wanted o (yielded ops a.tmps) = true then Oper.wp Tryz.prog o a w K Q else E := by
  obtain ⟨A', c', w', h1, h2, h3⟩ := run_apps w o.type hown hr (d := d) hn hbase
  rw [if_pos (by simp [Region.wanted, hgd])]
  exact Lib.wp_append_run w s x _ _ ho _ _ hs hx _ w' h1 (h A' c' w' h2 h3)
end
/-- Grow of the nil slice. -/
theorem grow_any (q : Nat) (hq : q ≤ 1048576) (w : World) :
    Calls Tryz.prog 311 #[.slice none 0 0, .int .i64 q] w fun e w' => ∃ A0 c0, e = .returned (.slice A0 0 c0) ∧ w'.ownsRow w.heap.size 25 7 (.slice A0 0 c0) 0 (ents []) ∧ Below w.heap.size w w' := by
  obtain ⟨i, hi, hz, hs1, hb1⟩ := info_parts Tryz.info_ent
  rcases Nat.eq_zero_or_pos q with h0 | h0
  · subst h0
    go_enter Tryz.func311, Tryz.ntmps311
    go_wp2_with fail
    go_ret
    exact ⟨none, 0, rfl, World.ownsRow_nil _ _ _ _, Below.refl _ _⟩
  · have hrun : ∀ ty, (Builtin.append_ #[30, 3] ty #[.slice none 0 0, .int .i64 q]).run Tryz.prog w = .ok (.slice (some ⟨w.heap.size, 0, none⟩) q (grownCap w q 0 25)) (w.drew.alloc (.cells (Builtin.zeroCells (Value.agg #[.int .i64 0, .int .i64 0, .int .i64 0, .int .i64 0, .int .i64 0, .int .i64 0, .int .i64 0]).cells q ++ Builtin.zeroCells (Value.agg #[.int .i64 0, .int .i64 0, .int .i64 0, .int .i64 0, .int .i64 0, .int .i64 0, .int .i64 0]).cells (grownCap w q 0 25 - q)) 25)) :=
      fun ty => Lib.run_append_nil_zeros w 30 3 ty 25 i (.agg #[.int .i64 0, .int .i64 0, .int .i64 0, .int .i64 0, .int .i64 0, .int .i64 0, .int .i64 0]) .i64 .i64 Tryz.underlying30 Tryz.underlying3 hi hz q h0 (by rw [hs1]; decide) (by omega) (by rw [hb1]; omega)
    have hG := grownCap_ge w q 0 25
    have hG2 := grownCap_le_maxLen w q 0 25 (by unfold maxLen; omega)
    generalize grownCap w q 0 25 = G at *
    have hown : (w.drew.alloc (.cells (Builtin.zeroCells (Value.agg #[.int .i64 0, .int .i64 0, .int .i64 0, .int .i64 0, .int .i64 0, .int .i64 0, .int .i64 0]).cells q ++ Builtin.zeroCells (Value.agg #[.int .i64 0, .int .i64 0, .int .i64 0, .int .i64 0, .int .i64 0, .int .i64 0, .int .i64 0]).cells (G - q)) 25)).ownsRow w.heap.size 25 7 (.slice (some ⟨w.heap.size, 0, none⟩) 0 G) 0 (ents []) :=
      ⟨rfl, .inr ⟨w.heap.size, G, _, rfl, Nat.le_refl _, heap_alloc_new w.drew _, Nat.zero_le _, hG2, by simp [Builtin.zeroCells, Value.cells]; omega, by simp [ents]⟩⟩
    have hbel : ∀ ob, Below w.heap.size w (w.drew.alloc ob) := fun ob => ((Below.refl w.heap.size w).trans (below_drewN' w.heap.size w 1)).alloc (Nat.le_refl _) ob
    generalize (Builtin.zeroCells (Value.agg #[.int .i64 0, .int .i64 0, .int .i64 0, .int .i64 0, .int .i64 0, .int .i64 0, .int .i64 0]).cells q ++ Builtin.zeroCells (Value.agg #[.int .i64 0, .int .i64 0, .int .i64 0, .int .i64 0, .int .i64 0, .int .i64 0, .int .i64 0]).cells (G - q)) = Z at *
    have HOW := Lib.hid hown; have HBE := Lib.hid hbel; have HRUN := Lib.hid hrun
    have hG63 : G ≤ 9223372036854775807 := by unfold maxLen at hG2; omega
    clear hown hbel hrun hG2 hi hz hs1 hb1
    go_enter Tryz.func311, Tryz.ntmps311
    go_wp2_with (at_builtin; refine Lib.wpList_append_run _ rfl _ _ _ _ rfl _ _ rfl rfl _ _ (HRUN.out _) ?_)
    go_ret
    exact ⟨_, _, rfl, HOW.out, HBE.out _⟩
end Go.Proofs.YtnpldahkhaacnaaGreatDoor

/- Walks: the library's Concat of two slices of entries; withEntries, l33Add (chapter 33). -/
namespace Go.Proofs.YtnpldahkhaacnaaGreatDoor
open Go.RowKit Go.Sort Go.Lib
set_option linter.unusedVariables false
set_option maxRecDepth 100000

def szK (n m k : Nat) : Nat := if k = 0 then 0 else if k = 1 then n else n + m
def catK (xs ys : List EntryT) (k : Nat) : List EntryT := if k = 0 then [] else if k = 1 then xs else xs ++ ys
set_option maxHeartbeats 2000000 in
theorem concat_any (V : Nat) (A : Option Addr) (n c : Nat) (xs : List EntryT) (B : Option Addr) (m d : Nat) (ys : List EntryT) (w : World) (hc0 : w.cell? ⟨V, 0, none⟩ = some (.slice A n c)) (hc1 : w.cell? ⟨V, 1, none⟩ = some (.slice B m d))
    (h1 : Rd w 7 A n (ents xs)) (h2 : Rd w 7 B m (ents ys)) (hnm : n + m ≤ 1048576) :
    Calls Tryz.prog 275 #[.slice (some ⟨V, 0, none⟩) 2 2] w (RetEntryS w (xs ++ ys)) := by
  have HC0 := Lib.hid (fun w' (hb : Below w.heap.size w w') => (hb.cell (p := ⟨V, 0, none⟩) (cell_lt hc0)).trans hc0)
  have HC1 := Lib.hid (fun w' (hb : Below w.heap.size w w') => (hb.cell (p := ⟨V, 1, none⟩) (cell_lt hc1)).trans hc1)
  have HR1 := Lib.hid (fun w' (hb : Below w.heap.size w w') => h1.below hb)
  have HR2 := Lib.hid (fun w' (hb : Below w.heap.size w w') => h2.below hb)
  clear h1 h2
  go_enter Tryz.func275, Tryz.ntmps275
  go_wp2_with fail
  go_loop [3, 11] (fun s i => ∃ k : Nat, k ≤ 2 ∧ i = .int .i64 k ∧ s = .int .i64 (szK n m k)) (fun _ i => 2 - (intOf i).toNat)
  case atStart => exact ⟨0, by omega, rfl, rfl⟩
  case round =>
    obtain ⟨k, hk, rfl, rfl⟩ := hrel
    rcases (by omega : k = 0 ∨ k = 1 ∨ k = 2) with rfl | rfl | rfl
    · have e0 : szK n m 0 = 0 := rfl
      rw [e0]
      go_wp2_with fail
      go_round
      case rel => exact ⟨1, by omega, by go_num, by simp [szK]⟩
      case measure => simp [intOf] <;> omega
    · have e1 : szK n m 1 = n := rfl
      rw [e1]
      go_wp2_with fail
      go_round
      case rel => exact ⟨2, by omega, by go_num, by simp [szK] <;> omega⟩
      case measure => simp [intOf] <;> omega
    · have e2 : szK n m 2 = n + m := rfl
      rw [e2]
      have hg := grow_any (n + m) hnm w
      rw [Int.natCast_add] at hg
      have HG := Lib.hid hg
      clear hg
      go_wp2_with fail
      refine HG.out.mono ?_
      rintro e w1 ⟨A0, c0, rfl, ho, hb⟩
      have HO1 := Lib.hid ho
      have HB1 := Lib.hid hb
      clear ho hb HG hc0 hc1
      go_wp2_with fail
      go_loopw [6, 27] (fun s i wr => ∃ (k c' : Nat) (A' : Option Addr), k ≤ 2 ∧ i = .int .i64 k ∧ s = .slice A' (szK n m k) c' ∧ Hid (wr.ownsRow w.heap.size 25 7 (.slice A' (szK n m k) c') (szK n m k) (ents (catK xs ys k))) ∧ Hid (Below w.heap.size w wr)) (fun _ i _ => 2 - (intOf i).toNat)
      case atStart => exact ⟨0, c0, A0, by omega, rfl, rfl, HO1, HB1⟩
      case round =>
        clear HO1 HB1
        obtain ⟨k, c', A', hk, rfl, rfl, HO, HB⟩ := hrel
        have q0 := HC0.out _ HB.out
        have q1 := HC1.out _ HB.out
        rcases (by omega : k = 0 ∨ k = 1 ∨ k = 2) with rfl | rfl | rfl
        · have e0 : szK n m 0 = 0 := rfl
          have E0 : catK xs ys 0 = [] := rfl
          rw [e0, E0] at HO
          rw [e0]
          go_wp2_with (at_builtin; refine wpl_apps _ rfl _ _ rfl rfl HO.out rfl (HR1.out _ HB.out) (by omega) HB.out.size ?_; intro A1 c1 w2 ho2 hg2; simp only [Nat.zero_add, List.nil_append] at ho2 ⊢)
          have HO2 := Lib.hid ho2
          have HB2 := Lib.hid (HB.out.grown hg2 HB.out.size (fun k hk => (HO.out.lt k hk).1))
          clear ho2 hg2
          go_roundw
          case rel => exact ⟨1, c1, A1, by omega, by go_num, rfl, HO2, HB2⟩
          case measure => simp [intOf] <;> omega
        · have e0 : szK n m 1 = n := rfl
          have E0 : catK xs ys 1 = xs := rfl
          rw [e0, E0] at HO
          rw [e0]
          go_wp2_with (at_builtin; refine wpl_apps _ rfl _ _ rfl rfl HO.out rfl (HR2.out _ HB.out) (by omega) HB.out.size ?_; intro A1 c1 w2 ho2 hg2)
          have HO2 := Lib.hid ho2
          have HB2 := Lib.hid (HB.out.grown hg2 HB.out.size (fun k hk => (HO.out.lt k hk).1))
          clear ho2 hg2
          go_roundw
          case rel => exact ⟨2, c1, A1, by omega, by go_num, rfl, HO2, HB2⟩
          case measure => simp [intOf] <;> omega
        · have e0 : szK n m 2 = n + m := rfl
          have E0 : catK xs ys 2 = xs ++ ys := rfl
          rw [e0, E0] at HO
          rw [e0]
          go_wp2_with fail
          go_ret
          exact ⟨_, _, _, rfl, HO.out, hnm, HB.out⟩
end Go.Proofs.YtnpldahkhaacnaaGreatDoor

/- Walks: a register with more entries (chapter 33). -/
namespace Go.Proofs.YtnpldahkhaacnaaGreatDoor
open Go.RowKit Go.Sort Go.Lib
set_option linter.unusedVariables false
set_option maxRecDepth 100000

set_option maxHeartbeats 800000 in
theorem withEntries_any (b s : Int) (A : Option Addr) (n c : Nat) (xs : List EntryT) (B : Option Addr) (m d : Nat) (ys : List EntryT) (w : World) (h1 : Rd w 7 A n (ents xs)) (h2 : Rd w 7 B m (ents ys)) (hnm : n + m ≤ 1048576) :
    Calls Tryz.prog 221 #[.agg #[.int .i64 b, .int .i64 s, .slice A n c], .slice B m d] w (RetReg w b s (xs ++ ys)) := by
  obtain ⟨w1, hw1, X0, X1, hb1, hs1⟩ := two_boxes w #[.int .i64 b, .int .i64 s, .slice A n c] #[.int .i64 0, .int .i64 0, .slice none 0 0] 32 32
  have HB1 := Lib.hid hb1
  have HR1 := Lib.hid (fun w' (hb : Below w.heap.size w w') => h1.below hb)
  have HR2 := Lib.hid (fun w' (hb : Below w.heap.size w w') => h2.below hb)
  obtain ⟨S, hSE, hSI⟩ : ∃ S : World → Prop, (∀ w1, S w1 → (w1.cell? ⟨w.heap.size, 0, none⟩ = some (.int .i64 b) ∧ w1.cell? ⟨w.heap.size, 1, none⟩ = some (.int .i64 s) ∧ w1.cell? ⟨w.heap.size, 2, none⟩ = some (.slice A n c))) ∧ (∀ w2, Below w1.heap.size w1 w2 → S w2) :=
    ⟨fun w1 => w1.cell? ⟨w.heap.size, 0, none⟩ = some (.int .i64 b) ∧ w1.cell? ⟨w.heap.size, 1, none⟩ = some (.int .i64 s) ∧ w1.cell? ⟨w.heap.size, 2, none⟩ = some (.slice A n c), fun _ h => h, fun w2 hb => ⟨(X0.below hb).cell rfl, (X0.below hb).cell rfl, (X0.below hb).cell rfl⟩⟩
  have HSE := Lib.hid hSE; have HSI := Lib.hid hSI
  clear hSE hSI
  have HX0 := Lib.hid X0; have HX1 := Lib.hid X1
  have F0 := X0.f3
  clear h1 h2 hb1 X0 X1
  go_enter Tryz.func221, Tryz.ntmps221
  go_wp2_with fail
  rw [← hw1]
  clear hw1
  go_wp2_with fail
  clear F0
  refine wp_region_T2 (n := 11) S (fun j => decide (10 ≤ j)) (by kernel_rfl) rfl ?_
  intro ops HOPS
  have hS := HSI.out _ (below_drewN' _ w1 1)
  refine wpAnyT_take 0 (.pointer (some ⟨w.heap.size, 0, none⟩)) (by rw [HOPS.out]; rfl) (by rw [HOPS.out]; kernel_rfl) (by exact fun _ _ _ h => h) (by rfl) (fun w1 hS => by go_simp) hS ?_
  go_simp
  refine wpAnyT_take 1 (.int .i64 b) (by rw [HOPS.out]; rfl) (by rw [HOPS.out]; kernel_rfl) (by exact fun _ _ _ h => h) (by rfl) (fun w1 hS => by obtain ⟨q0, q1, q2⟩ := HSE.out _ hS; go_simp) hS ?_
  go_simp
  refine wpAnyT_take 2 (.pointer (some ⟨w.heap.size, 1, none⟩)) (by rw [HOPS.out]; rfl) (by rw [HOPS.out]; kernel_rfl) (by exact fun _ _ _ h => h) (by rfl) (fun w1 hS => by go_simp) hS ?_
  go_simp
  refine wpAnyT_take 3 (.int .i64 s) (by rw [HOPS.out]; rfl) (by rw [HOPS.out]; kernel_rfl) (by exact fun _ _ _ h => h) (by rfl) (fun w1 hS => by obtain ⟨q0, q1, q2⟩ := HSE.out _ hS; go_simp) hS ?_
  go_simp
  refine wpAnyT_take 4 (.pointer (some ⟨w.heap.size, 2, none⟩)) (by rw [HOPS.out]; rfl) (by rw [HOPS.out]; kernel_rfl) (by exact fun _ _ _ h => h) (by rfl) (fun w1 hS => by go_simp) hS ?_
  go_simp
  refine wpAnyT_take 5 (.slice A n c) (by rw [HOPS.out]; rfl) (by rw [HOPS.out]; kernel_rfl) (by exact fun _ _ _ h => h) (by rfl) (fun w1 hS => by obtain ⟨q0, q1, q2⟩ := HSE.out _ hS; go_simp) hS ?_
  go_simp
  refine wpAnyT_take 6 (.slice B m d) (by rw [HOPS.out]; rfl) (by rw [HOPS.out]; kernel_rfl) (by exact fun _ _ _ h => h) (by rfl) (fun w1 hS => by go_simp) hS ?_
  go_simp
  replace hS : S w1.drew := hS
  obtain ⟨wd, hwd⟩ : ∃ wd : World, wd = w1.drew := ⟨_, rfl⟩
  have hbd : Below w1.heap.size w1 wd := by rw [hwd]; exact below_drewN' _ w1 1
  have hsd : wd.heap.size = w1.heap.size := by rw [hwd]; rfl
  rw [← hwd] at hS ⊢
  clear hwd
  have HBD := Lib.hid hbd
  refine wpAnyT_one 7 (by rw [HOPS.out]; rfl) (by rw [HOPS.out]; kernel_rfl) ?_
  intro K' hK
  have HK := Lib.hid hK
  clear hK
  go_simp
  refine HK.out _ _ (.inr (HSI.out _ (HBD.out.alloc (by omega) _))) ?_
  clear HK
  go_simp
  obtain ⟨wv, hwv, XV, hbv, hsv⟩ := one_box wd #[.slice A n c, .slice B m d] 30
  rw [← hwv]
  clear hwv
  have HBV := Lib.hid (hbd.trans (hbv.mono (by omega)))
  have HBV0 := Lib.hid (HB1.out.trans (HBV.out.mono HB1.out.size))
  have hC := concat_any wd.heap.size A n c xs B m d ys wv (XV.cell (i := 0) rfl) (XV.cell (i := 1) rfl) (HR1.out _ HBV0.out) (HR2.out _ HBV0.out) hnm
  rw [hsd, hs1] at hC
  have HC := Lib.hid hC
  clear hC
  refine wpAnyT_one 8 (by rw [HOPS.out]; rfl) (by rw [HOPS.out]; kernel_rfl) ?_
  intro K' hK
  have HK := Lib.hid hK
  clear hK
  go_simp
  (go_at_call 275); refine HC.out.mono ?_
  rintro e w5 ⟨A5, n5, c5, rfl, ho5, hn5, hb5⟩
  have HB5 := Lib.hid (HBV.out.trans (hb5.mono HBV.out.size))
  refine HK.out _ _ (.inr (HSI.out _ HB5.out)) ?_
  clear HK
  go_simp
  refine wpAnyT_take 9 (.agg #[.int .i64 b, .int .i64 s, .slice A5 n5 c5]) (by rw [HOPS.out]; rfl) (by rw [HOPS.out]; kernel_rfl) (by exact fun _ _ _ h => h) (by rfl) (fun w1 hS => by go_simp) (HSI.out _ HB5.out) ?_
  go_simp
  have F1 := (HX1.out.below HB5.out).f3
  refine wpAnyT_one 10 (by rw [HOPS.out]; rfl) (by rw [HOPS.out]; kernel_rfl) ?_
  intro K' hK
  have HK := Lib.hid hK
  clear hK
  go_simp
  refine HK.out _ _ (.inl (by decide)) ?_
  clear HK
  go_simp
  refine wpAnyT_done (by rw [HOPS.out]; kernel_rfl) ?_ _
  go_wp2_with fail
  refine bodyPost_ret (v := .agg #[.int .i64 b, .int .i64 s, .slice A5 n5 c5]) (by simp [results, Tryz.results221, go_sem, F1]) rfl ?_
  have hch := put_chg (g := w.heap.size + 1) [.int .i64 b, .int .i64 s, .slice A5 n5 c5] 0 (Chg.refl (w.heap.size + 1) (w.heap.size + 1 + 1) w5) (by omega) (by omega)
  have hsz := HBV.out.size
  exact ⟨A5, n5, c5, rfl, own_base (own_chg ho5 hch (fun b hb => .inr (by have := (ho5.lt b hb).1; omega))) (by omega), hn5, below_chg (HB1.out.trans (HB5.out.mono HB1.out.size)) hch (by omega) (by omega)⟩
end Go.Proofs.YtnpldahkhaacnaaGreatDoor

/- Walks: a register with one more entry, the spec (chapter 33). -/
namespace Go.Proofs.YtnpldahkhaacnaaGreatDoor
open Go.RowKit Go.Sort Go.Lib
set_option linter.unusedVariables false
set_option maxRecDepth 100000

set_option maxHeartbeats 2000000 in
theorem l33Add_any (b s : Int) (A : Option Addr) (n c : Nat) (xs : List EntryT) (x0 x1 x2 x3 x4 x5 x6 : Int) (w : World) (h1 : Rd w 7 A n (ents xs)) (hnm : n + 1 ≤ 1048576) :
    Calls Tryz.prog 280 #[.agg #[.int .i64 b, .int .i64 s, .slice A n c], .agg #[.int .i64 x0, .int .i64 x1, .int .i64 x2, .int .i64 x3, .int .i64 x4, .int .i64 x5, .int .i64 x6]] w (RetReg w b s (xs ++ [(x0, x1, x2, x3, x4, x5, x6)])) := by
  obtain ⟨w1, hw1, X0, X1, X2, hb1, hs1⟩ := three_boxes w #[.int .i64 b, .int .i64 s, .slice A n c] #[.int .i64 x0, .int .i64 x1, .int .i64 x2, .int .i64 x3, .int .i64 x4, .int .i64 x5, .int .i64 x6] #[.int .i64 0, .int .i64 0, .slice none 0 0] 32 25 32
  have HB1 := Lib.hid hb1
  have HR1 := Lib.hid (fun w' (hb : Below w.heap.size w w') => h1.below hb)
  obtain ⟨S, hSE, hSI⟩ : ∃ S : World → Prop, (∀ w1, S w1 → (w1.cell? ⟨w.heap.size, 0, none⟩ = some (.int .i64 b) ∧ w1.cell? ⟨w.heap.size, 1, none⟩ = some (.int .i64 s) ∧ w1.cell? ⟨w.heap.size, 2, none⟩ = some (.slice A n c) ∧ w1.cell? ⟨w.heap.size + 1, 0, none⟩ = some (.int .i64 x0) ∧ w1.cell? ⟨w.heap.size + 1, 1, none⟩ = some (.int .i64 x1) ∧ w1.cell? ⟨w.heap.size + 1, 2, none⟩ = some (.int .i64 x2) ∧ w1.cell? ⟨w.heap.size + 1, 3, none⟩ = some (.int .i64 x3) ∧ w1.cell? ⟨w.heap.size + 1, 4, none⟩ = some (.int .i64 x4) ∧ w1.cell? ⟨w.heap.size + 1, 5, none⟩ = some (.int .i64 x5) ∧ w1.cell? ⟨w.heap.size + 1, 6, none⟩ = some (.int .i64 x6))) ∧ (∀ w2, Below w1.heap.size w1 w2 → S w2) :=
    ⟨fun w1 => w1.cell? ⟨w.heap.size, 0, none⟩ = some (.int .i64 b) ∧ w1.cell? ⟨w.heap.size, 1, none⟩ = some (.int .i64 s) ∧ w1.cell? ⟨w.heap.size, 2, none⟩ = some (.slice A n c) ∧ w1.cell? ⟨w.heap.size + 1, 0, none⟩ = some (.int .i64 x0) ∧ w1.cell? ⟨w.heap.size + 1, 1, none⟩ = some (.int .i64 x1) ∧ w1.cell? ⟨w.heap.size + 1, 2, none⟩ = some (.int .i64 x2) ∧ w1.cell? ⟨w.heap.size + 1, 3, none⟩ = some (.int .i64 x3) ∧ w1.cell? ⟨w.heap.size + 1, 4, none⟩ = some (.int .i64 x4) ∧ w1.cell? ⟨w.heap.size + 1, 5, none⟩ = some (.int .i64 x5) ∧ w1.cell? ⟨w.heap.size + 1, 6, none⟩ = some (.int .i64 x6), fun _ h => h, fun w2 hb => ⟨(X0.below hb).cell rfl, (X0.below hb).cell rfl, (X0.below hb).cell rfl, (X1.below hb).cell rfl, (X1.below hb).cell rfl, (X1.below hb).cell rfl, (X1.below hb).cell rfl, (X1.below hb).cell rfl, (X1.below hb).cell rfl, (X1.below hb).cell rfl⟩⟩
  have HSE := Lib.hid hSE; have HSI := Lib.hid hSI
  clear hSE hSI
  have HX0 := Lib.hid X0; have HX1 := Lib.hid X1; have HX2 := Lib.hid X2
  have F0 := X0.f3
  clear h1 hb1 X0 X1 X2
  go_enter Tryz.func280, Tryz.ntmps280
  go_wp2_with fail
  rw [← hw1]
  clear hw1
  go_wp2_with fail
  clear F0
  refine wp_region_T2 (n := 13) S (fun j => decide (12 ≤ j)) (by kernel_rfl) rfl ?_
  intro ops HOPS
  have hS := HSI.out _ (below_drewN' _ w1 1)
  refine wpAnyT_take 0 (.pointer (some ⟨w.heap.size, 0, none⟩)) (by rw [HOPS.out]; rfl) (by rw [HOPS.out]; kernel_rfl) (by exact fun _ _ _ h => h) (by rfl) (fun w1 hS => by go_simp) hS ?_
  go_simp
  refine wpAnyT_take 1 (.int .i64 b) (by rw [HOPS.out]; rfl) (by rw [HOPS.out]; kernel_rfl) (by exact fun _ _ _ h => h) (by rfl) (fun w1 hS => by obtain ⟨q0, q1, q2, p0, p1, p2, p3, p4, p5, p6⟩ := HSE.out _ hS; go_simp) hS ?_
  go_simp
  refine wpAnyT_take 2 (.pointer (some ⟨w.heap.size, 1, none⟩)) (by rw [HOPS.out]; rfl) (by rw [HOPS.out]; kernel_rfl) (by exact fun _ _ _ h => h) (by rfl) (fun w1 hS => by go_simp) hS ?_
  go_simp
  refine wpAnyT_take 3 (.int .i64 s) (by rw [HOPS.out]; rfl) (by rw [HOPS.out]; kernel_rfl) (by exact fun _ _ _ h => h) (by rfl) (fun w1 hS => by obtain ⟨q0, q1, q2, p0, p1, p2, p3, p4, p5, p6⟩ := HSE.out _ hS; go_simp) hS ?_
  go_simp
  refine wpAnyT_take 5 (.pointer (some ⟨w.heap.size, 2, none⟩)) (by rw [HOPS.out]; rfl) (by rw [HOPS.out]; kernel_rfl) (by exact fun _ _ _ h => h) (by rfl) (fun w1 hS => by go_simp) hS ?_
  go_simp
  refine wpAnyT_take 6 (.slice A n c) (by rw [HOPS.out]; rfl) (by rw [HOPS.out]; kernel_rfl) (by exact fun _ _ _ h => h) (by rfl) (fun w1 hS => by obtain ⟨q0, q1, q2, p0, p1, p2, p3, p4, p5, p6⟩ := HSE.out _ hS; go_simp) hS ?_
  go_simp
  refine wpAnyT_take 8 (.agg #[.int .i64 x0, .int .i64 x1, .int .i64 x2, .int .i64 x3, .int .i64 x4, .int .i64 x5, .int .i64 x6]) (by rw [HOPS.out]; rfl) (by rw [HOPS.out]; kernel_rfl) (by exact fun _ _ _ h => h) (by rfl) (fun w1 hS => by obtain ⟨q0, q1, q2, p0, p1, p2, p3, p4, p5, p6⟩ := HSE.out _ hS; go_simp) hS ?_
  go_simp
  replace hS : S w1.drew := hS
  obtain ⟨wd, hwd⟩ : ∃ wd : World, wd = w1.drew := ⟨_, rfl⟩
  have HB_wd := Lib.hid (show Below w1.heap.size w1 wd from by rw [hwd]; exact below_drewN' _ w1 1)
  have hsd : wd.heap.size = w1.heap.size := by rw [hwd]; rfl
  rw [← hwd] at hS ⊢
  clear hwd
  rw [hs1] at hsd
  refine wpAnyT_two 4 9 (by rw [HOPS.out]; rfl) (by rw [HOPS.out]; rfl) (by rw [HOPS.out]; kernel_rfl) ?_ ?_
  · intro K' hK
    have HK := Lib.hid hK
    clear hK
    go_simp
    refine HK.out _ _ (.inr (HSI.out _ (HB_wd.out.alloc HB_wd.out.size _))) ?_
    clear HK
    have oe_wa := own_emptyE wd w1.heap.size 25 7 HB_wd.out.size
    obtain ⟨wa, hw_wa, XX_wa, hb_wa, hs_wa⟩ := one_box wd #[] 25
    rw [← hw_wa] at oe_wa ⊢
    clear hw_wa
    have HB_wa := Lib.hid (HB_wd.out.trans (hb_wa.mono HB_wd.out.size))
    rw [hsd] at oe_wa hs_wa
    have HO := Lib.hid oe_wa
    clear XX_wa oe_wa
    go_simp
    refine wpAnyT_two 7 9 (by rw [HOPS.out]; rfl) (by rw [HOPS.out]; rfl) (by rw [HOPS.out]; kernel_rfl) ?_ ?_
    · intro K' hK
      have HK := Lib.hid hK
      clear hK
      refine step_apps _ (by rfl) _ _ (by rfl) (xs := []) (by rfl) HO.out (by rfl) (HR1.out _ (HB1.out.trans (HB_wa.out.mono HB1.out.size))) (by omega) HB_wa.out.size ?_
      intro A7 c7 wb ho_wb hg_wb
      simp only [Nat.zero_add, List.nil_append] at ho_wb ⊢
      have HB_wb := Lib.hid (HB_wa.out.grown hg_wb HB_wa.out.size (fun k hk => (HO.out.lt k hk).1))
      replace HO := Lib.hid ho_wb
      clear ho_wb hg_wb
      refine HK.out _ _ (.inr (HSI.out _ HB_wb.out)) ?_
      clear HK
      go_simp
      refine wpAnyT_one 9 (by rw [HOPS.out]; rfl) (by rw [HOPS.out]; kernel_rfl) ?_
      intro K' hK
      have HK := Lib.hid hK
      clear hK
      go_simp
      refine HK.out _ _ (.inr (HSI.out _ (HB_wb.out.alloc HB_wb.out.size _))) ?_
      clear HK
      obtain ⟨wc, hw_wc, XX_wc, hb_wc, hs_wc⟩ := one_box wb #[.int .i64 x0, .int .i64 x1, .int .i64 x2, .int .i64 x3, .int .i64 x4, .int .i64 x5, .int .i64 x6] 25
      rw [← hw_wc]
      clear hw_wc
      have HB_wc := Lib.hid (HB_wb.out.trans (hb_wc.mono HB_wb.out.size))
      have HX := Lib.hid XX_wc
      clear XX_wc
      replace HO := Lib.hid (own_below HO.out hb_wc)
      go_simp
      refine wpAnyT_one 10 (by rw [HOPS.out]; rfl) (by rw [HOPS.out]; kernel_rfl) ?_
      intro K' hK
      have HK := Lib.hid hK
      clear hK
      refine step_ent (x0 := x0) (x1 := x1) (x2 := x2) (x3 := x3) (x4 := x4) (x5 := x5) (x6 := x6) _ (by rfl) _ _ (by rfl) (by rfl) HO.out (by rfl) HX.out (by omega) HB_wc.out.size ?_
      intro g10 c10 we ho_we hg_we _ _
      have HB_we := Lib.hid (HB_wc.out.grown hg_we HB_wc.out.size (fun k hk => (HO.out.lt k hk).1))
      replace HO := Lib.hid ho_we
      clear ho_we hg_we HX
      refine HK.out _ _ (.inr (HSI.out _ HB_we.out)) ?_
      clear HK
      go_simp
      refine wpAnyT_take 11 (.agg #[.int .i64 b, .int .i64 s, .slice (some ⟨g10, 0, none⟩) (n + 1) c10]) (by rw [HOPS.out]; rfl) (by rw [HOPS.out]; kernel_rfl) (by exact fun _ _ _ h => h) (by rfl) (fun w1 hS => by go_simp) (HSI.out _ HB_we.out) ?_
      go_simp
      have F1 := (HX2.out.below HB_we.out).f3
      refine wpAnyT_one 12 (by rw [HOPS.out]; rfl) (by rw [HOPS.out]; kernel_rfl) ?_
      intro K' hK
      have HK := Lib.hid hK
      clear hK
      go_simp
      refine HK.out _ _ (.inl (by decide)) ?_
      clear HK
      go_simp
      refine wpAnyT_done (by rw [HOPS.out]; kernel_rfl) ?_ _
      go_wp2_with fail
      refine bodyPost_ret (v := .agg #[.int .i64 b, .int .i64 s, .slice (some ⟨g10, 0, none⟩) (n + 1) c10]) (by simp [results, Tryz.results280, go_sem, F1]) rfl ?_
      have hch := put_chg (g := w.heap.size + 1 + 1) [.int .i64 b, .int .i64 s, .slice (some ⟨g10, 0, none⟩) (n + 1) c10] 0 (Chg.refl (w.heap.size + 1 + 1) (w.heap.size + 1 + 1 + 1) we) (by omega) (by omega)
      have hsz := HB_we.out.size
      exact ⟨_, _, _, rfl, own_base (own_chg HO.out hch (fun b hb => .inr (by have := (HO.out.lt b hb).1; omega))) (by omega), by omega, below_chg (HB1.out.trans (HB_we.out.mono HB1.out.size)) hch (by omega) (by omega)⟩
    · intro K' hK
      have HK := Lib.hid hK
      clear hK
      go_simp
      refine HK.out _ _ (.inr (HSI.out _ (HB_wa.out.alloc HB_wa.out.size _))) ?_
      clear HK
      obtain ⟨wb, hw_wb, XX_wb, hb_wb, hs_wb⟩ := one_box wa #[.int .i64 x0, .int .i64 x1, .int .i64 x2, .int .i64 x3, .int .i64 x4, .int .i64 x5, .int .i64 x6] 25
      rw [← hw_wb]
      clear hw_wb
      have HB_wb := Lib.hid (HB_wa.out.trans (hb_wb.mono HB_wa.out.size))
      rw [hs_wa] at XX_wb hs_wb
      have HX := Lib.hid XX_wb
      clear XX_wb
      replace HO := Lib.hid (own_below HO.out hb_wb)
      go_simp
      refine wpAnyT_one 7 (by rw [HOPS.out]; rfl) (by rw [HOPS.out]; kernel_rfl) ?_
      intro K' hK
      have HK := Lib.hid hK
      clear hK
      refine step_apps _ (by rfl) _ _ (by rfl) (xs := []) (by rfl) HO.out (by rfl) (HR1.out _ (HB1.out.trans (HB_wb.out.mono HB1.out.size))) (by omega) HB_wb.out.size ?_
      intro A7 c7 wc ho_wc hg_wc
      simp only [Nat.zero_add, List.nil_append] at ho_wc ⊢
      have HB_wc := Lib.hid (HB_wb.out.grown hg_wc HB_wb.out.size (fun k hk => (HO.out.lt k hk).1))
      replace HX := Lib.hid (HX.out.grown hg_wc (by simp [Value.ownBlock]))
      replace HO := Lib.hid ho_wc
      clear ho_wc hg_wc
      refine HK.out _ _ (.inr (HSI.out _ HB_wc.out)) ?_
      clear HK
      go_simp
      refine wpAnyT_one 10 (by rw [HOPS.out]; rfl) (by rw [HOPS.out]; kernel_rfl) ?_
      intro K' hK
      have HK := Lib.hid hK
      clear hK
      refine step_ent (x0 := x0) (x1 := x1) (x2 := x2) (x3 := x3) (x4 := x4) (x5 := x5) (x6 := x6) _ (by rfl) _ _ (by rfl) (by rfl) HO.out (by rfl) HX.out (by omega) HB_wc.out.size ?_
      intro g10 c10 we ho_we hg_we _ _
      have HB_we := Lib.hid (HB_wc.out.grown hg_we HB_wc.out.size (fun k hk => (HO.out.lt k hk).1))
      replace HO := Lib.hid ho_we
      clear ho_we hg_we HX
      refine HK.out _ _ (.inr (HSI.out _ HB_we.out)) ?_
      clear HK
      go_simp
      refine wpAnyT_take 11 (.agg #[.int .i64 b, .int .i64 s, .slice (some ⟨g10, 0, none⟩) (n + 1) c10]) (by rw [HOPS.out]; rfl) (by rw [HOPS.out]; kernel_rfl) (by exact fun _ _ _ h => h) (by rfl) (fun w1 hS => by go_simp) (HSI.out _ HB_we.out) ?_
      go_simp
      have F1 := (HX2.out.below HB_we.out).f3
      refine wpAnyT_one 12 (by rw [HOPS.out]; rfl) (by rw [HOPS.out]; kernel_rfl) ?_
      intro K' hK
      have HK := Lib.hid hK
      clear hK
      go_simp
      refine HK.out _ _ (.inl (by decide)) ?_
      clear HK
      go_simp
      refine wpAnyT_done (by rw [HOPS.out]; kernel_rfl) ?_ _
      go_wp2_with fail
      refine bodyPost_ret (v := .agg #[.int .i64 b, .int .i64 s, .slice (some ⟨g10, 0, none⟩) (n + 1) c10]) (by simp [results, Tryz.results280, go_sem, F1]) rfl ?_
      have hch := put_chg (g := w.heap.size + 1 + 1) [.int .i64 b, .int .i64 s, .slice (some ⟨g10, 0, none⟩) (n + 1) c10] 0 (Chg.refl (w.heap.size + 1 + 1) (w.heap.size + 1 + 1 + 1) we) (by omega) (by omega)
      have hsz := HB_we.out.size
      exact ⟨_, _, _, rfl, own_base (own_chg HO.out hch (fun b hb => .inr (by have := (HO.out.lt b hb).1; omega))) (by omega), by omega, below_chg (HB1.out.trans (HB_we.out.mono HB1.out.size)) hch (by omega) (by omega)⟩
  · intro K' hK
    have HK := Lib.hid hK
    clear hK
    go_simp
    refine HK.out _ _ (.inr (HSI.out _ (HB_wd.out.alloc HB_wd.out.size _))) ?_
    clear HK
    obtain ⟨wa, hw_wa, XX_wa, hb_wa, hs_wa⟩ := one_box wd #[.int .i64 x0, .int .i64 x1, .int .i64 x2, .int .i64 x3, .int .i64 x4, .int .i64 x5, .int .i64 x6] 25
    rw [← hw_wa]
    clear hw_wa
    have HB_wa := Lib.hid (HB_wd.out.trans (hb_wa.mono HB_wd.out.size))
    rw [hsd] at XX_wa hs_wa
    have HX := Lib.hid XX_wa
    clear XX_wa
    go_simp
    refine wpAnyT_one 4 (by rw [HOPS.out]; rfl) (by rw [HOPS.out]; kernel_rfl) ?_
    intro K' hK
    have HK := Lib.hid hK
    clear hK
    go_simp
    refine HK.out _ _ (.inr (HSI.out _ (HB_wa.out.alloc HB_wa.out.size _))) ?_
    clear HK
    have oe_wb := own_emptyE wa w1.heap.size 25 7 HB_wa.out.size
    obtain ⟨wb, hw_wb, XX_wb, hb_wb, hs_wb⟩ := one_box wa #[] 25
    rw [← hw_wb] at oe_wb ⊢
    clear hw_wb
    have HB_wb := Lib.hid (HB_wa.out.trans (hb_wb.mono HB_wa.out.size))
    rw [hs_wa] at oe_wb hs_wb
    have HO := Lib.hid oe_wb
    replace HX := Lib.hid (HX.out.below hb_wb)
    clear XX_wb oe_wb
    go_simp
    refine wpAnyT_one 7 (by rw [HOPS.out]; rfl) (by rw [HOPS.out]; kernel_rfl) ?_
    intro K' hK
    have HK := Lib.hid hK
    clear hK
    refine step_apps _ (by rfl) _ _ (by rfl) (xs := []) (by rfl) HO.out (by rfl) (HR1.out _ (HB1.out.trans (HB_wb.out.mono HB1.out.size))) (by omega) HB_wb.out.size ?_
    intro A7 c7 wc ho_wc hg_wc
    simp only [Nat.zero_add, List.nil_append] at ho_wc ⊢
    have HB_wc := Lib.hid (HB_wb.out.grown hg_wc HB_wb.out.size (fun k hk => (HO.out.lt k hk).1))
    replace HX := Lib.hid (HX.out.grown hg_wc (by simp [Value.ownBlock]))
    replace HO := Lib.hid ho_wc
    clear ho_wc hg_wc
    refine HK.out _ _ (.inr (HSI.out _ HB_wc.out)) ?_
    clear HK
    go_simp
    refine wpAnyT_one 10 (by rw [HOPS.out]; rfl) (by rw [HOPS.out]; kernel_rfl) ?_
    intro K' hK
    have HK := Lib.hid hK
    clear hK
    refine step_ent (x0 := x0) (x1 := x1) (x2 := x2) (x3 := x3) (x4 := x4) (x5 := x5) (x6 := x6) _ (by rfl) _ _ (by rfl) (by rfl) HO.out (by rfl) HX.out (by omega) HB_wc.out.size ?_
    intro g10 c10 we ho_we hg_we _ _
    have HB_we := Lib.hid (HB_wc.out.grown hg_we HB_wc.out.size (fun k hk => (HO.out.lt k hk).1))
    replace HO := Lib.hid ho_we
    clear ho_we hg_we HX
    refine HK.out _ _ (.inr (HSI.out _ HB_we.out)) ?_
    clear HK
    go_simp
    refine wpAnyT_take 11 (.agg #[.int .i64 b, .int .i64 s, .slice (some ⟨g10, 0, none⟩) (n + 1) c10]) (by rw [HOPS.out]; rfl) (by rw [HOPS.out]; kernel_rfl) (by exact fun _ _ _ h => h) (by rfl) (fun w1 hS => by go_simp) (HSI.out _ HB_we.out) ?_
    go_simp
    have F1 := (HX2.out.below HB_we.out).f3
    refine wpAnyT_one 12 (by rw [HOPS.out]; rfl) (by rw [HOPS.out]; kernel_rfl) ?_
    intro K' hK
    have HK := Lib.hid hK
    clear hK
    go_simp
    refine HK.out _ _ (.inl (by decide)) ?_
    clear HK
    go_simp
    refine wpAnyT_done (by rw [HOPS.out]; kernel_rfl) ?_ _
    go_wp2_with fail
    refine bodyPost_ret (v := .agg #[.int .i64 b, .int .i64 s, .slice (some ⟨g10, 0, none⟩) (n + 1) c10]) (by simp [results, Tryz.results280, go_sem, F1]) rfl ?_
    have hch := put_chg (g := w.heap.size + 1 + 1) [.int .i64 b, .int .i64 s, .slice (some ⟨g10, 0, none⟩) (n + 1) c10] 0 (Chg.refl (w.heap.size + 1 + 1) (w.heap.size + 1 + 1 + 1) we) (by omega) (by omega)
    have hsz := HB_we.out.size
    exact ⟨_, _, _, rfl, own_base (own_chg HO.out hch (fun b hb => .inr (by have := (HO.out.lt b hb).1; omega))) (by omega), by omega, below_chg (HB1.out.trans (HB_we.out.mono HB1.out.size)) hch (by omega) (by omega)⟩
end Go.Proofs.YtnpldahkhaacnaaGreatDoor

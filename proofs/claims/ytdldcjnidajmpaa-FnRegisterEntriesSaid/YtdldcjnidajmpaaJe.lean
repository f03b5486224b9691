/- Walks: the library's Concat of two slices of entries; withEntries, l33Add (chapter 33). -/
import Derived.Test.YtdldcjnidajmpaaJd
import Derived.Test.YtdldcjnidajmpaaRt
namespace Go.Proofs.Ytdldcjnidajmpaa
open Go.RowKit Go.Sort Go.Lib
set_option linter.unusedVariables false
set_option maxRecDepth 100000

def szK (n m k : Nat) : Nat := if k = 0 then 0 else if k = 1 then n else n + m
def catK (xs ys : List EntryT) (k : Nat) : List EntryT := if k = 0 then [] else if k = 1 then xs else xs ++ ys
set_option maxHeartbeats 2000000 in
theorem concat_any (V : Nat) (A : Option Addr) (n c : Nat) (xs : List EntryT) (B : Option Addr) (m d : Nat) (ys : List EntryT) (w : World) (hc0 : w.cell? ⟨V, 0, none⟩ = some (.slice A n c)) (hc1 : w.cell? ⟨V, 1, none⟩ = some (.slice B m d))
    (h1 : Rd w 7 A n (ents xs)) (h2 : Rd w 7 B m (ents ys)) (hnm : n + m ≤ 1048576) :
    Calls Try.prog 133 #[.slice (some ⟨V, 0, none⟩) 2 2] w (RetEntryS w (xs ++ ys)) := by
  have HC0 := Lib.hid (fun w' (hb : Below w.heap.size w w') => (hb.cell (p := ⟨V, 0, none⟩) (cell_lt hc0)).trans hc0)
  have HC1 := Lib.hid (fun w' (hb : Below w.heap.size w w') => (hb.cell (p := ⟨V, 1, none⟩) (cell_lt hc1)).trans hc1)
  have HR1 := Lib.hid (fun w' (hb : Below w.heap.size w w') => h1.below hb)
  have HR2 := Lib.hid (fun w' (hb : Below w.heap.size w w') => h2.below hb)
  clear h1 h2
  go_enter Try.func133, Try.ntmps133
  go_wp2_with fail
  go_loop [3, 11] (fun s i => ∃ k : Nat, k ≤ 2 ∧ i = .int .i64 k ∧ s = .int .i64 (szK n m k)) (fun _ i => 2 - (intOf i).toNat)
  case atStart => exact ⟨0, by omega, rfl, rfl⟩
  case round =>
    obtain ⟨k, hk, rfl, rfl⟩ := hrel
    rcases (by omega : k = 0 ∨ k = 1 ∨ k = 2) with rfl | rfl | rfl
    · have e0 : szK n m 0 = 0 := rfl
      rw [e0]
      go_wp2_with fail
      go_round
      case rel => exact ⟨1, by omega, by go_num, by simp [szK]⟩
      case measure => simp [intOf] <;> omega
    · have e1 : szK n m 1 = n := rfl
      rw [e1]
      go_wp2_with fail
      go_round
      case rel => exact ⟨2, by omega, by go_num, by simp [szK] <;> omega⟩
      case measure => simp [intOf] <;> omega
    · have e2 : szK n m 2 = n + m := rfl
      rw [e2]
      have hg := grow_any (n + m) hnm w
      rw [Int.natCast_add] at hg
      have HG := Lib.hid hg
      clear hg
      go_wp2_with fail
      refine HG.out.mono ?_
      rintro e w1 ⟨A0, c0, rfl, ho, hb⟩
      have HO1 := Lib.hid ho
      have HB1 := Lib.hid hb
      clear ho hb HG hc0 hc1
      go_wp2_with fail
      go_loopw [6, 27] (fun s i wr => ∃ (k c' : Nat) (A' : Option Addr), k ≤ 2 ∧ i = .int .i64 k ∧ s = .slice A' (szK n m k) c' ∧ Hid (wr.ownsRow w.heap.size 66 7 (.slice A' (szK n m k) c') (szK n m k) (ents (catK xs ys k))) ∧ Hid (Below w.heap.size w wr)) (fun _ i _ => 2 - (intOf i).toNat)
      case atStart => exact ⟨0, c0, A0, by omega, rfl, rfl, HO1, HB1⟩
      case round =>
        clear HO1 HB1
        obtain ⟨k, c', A', hk, rfl, rfl, HO, HB⟩ := hrel
        have q0 := HC0.out _ HB.out
        have q1 := HC1.out _ HB.out
        rcases (by omega : k = 0 ∨ k = 1 ∨ k = 2) with rfl | rfl | rfl
        · have e0 : szK n m 0 = 0 := rfl
          have E0 : catK xs ys 0 = [] := rfl
          rw [e0, E0] at HO
          rw [e0]
          go_wp2_with (at_builtin; refine wpl_apps _ rfl _ _ rfl rfl HO.out rfl (HR1.out _ HB.out) (by omega) HB.out.size ?_; intro A1 c1 w2 ho2 hg2; simp only [Nat.zero_add, List.nil_append] at ho2 ⊢)
          have HO2 := Lib.hid ho2
          have HB2 := Lib.hid (HB.out.grown hg2 HB.out.size (fun k hk => (HO.out.lt k hk).1))
          clear ho2 hg2
          go_roundw
          case rel => exact ⟨1, c1, A1, by omega, by go_num, rfl, HO2, HB2⟩
          case measure => simp [intOf] <;> omega
        · have e0 : szK n m 1 = n := rfl
          have E0 : catK xs ys 1 = xs := rfl
          rw [e0, E0] at HO
          rw [e0]
          go_wp2_with (at_builtin; refine wpl_apps _ rfl _ _ rfl rfl HO.out rfl (HR2.out _ HB.out) (by omega) HB.out.size ?_; intro A1 c1 w2 ho2 hg2)
          have HO2 := Lib.hid ho2
          have HB2 := Lib.hid (HB.out.grown hg2 HB.out.size (fun k hk => (HO.out.lt k hk).1))
          clear ho2 hg2
          go_roundw
          case rel => exact ⟨2, c1, A1, by omega, by go_num, rfl, HO2, HB2⟩
          case measure => simp [intOf] <;> omega
        · have e0 : szK n m 2 = n + m := rfl
          have E0 : catK xs ys 2 = xs ++ ys := rfl
          rw [e0, E0] at HO
          rw [e0]
          go_wp2_with fail
          go_ret
          exact ⟨_, _, _, rfl, HO.out, hnm, HB.out⟩
end Go.Proofs.Ytdldcjnidajmpaa

/- Walks: slices.Repeat of one number (chapter 32). -/
import Derived.Test.YtpaamhkgokkgpaaWx
import Derived.Laws.CopyOwn
import Derived.Deep.RegionLaw
import Derived.Deep.LoopGhost
import Derived.IntWalk
import Derived.Outline
namespace Go.Proofs.Ytpaamhkgokkgpaa
open Go.RowKit
set_option linter.unusedVariables false
set_option maxRecDepth 100000

theorem mul_any (n : Nat) (hn : n ≤ 100) (w : World) :
    Calls Try.prog 97 #[.int .u64 1, .int .u64 (n : Int)] w fun e w' => e = .returned (.tuple #[.int .u64 0, .int .u64 (n : Int)]) ∧ w = w' := by
  have b1 : bits BinOp.and IntKind.u64 (n : Int) 4294967295 = n := (by decide +kernel : ∀ k : Fin 101, bits BinOp.and IntKind.u64 ((k.val : Nat) : Int) 4294967295 = (k.val : Nat)) ⟨n, by omega⟩
  have b2 : bits BinOp.and IntKind.u64 1 4294967295 = 1 := by decide +kernel
  have b3 : bits BinOp.and IntKind.u64 0 4294967295 = 0 := by decide +kernel
  have b4 : IntKind.u64.wrap (n : Int) = n := (by decide +kernel : ∀ k : Fin 101, IntKind.u64.wrap ((k.val : Nat) : Int) = (k.val : Nat)) ⟨n, by omega⟩
  have b5 : IntKind.u64.wrap 0 = 0 := by decide +kernel
  have b6 : (n : Int) / 4294967296 = 0 := by omega
  go_enter Try.func97, Try.ntmps97
  go_wp2
  go_ret2
  exact ⟨rfl, rfl⟩
set_option maxHeartbeats 8000000 in
theorem repeat_any (A : Option Addr) (c : Nat) (v : Int) (n : Nat) (h1 : 1 ≤ n) (h2 : n ≤ 100) (w : World) (h : Rd w 1 A 1 (ints [v])) :
    Calls Try.prog 86 #[.slice A 1 c, .int .i64 (n : Int)] w (RetCopy w (List.replicate n v)) := by
  have hmk := run_make_i64 n (by omega)
  obtain ⟨b, o, x, rfl, hx, _, hc⟩ := h.int (k := 0) (by omega)
  simp at hx
  subst hx
  rw [Nat.add_zero] at hc
  have hblt := cell_lt hc
  simp only at hblt
  go_enter Try.func86, Try.ntmps86
  go_wp2_with fail
  refine (mul_any n h2 _).mono ?_
  rintro e w' ⟨rfl, rfl⟩
  have hm0 : (madeCells #[.int .i64 0] n) = (List.replicate n (Value.int .i64 0)).toArray := by rw [← toList_madeCells_one, Array.toArray_toList]
  have hg0 : (w.alloc (.cells (madeCells #[.int .i64 0] n) 2)).heap[w.heap.size]? = some (.cells (List.replicate n (Value.int .i64 0)).toArray 2 (0, 0)) := by
    rw [← hm0]
    show (w.heap.push _)[w.heap.size]? = _
    simp
  have hb0 : Below w.heap.size w (w.alloc (.cells (madeCells #[.int .i64 0] n) 2)) := (Below.refl _ _).alloc (Nat.le_refl _) _
  have hc1 := (hb0.cell (p := ⟨b, o, none⟩) hblt).trans hc
  have HG0 := Lib.hid hg0
  have HB0 := Lib.hid hb0
  have hsrc : ∀ (j : Nat) (u : Value), [Value.int .i64 v][j]? = some u → (w.alloc (.cells (madeCells #[.int .i64 0] n) 2)).cell? ((⟨b, o, none⟩ : Addr).add j) = some u := by
    intro j u hu
    cases j with
    | zero => simp at hu; subst hu; simpa [Addr.add] using hc1
    | succ j => simp at hu
  have hone : ∀ u ∈ [Value.int .i64 v], u.oneCell' = true := by intro u hu; simp at hu; subst hu; rfl
  have HSRC := Lib.hid hsrc
  have HONE := Lib.hid hone
  have hlen1 : ([Value.int .i64 v] : List Value).length = Nat.min 1 n := by show 1 = min 1 n; omega
  have hfit1 : 0 + ([Value.int .i64 v] : List Value).length ≤ (List.replicate n (Value.int .i64 0)).length := by simp; omega
  have HL1 := Lib.hid hlen1
  have HF1 := Lib.hid hfit1
  clear hm0 hg0 hb0 hc1 hc h hsrc hone hlen1 hfit1
  go_wp2_with ((refine wpList_copy_splice rfl _ _ 36 36 rfl 2 Try.underlying36 (by kernel_rfl) _ _ _ _ _ _ rfl rfl w.heap.size 0 (List.replicate n (Value.int .i64 0)) 2 HG0.out [.int .i64 v] HL1.out (fun _ => ⟨rfl, ⟨b, o, none⟩, rfl, HSRC.out⟩) HF1.out HONE.out w.heap.size w HB0.out (Nat.le_refl _) ?_); intro w2 hg2 hb2)
  have hsp : splice (List.replicate n (Value.int .i64 0)) 0 [Value.int .i64 v] = List.replicate 1 (Value.int .i64 v) ++ List.replicate (n - 1) (Value.int .i64 0) := by simp [splice]
  rw [hsp] at hg2
  clear hsp HSRC HONE HL1 HF1 HG0 HB0 hmk
  go_loopg [8] (n - 1) (fun q s wr => ∃ k : Nat, 1 ≤ k ∧ k ≤ n ∧ q = n - k ∧ s = .int .i64 k ∧ Hid (wr.heap[w.heap.size]? = some (.cells (List.replicate k (Value.int .i64 v) ++ List.replicate (n - k) (Value.int .i64 0)).toArray 2 (0, 0))) ∧ Below w.heap.size w wr)
  case atStart => exact ⟨1, Nat.le_refl _, h1, rfl, rfl, hg2, hb2⟩
  case round =>
    clear hg2 hb2
    obtain ⟨k, hk1, hk2, hq, rfl, hg, hb⟩ := hrel
    have HQ := Lib.hid hq
    clear hq
    by_cases hlt : k < n
    · have hB := Lib.hid (below_drewN hb 1)
      obtain ⟨m, hm⟩ : ∃ m, m = Nat.min k (n - k) := ⟨_, rfl⟩
      have hm1 : m ≤ k := by rw [hm]; exact Nat.min_le_left _ _
      have hm2 : m ≤ n - k := by rw [hm]; exact Nat.min_le_right _ _
      have hm3 : 1 ≤ m := by rw [hm]; exact Nat.le_min.2 ⟨hk1, by omega⟩
      have hcell : ∀ j, j < k → (wr.drewN 1).cell? ⟨w.heap.size, j, none⟩ = some (.int .i64 v) := by
        intro j hj
        have hg' : (wr.drewN 1).heap[w.heap.size]? = some (.cells (List.replicate k (Value.int .i64 v) ++ List.replicate (n - k) (Value.int .i64 0)).toArray 2 (0, 0)) := hg.out
        simp only [World.cell?, hg']
        simp [List.getElem?_append_left (show j < (List.replicate k (Value.int .i64 v)).length by simpa using hj), hj]
      have hsrc : ∀ (j : Nat) (u : Value), (List.replicate m (Value.int .i64 v))[j]? = some u → (wr.drewN 1).cell? ((⟨w.heap.size, 0, none⟩ : Addr).add j) = some u := by
        intro j u hu
        obtain ⟨hj, hv⟩ := List.getElem?_eq_some_iff.1 hu
        have hadd : (⟨w.heap.size, 0, none⟩ : Addr).add j = ⟨w.heap.size, 0 + j, none⟩ := by unfold Addr.add; split <;> simp_all
        simp at hv hj
        rw [hadd, Nat.zero_add, hcell j (by omega), hv]
      have hone : ∀ u ∈ List.replicate m (Value.int .i64 v), u.oneCell' = true := by intro u hu; rw [List.eq_of_mem_replicate hu]; rfl
      have hlen1 : (List.replicate m (Value.int .i64 v)).length = Nat.min k (n - k) := by simp [← hm]
      have hfit1 : k + (List.replicate m (Value.int .i64 v)).length ≤ (List.replicate k (Value.int .i64 v) ++ List.replicate (n - k) (Value.int .i64 0)).length := by simp; omega
      have hsp : splice (List.replicate k (Value.int .i64 v) ++ List.replicate (n - k) (Value.int .i64 0)) k (List.replicate m (Value.int .i64 v)) = List.replicate (k + m) (Value.int .i64 v) ++ List.replicate (n - (k + m)) (Value.int .i64 0) := by
        unfold splice
        rw [List.take_append_of_le_length (by simp), List.take_of_length_le (by simp), List.length_replicate, List.drop_append, List.drop_of_length_le (by simp), List.nil_append, List.length_replicate, List.drop_replicate, ← List.append_assoc, List.replicate_append_replicate]
        congr 2
        omega
      have hgd : (wr.drewN 1).heap[w.heap.size]? = some (.cells (List.replicate k (Value.int .i64 v) ++ List.replicate (n - k) (Value.int .i64 0)).toArray 2 (0, 0)) := hg.out
      have HGD := Lib.hid hgd
      have hnk : ¬ n = k := by omega
      have hwr : IntKind.i64.wrap ((k : Int) + (m : Int)) = (k : Int) + (m : Int) := IntWalk.i64_in _ (by omega)
      have hkn : ¬ k = n := by omega
      clear hgd
      have HS := Lib.hid hsrc; have HO := Lib.hid hone; have HL := Lib.hid hlen1; have HF := Lib.hid hfit1; have HSP := Lib.hid hsp; have HM := Lib.hid hm
      have hgl : (goInt (List.replicate m (Value.int .i64 v)).length) = .int .i64 (m : Int) := by rw [List.length_replicate]; rfl
      have HGL := Lib.hid hgl
      clear hsrc hone hlen1 hfit1 hsp hm hcell hgl hb
      go_wp2_with fail
      go_region_law ((refine step_copy_splice rfl (.tmp 41) (.tmp 44) 36 36 rfl 2 Try.underlying36 (by kernel_rfl) _ _ _ _ _ _ rfl rfl w.heap.size k (List.replicate k (Value.int .i64 v) ++ List.replicate (n - k) (Value.int .i64 0)) 2 HGD.out (List.replicate m (Value.int .i64 v)) HL.out (fun _ => ⟨rfl, ⟨w.heap.size, 0, none⟩, rfl, HS.out⟩) HF.out HO.out w.heap.size w hB.out (Nat.le_refl _) ?_; intro w3 hg3 hb3; rw [HGL.out]))
      all_goals
        rw [HSP.out] at hg3
        have HG3 := Lib.hid hg3
        clear hg3
        go_wp2_with fail
        go_roundg (n - (k + m))
        case measure => have := HQ.out; omega
        case rel => exact ⟨k + m, by omega, by omega, rfl, by go_num, HG3.out, hb3⟩
    · obtain rfl : k = n := by omega
      go_wp2_with fail
      go_ret
      refine ⟨_, k, k, rfl, ?_, by omega, hb⟩
      have hg' := hg.out
      rw [Nat.sub_self, List.replicate_zero, List.append_nil] at hg'
      rw [ints_replicate]
      exact ⟨by simp, .inr ⟨w.heap.size, k, _, rfl, Nat.le_refl _, hg', Nat.le_refl _, by unfold maxLen; omega, by simp, by simp⟩⟩
end Go.Proofs.Ytpaamhkgokkgpaa

/- One byte before bytes: append([]byte{k}, digits...). -/
import Derived.Test.YthlnoahjfllhfaaGreatDoorQj
import Derived.Test.YthlnoahjfllhfaaGreatDoorQc
import Derived.Maps.AppendAt
import Derived.Lib.AppendZeros
namespace Go.Proofs.YthlnoahjfllhfaaGreatDoor
open Go.RowKit Go.Lib
set_option linter.unusedVariables false
set_option maxRecDepth 100000

def u8s (xs : List Int) : List Value := xs.map (Value.int .u8)
theorem u8s_length (xs : List Int) : (u8s xs).length = xs.length := by simp [u8s]
theorem u8s_get {xs : List Int} {k : Nat} {x : Int} (h : xs[k]? = some x) : (u8s xs)[k]? = some (.int .u8 x) := by simp [u8s, h]
theorem Tryz.info_byte : (Tryz.prog.info? 5).map (fun i => (i.zero, i.size, i.bytes)) = some (some (.int .u8 0), 1, 1) := by kernel_rfl
theorem u8s_one (ys : List Int) : ∀ u ∈ u8s ys, u.oneCell' = true := by
  intro u hu
  unfold u8s at hu
  obtain ⟨y, _, rfl⟩ := List.mem_map.1 hu
  rfl
theorem u8s_news {w : World} {b o m : Nat} {ys : List Int} (h : Rd w 1 (some ⟨b, o, none⟩) m (u8s ys)) : ∀ (j : Nat) (u : Value), (u8s ys)[j]? = some u → w.cell? ((⟨b, o, none⟩ : Addr).add j) = some u := by
  intro j u hu
  have hl := h.len
  have hj := (List.getElem?_eq_some_iff.1 hu).1
  obtain ⟨b', o', e, hc⟩ := h.pos (by omega)
  injection e with e
  injection e with e1 e2
  subst e1 e2
  have hadd : (⟨b, o, none⟩ : Addr).add j = ⟨b, o + j, none⟩ := by unfold Addr.add; split <;> simp_all
  rw [hadd]
  exact hc j u hu
theorem run_append_zeroB (w : World) (ty : TypeId) (A : Option Addr) (n c : Nat) (hnc : n ≤ c) (B : Option Addr) (d : Nat) :
    (Builtin.append_ #[45, 45] ty #[.slice A n c, .slice B 0 d]).run Tryz.prog w = .ok (.slice A n c) w := by
  obtain ⟨i, hi, hz, hs1, hb1⟩ := info_parts Tryz.info_byte
  cases A <;> cases B <;>
    simp [Builtin.append_, run_underlying Tryz.underlying45, sizeOf, typeInfo, hi, Builtin.lenOf, Builtin.firstCells, loadCells, loadCellsFrom, storeCells, hnc]
theorem run_code (w : World) (ty : TypeId) {base g0 : Nat} {k : Int} (hown : w.ownsRow base 5 1 (.slice (some ⟨g0, 0, none⟩) 1 1) 1 (u8s [k])) {A : Option Addr} {n d : Nat} {code : List Int}
    (hr : Rd w 1 A n (u8s code)) (hn : n ≤ 8192) (hbase : base ≤ w.heap.size) :
    ∃ A' c' w', (Builtin.append_ #[45, 45] ty #[.slice (some ⟨g0, 0, none⟩) 1 1, .slice A n d]).run Tryz.prog w = .ok (.slice A' (1 + n) c') w' ∧ w'.ownsRow base 5 1 (.slice A' (1 + n) c') (1 + n) (u8s (k :: code)) ∧ w.grownBy w' (some g0) := by
  have hl : (u8s code).length = n := by have := hr.len; omega
  rcases Nat.eq_zero_or_pos n with h0 | h0
  · subst h0
    have hy : code = [] := by
      have : code.length = 0 := by rwa [u8s_length] at hl
      exact List.eq_nil_of_length_eq_zero this
    subst hy
    exact ⟨_, 1, w, run_append_zeroB w ty _ 1 1 (Nat.le_refl _) A d, hown, World.grownBy.refl _ _⟩
  · obtain ⟨b, f, rfl, _⟩ := hr.pos (by omega)
    obtain ⟨i, hi, hz, hs1, hb1⟩ := info_parts Tryz.info_byte
    obtain ⟨v', w', h1, h2, h3, _, _⟩ := run_append_own_at (P := Tryz.prog) w base 45 ty 5 i (.int .u8 0) 1 1 Tryz.underlying45 hi hz hs1 hb1 rfl (by decide) (.slice (some ⟨g0, 0, none⟩) 1 1) 1 (u8s [k]) hown ⟨b, f, none⟩ n d (u8s code) (by rw [hl]; omega) (u8s_news hr) (u8s_one code) (by unfold maxLen; omega) (by omega) hbase
    have e : u8s [k] ++ u8s code = u8s (k :: code) := rfl
    rw [e] at h2
    rcases h2.2 with ⟨hv, hm⟩ | ⟨g', c', cur, hv, _⟩
    · omega
    · subst hv
      exact ⟨_, c', w', h1, h2, h3⟩
section
variable {ops : Array Oper} {rest : List Oper} {o : Oper} {a : Act} {Q : Exit → Act → World → Prop}
theorem wpl_code (w : World) (hgd : o.guard = none) (s x : Operand)
    (ho : o.op = .call { callee := .builtin .append, args := #[s, x], argTypes := #[45, 45] }) {base g0 : Nat} {k : Int}
    (hs : a.eval s = .slice (some ⟨g0, 0, none⟩) 1 1) (hown : w.ownsRow base 5 1 (.slice (some ⟨g0, 0, none⟩) 1 1) 1 (u8s [k])) {A : Option Addr} {n d : Nat} {code : List Int} (hx : a.eval x = .slice A n d)
    (hr : Rd w 1 A n (u8s code)) (hn : n ≤ 8192) (hbase : base ≤ w.heap.size)
    (h : ∀ A' c' w', w'.ownsRow base 5 1 (.slice A' (1 + n) c') (1 + n) (u8s (k :: code)) → w.grownBy w' (some g0) → wpList Tryz.prog ops Q rest (a.put o.dst (.slice A' (1 + n) c')) w') :
    wpList Tryz.prog ops Q (o :: rest) a w := by
  obtain ⟨A', c', w', h1, h2, h3⟩ := run_code w o.type hown hr (d := d) hn hbase
  exact Lib.wpList_append_run w hgd s x _ _ ho _ _ hs hx _ w' h1 (h A' c' w' h2 h3)
end
/-- Bytes as numbers. -/
def b8 (B : List UInt8) : List Int := B.map fun c => (c.toNat : Int)
theorem b8_len (B : List UInt8) : (b8 B).length = B.length := by simp [b8]
theorem b8_str (B : List UInt8) : strOfNums (b8 B) = str B := by
  unfold strOfNums str b8
  congr 1
  congr 1
  rw [List.map_map]
  refine (List.map_congr_left fun c _ => ?_).trans (List.map_id B)
  simp
theorem b8_dgt (n : Nat) (B : List UInt8) : b8 (dgt n :: B) = (48 + (n : Int) % 10) :: b8 B := by
  unfold b8
  rw [List.map_cons, dgt_nat]
  congr 1
theorem lit_one (w : World) (base : Nat) (k : Int) (hb : base ≤ w.heap.size) : (w.alloc (.cells #[.int .u8 k] 5)).ownsRow base 5 1 (.slice (some ⟨w.heap.size, 0, none⟩) 1 1) 1 (u8s [k]) := by
  have := World.ownsRow_lit (base := base) (e := 5) (size := 1) w #[.int .u8 k] 1 hb (by unfold maxLen; omega) (by simp)
  simpa [u8s] using this
/-- A string out of a row of bytes. -/
theorem convN {w : World} {base m c : Nat} {A : Option Addr} {B : List UInt8} (h : w.ownsRow base 5 1 (.slice A m c) m (u8s (b8 B))) (hm : 0 < m) : (convert 45 9 (.slice A m c)).run Tryz.prog w = .ok (.string (str B)) w := by
  have hr := own_rd h
  obtain ⟨b, o, rfl, hc⟩ := hr.pos hm
  have hl : (b8 B).length = m := by have := hr.len; rw [u8s_length] at this; omega
  have hx := run_convert_bytes_arg (P := Tryz.prog) w 45 5 Tryz.underlying45 Tryz.underlying5 b o m c (b8 B) hl (fun i hi => by
    have h1 : (b8 B)[i]? = some ((b8 B).getD i 0) := by simp [List.getD, List.getElem?_eq_getElem (show i < (b8 B).length by omega)]
    exact hc i _ (u8s_get h1)) 9 Tryz.underlying9
  rw [hx, b8_str]
end Go.Proofs.YthlnoahjfllhfaaGreatDoor

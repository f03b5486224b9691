/- General and plain lemmas, and light walks (merged): Qac Qm Qk Qn Ql Ms Wx Ss Wy Tb Tp. -/
import Derived.Test.YtalgdeieejpelaaGreatDoorZma
import Derived.Test.YtalgdeieejpelaaGreatDoorU8
import Derived.Maps.AppendAt
import Derived.Lib.AppendZeros
/- One byte before bytes: append([]byte{k}, digits...). -/
namespace Go.Proofs.YtalgdeieejpelaaGreatDoor
open Go.RowKit Go.Lib
set_option linter.unusedVariables false
set_option maxRecDepth 100000

theorem Tryz.info_byte : (Tryz.prog.info? 5).map (fun i => (i.zero, i.size, i.bytes)) = some (some (.int .u8 0), 1, 1) := by kernel_rfl
theorem u8s_one (ys : List Int) : ∀ u ∈ u8s ys, u.oneCell' = true := by
  intro u hu
  unfold u8s at hu
  obtain ⟨y, _, rfl⟩ := List.mem_map.1 hu
  rfl
theorem u8s_news {w : World} {b o m : Nat} {ys : List Int} (h : Rd w 1 (some ⟨b, o, none⟩) m (u8s ys)) : ∀ (j : Nat) (u : Value), (u8s ys)[j]? = some u → w.cell? ((⟨b, o, none⟩ : Addr).add j) = some u := by
  intro j u hu
  have hl := h.len
  have hj := (List.getElem?_eq_some_iff.1 hu).1
  obtain ⟨b', o', e, hc⟩ := h.pos (by omega)
  injection e with e
  injection e with e1 e2
  subst e1 e2
  have hadd : (⟨b, o, none⟩ : Addr).add j = ⟨b, o + j, none⟩ := by unfold Addr.add; split <;> simp_all
  rw [hadd]
  exact hc j u hu
theorem run_append_zeroB (w : World) (ty : TypeId) (A : Option Addr) (n c : Nat) (hnc : n ≤ c) (B : Option Addr) (d : Nat) :
    (Builtin.append_ #[22, 22] ty #[.slice A n c, .slice B 0 d]).run Tryz.prog w = .ok (.slice A n c) w := by
  obtain ⟨i, hi, hz, hs1, hb1⟩ := info_parts Tryz.info_byte
  cases A <;> cases B <;>
    simp [Builtin.append_, run_underlying Tryz.underlying22, sizeOf, typeInfo, hi, Builtin.lenOf, Builtin.firstCells, loadCells, loadCellsFrom, storeCells, hnc]
theorem run_code (w : World) (ty : TypeId) {base g0 : Nat} {k : Int} (hown : w.ownsRow base 5 1 (.slice (some ⟨g0, 0, none⟩) 1 1) 1 (u8s [k])) {A : Option Addr} {n d : Nat} {code : List Int}
    (hr : Rd w 1 A n (u8s code)) (hn : n ≤ 8192) (hbase : base ≤ w.heap.size) :
    ∃ A' c' w', (Builtin.append_ #[22, 22] ty #[.slice (some ⟨g0, 0, none⟩) 1 1, .slice A n d]).run Tryz.prog w = .ok (.slice A' (1 + n) c') w' ∧ w'.ownsRow base 5 1 (.slice A' (1 + n) c') (1 + n) (u8s (k :: code)) ∧ w.grownBy w' (some g0) := by
  have hl : (u8s code).length = n := by have := hr.len; omega
  rcases Nat.eq_zero_or_pos n with h0 | h0
  · subst h0
    have hy : code = [] := by
      have : code.length = 0 := by rwa [u8s_length] at hl
      exact List.eq_nil_of_length_eq_zero this
    subst hy
    exact ⟨_, 1, w, run_append_zeroB w ty _ 1 1 (Nat.le_refl _) A d, hown, World.grownBy.refl _ _⟩
  · obtain ⟨b, f, rfl, _⟩ := hr.pos (by omega)
    obtain ⟨i, hi, hz, hs1, hb1⟩ := info_parts Tryz.info_byte
    obtain ⟨v', w', h1, h2, h3, _, _⟩ := run_append_own_at (P := Tryz.prog) w base 22 ty 5 i (.int .u8 0) 1 1 Tryz.underlying22 hi hz hs1 hb1 rfl (by decide) (.slice (some ⟨g0, 0, none⟩) 1 1) 1 (u8s [k]) hown ⟨b, f, none⟩ n d (u8s code) (by rw [hl]; omega) (u8s_news hr) (u8s_one code) (by unfold maxLen; omega) (by omega) hbase
    have e : u8s [k] ++ u8s code = u8s (k :: code) := rfl
    rw [e] at h2
    rcases h2.2 with ⟨hv, hm⟩ | ⟨g', c', cur, hv, _⟩
    · omega
    · subst hv
      exact ⟨_, c', w', h1, h2, h3⟩
section
variable {ops : Array Oper} {rest : List Oper} {o : Oper} {a : Act} {Q : Exit → Act → World → Prop}
theorem wpl_code (w : World) (hgd : o.guard = none) (s x : Operand)
    (ho : o.op = .call { callee := .builtin .append, args := #[s, x], argTypes := #[22, 22] }) {base g0 : Nat} {k : Int}
    (hs : a.eval s = .slice (some ⟨g0, 0, none⟩) 1 1) (hown : w.ownsRow base 5 1 (.slice (some ⟨g0, 0, none⟩) 1 1) 1 (u8s [k])) {A : Option Addr} {n d : Nat} {code : List Int} (hx : a.eval x = .slice A n d)
    (hr : Rd w 1 A n (u8s code)) (hn : n ≤ 8192) (hbase : base ≤ w.heap.size)
    (h : ∀ A' c' w', w'.ownsRow base 5 1 (.slice A' (1 + n) c') (1 + n) (u8s (k :: code)) → w.grownBy w' (some g0) → wpList Tryz.prog ops Q rest (a.put o.dst (.slice A' (1 + n) c')) w') :
    wpList Tryz.prog ops Q (o :: rest) a w := by
  obtain ⟨A', c', w', h1, h2, h3⟩ := run_code w o.type hown hr (d := d) hn hbase
  exact Lib.wpList_append_run w hgd s x _ _ ho _ _ hs hx _ w' h1 (h A' c' w' h2 h3)
end
/-- Bytes as numbers. -/
def b8 (B : List UInt8) : List Int := B.map fun c => (c.toNat : Int)
theorem b8_len (B : List UInt8) : (b8 B).length = B.length := by simp [b8]
theorem b8_str (B : List UInt8) : strOfNums (b8 B) = str B := by
  unfold strOfNums str b8
  congr 1
  congr 1
  rw [List.map_map]
  refine (List.map_congr_left fun c _ => ?_).trans (List.map_id B)
  simp
theorem b8_dgt (n : Nat) (B : List UInt8) : b8 (dgt n :: B) = (48 + (n : Int) % 10) :: b8 B := by
  unfold b8
  rw [List.map_cons, dgt_nat]
  congr 1
theorem lit_one (w : World) (base : Nat) (k : Int) (hb : base ≤ w.heap.size) : (w.alloc (.cells #[.int .u8 k] 5)).ownsRow base 5 1 (.slice (some ⟨w.heap.size, 0, none⟩) 1 1) 1 (u8s [k]) := by
  have := World.ownsRow_lit (base := base) (e := 5) (size := 1) w #[.int .u8 k] 1 hb (by unfold maxLen; omega) (by simp)
  simpa [u8s] using this
/-- A string out of a row of bytes. -/
theorem convN {w : World} {base m c : Nat} {A : Option Addr} {B : List UInt8} (h : w.ownsRow base 5 1 (.slice A m c) m (u8s (b8 B))) (hm : 0 < m) : (convert 22 9 (.slice A m c)).run Tryz.prog w = .ok (.string (str B)) w := by
  have hr := own_rd h
  obtain ⟨b, o, rfl, hc⟩ := hr.pos hm
  have hl : (b8 B).length = m := by have := hr.len; rw [u8s_length] at this; omega
  have hx := run_convert_bytes_arg (P := Tryz.prog) w 22 5 Tryz.underlying22 Tryz.underlying5 b o m c (b8 B) hl (fun i hi => by
    have h1 : (b8 B)[i]? = some ((b8 B).getD i 0) := by simp [List.getD, List.getElem?_eq_getElem (show i < (b8 B).length by omega)]
    exact hc i _ (u8s_get h1)) 9 Tryz.underlying9
  rw [hx, b8_str]
end Go.Proofs.YtalgdeieejpelaaGreatDoor

/- Walks: numbers as texts and texts as numbers (the reference's second pair). -/
namespace Go.Proofs.YtalgdeieejpelaaGreatDoor
open Go.RowKit Go.Sort
set_option linter.unusedVariables false
set_option maxRecDepth 100000

def lenS : Value → Nat
  | .slice _ n _ => n
  | _ => 0
set_option maxHeartbeats 2000000 in
theorem number26_any (n : Nat) (hn : n ≤ 1000000000000) (w : World) :
    Calls Tryz.prog 26 #[.int .i64 n] w fun e w' => e = .returned (.string (str (dec n))) ∧ Below w.heap.size w w' := by
  go_enter Tryz.func26, Tryz.ntmps26
  go_wp2_with fail
  have HO0 := Lib.hid (show (w.alloc (.cells #[] 5)).ownsRow w.heap.size 5 1 (.slice (some ⟨w.heap.size, 0, none⟩) 0 0) 0 (u8s (b8 [])) from own_emptyS w w.heap.size 5 1 (Nat.le_refl _))
  have HB0 := Lib.hid ((Below.refl w.heap.size w).alloc (Nat.le_refl _) (.cells #[] 5))
  go_loopw [3, 4] (fun d r wr => ∃ (m c x : Nat) (A : Option Addr) (B : List UInt8), x ≤ 1000000000000 ∧ m + 1 ≤ 20 ∧ d = .slice A m c ∧ r = .int .i64 x ∧ Hid ((x = 0 ∧ 0 < m ∧ B = dec n) ∨ ((0 < x ∨ m = 0) ∧ dec x ++ B = dec n ∧ (dec x).length + m ≤ 13)) ∧ Hid (wr.ownsRow w.heap.size 5 1 (.slice A m c) m (u8s (b8 B))) ∧ Hid (Below w.heap.size w wr)) (fun d r _ => 2 * (intOf r).toNat + (1 - lenS d))
  case atStart => exact ⟨0, 0, n, _, [], hn, by omega, rfl, rfl, Lib.hid (.inr ⟨.inr rfl, by simp, dec_len 12 n (by omega)⟩), HO0, HB0⟩
  case round =>
    clear HO0 HB0
    obtain ⟨m, c, x, A, B, hx, hm, rfl, rfl, HI, HO, HB⟩ := hrel
    obtain ⟨wo, hwo⟩ : ∃ wo : World, wo = wr := ⟨_, rfl⟩
    subst hwo
    by_cases hgo : 0 < x ∨ m = 0
    · obtain ⟨hi, hi13⟩ : dec x ++ B = dec n ∧ (dec x).length + m ≤ 13 := by
        rcases HI.out with h | h
        · omega
        · exact h.2
      have HI2 := Lib.hid (show (x / 10 = 0 ∧ 0 < m + 1 ∧ dgt x :: B = dec n) ∨ ((0 < x / 10 ∨ m + 1 = 0) ∧ dec (x / 10) ++ (dgt x :: B) = dec n ∧ (dec (x / 10)).length + (m + 1) ≤ 13) from by
        by_cases h10 : x < 10
        · rw [dec_small h10] at hi
          exact .inl ⟨by omega, by omega, hi⟩
        · rw [dec_big h10] at hi hi13
          simp at hi13
          exact .inr ⟨.inl (by omega), by rw [← hi]; simp, by omega⟩)
      have hbs := HB.out.size
      have HOW := Lib.hid (lit_one wo w.heap.size (48 + (x : Int) % 10) hbs)
      have HRD := Lib.hid ((own_rd HO.out).below ((Below.refl wo.heap.size wo).alloc (Nat.le_refl _) (.cells #[.int .u8 (48 + (x : Int) % 10)] 5)))
      have hm13 : m ≤ 13 := by omega
      clear hi hi13 HI
      by_cases h0 : 0 < x
      · have hxd : decide (0 < x) = true := by simpa using h0
        have hxd2 : decide ((0 : Int) < (x : Int)) = true := by simp; omega
        clear hgo
        go_wp2_with (at_builtin; refine wpl_code _ rfl _ _ rfl rfl HOW.out rfl HRD.out (by omega) ?cBa ?_; rotate_left; intro A9 c9 w9 hown9 hgr9)
        · have HB9 := Lib.hid ((HB.out.alloc hbs _).grown hgr9 (by simp; omega) (fun j hj => by injection hj with hj; omega))
          rw [show 1 + m = m + 1 from by omega, ← b8_dgt] at hown9
          have HO9 := Lib.hid hown9
          clear hown9 hgr9
          go_roundw
          case rel => exact ⟨m + 1, c9, x / 10, A9, dgt x :: B, by omega, by omega, by go_num, by go_num, HI2, HO9, HB9⟩
          case measure => simp [intOf, lenS] <;> omega
        · first | omega | (simp; omega)
      · obtain rfl : x = 0 := by omega
        obtain rfl : m = 0 := by omega
        clear hgo h0
        go_wp2_with (at_builtin; refine wpl_code _ rfl _ _ rfl rfl HOW.out rfl HRD.out (by omega) ?cBb ?_; rotate_left; intro A9 c9 w9 hown9 hgr9)
        · have HB9 := Lib.hid ((HB.out.alloc hbs _).grown hgr9 (by simp; omega) (fun j hj => by injection hj with hj; omega))
          rw [← b8_dgt] at hown9
          have HO9 := Lib.hid hown9
          clear hown9 hgr9
          go_roundw
          case rel => exact ⟨1, c9, 0, A9, dgt 0 :: B, by omega, by omega, by go_num, by go_num, HI2, HO9, HB9⟩
          case measure => simp [intOf, lenS] <;> omega
        · first | omega | (simp; omega)
    · have hx0 : x = 0 := by omega
      subst hx0
      have hm0 : 0 < m := by omega
      have hB : B = dec n := by rcases HI.out with h | h; exact h.2.2; omega
      have hmb : ((m : Int) == 0) = false := by simp; omega
      have hcv := convN HO.out hm0
      rw [hB] at hcv
      have HCV := Lib.hid hB
      clear hgo hB HI
      go_wp2_with fail
      go_ret
      exact ⟨rfl, HB.out⟩
end Go.Proofs.YtalgdeieejpelaaGreatDoor

/- Walks: numbers out of words (the program's side). -/
namespace Go.Proofs.YtalgdeieejpelaaGreatDoor
open Go.RowKit Go.Sort
set_option linter.unusedVariables false
set_option maxRecDepth 100000

/-- The library's error variables hold errors. -/
def ErrV (w : World) : Prop := (∃ te pe, w.cell? ⟨2, 0, none⟩ = some (.iface te pe)) ∧ ∃ te pe, w.cell? ⟨3, 0, none⟩ = some (.iface te pe)
theorem ErrV.below {w w' : World} (h : ErrV w) (hb : Below w.heap.size w w') : ErrV w' := by
  obtain ⟨⟨a, b, h1⟩, c, d, h2⟩ := h
  exact ⟨⟨a, b, (hb.cell (cell_lt h1)).trans h1⟩, c, d, (hb.cell (cell_lt h2)).trans h2⟩
/-- What the library's variables hold. -/
structure Libs (w : World) : Prop where
  pow : Pow w
  err : ErrV w
  max : MaxL w
theorem textI_any (v : Int) (h0 : -9223372036854775808 ≤ v) (h1 : v ≤ 9223372036854775807) (w : World) (ht : Pow w) :
    Calls Tryz.prog 20 #[.int .i64 v] w fun e w' => e = .returned (.string (str (Lib.itoa v))) ∧ Below w.heap.size w w' := by
  have HH := Lib.hid (Tryz.strconv_FormatInt_10 v h0 h1 w ht)
  clear ht
  go_enter Tryz.func20, Tryz.ntmps20
  go_wp2_with fail
  refine HH.out.mono ?_
  rintro e w' ⟨rfl, k, os, rfl⟩
  go_wp2_with fail
  go_ret
  exact ⟨rfl, Lib.below_grow _ _ (Nat.le_refl _) _ _⟩
theorem bytes_below (w w' : World) (t : TypeId) (h : w' = w ∨ ∃ s, w' = Lib.bytesWorld w t s) : Below w.heap.size w w' := by
  rcases h with rfl | ⟨s, rfl⟩
  · exact Below.refl _ _
  · exact Lib.bytesWorld_below _ _ _
/-- Two texts that differ, as the walk asks. -/
theorem ne_list {a b : ByteArray} (h : a ≠ b) : (a.toList == b.toList) = false := by
  rw [beq_eq_false_iff_ne, ByteArray.toList_eq, ByteArray.toList_eq]
  intro e
  exact h (WideShapes.bytes_inj e)
set_option maxHeartbeats 2000000 in
theorem number_any' (s : ByteArray) (hs : s.size ≤ 2097152) (w : World) (hp : Pow w) (he : ErrV w) (hpb : ∀ w', Below w.heap.size w w' → Pow w') :
    Calls Tryz.prog 40 #[.string s] w fun e w' => e = .returned (.tuple #[.int .i64 (numF s.data.toList).1, .bool (numF s.data.toList).2]) ∧ Below w.heap.size w w' := by
  obtain ⟨⟨te, pe, hE1⟩, te2, pe2, hE2⟩ := he
  have hlen := (Lib.size_eq s).symm
  rcases hq : Lib.parseIntB 64 s.data.toList with v | _ | _
  · have hbd := Lib.parseIntB_bounds hq
    have hb1 : -9223372036854775808 ≤ v := by have := hbd.1; simpa using this
    have hb2 : v ≤ 9223372036854775807 := by have := hbd.2; simp at this; omega
    have HC := Lib.hid (Any.strconv_ParseInt_10_at64_ok Tryz.laysC174 s (by omega) v hq w)
    have HT := Lib.hid (fun w' hb => textI_any v hb1 hb2 w' (hpb w' hb))
    by_cases hl : s.size ≤ 19
    · have hlb : decide ((19 : Int) < (s.size : Int)) = false := by simp; omega
      by_cases hi : Lib.itoa v = s.data.toList
      · have hst : str (Lib.itoa v) = s := by rw [hi, str_data]
        rw [hst] at HT
        have hn : numF s.data.toList = (v, true) := by
          unfold numF
          rw [hq]
          simp only
          rw [if_pos ⟨by omega, hi⟩]
        rw [hn]
        clear hbd hb1 hb2 hq hE1 hE2 hpb hp hlen hst hi hn
        go_enter Tryz.func40, Tryz.ntmps40
        go_wp2_with fail
        refine HC.out.mono ?_
        rintro e w1 ⟨rfl, hw⟩
        have HB1 := Lib.hid (bytes_below _ _ _ hw)
        clear hw
        go_wp2_with fail
        refine (HT.out _ HB1.out).mono ?_
        rintro e w2 ⟨rfl, hb⟩
        have HB2 := Lib.hid (HB1.out.trans (hb.mono HB1.out.size))
        clear hb
        go_wp2_with fail
        go_ret2
        exact ⟨rfl, HB2.out⟩
      · have hst : str (Lib.itoa v) ≠ s := fun e => hi (by rw [← e, str_list])
        have hn : numF s.data.toList = (0, false) := by
          unfold numF
          rw [hq]
          simp only
          rw [if_neg (fun h => hi h.2)]
        rw [hn]
        have HST := Lib.hid hst
        clear hbd hb1 hb2 hq hE1 hE2 hpb hp hlen hst hi hn
        go_enter Tryz.func40, Tryz.ntmps40
        go_wp2_with fail
        refine HC.out.mono ?_
        rintro e w1 ⟨rfl, hw⟩
        have HB1 := Lib.hid (bytes_below _ _ _ hw)
        clear hw
        go_wp2_with fail
        refine (HT.out _ HB1.out).mono ?_
        rintro e w2 ⟨rfl, hb⟩
        have HB2 := Lib.hid (HB1.out.trans (hb.mono HB1.out.size))
        have hne := ne_list HST.out
        generalize str (Lib.itoa v) = Z at *
        clear hb
        go_wp2_with fail
        go_ret2
        exact ⟨rfl, HB2.out⟩
    · have hlb : decide ((19 : Int) < (s.size : Int)) = true := by simp; omega
      have hn : numF s.data.toList = (0, false) := by
        unfold numF
        rw [hq]
        simp only
        rw [if_neg (fun h => hl (by omega))]
      rw [hn]
      clear hbd hb1 hb2 hq hE1 hE2 hpb hp hlen hn HT
      go_enter Tryz.func40, Tryz.ntmps40
      go_wp2_with fail
      refine HC.out.mono ?_
      rintro e w1 ⟨rfl, hw⟩
      have HB1 := Lib.hid (bytes_below _ _ _ hw)
      clear hw
      go_wp2_with fail
      go_ret2
      exact ⟨rfl, HB1.out⟩
  · have hn : numF s.data.toList = (0, false) := by unfold numF; rw [hq]
    rw [hn]
    have HC := Lib.hid (Any.strconv_ParseInt_10_at64_syntax Tryz.laysC174 s (by omega) hq _ w hE1 (.inr ⟨te, pe, rfl⟩))
    clear hq hE1 hE2 hpb hp hlen hn
    go_enter Tryz.func40, Tryz.ntmps40
    go_wp2_with fail
    refine HC.out.mono ?_
    rintro e w1 ⟨N, rfl, _, _, hb⟩
    have HB1 := Lib.hid hb
    clear hb
    go_wp2_with fail
    go_ret2
    exact ⟨rfl, HB1.out⟩
  · have hn : numF s.data.toList = (0, false) := by unfold numF; rw [hq]
    rw [hn]
    have HC := Lib.hid (Any.strconv_ParseInt_10_at64_range Tryz.laysC174 s (by omega) hq _ w hE2 (.inr ⟨te2, pe2, rfl⟩))
    clear hq hE1 hE2 hpb hp hlen hn
    generalize Lib.intSat 64 s.data.toList = sat at *
    go_enter Tryz.func40, Tryz.ntmps40
    go_wp2_with fail
    refine HC.out.mono ?_
    rintro e w1 ⟨N, rfl, _, _, hb⟩
    have HB1 := Lib.hid hb
    clear hb
    go_wp2_with fail
    go_ret2
    exact ⟨rfl, HB1.out⟩
end Go.Proofs.YtalgdeieejpelaaGreatDoor

/- Walks: a word read as a number (the reference). -/
namespace Go.Proofs.YtalgdeieejpelaaGreatDoor
open Go.RowKit Go.Sort
set_option linter.unusedVariables false
set_option maxRecDepth 100000

theorem valL_snoc (n : Nat) (l : List UInt8) (c : UInt8) : valL n (l ++ [c]) = stepV (valL n l) c := by rw [valL_app, valL_cons, valL_nil]
set_option maxHeartbeats 2000000 in
theorem read26_any (s : ByteArray) (hs : s.size ≤ 2097152) (w : World) :
    Calls Tryz.prog 24 #[.string s] w fun e w' => e = .returned (.int .i64 (rdF s.data.toList)) ∧ Below w.heap.size w w' := by
  have hlen := (Lib.size_eq s).symm
  obtain ⟨L, hL⟩ : ∃ L, L = s.data.toList := ⟨_, rfl⟩
  rw [← hL] at hlen ⊢
  by_cases hnil : L = []
  · have hse : s = ⟨#[]⟩ := by
      apply WideShapes.bytes_inj
      rw [← hL, hnil]
    have hn : rdF L = -1 := by unfold rdF; rw [if_pos (.inl hnil)]
    rw [hn]
    subst hse
    clear hlen hL hnil hn
    go_enter Tryz.func24, Tryz.ntmps24
    go_wp2_with fail
    go_ret
    exact ⟨rfl, Below.refl _ _⟩
  have hne : s.toList.isEmpty = false := by rw [ByteArray.toList_eq, ← hL]; simp [hnil]
  have hne2 : (s.toList = []) = False := by rw [ByteArray.toList_eq, ← hL]; simp [hnil]
  by_cases h12 : 12 < s.size
  · have hn : rdF L = -1 := by unfold rdF; rw [if_pos (.inr (by omega))]
    rw [hn]
    have hlb : decide ((12 : Int) < (s.size : Int)) = true := by simp; omega
    clear hlen hL hnil hn
    go_enter Tryz.func24, Tryz.ntmps24
    go_wp2_with fail
    go_ret
    exact ⟨rfl, Below.refl _ _⟩
  have hlb : decide ((12 : Int) < (s.size : Int)) = false := by simp; omega
  have HL := Lib.hid hL
  have HLN := Lib.hid hlen
  have HNIL := Lib.hid hnil
  have hsz12 : s.size ≤ 12 := by omega
  clear hL hlen hnil h12
  go_enter Tryz.func24, Tryz.ntmps24
  go_wp2_with fail
  go_loop [3, 4] (fun n i => ∃ (k x : Nat), k ≤ s.size ∧ x < 1000000000000 ∧ i = .int .i64 k ∧ n = .int .i64 x ∧ Hid (x = valL 0 (L.take k) ∧ ∀ c ∈ L.take k, dgB c = true)) (fun _ i => s.size - (intOf i).toNat)
  case atStart => exact ⟨0, 0, Nat.zero_le _, by omega, rfl, rfl, Lib.hid ⟨by rw [List.take_zero, valL_nil], by simp⟩⟩
  case round =>
    obtain ⟨k, x, hk, hx, rfl, rfl, HI⟩ := hrel
    by_cases hlt : k < s.size
    · have hkd : decide ((k : Int) < (s.size : Int)) = true := by simpa using hlt
      have hkL : k < L.length := by have := HLN.out; omega
      have hgs : s[k] = L[k] := by
        have h1 := HL.out
        subst h1
        rfl
      have htk : L.take (k + 1) = L.take k ++ [L[k]] := by rw [List.take_add_one, List.getElem?_eq_getElem hkL]; rfl
      obtain ⟨cn, hcn⟩ : ∃ cn, cn = (s[k]).toNat := ⟨_, rfl⟩
      by_cases hd : dgB L[k] = true
      · have hd0 := hd
        unfold dgB at hd0
        simp only [Bool.and_eq_true, decide_eq_true_eq] at hd0
        rw [← hgs, ← hcn] at hd0
        have hall : ∀ c ∈ L.take (k + 1), dgB c = true := by
          rw [htk]
          intro c hc
          rcases List.mem_append.1 hc with hc | hc
          · exact HI.out.2 c hc
          · rw [List.mem_singleton.1 hc]; exact hd
        have hval : valL 0 (L.take (k + 1)) = 10 * x + (cn - 48) := by
          rw [htk, valL_snoc, ← HI.out.1, ← hgs]
          unfold stepV
          rw [← hcn]
        have hlt2 := valL_lt (L.take (k + 1)) 0 hall
        have hpow : 10 ^ (L.take (k + 1)).length ≤ 10 ^ 12 := Nat.pow_le_pow_right (by decide) (by rw [List.length_take]; omega)
        rw [hval] at hlt2
        have hx2 : 10 * x + (cn - 48) < 1000000000000 := by
          have e : (10 : Nat) ^ 12 = 1000000000000 := by decide
          rw [e] at hpow
          omega
        have HI2 := Lib.hid (show 10 * x + (cn - 48) = valL 0 (L.take (k + 1)) ∧ ∀ c ∈ L.take (k + 1), dgB c = true from ⟨hval.symm, hall⟩)
        obtain ⟨hd1, hd2⟩ := hd0
        have hcn2 : (s[k]).toNat = cn := hcn.symm
        have ht1 : decide ((cn : Int) < 48) = false := by simp; omega
        have ht2 : decide ((57 : Int) < (cn : Int)) = false := by simp; omega
        clear hd hall hval hlt2 hpow htk hgs HI hcn
        go_wp2_with fail
        go_round
        case rel => exact ⟨k + 1, 10 * x + (cn - 48), by omega, hx2, by go_num, by go_num, HI2⟩
        case measure => simp [intOf] <;> omega
      · have hn : rdF L = -1 := by
          unfold rdF
          rw [if_neg (by have := HLN.out; have := HNIL.out; rintro (e | e); contradiction; omega), if_neg]
          intro hall
          exact hd (List.all_eq_true.1 hall _ (List.getElem_mem hkL))
        have HNQ := Lib.hid hn
        have hcn2 : (s[k]).toNat = cn := hcn.symm
        have hor : cn < 48 ∨ (¬ cn < 48 ∧ 57 < cn) := by
          unfold dgB at hd
          simp only [Bool.and_eq_true, decide_eq_true_eq] at hd
          rw [← hgs, ← hcn] at hd
          omega
        clear hd hn htk hgs HI hcn
        rcases hor with h1 | ⟨h1, h2⟩
        · have ht1 : decide ((cn : Int) < 48) = true := by simp; omega
          clear h1
          go_wp2_with fail
          go_ret
          exact ⟨by rw [HNQ.out]; rfl, Below.refl _ _⟩
        · have ht1 : decide ((cn : Int) < 48) = false := by simp; omega
          have ht2 : decide ((57 : Int) < (cn : Int)) = true := by simp; omega
          clear h1 h2
          go_wp2_with fail
          go_ret
          exact ⟨by rw [HNQ.out]; rfl, Below.refl _ _⟩
    · obtain rfl : k = s.size := by omega
      have hkd : decide ((s.size : Int) < (s.size : Int)) = false := by simp
      have hi := HI.out
      rw [List.take_of_length_le (by have := HLN.out; omega)] at hi
      have HN := Lib.hid (number26_any x (by omega) w)
      have hb12 : ¬ (L = [] ∨ 12 < L.length) := by have := HLN.out; have := HNIL.out; rintro (e | e); contradiction; omega
      have hall : L.all dgB = true := List.all_eq_true.2 hi.2
      by_cases hq : dec x = L
      · have hn : rdF L = (x : Int) := by unfold rdF; rw [if_neg hb12, if_pos hall, ← hi.1, if_pos hq]
        have HNQ := Lib.hid hn
        have hst : str (dec x) = s := by rw [hq, HL.out, str_data]
        rw [hst] at HN
        clear hi hall hq hn hst HI hb12
        go_wp2_with fail
        refine HN.out.mono ?_
        rintro e w1 ⟨rfl, hb⟩
        have HB1 := Lib.hid hb
        clear hb
        go_wp2_with fail
        go_ret
        exact ⟨by rw [HNQ.out]; rfl, HB1.out⟩
      · have hn : rdF L = -1 := by unfold rdF; rw [if_neg hb12, if_pos hall, ← hi.1, if_neg hq]
        have HNQ := Lib.hid hn
        have hst : str (dec x) ≠ s := fun e => hq (by rw [HL.out, ← e, str_list])
        have hnl := ne_list hst
        generalize str (dec x) = Z at *
        clear hi hall hq hn hst HI hb12
        go_wp2_with fail
        refine HN.out.mono ?_
        rintro e w1 ⟨rfl, hb⟩
        have HB1 := Lib.hid hb
        clear hb
        go_wp2_with fail
        go_ret
        exact ⟨by rw [HNQ.out]; rfl, HB1.out⟩
end Go.Proofs.YtalgdeieejpelaaGreatDoor

/- Walks: the numbers of words, both sides. -/
namespace Go.Proofs.YtalgdeieejpelaaGreatDoor
open Go.RowKit Go.Sort
set_option linter.unusedVariables false
set_option maxRecDepth 100000

theorem Rd.str {w : World} {A : Option Addr} {n k : Nat} {ws : List (List UInt8)} (h : Rd w 1 A n (strs ws)) (hk : k < n) : ∃ b o x, A = some ⟨b, o, none⟩ ∧ ws[k]? = some x ∧ ws.drop k = x :: ws.drop (k + 1) ∧ w.cell? ⟨b, o + k, none⟩ = some (.string (str x)) := by
  obtain ⟨b, o, e, hc⟩ := h.pos (by omega)
  have hl : ws.length = n := by have := h.len; rw [strs_len] at this; omega
  have hx : ws[k]? = some ws[k] := List.getElem?_eq_getElem (by omega)
  exact ⟨b, o, ws[k], e, hx, List.drop_eq_getElem_cons (by omega), hc k _ (strs_get hx)⟩
theorem Rd.len_str {w : World} {A : Option Addr} {n : Nat} {ws : List (List UInt8)} (h : Rd w 1 A n (strs ws)) : ws.length = n := by have := h.len; rw [strs_len] at this; omega
theorem Tryz.info_numQ : (Tryz.prog.info? 2).map (fun i => (i.zero, i.size, i.bytes)) = some (some (.int .i64 0), 1, 8) := by kernel_rfl
theorem app_numQ {ops : Array Oper} {rest : List Oper} {o : Oper} {a : Act} {Q : Exit → Act → World → Prop} (w : World) (hgd : o.guard = none) (s x : Operand)
    (ho : o.op = .call { callee := .builtin .append, args := #[s, x], argTypes := #[35, 35] }) {base n c : Nat} {A : Option Addr} {xs : List Int} {y : Int}
    (hs : a.eval s = .slice A n c) (hown : w.ownsRow base 2 1 (.slice A n c) n (ints xs)) {b : Nat} (hx : a.eval x = .slice (some ⟨b, 0, none⟩) 1 1)
    (hc : w.heap[b]? = some (.cells #[.int .i64 y] 2 (0, 0))) (hn : n ≤ 1099511627776) (hbase : base ≤ w.heap.size)
    (h : ∀ g c' w', w'.ownsRow base 2 1 (.slice (some ⟨g, 0, none⟩) (n + 1) c') (n + 1) (ints (xs ++ [y])) → w.grownBy w' (Value.slice A n c).ownBlock → ((Value.slice A n c).ownBlock = some g ∨ g = w.heap.size) → g < w'.heap.size → wpList Tryz.prog ops Q rest (a.put o.dst (.slice (some ⟨g, 0, none⟩) (n + 1) c')) w') :
    wpList Tryz.prog ops Q (o :: rest) a w := by
  obtain ⟨i, hi, hz, hs1, hb1⟩ := info_parts Tryz.info_numQ
  have e : ints xs ++ [.int .i64 y] = ints (xs ++ [y]) := by rw [ints_append]; rfl
  exact wpList_append_lies w hgd s x 35 ho base 2 i (.int .i64 0) 1 8 Tryz.underlying35 hi hz hs1 hb1 rfl (by decide) (.slice A n c) n (ints xs) hs hown ⟨b, 0, none⟩ 1 1 [.int .i64 y] hx rfl (World.news_of_block (cs := #[.int .i64 y]) hc)
    (by intro u hu; simp at hu; subst hu; rfl) (by decide) (by unfold maxLen; omega) (by omega) hbase _ rfl (by rw [e]; exact h)
/-- Result: new memory that holds numbers. -/
def RetNs (w : World) (xs : List Int) (e : Ending) (w' : World) : Prop :=
  ∃ A n c, e = .returned (.slice A n c) ∧ Rd w' 1 A n (ints xs) ∧ Below w.heap.size w w'
def nums (ws : List (List UInt8)) : List Int := ws.map fun w => (numF w).1
set_option maxHeartbeats 2000000 in
theorem numbersOf_any (A : Option Addr) (n c : Nat) (ws : List (List UInt8)) (w : World) (h : Rd w 1 A n (strs ws)) (hn : n ≤ 4194304) (hsh : ∀ x ∈ ws, x.length ≤ 2097152) (HL : ∀ w', Below w.heap.size w w' → Libs w') :
    Calls Tryz.prog 22 #[.slice A n c] w (RetNs w (nums ws)) := by
  have hl := h.len_str
  have HR := Lib.hid h
  have HLN := Lib.hid hl
  have HSH := Lib.hid hsh
  have HLL := Lib.hid HL
  obtain ⟨V, hV⟩ : ∃ V, V = nums ws := ⟨_, rfl⟩
  rw [← hV]
  have HV := Lib.hid (show [] ++ nums (ws.drop 0) = V from by rw [hV]; rfl)
  clear h hl hsh HL hV
  go_enter Tryz.func22, Tryz.ntmps22
  go_wp2_with fail
  have HO0 := Lib.hid (show (w.alloc (.cells #[] 2)).ownsRow w.heap.size 2 1 (.slice (some ⟨w.heap.size, 0, none⟩) 0 0) 0 (ints []) from own_emptyS w w.heap.size 2 1 (Nat.le_refl _))
  have HB0 := Lib.hid ((Below.refl w.heap.size w).alloc (Nat.le_refl _) (.cells #[] 2))
  go_loopw [3, 11] (fun o i wr => ∃ (k cc : Nat) (B : Option Addr) (out : List Int), k ≤ n ∧ o = .slice B k cc ∧ i = .int .i64 k ∧ Hid (out ++ nums (ws.drop k) = V) ∧ Hid (wr.ownsRow w.heap.size 2 1 (.slice B k cc) k (ints out)) ∧ Hid (Below w.heap.size w wr)) (fun _ i _ => n - (intOf i).toNat)
  case atStart => exact ⟨0, 0, _, [], Nat.zero_le _, rfl, rfl, HV, HO0, HB0⟩
  case round =>
    clear HO0 HB0 HV
    obtain ⟨k, cc, B, out, hk, rfl, rfl, HI, HO, HB⟩ := hrel
    obtain ⟨wo, hwo⟩ : ∃ wo : World, wo = wr := ⟨_, rfl⟩
    subst hwo
    by_cases hlt : k < n
    · have hkd : decide ((k : Int) < (n : Int)) = true := by simpa using hlt
      obtain ⟨b, of, x, rfl, hx, hd, hc⟩ := (HR.out.below HB.out).str hlt
      have hlx := HSH.out x (List.mem_of_getElem? hx)
      have hlib := HLL.out _ HB.out
      have HN := Lib.hid (number_any' (str x) (by rw [str_size]; exact hlx) wo hlib.pow hlib.err (fun w' hb => (HLL.out _ (HB.out.trans (hb.mono HB.out.size))).pow))
      rw [str_list] at HN
      have HI2 := Lib.hid (show out ++ [(numF x).1] ++ nums (ws.drop (k + 1)) = V from by rw [← HI.out, hd]; simp [nums])
      generalize numF x = r at *
      obtain ⟨v, ok⟩ := r
      simp only at HI2
      clear hx hd hlx hlib HI
      go_wp2_with fail
      refine HN.out.mono ?_
      rintro e w1 ⟨rfl, hb⟩
      have HB1 := Lib.hid (HB.out.trans (hb.mono HB.out.size))
      have HO1 := Lib.hid (own_below HO.out hb)
      have hbs := HB1.out.size
      clear hb hc HN HO
      simp only
      go_wp2_with (at_builtin; refine app_numQ (y := v) _ rfl _ _ rfl rfl (own_below HO1.out ((Below.refl _ _).alloc (Nat.le_refl _) _)) rfl (heap_alloc_new _ _) (by omega) ?cBa ?_; rotate_left; intro g9 c9 w9 hown9 hgr9 _ _)
      · have HB9 := Lib.hid ((HB1.out.alloc hbs _).grown hgr9 (by simp; omega) (fun j hj => (HO1.out.lt j hj).1))
        have HO9 := Lib.hid hown9
        clear hown9 hgr9
        go_roundw
        case rel => exact ⟨k + 1, c9, _, _, by omega, rfl, by go_num, HI2, HO9, HB9⟩
        case measure => simp [intOf] <;> omega
      · first | omega | (simp; omega)
    · obtain rfl : k = n := by omega
      have hkd : decide ((k : Int) < (k : Int)) = false := by simp
      have hi := HI.out
      rw [List.drop_eq_nil_of_le (by have := HLN.out; omega)] at hi
      have HI2 := Lib.hid (show out = V from by rw [← hi]; simp [nums])
      clear hi HI
      go_wp2_with fail
      go_ret
      exact ⟨_, _, _, rfl, by rw [← HI2.out]; exact own_rd HO.out, HB.out⟩
end Go.Proofs.YtalgdeieejpelaaGreatDoor

/- Plain: insertion sort, as the library's text goes; its result is the order by rank: no Go in sight. -/
namespace Go.Proofs.YtalgdeieejpelaaGreatDoor
open Go.RowKit
set_option linter.unusedVariables false

def swapAt (j : Nat) (xs : List Int) : List Int := (xs.set (j + 1) (xs.getD j 0)).set j (xs.getD (j + 1) 0)
def insIn (lt : Int → Int → Bool) : Nat → List Int → List Int
  | 0, xs => xs
  | j + 1, xs => if lt (xs.getD (j + 1) 0) (xs.getD j 0) then insIn lt j (swapAt j xs) else xs
def insOut (lt : Int → Int → Bool) : Nat → Nat → List Int → List Int
  | 0, _, xs => xs
  | m + 1, i, xs => insOut lt m (i + 1) (insIn lt i xs)
def insSort (lt : Int → Int → Bool) (xs : List Int) : List Int := insOut lt (xs.length - 1) 1 xs
theorem swapAt_length (j : Nat) (xs : List Int) : (swapAt j xs).length = xs.length := by simp [swapAt]
theorem insIn_length (lt : Int → Int → Bool) (j : Nat) (xs : List Int) : (insIn lt j xs).length = xs.length := by
  induction j generalizing xs with
  | zero => rfl
  | succ j ih =>
    unfold insIn
    split
    · rw [ih, swapAt_length]
    · rfl
theorem insOut_length (lt : Int → Int → Bool) (m i : Nat) (xs : List Int) : (insOut lt m i xs).length = xs.length := by
  induction m generalizing i xs with
  | zero => rfl
  | succ m ih => unfold insOut; rw [ih, insIn_length]
theorem insSort_length (lt : Int → Int → Bool) (xs : List Int) : (insSort lt xs).length = xs.length := insOut_length _ _ _ _

/-- x is put in from the right into a list that stands reversed. -/
def insRev (lt : Int → Int → Bool) (x : Int) : List Int → List Int → List Int
  | [], acc => x :: acc
  | y :: r, acc => if lt x y then insRev lt x r (y :: acc) else r.reverse ++ y :: x :: acc
theorem swapAt_app (p : List Int) (y x : Int) (acc : List Int) : swapAt p.length (p ++ y :: x :: acc) = p ++ x :: y :: acc := by
  have h1 : (p ++ y :: x :: acc).getD p.length 0 = y := by
    rw [List.getD_eq_getElem?_getD, List.getElem?_append_right (Nat.le_refl _)]; simp
  have h2 : (p ++ y :: x :: acc).getD (p.length + 1) 0 = x := by
    rw [List.getD_eq_getElem?_getD, List.getElem?_append_right (by omega)]; simp
  unfold swapAt
  rw [h1, h2, List.set_append, if_neg (by omega), List.set_append, if_neg (by omega)]
  have e1 : p.length + 1 - p.length = 1 := by omega
  rw [e1, Nat.sub_self]
  rfl
theorem insIn_rev (lt : Int → Int → Bool) (x : Int) (r acc : List Int) : insIn lt r.length (r.reverse ++ x :: acc) = insRev lt x r acc := by
  induction r generalizing acc with
  | nil => rfl
  | cons y r ih =>
    have h1 : (r.reverse ++ y :: x :: acc).getD r.length 0 = y := by
      rw [List.getD_eq_getElem?_getD, List.getElem?_append_right (by simp)]; simp
    have h2 : (r.reverse ++ y :: x :: acc).getD (r.length + 1) 0 = x := by
      rw [List.getD_eq_getElem?_getD, List.getElem?_append_right (by simp)]; simp
    have e : (y :: r).reverse ++ x :: acc = r.reverse ++ y :: x :: acc := by simp
    rw [e, List.length_cons, insIn, h1, h2, insRev]
    split
    · have h3 := swapAt_app r.reverse y x acc
      rw [List.length_reverse] at h3
      rw [h3, ih]
    · rfl
theorem insRev_perm (lt : Int → Int → Bool) (x : Int) (r acc : List Int) : List.Perm (insRev lt x r acc) (x :: (r.reverse ++ acc)) := by
  induction r generalizing acc with
  | nil => simp [insRev]
  | cons y r ih =>
    unfold insRev
    split
    · refine (ih (y :: acc)).trans ?_
      simp
    · have : (y :: r).reverse ++ acc = r.reverse ++ y :: acc := by simp
      rw [this]
      have h := @List.perm_middle _ x (r.reverse ++ [y]) acc
      simpa using h

/-- lt is a strict total order on what the list holds. -/
structure Strict (lt : Int → Int → Bool) (xs : List Int) : Prop where
  irr : ∀ x ∈ xs, lt x x = false
  tot : ∀ x ∈ xs, ∀ y ∈ xs, x ≠ y → lt x y = false → lt y x = true
  asy : ∀ x ∈ xs, ∀ y ∈ xs, lt x y = true → lt y x = false
  tr : ∀ x ∈ xs, ∀ y ∈ xs, ∀ z ∈ xs, lt x y = true → lt y z = true → lt x z = true
theorem insRev_sorted {lt : Int → Int → Bool} {all : List Int} (h : Strict lt all) (x : Int) (hx : x ∈ all) (r acc : List Int) (hr : ∀ y ∈ r, y ∈ all) (ha : ∀ y ∈ acc, y ∈ all)
    (hs : (r.reverse ++ acc).Pairwise (fun a b => lt a b = true)) (hxa : ∀ y ∈ acc, lt x y = true) (hne : ∀ y ∈ r, y ≠ x) : (insRev lt x r acc).Pairwise (fun a b => lt a b = true) := by
  induction r generalizing acc with
  | nil =>
    unfold insRev
    rw [List.pairwise_cons]
    exact ⟨hxa, by simpa using hs⟩
  | cons y r ih =>
    have e : (y :: r).reverse ++ acc = r.reverse ++ y :: acc := by simp
    rw [e] at hs
    have hy : y ∈ all := hr y (by simp)
    unfold insRev
    split
    · rename_i hlt
      refine ih (y :: acc) (fun z hz => hr z (by simp [hz])) (fun z hz => ?_) hs (fun z hz => ?_) (fun z hz => hne z (by simp [hz]))
      · rcases List.mem_cons.1 hz with rfl | hz
        · exact hy
        · exact ha z hz
      · rcases List.mem_cons.1 hz with rfl | hz
        · exact hlt
        · exact hxa z hz
    · rename_i hlt
      have hyx : lt y x = true := h.tot x hx y hy (fun e => hne y (by simp) e.symm) (by simpa using hlt)
      rw [List.pairwise_append] at hs ⊢
      obtain ⟨h1, h2, h3⟩ := hs
      rw [List.pairwise_cons] at h2
      refine ⟨h1, ?_, ?_⟩
      · rw [List.pairwise_cons, List.pairwise_cons]
        refine ⟨fun z hz => ?_, hxa, h2.2⟩
        rcases List.mem_cons.1 hz with rfl | hz
        · exact hyx
        · exact h2.1 z hz
      · intro a har b hb
        have haa : a ∈ all := hr a (by simp at har; simp [har])
        rcases List.mem_cons.1 hb with rfl | hb
        · exact h3 a har b (by simp)
        · rcases List.mem_cons.1 hb with rfl | hb
          · exact h.tr a haa y hy b hx (h3 a har y (by simp)) hyx
          · exact h3 a har b (by simp [hb])

theorem insOut_sorts {lt : Int → Int → Bool} {all : List Int} (h : Strict lt all) (m : Nat) (p q : List Int) (hm : q.length = m) (hall : ∀ y ∈ p ++ q, y ∈ all) (hn : (p ++ q).Nodup)
    (hs : p.Pairwise (fun a b => lt a b = true)) : List.Perm (insOut lt m p.length (p ++ q)) (p ++ q) ∧ (insOut lt m p.length (p ++ q)).Pairwise (fun a b => lt a b = true) := by
  induction m generalizing p q with
  | zero =>
    obtain rfl := List.eq_nil_of_length_eq_zero hm
    simpa [insOut] using hs
  | succ m ih =>
    cases q with
    | nil => simp at hm
    | cons x q =>
      unfold insOut
      have e1 : insIn lt p.length (p ++ x :: q) = insRev lt x p.reverse [] ++ q := by
        have h1 : ∀ (r acc : List Int), insRev lt x r (acc ++ q) = insRev lt x r acc ++ q := by
          intro r
          induction r with
          | nil => intro acc; rfl
          | cons y r ih' =>
            intro acc
            unfold insRev
            split
            · exact ih' (y :: acc)
            · simp
        have h2 := insIn_rev lt x p.reverse q
        rw [List.length_reverse, List.reverse_reverse] at h2
        rw [h2]
        exact h1 p.reverse []
      rw [e1]
      have hperm := insRev_perm lt x p.reverse []
      rw [List.reverse_reverse, List.append_nil] at hperm
      have hlen : (insRev lt x p.reverse []).length = p.length + 1 := by rw [hperm.length_eq]; simp
      have hxm : x ∈ all := hall x (by simp)
      have hnd := List.nodup_append.1 hn
      have hsort := insRev_sorted h x hxm p.reverse [] (fun y hy => hall y (by simp at hy; simp [hy])) (fun y hy => by cases hy) (by simpa using hs) (fun y hy => by cases hy)
        (fun y hy e => hnd.2.2 y (by simpa using hy) x (by simp) e)
      have hp2 : List.Perm (insRev lt x p.reverse [] ++ q) (p ++ x :: q) := by
        refine (hperm.append_right q).trans ?_
        exact (List.perm_middle (a := x) (l₁ := p) (l₂ := q)).symm
      have h3 := ih (insRev lt x p.reverse []) q (by simpa using hm) (fun y hy => hall y (hp2.mem_iff.1 hy)) (hp2.nodup_iff.2 hn) hsort
      rw [hlen] at h3
      exact ⟨h3.1.trans hp2, h3.2⟩
theorem insSort_sorts {lt : Int → Int → Bool} {xs : List Int} (h : Strict lt xs) (hn : xs.Nodup) : List.Perm (insSort lt xs) xs ∧ (insSort lt xs).Pairwise (fun a b => lt a b = true) := by
  unfold insSort
  cases xs with
  | nil => simp [insOut]
  | cons x r => exact insOut_sorts h r.length [x] r rfl (fun y hy => hy) hn (by simp)
/-- The place of an element is the number of those below it. -/
theorem insSort_rank {lt : Int → Int → Bool} {xs : List Int} (h : Strict lt xs) (hn : xs.Nodup) (j : Nat) (x : Int) (hx : (insSort lt xs)[j]? = some x) : xs.countP (fun k => lt k x) = j := by
  obtain ⟨h1, h2⟩ := insSort_sorts h hn
  rw [← h1.countP_eq]
  have hm : ∀ y ∈ insSort lt xs, y ∈ xs := fun y hy => h1.mem_iff.1 hy
  generalize insSort lt xs = out at *
  have hj := (List.getElem?_eq_some_iff.1 hx).1
  have hxm : x ∈ xs := hm x (List.mem_of_getElem? hx)
  have e : out = out.take j ++ x :: out.drop (j + 1) := by
    obtain ⟨y, hy1, hy2⟩ := drop_cons (xs := out) (k := j) hj
    rw [hx] at hy1
    injection hy1 with hy1
    subst hy1
    rw [← hy2, List.take_append_drop]
  rw [e] at h2
  rw [List.pairwise_append, List.pairwise_cons] at h2
  obtain ⟨_, ⟨h3, _⟩, h4⟩ := h2
  rw [e, List.countP_append, List.countP_cons, h.irr x hxm]
  have e1 : (out.take j).countP (fun k => lt k x) = j := by
    rw [List.countP_eq_length.2 (fun a ha => h4 a ha x (by simp)), List.length_take]
    omega
  have e2 : (out.drop (j + 1)).countP (fun k => lt k x) = 0 := by
    rw [List.countP_eq_zero]
    intro a ha
    have := h.asy x hxm a (hm a (List.mem_of_mem_drop ha)) (h3 a ha)
    simp [this]
  rw [e1, e2]
  simp

/-- Each i is stored at r i. -/
def setsF (r : Nat → Nat) : Nat → Nat → List Int → List Int
  | 0, _, out => out
  | m + 1, i, out => setsF r m (i + 1) (out.set (r i) (i : Int))
theorem setsF_length (r : Nat → Nat) (m i : Nat) (out : List Int) : (setsF r m i out).length = out.length := by
  induction m generalizing i out with
  | zero => rfl
  | succ m ih => unfold setsF; rw [ih]; simp
theorem setsF_keep (r : Nat → Nat) (m i : Nat) (out : List Int) (p : Nat) (h : ∀ k, i ≤ k → k < i + m → r k ≠ p) : (setsF r m i out)[p]? = out[p]? := by
  induction m generalizing i out with
  | zero => rfl
  | succ m ih =>
    unfold setsF
    rw [ih _ _ (fun k h1 h2 => h k (by omega) (by omega)), List.getElem?_set_ne (h i (by omega) (by omega))]
theorem setsF_get (r : Nat → Nat) (m i : Nat) (out : List Int) (k : Nat) (h1 : i ≤ k) (h2 : k < i + m) (hr : r k < out.length) (hinj : ∀ k', i ≤ k' → k' < i + m → r k' = r k → k' = k) : (setsF r m i out)[r k]? = some (k : Int) := by
  induction m generalizing i out with
  | zero => omega
  | succ m ih =>
    unfold setsF
    by_cases hk : i = k
    · subst hk
      rw [setsF_keep r m (i + 1) _ (r i) (fun k' g1 g2 e => by have := hinj k' (by omega) (by omega) e; omega), List.getElem?_set_self hr]
    · exact ih (i + 1) _ (by omega) (by omega) (by simpa using hr) (fun k' g1 g2 e => hinj k' (by omega) (by omega) e)
def idx (n : Nat) : List Int := (List.range n).map fun (i : Nat) => (i : Int)
theorem idx_length (n : Nat) : (idx n).length = n := by simp [idx]
theorem idx_get {n i : Nat} (h : i < n) : (idx n)[i]? = some (i : Int) := by simp [idx, h]
theorem idx_mem {n : Nat} {x : Int} : x ∈ idx n ↔ 0 ≤ x ∧ x < n := by
  unfold idx
  rw [List.mem_map]
  constructor
  · rintro ⟨a, ha, rfl⟩
    rw [List.mem_range] at ha
    omega
  · intro h
    exact ⟨x.toNat, by rw [List.mem_range]; omega, by omega⟩
theorem idx_nodup (n : Nat) : (idx n).Nodup := by
  unfold idx
  rw [List.nodup_iff_pairwise_ne, List.pairwise_map]
  refine List.Pairwise.imp (fun {a b} h => ?_) (List.nodup_iff_pairwise_ne.1 List.nodup_range)
  omega
/-- The sorted indices are what storing each at its rank yields. -/
theorem order_rank {lt : Int → Int → Bool} {n : Nat} (h : Strict lt (idx n)) (r : Nat → Nat) (hr : ∀ i, i < n → r i = (idx n).countP (fun k => lt k (i : Int))) : insSort lt (idx n) = setsF r n 0 (List.replicate n 0) := by
  have hrank := fun j x hx => insSort_rank h (idx_nodup n) j x hx
  have hperm := (insSort_sorts h (idx_nodup n)).1
  have hlen := insSort_length lt (idx n)
  rw [idx_length] at hlen
  generalize insSort lt (idx n) = out at *
  have hat : ∀ i, i < n → out[r i]? = some (i : Int) ∧ r i < n := by
    intro i hi
    have hm : (i : Int) ∈ out := hperm.mem_iff.2 (idx_mem.2 (by omega))
    obtain ⟨j, hj⟩ := List.getElem?_of_mem hm
    have h1 := hrank j _ hj
    rw [← hr i hi] at h1
    rw [h1]
    have := (List.getElem?_eq_some_iff.1 hj).1
    exact ⟨hj, by omega⟩
  refine List.ext_getElem? (fun j => ?_)
  by_cases hj : j < n
  · have hx : out[j]? = some (out[j]'(by omega)) := List.getElem?_eq_getElem _
    generalize out[j]'(by omega) = x at hx
    have hxm := idx_mem.1 (hperm.mem_iff.1 (List.mem_of_getElem? hx))
    obtain ⟨k, rfl⟩ : ∃ k : Nat, x = k := ⟨x.toNat, by omega⟩
    have hrk : r k = j := by rw [hr k (by omega)]; exact hrank j _ hx
    rw [hx, ← hrk]
    refine (setsF_get r n 0 _ k (by omega) (by omega) (by simp; omega) (fun k' _ h2 e => ?_)).symm
    have e1 := (hat k' (by omega)).1
    rw [e, (hat k (by omega)).1] at e1
    injection e1 with e1
    omega
  · rw [List.getElem?_eq_none (by omega), List.getElem?_eq_none (by rw [setsF_length]; simp; omega)]
end Go.Proofs.YtalgdeieejpelaaGreatDoor

/- Walks: the laws' helpers on []int64: copy, compare, mark, hold. -/
namespace Go.Proofs.YtalgdeieejpelaaGreatDoor
open Go.RowKit
set_option linter.unusedVariables false

theorem Tryz.info_i64 : (Tryz.prog.info? 2).map (fun i => (i.zero, i.size, i.bytes)) = some (some (.int .i64 0), 1, 8) := by kernel_rfl

theorem run_make_i64 (n : Nat) (h : n ≤ 1048576) (w : World) :
    (Instr.makeSlice 35 (.int .i64 (n : Int)) (.int .i64 (n : Int))).run Tryz.prog w = .ok (.slice (some ⟨w.heap.size, 0, none⟩) n n) (w.alloc (.cells (madeCells #[.int .i64 0] n) 2)) := by
  obtain ⟨i, hi, hz, hs, hb⟩ := info_parts Tryz.info_i64
  have hr := run_make (P := Tryz.prog) w 35 2 i (.int .i64 0) Tryz.underlying35 hi hz .i64 .i64 n n (by omega) (by omega) (by rw [hb]; omega) (by omega)
  rw [hs, Nat.mul_one, Int.toNat_natCast] at hr
  exact hr

/-- The copy of a slice: what it returns. -/
def RetCopy (w : World) (xs : List Int) (e : Ending) (w' : World) : Prop :=
  ∃ A n c, e = .returned (.slice A n c) ∧ w'.ownsRow w.heap.size 2 1 (.slice A n c) n (ints xs) ∧ n ≤ 1048576 ∧ Below w.heap.size w w'

/-- marking: the slice holds k, k+1, .. -/
def seqFrom (k : Int) : Nat → List Int
  | 0 => []
  | n + 1 => k :: seqFrom (k + 1) n
theorem seqFrom_length (k : Int) (n : Nat) : (seqFrom k n).length = n := by
  induction n generalizing k with
  | zero => rfl
  | succ n ih => simp [seqFrom, ih]
theorem seqFrom_get (k : Int) (n i : Nat) (h : i < n) : (seqFrom k n)[i]? = some (k + i) := by
  induction n generalizing k i with
  | zero => omega
  | succ n ih =>
    cases i with
    | zero => simp [seqFrom]
    | succ i => simp only [seqFrom, List.getElem?_cons_succ]; rw [ih _ _ (by omega)]; simp; omega

theorem seqFrom_snoc (k : Int) (j : Nat) : seqFrom k (j + 1) = seqFrom k j ++ [k + j] := by
  induction j generalizing k with
  | zero => simp [seqFrom]
  | succ j ih => rw [seqFrom, ih, seqFrom]; simp; omega
theorem seq_step (k : Int) (j : Nat) (xs : List Int) (h : j < xs.length) : (seqFrom k j ++ xs.drop j).set j (k + j) = seqFrom k (j + 1) ++ xs.drop (j + 1) := by
  rw [List.set_append, if_neg (by simp [seqFrom_length]), seqFrom_snoc, List.drop_eq_getElem_cons h, seqFrom_length, Nat.sub_self, List.set_cons_zero, List.append_assoc]
  rfl
/-- Held: are the marks still there? -/
def heldF (k : Int) : List Int → Int
  | [] => k
  | x :: r => if x = k then heldF (k + 1) r else -1
theorem heldF_seq (k : Int) (n : Nat) : heldF k (seqFrom k n) = k + n := by
  induction n generalizing k with
  | zero => simp [seqFrom, heldF]
  | succ n ih => simp only [seqFrom, heldF, if_true]; rw [ih]; omega

/-- One number is appended to an own row. -/
theorem app_i64 {ops : Array Oper} {rest : List Oper} {o : Oper} {a : Act} {Q : Exit → Act → World → Prop} (w : World) (hgd : o.guard = none) (s x : Operand)
    (ho : o.op = .call { callee := .builtin .append, args := #[s, x], argTypes := #[35, 35] }) {base n c : Nat} {A : Option Addr} {xs : List Int}
    (hs : a.eval s = .slice A n c) (hown : w.ownsRow base 2 1 (.slice A n c) n (ints xs)) {ad : Addr} {x0 : Int} (hx : a.eval x = .slice (some ad) 1 1)
    (hc : w.cell? ad = some (.int .i64 x0)) (hn : n ≤ 1099511627776) (hbase : base ≤ w.heap.size)
    (h : ∀ A' c' w', w'.ownsRow base 2 1 (.slice A' (n + 1) c') (n + 1) (ints (xs ++ [x0])) → w.grownBy w' (Value.slice A n c).ownBlock → wpList Tryz.prog ops Q rest (a.put o.dst (.slice A' (n + 1) c')) w') :
    wpList Tryz.prog ops Q (o :: rest) a w := by
  obtain ⟨i, hi, hz, hs1, hb1⟩ := info_parts Tryz.info_i64
  refine wpList_append_own w hgd s x 35 ho base 2 i (.int .i64 0) 1 8 Tryz.underlying35 hi hz hs1 hb1 rfl (by decide) (.slice A n c) n (ints xs) hs hown ad 1 1 [.int .i64 x0] hx rfl ?_ ?_ (by unfold maxLen; omega) (by omega) hbase ?_
  · intro j u hu
    have hj : j = 0 := by
      rcases j with _ | j
      · rfl
      · simp at hu
    subst hj
    have hadd : ad.add 0 = ad := by simp [Addr.add]
    rw [hadd, hc]
    simpa using hu
  · intro u hu
    simp at hu
    subst hu
    rfl
  · intro v' w' h1 h2 _
    rcases h1.2 with ⟨rfl, h0⟩ | ⟨g, cap, cur, rfl, _⟩
    · omega
    · refine h _ _ w' ?_ h2
      rw [ints_append]
      exact h1
theorem below_app {B base n c e : Nat} {w wr w1 : World} {A : Option Addr} {xs : List Value} {o : Obj} (hb : Below B w wr) (hB : B ≤ wr.heap.size) (hbase : B ≤ base) (hown : wr.ownsRow base e 1 (.slice A n c) n xs)
    (hg : (wr.alloc o).grownBy w1 (Value.slice A n c).ownBlock) : Below B w w1 :=
  (hb.alloc hB o).grown hg (by simp; omega) (fun k hk => Nat.le_trans hbase (hown.lt k hk).1)
/-- Result: new integers and a code. -/
def RetI (w : World) (r : List Int × Int) (e : Ending) (w' : World) : Prop :=
  ∃ A n c, e = .returned (.tuple #[.slice A n c, .int .i64 r.2]) ∧ w'.ownsRow w.heap.size 2 1 (.slice A n c) n (ints r.1) ∧ n ≤ 1048576 ∧ Below w.heap.size w w'
theorem RetI.nil (w w' : World) (code : Int) (h : Below w.heap.size w w') : RetI w ([], code) (.returned (.tuple #[.slice none 0 0, .int .i64 code])) w' :=
  ⟨none, 0, 0, rfl, World.ownsRow_nil _ _ _ _, by omega, h⟩

end Go.Proofs.YtalgdeieejpelaaGreatDoor

/- General lemmas: slices of slices of integers. No Go function in sight. -/
namespace Go.Proofs.YtalgdeieejpelaaGreatDoor
open Go.RowKit
set_option linter.unusedVariables false

/-- A slice of slices that reads as a list of lists. -/
structure RdRows (w : World) (A : Option Addr) (n : Nat) (rows : List (List Int)) : Prop where
  len : rows.length = n
  le : n ≤ 9223372036854775807
  at_ : ∀ k, k < n → ∃ b o A' c' xs, A = some ⟨b, o, none⟩ ∧ rows[k]? = some xs ∧ w.cell? ⟨b, o + k, none⟩ = some (.slice A' xs.length c') ∧ Rd w 1 A' xs.length (ints xs)
theorem RdRows.keep {w w' : World} {A : Option Addr} {n : Nat} {rows : List (List Int)} (h : RdRows w A n rows) (k : Keeps w w') : RdRows w' A n rows :=
  ⟨h.len, h.le, fun i hi => by
    obtain ⟨b, o, A', c', xs, e, hx, hc, hr⟩ := h.at_ i hi
    exact ⟨b, o, A', c', xs, e, hx, k _ _ hc, hr.keep k⟩⟩
theorem RdRows.below {w w' : World} {A : Option Addr} {n : Nat} {rows : List (List Int)} (h : RdRows w A n rows) (k : Below w.heap.size w w') : RdRows w' A n rows := h.keep (Keeps.below k)
theorem RdRows.drawn {w w' : World} {A : Option Addr} {n : Nat} {rows : List (List Int)} (h : RdRows w A n rows) (k : Drawn w w') : RdRows w' A n rows := h.below k.below
theorem RdRows.row {w : World} {A : Option Addr} {n k : Nat} {rows : List (List Int)} (h : RdRows w A n rows) (hk : k < n) :
    ∃ b o A' c' xs, A = some ⟨b, o, none⟩ ∧ rows[k]? = some xs ∧ rows.drop k = xs :: rows.drop (k + 1) ∧ w.cell? ⟨b, o + k, none⟩ = some (.slice A' xs.length c') ∧ Rd w 1 A' xs.length (ints xs) := by
  obtain ⟨b, o, A', c', xs, e, hx, hc, hr⟩ := h.at_ k hk
  obtain ⟨y, h1, h2⟩ := drop_cons (xs := rows) (k := k) (by rw [h.len]; exact hk)
  obtain rfl : xs = y := by rw [hx] at h1; injection h1
  exact ⟨b, o, A', c', xs, e, hx, h2, hc, hr⟩

/-- A slice of slices of the call's own. -/
structure OwnRows (w : World) (base eo ei : Nat) (A : Option Addr) (n c : Nat) (vs : List Value) (rows : List (List Int)) : Prop where
  outer : w.ownsRow base eo 1 (.slice A n c) n vs
  len : rows.length = n
  row : ∀ (k : Nat) (v : Value) (xs : List Int), vs[k]? = some v → rows[k]? = some xs → ∃ A' c', v = .slice A' xs.length c' ∧ w.ownsRow base ei 1 v xs.length (ints xs)
  apart : ∀ (i j : Nat) (u v : Value), i ≠ j → vs[i]? = some u → vs[j]? = some v → ∀ g, u.ownBlock = some g → v.ownBlock ≠ some g

section
variable {w w' : World} {base eo ei n c : Nat} {A : Option Addr} {vs : List Value} {rows : List (List Int)}
theorem OwnRows.vlen (h : OwnRows w base eo ei A n c vs rows) : vs.length = n := by have := h.outer.1; omega
theorem OwnRows.nle (h : OwnRows w base eo ei A n c vs rows) : n ≤ 9223372036854775807 := (own_rd h.outer).le
/-- What row k is. -/
theorem OwnRows.get (h : OwnRows w base eo ei A n c vs rows) {k : Nat} (hk : k < n) :
    ∃ v A' c' xs, vs[k]? = some v ∧ rows[k]? = some xs ∧ rows.drop k = xs :: rows.drop (k + 1) ∧ v = .slice A' xs.length c' ∧ w.ownsRow base ei 1 (.slice A' xs.length c') xs.length (ints xs) := by
  have h1 : vs[k]? = some (vs[k]'(by rw [h.vlen]; exact hk)) := List.getElem?_eq_getElem _
  obtain ⟨xs, h2, h3⟩ := drop_cons (xs := rows) (k := k) (by rw [h.len]; exact hk)
  obtain ⟨A', c', e, ho⟩ := h.row k _ _ h1 h2
  exact ⟨_, A', c', xs, h1, h2, h3, e, by rw [e] at ho; exact ho⟩
theorem OwnRows.rd (h : OwnRows w base eo ei A n c vs rows) : RdRows w A n rows :=
  ⟨h.len, h.nle, fun k hk => by
    obtain ⟨v, A', c', xs, h1, h2, _, e, ho⟩ := h.get hk
    obtain ⟨g, u, hA, _, _, hu, hc, _⟩ := own_at h.outer hk
    obtain rfl : v = u := by rw [h1] at hu; injection hu
    exact ⟨g, 0, A', c', xs, hA, h2, by rw [Nat.zero_add, hc, e], own_rd ho⟩⟩
/-- The blocks lie from lo to below hi. -/
def RowsIn (lo hi : Nat) (A : Option Addr) (n c : Nat) (vs : List Value) : Prop :=
  (∀ b, (Value.slice A n c).ownBlock = some b → lo ≤ b ∧ b < hi) ∧ ∀ v ∈ vs, ∀ b, v.ownBlock = some b → lo ≤ b ∧ b < hi
theorem OwnRows.in_ (h : OwnRows w base eo ei A n c vs rows) : RowsIn base w.heap.size A n c vs := by
  refine ⟨h.outer.lt, fun v hv b hb => ?_⟩
  obtain ⟨k, hk⟩ := List.mem_iff_getElem?.1 hv
  have hkn : k < n := by have := (List.getElem?_eq_some_iff.1 hk).1; rw [h.vlen] at this; exact this
  obtain ⟨u, A', c', xs, h1, h2, _, e, ho⟩ := h.get hkn
  obtain rfl : v = u := by rw [hk] at h1; injection h1
  rw [e] at hb
  exact ho.lt b hb
theorem OwnRows.below (h : OwnRows w base eo ei A n c vs rows) (k : Below w.heap.size w w') : OwnRows w' base eo ei A n c vs rows :=
  ⟨own_below h.outer k, h.len, fun i v xs h1 h2 => by obtain ⟨A', c', e, ho⟩ := h.row i v xs h1 h2; exact ⟨A', c', e, own_below ho k⟩, h.apart⟩
theorem OwnRows.drawn (h : OwnRows w base eo ei A n c vs rows) (k : Drawn w w') : OwnRows w' base eo ei A n c vs rows := h.below k.below
theorem OwnRows.alloc (h : OwnRows w base eo ei A n c vs rows) (o : Obj) : OwnRows (w.alloc o) base eo ei A n c vs rows := h.below ((Below.refl _ _).alloc (Nat.le_refl _) _)
theorem OwnRows.chg {lo hi : Nat} (h : OwnRows w base eo ei A n c vs rows) (k : Chg lo hi w w') {lo2 hi2 : Nat} (hv : RowsIn lo2 hi2 A n c vs) (hd : hi2 ≤ lo ∨ hi ≤ lo2) : OwnRows w' base eo ei A n c vs rows :=
  ⟨own_chg h.outer k (fun b hb => by have := hv.1 b hb; omega), h.len,
    fun i v xs h1 h2 => by
      obtain ⟨A', c', e, ho⟩ := h.row i v xs h1 h2
      exact ⟨A', c', e, own_chg ho k (fun b hb => by have := hv.2 v (List.mem_of_getElem? h1) b hb; omega)⟩, h.apart⟩
theorem OwnRows.base' {base' : Nat} (h : OwnRows w base eo ei A n c vs rows) (hb : base' ≤ base) : OwnRows w base' eo ei A n c vs rows :=
  ⟨own_base h.outer hb, h.len, fun i v xs h1 h2 => by obtain ⟨A', c', e, ho⟩ := h.row i v xs h1 h2; exact ⟨A', c', e, own_base ho hb⟩, h.apart⟩

theorem own_type_ne {base base' e e' n n' : Nat} {s s' : Nat} {v v' : Value} {xs xs' : List Value} (h : w.ownsRow base e s v n xs) (h' : w.ownsRow base' e' s' v' n' xs') (hne : e ≠ e') :
    ∀ g, v.ownBlock = some g → v'.ownBlock ≠ some g := by
  intro g hg hg'
  rcases h.2 with ⟨rfl, _⟩ | ⟨g1, cap, cur, rfl, _, hh, _⟩
  · simp [Value.ownBlock] at hg
  · rcases h'.2 with ⟨rfl, _⟩ | ⟨g2, cap', cur', rfl, _, hh', _⟩
    · simp [Value.ownBlock] at hg'
    · simp [Value.ownBlock] at hg hg'
      subst hg; subst hg'
      rw [hh] at hh'
      injection hh' with hh'
      injection hh' with _ ht
      exact hne ht

/-- Row k alone is written. -/
theorem OwnRows.upd (h : OwnRows w base eo ei A n c vs rows) (hne : eo ≠ ei) {k : Nat} {v : Value} {xs ys : List Int} (hk : vs[k]? = some v) (hx : rows[k]? = some xs) (hl : ys.length = xs.length)
    (hg : w.grownBy w' v.ownBlock) (hy : w'.ownsRow base ei 1 v ys.length (ints ys)) : OwnRows w' base eo ei A n c vs (rows.set k ys) := by
  obtain ⟨A0, c0, e0, ho0⟩ := h.row k v xs hk hx
  refine ⟨h.outer.kept hg ?_, by simpa using h.len, ?_, h.apart⟩
  · rcases hb : (Value.slice A n c).ownBlock with _ | g
    · exact .inl rfl
    · exact .inr (fun he => own_type_ne h.outer ho0 hne g hb he.symm)
  · intro i u zs h1 h2
    by_cases hik : i = k
    · subst hik
      obtain rfl : v = u := by rw [hk] at h1; injection h1
      have hlt := (List.getElem?_eq_some_iff.1 hx).1
      rw [List.getElem?_set_self hlt] at h2
      injection h2 with h2; subst h2
      exact ⟨A0, c0, by rw [e0, hl], hy⟩
    · rw [List.getElem?_set_ne (fun e => hik e.symm)] at h2
      obtain ⟨A', c', e, ho⟩ := h.row i u zs h1 h2
      refine ⟨A', c', e, ho.kept hg ?_⟩
      rcases hb : u.ownBlock with _ | g
      · exact .inl rfl
      · exact .inr (fun he => h.apart i k u v hik h1 hk g hb he.symm)

/-- Row k is put: a slice whose block is none of the others'. -/
theorem OwnRows.put {g : Nat} (h : OwnRows w base eo ei (some ⟨g, 0, none⟩) n c vs rows) (hne : eo ≠ ei) {k : Nat} {A' : Option Addr} {c' : Nat} {ys : List Int}
    (hy : w.ownsRow base ei 1 (.slice A' ys.length c') ys.length (ints ys)) (hap : ∀ u ∈ vs, ∀ b, (Value.slice A' ys.length c').ownBlock = some b → u.ownBlock ≠ some b) :
    OwnRows (w.setCell ⟨g, k, none⟩ (.slice A' ys.length c')) base eo ei (some ⟨g, 0, none⟩) n c (vs.set k (.slice A' ys.length c')) (rows.set k ys) := by
  have hst := h.outer.stored k (.slice A' ys.length c')
  have keep : ∀ (u : Value) (m : Nat) (zs : List Value), w.ownsRow base ei 1 u m zs → (w.setCell ⟨g, k, none⟩ (.slice A' ys.length c')).ownsRow base ei 1 u m zs := by
    intro u m zs ho
    refine ho.kept hst.2 ?_
    rcases hb : u.ownBlock with _ | b
    · exact .inl rfl
    · refine .inr (fun he => ?_)
      injection he with he
      subst he
      exact own_type_ne h.outer ho hne b rfl hb
  refine ⟨hst.1, by simpa using h.len, ?_, ?_⟩
  · intro i u zs h1 h2
    by_cases hik : i = k
    · subst hik
      have hlt : i < rows.length := by have := (List.getElem?_eq_some_iff.1 h2).1; simpa using this
      have hlt' : i < vs.length := by rw [h.vlen, ← h.len]; exact hlt
      rw [List.getElem?_set_self hlt] at h2
      rw [List.getElem?_set_self hlt'] at h1
      injection h2 with h2; injection h1 with h1
      subst h2; subst h1
      exact ⟨A', c', rfl, keep _ _ _ hy⟩
    · rw [List.getElem?_set_ne (fun e => hik e.symm)] at h1 h2
      obtain ⟨A'', c'', e, ho⟩ := h.row i u zs h1 h2
      exact ⟨A'', c'', e, keep _ _ _ ho⟩
  · intro i j u v hij h1 h2 b hb
    by_cases hik : i = k
    · subst hik
      rw [List.getElem?_set_ne (fun e => hij e)] at h2
      have hlt' : i < vs.length := by have := (List.getElem?_eq_some_iff.1 h1).1; simpa using this
      rw [List.getElem?_set_self hlt'] at h1
      injection h1 with h1; subst h1
      exact hap v (List.mem_of_getElem? h2) b hb
    · rw [List.getElem?_set_ne (fun e => hik e.symm)] at h1
      by_cases hjk : j = k
      · subst hjk
        have hlt' : j < vs.length := by have := (List.getElem?_eq_some_iff.1 h2).1; simpa using this
        rw [List.getElem?_set_self hlt'] at h2
        injection h2 with h2; subst h2
        exact fun hb' => hap u (List.mem_of_getElem? h1) b hb' hb
      · rw [List.getElem?_set_ne (fun e => hjk e.symm)] at h2
        exact h.apart i j u v hij h1 h2 b hb

/-- Behind a make: all rows are nil. -/
theorem OwnRows.made (w : World) (base eo ei n : Nat) (hb : base ≤ w.heap.size) (hm : n ≤ 9223372036854775807) :
    OwnRows (w.alloc (.cells (madeCells #[.slice none 0 0] n) eo)) base eo ei (some ⟨w.heap.size, 0, none⟩) n n (List.replicate n (.slice none 0 0)) (List.replicate n []) := by
  refine ⟨own_made w base eo n _ hb hm, by simp, ?_, ?_⟩
  · intro k v xs h1 h2
    rw [List.getElem?_replicate] at h1 h2
    split at h1
    · injection h1 with h1; subst h1
      rw [if_pos ‹_›] at h2
      injection h2 with h2; subst h2
      exact ⟨none, 0, rfl, World.ownsRow_nil _ _ _ _⟩
    · cases h1
  · intro i j u v _ h1 h2 g hg
    rw [List.getElem?_replicate] at h1
    split at h1
    · injection h1 with h1; subst h1
      simp [Value.ownBlock] at hg
    · cases h1
theorem OwnRows.nil (w : World) (base eo ei : Nat) : OwnRows w base eo ei none 0 0 [] [] :=
  ⟨World.ownsRow_nil _ _ _ _, rfl, fun k v xs h => by simp at h, fun i j u v _ h => by simp at h⟩
theorem OwnRows.empty (w : World) (base eo ei : Nat) (hb : base ≤ w.heap.size) : OwnRows (w.alloc (.cells #[] eo)) base eo ei (some ⟨w.heap.size, 0, none⟩) 0 0 [] [] :=
  ⟨own_empty w base eo hb, rfl, fun k v xs h => by simp at h, fun i j u v _ h => by simp at h⟩
/-- A row is appended. -/
theorem OwnRows.append {w1 : World} {A1 : Option Addr} {c1 : Nat} (h : OwnRows w base eo ei A n c vs rows) (hne : eo ≠ ei) {A' : Option Addr} {c' : Nat} {ys : List Int}
    (hy : w.ownsRow base ei 1 (.slice A' ys.length c') ys.length (ints ys)) (hap : ∀ u ∈ vs, ∀ b, (Value.slice A' ys.length c').ownBlock = some b → u.ownBlock ≠ some b)
    (o : Obj) (hg : (w.alloc o).grownBy w1 (Value.slice A n c).ownBlock) (ho : w1.ownsRow base eo 1 (.slice A1 (n + 1) c1) (n + 1) (vs ++ [.slice A' ys.length c'])) :
    OwnRows w1 base eo ei A1 (n + 1) c1 (vs ++ [.slice A' ys.length c']) (rows ++ [ys]) := by
  have keep : ∀ (u : Value) (m : Nat) (zs : List Value), w.ownsRow base ei 1 u m zs → w1.ownsRow base ei 1 u m zs := by
    intro u m zs hu
    refine (hu.alloc o).kept hg ?_
    rcases hb : u.ownBlock with _ | b
    · exact .inl rfl
    · exact .inr (fun he => own_type_ne h.outer hu hne b he.symm hb)
  refine ⟨ho, by simp [h.len], ?_, ?_⟩
  · intro i u zs h1 h2
    by_cases hi : i < n
    · rw [List.getElem?_append_left (by rw [h.vlen]; exact hi)] at h1
      rw [List.getElem?_append_left (by rw [h.len]; exact hi)] at h2
      obtain ⟨A'', c'', e, hr⟩ := h.row i u zs h1 h2
      exact ⟨A'', c'', e, keep _ _ _ hr⟩
    · rw [List.getElem?_append_right (by rw [h.vlen]; omega), h.vlen] at h1
      rw [List.getElem?_append_right (by rw [h.len]; omega), h.len] at h2
      have h0 : i - n = 0 := by
        rcases Nat.eq_zero_or_pos (i - n) with h | h
        · exact h
        · rw [List.getElem?_eq_none (by simp; omega)] at h1; cases h1
      rw [h0] at h1 h2
      simp at h1 h2
      subst h1; subst h2
      exact ⟨A', c', rfl, keep _ _ _ hy⟩
  · intro i j u v hij h1 h2 b hb
    have split : ∀ (q : Nat) (x : Value), (vs ++ [Value.slice A' ys.length c'])[q]? = some x → (q < n ∧ vs[q]? = some x) ∨ (q = n ∧ x = .slice A' ys.length c') := by
      intro q x hx
      by_cases hq : q < n
      · rw [List.getElem?_append_left (by rw [h.vlen]; exact hq)] at hx; exact .inl ⟨hq, hx⟩
      · rw [List.getElem?_append_right (by rw [h.vlen]; omega), h.vlen] at hx
        have h0 : q - n = 0 := by
          rcases Nat.eq_zero_or_pos (q - n) with h | h
          · exact h
          · rw [List.getElem?_eq_none (by simp; omega)] at hx; cases hx
        rw [h0] at hx
        simp at hx
        exact .inr ⟨by omega, hx.symm⟩
    rcases split i u h1 with ⟨hi, hu⟩ | ⟨hi, rfl⟩ <;> rcases split j v h2 with ⟨hj, hv⟩ | ⟨hj, rfl⟩
    · exact h.apart i j u v hij hu hv b hb
    · exact fun hb' => hap u (List.mem_of_getElem? hu) b hb' hb
    · exact hap v (List.mem_of_getElem? hv) b hb
    · omega
end
end Go.Proofs.YtalgdeieejpelaaGreatDoor

/- Walks: the laws' helpers on [][]int64: size, copy, compare, mark, hold. -/
namespace Go.Proofs.YtalgdeieejpelaaGreatDoor
open Go.RowKit
set_option linter.unusedVariables false
set_option maxRecDepth 100000

theorem Tryz.info_ints : (Tryz.prog.info? 35).map (fun i => (i.zero, i.size, i.bytes)) = some (some (.slice none 0 0), 1, 24) := by kernel_rfl
theorem run_make_rows (n : Nat) (h : n ≤ 1048576) (w : World) :
    (Instr.makeSlice 31 (.int .i64 (n : Int)) (.int .i64 (n : Int))).run Tryz.prog w = .ok (.slice (some ⟨w.heap.size, 0, none⟩) n n) (w.alloc (.cells (madeCells #[.slice none 0 0] n) 35)) := by
  obtain ⟨i, hi, hz, hs, hb⟩ := info_parts Tryz.info_ints
  have hr := run_make (P := Tryz.prog) w 31 35 i (.slice none 0 0) Tryz.underlying31 hi hz .i64 .i64 n n (by omega) (by omega) (by rw [hb]; omega) (by omega)
  rw [hs, Nat.mul_one, Int.toNat_natCast] at hr
  exact hr

/-! ### Sizes -/
def szF (left : Int) (n : Nat) : Int := if left - n < 0 then -1 else left - n
def szGo (left : Int) : List (List Int) → Int
  | [] => left
  | x :: r => if left - x.length < 0 then -1 else szGo (left - x.length) r
def szRowsF (left : Int) (rows : List (List Int)) : Int := if left - rows.length < 0 then -1 else szGo (left - rows.length) rows
theorem szGo_le {left : Int} {rows : List (List Int)} (h : 0 ≤ szGo left rows) (h0 : 0 ≤ left) : szGo left rows ≤ left ∧ ∀ x ∈ rows, (x.length : Int) ≤ left := by
  induction rows generalizing left with
  | nil => exact ⟨Int.le_refl _, fun x hx => by cases hx⟩
  | cons y r ih =>
    unfold szGo at h ⊢
    split at h
    · omega
    · rename_i hn
      rw [if_neg hn]
      have := ih h (by omega)
      refine ⟨by omega, fun x hx => ?_⟩
      rcases List.mem_cons.1 hx with rfl | hx
      · omega
      · have := this.2 x hx; omega
theorem szRowsF_le {left : Int} {rows : List (List Int)} (h : 0 ≤ szRowsF left rows) (h0 : 0 ≤ left) : (rows.length : Int) ≤ left ∧ ∀ x ∈ rows, (x.length : Int) ≤ left := by
  unfold szRowsF at h
  split at h
  · omega
  · rename_i hn
    have := szGo_le h (by omega)
    exact ⟨by omega, fun x hx => by have := this.2 x hx; omega⟩

/-! ### Lengths together -/
def sumLen : List (List Int) → Nat
  | [] => 0
  | x :: r => x.length + sumLen r
theorem sumLen_take_le (rows : List (List Int)) (j : Nat) : sumLen (rows.take j) ≤ sumLen rows := by
  induction rows generalizing j with
  | nil => simp
  | cons x r ih =>
    cases j with
    | zero => simp [sumLen]
    | succ j => simp only [List.take_succ_cons, sumLen]; have := ih j; omega
theorem sumLen_snoc (rows : List (List Int)) (x : List Int) : sumLen (rows ++ [x]) = sumLen rows + x.length := by
  induction rows with
  | nil => simp [sumLen]
  | cons y r ih => simp only [List.cons_append, sumLen, ih]; omega
theorem sumLen_le {rows : List (List Int)} {m : Nat} (h : ∀ x ∈ rows, x.length ≤ m) : sumLen rows ≤ rows.length * m := by
  induction rows with
  | nil => simp [sumLen]
  | cons x r ih =>
    have h1 := h x (by simp)
    have h2 := ih (fun y hy => h y (by simp [hy]))
    simp only [sumLen, List.length_cons, Nat.add_mul, Nat.one_mul]
    omega

/-! ### Copy -/
def RetRowsCopy (w : World) (rows : List (List Int)) (e : Ending) (w' : World) : Prop :=
  ∃ A n c vs, e = .returned (.slice A n c) ∧ OwnRows w' w.heap.size 35 2 A n c vs rows ∧ sumLen rows ≤ 576460752303423488 ∧ Below w.heap.size w w'

/-! ### Compare -/
/-! ### Mark and hold -/
def seqRows (k : Int) : List (List Int) → List (List Int)
  | [] => []
  | x :: r => seqFrom k x.length :: seqRows (k + x.length) r
theorem seqRows_length (k : Int) (rows : List (List Int)) : (seqRows k rows).length = rows.length := by
  induction rows generalizing k with
  | nil => rfl
  | cons x r ih => simp [seqRows, ih]
theorem seqRows_sum (k : Int) (rows : List (List Int)) : sumLen (seqRows k rows) = sumLen rows := by
  induction rows generalizing k with
  | nil => rfl
  | cons x r ih => simp [seqRows, sumLen, ih, seqFrom_length]
theorem seqRows_get (k : Int) (rows : List (List Int)) (j : Nat) (x : List Int) (h : rows[j]? = some x) : (seqRows k rows)[j]? = some (seqFrom (k + sumLen (rows.take j)) x.length) := by
  induction rows generalizing k j with
  | nil => simp at h
  | cons y r ih =>
    cases j with
    | zero => simp at h; subst h; simp [seqRows, sumLen]
    | succ j =>
      simp only [seqRows, List.getElem?_cons_succ, List.take_succ_cons, sumLen]
      rw [ih _ _ (by simpa using h)]
      congr 2
      omega
theorem mix_set {α : Type} (ys xs : List α) (j : Nat) (y : α) (hl : ys.length = xs.length) (hy : ys[j]? = some y) : (ys.take j ++ xs.drop j).set j y = ys.take (j + 1) ++ xs.drop (j + 1) := by
  have hj : j < ys.length := (List.getElem?_eq_some_iff.1 hy).1
  have hj' : j < xs.length := by omega
  rw [List.set_append, if_neg (by simp; omega), take_snoc_get hy, List.drop_eq_getElem_cons hj']
  have e : j - (ys.take j).length = 0 := by simp; omega
  rw [e, List.set_cons_zero, List.append_assoc]
  rfl
theorem mix_get {α : Type} (ys xs : List α) (j : Nat) (hl : ys.length = xs.length) (hj : j < xs.length) : (ys.take j ++ xs.drop j)[j]? = xs[j]? := by
  rw [List.getElem?_append_right (by simp; omega)]
  have e : j - (ys.take j).length = 0 := by simp; omega
  rw [e, List.getElem?_drop]; simp

/-- Result: new rows and a code. -/
def RetR (w : World) (r : List (List Int) × Int) (e : Ending) (w' : World) : Prop :=
  ∃ A n c vs, e = .returned (.tuple #[.slice A n c, .int .i64 r.2]) ∧ OwnRows w' w.heap.size 35 2 A n c vs r.1 ∧ sumLen r.1 ≤ 576460752303423488 ∧ Below w.heap.size w w'
theorem RetR.nil (w w' : World) (code : Int) (h : Below w.heap.size w w') : RetR w ([], code) (.returned (.tuple #[.slice none 0 0, .int .i64 code])) w' :=
  ⟨none, 0, 0, [], rfl, OwnRows.nil _ _ _ _, by simp [sumLen], h⟩

/-- One row is appended to own rows. -/
theorem app_row {ops : Array Oper} {rest : List Oper} {o : Oper} {a : Act} {Q : Exit → Act → World → Prop} (w : World) (hgd : o.guard = none) (s x : Operand)
    (ho : o.op = .call { callee := .builtin .append, args := #[s, x], argTypes := #[31, 31] }) {base n c : Nat} {A : Option Addr} {vs : List Value}
    (hs : a.eval s = .slice A n c) (hown : w.ownsRow base 35 1 (.slice A n c) n vs) {ad : Addr} {B : Option Addr} {m d : Nat} (hx : a.eval x = .slice (some ad) 1 1)
    (hc : w.cell? ad = some (.slice B m d)) (hn : n ≤ 1099511627776) (hbase : base ≤ w.heap.size)
    (h : ∀ A' c' w', w'.ownsRow base 35 1 (.slice A' (n + 1) c') (n + 1) (vs ++ [.slice B m d]) → w.grownBy w' (Value.slice A n c).ownBlock → wpList Tryz.prog ops Q rest (a.put o.dst (.slice A' (n + 1) c')) w') :
    wpList Tryz.prog ops Q (o :: rest) a w := by
  obtain ⟨i, hi, hz, hs1, hb1⟩ := info_parts Tryz.info_ints
  refine wpList_append_own w hgd s x 31 ho base 35 i (.slice none 0 0) 1 24 Tryz.underlying31 hi hz hs1 hb1 rfl (by decide) (.slice A n c) n vs hs hown ad 1 1 [.slice B m d] hx rfl ?_ ?_ (by unfold maxLen; omega) (by omega) hbase ?_
  · intro j u hu
    have hj : j = 0 := by
      rcases j with _ | j
      · rfl
      · simp at hu
    subst hj
    have hadd : ad.add 0 = ad := by simp [Addr.add]
    rw [hadd, hc]
    simpa using hu
  · intro u hu
    simp at hu
    subst hu
    rfl
  · intro v' w' h1 h2 _
    rcases h1.2 with ⟨rfl, h0⟩ | ⟨g, cap, cur, rfl, _⟩
    · omega
    · exact h _ _ w' h1 h2
end Go.Proofs.YtalgdeieejpelaaGreatDoor

/- Tables in memory: two slices of slices of integers behind a number. No Go function in sight. -/
namespace Go.Proofs.YtalgdeieejpelaaGreatDoor
open Go.RowKit
set_option linter.unusedVariables false

/-- A table: boats, points, codes. -/
structure Tb where
  boats : Int
  pts : List (List Int)
  cds : List (List Int)
/-- A table's slices read as the table. -/
structure RdT (w : World) (P : Option Addr) (n : Nat) (C : Option Addr) (m : Nat) (t : Tb) : Prop where
  pts : RdRows w P n t.pts
  cds : RdRows w C m t.cds
theorem RdT.below {w w' : World} {P C : Option Addr} {n m : Nat} {t : Tb} (h : RdT w P n C m t) (k : Below w.heap.size w w') : RdT w' P n C m t := ⟨h.pts.below k, h.cds.below k⟩
theorem RdT.keep {w w' : World} {P C : Option Addr} {n m : Nat} {t : Tb} (h : RdT w P n C m t) (k : Keeps w w') : RdT w' P n C m t := ⟨h.pts.keep k, h.cds.keep k⟩
/-- A table of the call's own. -/
structure OwnT (w : World) (base : Nat) (P : Option Addr) (n c : Nat) (vs : List Value) (C : Option Addr) (m d : Nat) (us : List Value) (t : Tb) : Prop where
  pts : OwnRows w base 35 2 P n c vs t.pts
  cds : OwnRows w base 35 2 C m d us t.cds
  apO : ∀ g, (Value.slice P n c).ownBlock = some g → (Value.slice C m d).ownBlock ≠ some g
  apR : ∀ v ∈ vs, ∀ u ∈ us, ∀ g, v.ownBlock = some g → u.ownBlock ≠ some g
/-- The blocks of a table lie from lo to below hi. -/
def TIn (lo hi : Nat) (P : Option Addr) (n c : Nat) (vs : List Value) (C : Option Addr) (m d : Nat) (us : List Value) : Prop :=
  RowsIn lo hi P n c vs ∧ RowsIn lo hi C m d us
section
variable {w w' : World} {base n c m d : Nat} {P C : Option Addr} {vs us : List Value} {t : Tb}
theorem OwnT.rd (h : OwnT w base P n c vs C m d us t) : RdT w P n C m t := ⟨h.pts.rd, h.cds.rd⟩
theorem OwnT.in_ (h : OwnT w base P n c vs C m d us t) : TIn base w.heap.size P n c vs C m d us := ⟨h.pts.in_, h.cds.in_⟩
theorem OwnT.below (h : OwnT w base P n c vs C m d us t) (k : Below w.heap.size w w') : OwnT w' base P n c vs C m d us t := ⟨h.pts.below k, h.cds.below k, h.apO, h.apR⟩
theorem OwnT.base' {base' : Nat} (h : OwnT w base P n c vs C m d us t) (hb : base' ≤ base) : OwnT w base' P n c vs C m d us t := ⟨h.pts.base' hb, h.cds.base' hb, h.apO, h.apR⟩
theorem OwnT.chg {lo hi : Nat} (h : OwnT w base P n c vs C m d us t) (k : Chg lo hi w w') {lo2 hi2 : Nat} (hv : TIn lo2 hi2 P n c vs C m d us) (hd : hi2 ≤ lo ∨ hi ≤ lo2) : OwnT w' base P n c vs C m d us t :=
  ⟨h.pts.chg k hv.1 hd, h.cds.chg k hv.2 hd, h.apO, h.apR⟩
/-- Two slices of slices that lie one behind the other. -/
theorem OwnT.join {mid : Nat} (h1 : OwnRows w base 35 2 P n c vs t.pts) (h2 : OwnRows w mid 35 2 C m d us t.cds) (hb : base ≤ mid) (hv : RowsIn base mid P n c vs) : OwnT w base P n c vs C m d us t := by
  have hu := h2.in_
  refine ⟨h1, h2.base' hb, fun g hg hg' => ?_, fun v hv' u hu' g hg hg' => ?_⟩
  · have := hv.1 g hg; have := hu.1 g hg'; omega
  · have := hv.2 v hv' g hg; have := hu.2 u hu' g hg'; omega
end
/-- Result: a new table. -/
def RetT (w : World) (t : Tb) (e : Ending) (w' : World) : Prop :=
  ∃ P n c vs C m d us, e = .returned (.agg #[.int .i64 t.boats, .slice P n c, .slice C m d]) ∧ OwnT w' w.heap.size P n c vs C m d us t ∧ (sumLen t.pts ≤ 1099511627776 ∧ sumLen t.cds ≤ 1099511627776) ∧ Below w.heap.size w w'
/-- Result: a new table and a code. -/
def RetTC (w : World) (r : Tb × Int) (e : Ending) (w' : World) : Prop :=
  ∃ P n c vs C m d us, e = .returned (.tuple #[.agg #[.int .i64 r.1.boats, .slice P n c, .slice C m d], .int .i64 r.2]) ∧ OwnT w' w.heap.size P n c vs C m d us r.1 ∧ (sumLen r.1.pts ≤ 1099511627776 ∧ sumLen r.1.cds ≤ 1099511627776) ∧ Below w.heap.size w w'
def noT : Tb := ⟨0, [], []⟩
theorem OwnT.nil (w : World) (base : Nat) : OwnT w base none 0 0 [] none 0 0 [] noT := ⟨OwnRows.nil _ _ _ _, OwnRows.nil _ _ _ _, fun g h => by simp [Value.ownBlock] at h, fun v hv => by simp at hv⟩
theorem RetTC.nil (w w' : World) (code : Int) (h : Below w.heap.size w w') : RetTC w (noT, code) (.returned (.tuple #[.agg #[.int .i64 0, .slice none 0 0, .slice none 0 0], .int .i64 code])) w' :=
  ⟨none, 0, 0, [], none, 0, 0, [], rfl, OwnT.nil _ _, by simp [noT, sumLen], h⟩
end Go.Proofs.YtalgdeieejpelaaGreatDoor

/- Plain: valid tables, averages, redress. -/
namespace Go.Proofs.YtalgdeieejpelaaGreatDoor
open Go.RowKit
set_option linter.unusedVariables false

/-- Two columns of rows are valid for a number of boats. -/
def zipB (b : Int) : List (List Int) → List (List Int) → Bool
  | p :: ps, c :: cs => rowB p b 10000 && rowB c b 9 && zipB b ps cs
  | _, _ => true
theorem zipB_nil (b : Int) (cs : List (List Int)) : zipB b [] cs = true := by cases cs <;> rfl
def tableB (t : Tb) : Bool := withinB t.boats 1 16 && decide (t.pts.length ≤ 12) && decide (t.pts.length = t.cds.length) && zipB t.boats t.pts t.cds
/-- Two rows of equal length, side by side. -/
def pairB : List Int → List Int → Bool
  | p :: ps, c :: cs => withinB p 0 10000 && withinB c 0 9 && pairB ps cs
  | _, _ => true
theorem pairB_nil (q : List Int) : pairB [] q = true := by cases q <;> rfl
theorem pairB_eq (b : Int) : ∀ (p c : List Int), (p.length : Int) = b → (c.length : Int) = b → (rowB p b 10000 && rowB c b 9) = pairB p c := by
  intro p c h1 h2
  have hl : p.length = c.length := by omega
  have key : ∀ (p c : List Int), p.length = c.length → (p.all (fun x => withinB x 0 10000) && c.all (fun x => withinB x 0 9)) = pairB p c := by
    intro p
    induction p with
    | nil => intro c h; cases c <;> simp_all [pairB]
    | cons x p ih =>
      intro c h
      cases c with
      | nil => simp at h
      | cons y c =>
        have := ih c (by simpa using h)
        simp only [List.all_cons, pairB, ← this]
        cases withinB x 0 10000 <;> cases withinB y 0 9 <;> simp [Bool.and_comm]
  rw [← key p c hl]
  unfold rowB
  have e1 : ((p.length : Int) == b) = true := by simp [h1]
  have e2 : ((c.length : Int) == b) = true := by simp [h2]
  rw [e1, e2]
  simp
theorem rowB_false {xs : List Int} {b most : Int} (h : (xs.length : Int) ≠ b) : rowB xs b most = false := by
  unfold rowB
  have : ((xs.length : Int) == b) = false := by simpa using h
  rw [this, Bool.and_false]
theorem rowB_ok {xs : List Int} {b most : Int} (h : rowB xs b most = true) : (xs.length : Int) = b ∧ ∀ x ∈ xs, 0 ≤ x ∧ x ≤ most := by
  unfold rowB at h
  simp only [Bool.and_eq_true, List.all_eq_true, beq_iff_eq] at h
  exact ⟨h.2, fun x hx => withinB_iff.1 (h.1 x hx)⟩
theorem zipB_at {b : Int} : ∀ {ps cs : List (List Int)}, zipB b ps cs = true → ∀ (k : Nat) (p c : List Int), ps[k]? = some p → cs[k]? = some c → rowB p b 10000 = true ∧ rowB c b 9 = true := by
  intro ps
  induction ps with
  | nil => intro cs h k p c hp; simp at hp
  | cons p0 ps ih =>
    intro cs h k p c hp hc
    cases cs with
    | nil => simp at hc
    | cons c0 cs =>
      simp only [zipB, Bool.and_eq_true] at h
      cases k with
      | zero => simp at hp hc; subst hp; subst hc; exact h.1
      | succ k => exact ih h.2 k p c (by simpa using hp) (by simpa using hc)
/-- What a valid table is. -/
structure TabOk (t : Tb) : Prop where
  b1 : 1 ≤ t.boats
  b2 : t.boats ≤ 16
  many : t.pts.length ≤ 12
  same : t.pts.length = t.cds.length
  row : ∀ (k : Nat) (p c : List Int), t.pts[k]? = some p → t.cds[k]? = some c → ((p.length : Int) = t.boats ∧ ∀ x ∈ p, 0 ≤ x ∧ x ≤ 10000) ∧ ((c.length : Int) = t.boats ∧ ∀ x ∈ c, 0 ≤ x ∧ x ≤ 9)
theorem tableB_ok {t : Tb} (h : tableB t = true) : TabOk t := by
  unfold tableB at h
  simp only [Bool.and_eq_true, decide_eq_true_eq] at h
  obtain ⟨⟨⟨h1, h2⟩, h3⟩, h4⟩ := h
  have hb := withinB_iff.1 h1
  exact ⟨hb.1, hb.2, h2, h3, fun k p c hp hc => ⟨rowB_ok (zipB_at h4 k p c hp hc).1, rowB_ok (zipB_at h4 k p c hp hc).2⟩⟩
theorem TabOk.tableB {t : Tb} (h : TabOk t) : tableB t = true := by
  have hz : ∀ (ps cs : List (List Int)), (∀ (k : Nat) (p c : List Int), ps[k]? = some p → cs[k]? = some c → ((p.length : Int) = t.boats ∧ ∀ x ∈ p, 0 ≤ x ∧ x ≤ 10000) ∧ ((c.length : Int) = t.boats ∧ ∀ x ∈ c, 0 ≤ x ∧ x ≤ 9)) → zipB t.boats ps cs = true := by
    intro ps
    induction ps with
    | nil => intro cs _; simp [zipB]
    | cons p ps ih =>
      intro cs h
      cases cs with
      | nil => simp [zipB]
      | cons c cs =>
        obtain ⟨⟨h1, h2⟩, h3, h4⟩ := h 0 p c rfl rfl
        have := ih cs (fun k p c hp hc => h (k + 1) p c (by simpa using hp) (by simpa using hc))
        simp only [zipB, this, Bool.and_true, Bool.and_eq_true, rowB, List.all_eq_true, beq_iff_eq]
        exact ⟨⟨fun x hx => withinB_iff.2 (h2 x hx), h1⟩, fun x hx => withinB_iff.2 (h4 x hx), h3⟩
  unfold Go.Proofs.YtalgdeieejpelaaGreatDoor.tableB
  rw [hz _ _ h.row, withinB_iff.2 ⟨h.b1, h.b2⟩]
  rw [decide_eq_true h.many, decide_eq_true h.same]
  rfl

/-- Whether race k counts for an average. -/
def otherB (race kind : Int) (k : Nat) : Bool := !((k : Int) == race) && !(kind == 2 && decide (race < (k : Int)))
theorem otherB_all {race kind : Int} (k : Nat) (h : kind = 1 ∨ kind = 2) : otherB race kind k = (decide ((k : Int) < race) || (decide ((k : Int) > race) && (kind == 1))) := by
  unfold otherB
  rcases h with rfl | rfl
  · by_cases h1 : (k : Int) < race
    · simp [h1]; omega
    · by_cases h2 : (k : Int) > race <;> simp [h1, h2] <;> omega
  · by_cases h1 : (k : Int) < race
    · simp [h1]; omega
    · by_cases h2 : (k : Int) > race <;> simp [h1, h2] <;> omega
def avgGo (race kind : Int) (b : Nat) : Nat → List (List Int) → List (List Int) → Int → Int → Int × Int
  | k, p :: ps, c :: cs, s, m => if (otherB race kind k && !(c.getD b 0 == 9)) = true then avgGo race kind b (k + 1) ps cs (s + p.getD b 0) (m + 1) else avgGo race kind b (k + 1) ps cs s m
  | _, _, _, s, m => (s, m)
theorem avgGo_nil (race kind : Int) (b k : Nat) (cs : List (List Int)) (s m : Int) : avgGo race kind b k [] cs s m = (s, m) := by cases cs <;> rfl
def avgOf (r : Int × Int) : Int × Bool := if r.2 = 0 then (0, false) else ((2 * r.1 + r.2) / (2 * r.2), true)
def avgF (t : Tb) (race boat kind : Int) : Int × Bool := avgOf (avgGo race kind boat.toNat 0 t.pts t.cds 0 0)
def avgPointsF (t : Tb) (race boat kind : Int) : Int × Int :=
  if tableB t = true then (if withinB race 0 ((t.pts.length : Int) - 1) = true ∧ withinB boat 0 (t.boats - 1) = true ∧ withinB kind 1 2 = true then (if (avgF t race boat kind).2 = true then ((avgF t race boat kind).1, 0) else (0, 4)) else (0, 2)) else (0, 1)

/-! ### Redress -/
abbrev RedT := Int × Int × Int × Int
def isRedBT (kind points : Int) : Bool := if kind = 3 then withinB points 0 10000 else withinB kind 1 2 && (points == 0)
def codeAt (t : Tb) (race boat : Int) : Int := (t.cds.getD race.toNat []).getD boat.toNat 0
def redB (t : Tb) (x : RedT) : Bool :=
  withinB x.1 0 ((t.pts.length : Int) - 1) && withinB x.2.1 0 (t.boats - 1) && isRedBT x.2.2.1 x.2.2.2 && (codeAt t x.1 x.2.1 == 9) && (x.2.2.1 == 3 || (avgF t x.1 x.2.1 x.2.2.1).2)
def ltRB (y x : RedT) : Bool := decide (y.1 < x.1) || ((y.1 == x.1) && decide (y.2.1 < x.2.1))
def redsGo (t : Tb) : Option RedT → List RedT → Bool
  | _, [] => true
  | none, x :: r => redB t x && redsGo t (some x) r
  | some y, x :: r => redB t x && ltRB y x && redsGo t (some x) r
def redsB (t : Tb) (xs : List RedT) : Bool := redsGo t none xs
def redCodeF (t : Tb) (xs : List RedT) : Int := if tableB t = true then (if redsB t xs = true then 0 else 2) else 1
def redVal (t : Tb) (x : RedT) : Int := if x.2.2.1 = 3 then x.2.2.2 else (avgF t x.1 x.2.1 x.2.2.1).1
def setRC (rows : List (List Int)) (r b : Nat) (v : Int) : List (List Int) := rows.set r ((rows.getD r []).set b v)
def applyGo (t : Tb) : List RedT → List (List Int) → List (List Int)
  | [], rows => rows
  | x :: r, rows => applyGo t r (setRC rows x.1.toNat x.2.1.toNat (redVal t x))
def applyF (t : Tb) (xs : List RedT) : Tb := ⟨t.boats, applyGo t xs t.pts, t.cds⟩
def namedB (xs : List RedT) (k b : Int) : Bool := xs.any fun x => x.1 == k && x.2.1 == b
def openRow (xs : List RedT) (k : Nat) : Nat → List Int → List (List Int)
  | _, [] => []
  | b, c :: cs => (if (c == 9 && !namedB xs k b) = true then [[(k : Int), (b : Int)]] else []) ++ openRow xs k (b + 1) cs
def openGo (xs : List RedT) : Nat → List (List Int) → List (List Int)
  | _, [] => []
  | k, r :: rs => openRow xs k 0 r ++ openGo xs (k + 1) rs
def openF (t : Tb) (xs : List RedT) : List (List Int) × Int := if redCodeF t xs = 0 then (openGo xs 0 t.cds, 0) else ([], redCodeF t xs)
def applyCF (t : Tb) (xs : List RedT) : Tb × Int := if redCodeF t xs = 0 then (applyF t xs, 0) else (noT, redCodeF t xs)
end Go.Proofs.YtalgdeieejpelaaGreatDoor

/- General and plain lemmas, and light walks (merged): Qd Ql Qac Qm Qn Wx Fs Fq Ra Md. -/
import Derived.Test.YtnpldahkhaacnaaGreatDoorQc
import Derived.Test.YtnpldahkhaacnaaGreatDoorZma
import Derived.Maps.AppendAt
import Derived.Lib.AppendZeros
import Derived.StillTailTactics
import Derived.Deep.RegionHeld3
import Derived.Deep.AppendLies
/- Walks: times and codes as texts, both sides. -/
namespace Go.Proofs.YtnpldahkhaacnaaGreatDoor
open Go.RowKit Go.Sort
set_option linter.unusedVariables false
set_option maxRecDepth 100000

theorem lastDigits_any (n k : Nat) (hn : n ≤ 1000000000000) (hk : k ≤ 10) (w : World) :
    Calls Tryz.prog 93 #[.int .i64 n, .int .i64 k] w fun e w' => e = .returned (.string (str (lastGo k n []))) ∧ Below w.heap.size w w' := by
  go_enter Tryz.func93, Tryz.ntmps93
  go_wp2_with fail
  go_loopw [0, 5, 6] (fun m s i wr => ∃ (q x : Nat) (l : List UInt8), q ≤ k ∧ x ≤ 1000000000000 ∧ l.length = q ∧ i = .int .i64 q ∧ m = .int .i64 x ∧ s = .string (str l) ∧ Hid (lastGo (k - q) x l = lastGo k n []) ∧ Hid (Below w.heap.size w wr)) (fun _ _ i _ => k - (intOf i).toNat)
  case atStart => exact ⟨0, n, [], Nat.zero_le _, hn, rfl, rfl, rfl, rfl, Lib.hid rfl, Lib.hid (Below.refl _ _)⟩
  case round =>
    obtain ⟨q, x, l, hq, hx, hl, rfl, rfl, rfl, HR, HB⟩ := hrel
    obtain ⟨wo, hwo⟩ : ∃ wo : World, wo = wr := ⟨_, rfl⟩
    subst hwo
    have HL := Lib.hid hl
    by_cases hlt : q < k
    · have hkd : decide ((q : Int) < (k : Int)) = true := by simpa using hlt
      have hcv := conv1_new wo (48 + (x : Int) % 10)
      have hz1 := str_size l
      rw [hl] at hz1
      have hsz1 : (str l).size ≤ 10 := by omega
      have hsz2 : (str [UInt8.ofNat (48 + (x : Int) % 10).toNat]).size ≤ 1 := by rw [str_size]; exact Nat.le_refl _
      rw [dgt_of] at hcv hsz2
      have hr := HR.out
      rw [show k - q = (k - (q + 1)) + 1 from by omega, lastGo] at hr
      have HR2 := Lib.hid hr
      clear hr HR hz1 hl
      go_wp2_with fail
      go_roundw
      case rel => exact ⟨q + 1, x / 10, dgt x :: l, by omega, by omega, by simp [HL.out], by go_num, by go_num, by rw [str_add]; rfl, HR2, Lib.hid (HB.out.alloc HB.out.size _)⟩
      case measure => simp [intOf] <;> omega
    · obtain rfl : q = k := by omega
      have hkd : decide ((q : Int) < (q : Int)) = false := by simp
      have hr := HR.out
      rw [Nat.sub_self, lastGo] at hr
      subst hr
      clear HR hl
      go_wp2_with fail
      go_ret
      exact ⟨rfl, HB.out⟩
theorem isTime_any (t : Int) (w : World) : Calls Tryz.prog 91 #[.int .i64 t] w fun e w' => e = .returned (.bool (withinB t 0 1000000000)) ∧ w = w' := by
  have H := Lib.hid (within_any t 0 1000000000 w)
  go_enter Tryz.func91, Tryz.ntmps91
  go_wp2_with fail
  refine H.out.mono ?_
  rintro e w' ⟨rfl, rfl⟩
  go_wp2_with fail
  go_ret
  exact ⟨rfl, rfl⟩
theorem isBoatQ_any (t : Int) (w : World) : Calls Tryz.prog 60 #[.int .i64 t] w fun e w' => e = .returned (.bool (withinB t 0 15)) ∧ w = w' := by
  have H := Lib.hid (within_any t 0 15 w)
  go_enter Tryz.func60, Tryz.ntmps60
  go_wp2_with fail
  refine H.out.mono ?_
  rintro e w' ⟨rfl, rfl⟩
  go_wp2_with fail
  go_ret
  exact ⟨rfl, rfl⟩
theorem times3 {a b c : List UInt8} : str a ++ str [58] ++ str b ++ str [46] ++ str c = str (a ++ [58] ++ b ++ [46] ++ c) := by rw [str_add, str_add, str_add, str_add]
theorem specTime_any (t : Nat) (h : t ≤ 1000000000) (w : World) :
    Calls Tryz.prog 65 #[.int .i64 t] w fun e w' => e = .returned (.string (str (timeL t))) ∧ Below w.heap.size w w' := by
  have H1 := Lib.hid (fun w' => number_any (t / 60000) (t / 60000) (Nat.le_refl _) (by omega) w')
  have H2 := Lib.hid (fun w' => lastDigits_any (t / 1000 % 60) 2 (by omega) (by omega) w')
  have H3 := Lib.hid (fun w' => lastDigits_any t 3 (by omega) (by omega) w')
  have HE := Lib.hid (show str (timeL t) = str (dec (t / 60000)) ++ str [58] ++ str (lastGo 2 (t / 1000 % 60) []) ++ str [46] ++ str (lastGo 3 t []) from by rw [times3]; rfl)
  have h1 := dec_len 9 (t / 60000) (by omega)
  have z1 : (str (dec (t / 60000))).size ≤ 10 := by rw [str_size]; exact h1
  have z2 : (str (lastGo 2 (t / 1000 % 60) [])).size ≤ 2 := by rw [str_size, lastGo_len]; exact Nat.le_refl _
  have z3 : (str (lastGo 3 t [])).size ≤ 3 := by rw [str_size, lastGo_len]; exact Nat.le_refl _
  generalize dec (t / 60000) = a at *
  generalize lastGo 2 (t / 1000 % 60) [] = b at *
  generalize lastGo 3 t [] = c at *
  clear h1
  go_enter Tryz.func65, Tryz.ntmps65
  go_wp2_with fail
  refine (H1.out _).mono ?_
  rintro e w1 ⟨rfl, hb⟩
  have HB1 := Lib.hid hb
  clear hb
  go_wp2_with fail
  refine (H2.out _).mono ?_
  rintro e w2 ⟨rfl, hb⟩
  have HB2 := Lib.hid (HB1.out.trans (hb.mono HB1.out.size))
  clear hb
  go_wp2_with fail
  refine (H3.out _).mono ?_
  rintro e w3 ⟨rfl, hb⟩
  have HB3 := Lib.hid (HB2.out.trans (hb.mono HB2.out.size))
  clear hb
  go_wp2_with fail
  go_ret
  exact ⟨by rw [HE.out]; rfl, HB3.out⟩
end Go.Proofs.YtnpldahkhaacnaaGreatDoor

/- Walks: the numbers of words, both sides. -/
namespace Go.Proofs.YtnpldahkhaacnaaGreatDoor
open Go.RowKit Go.Sort
set_option linter.unusedVariables false
set_option maxRecDepth 100000

theorem Rd.str {w : World} {A : Option Addr} {n k : Nat} {ws : List (List UInt8)} (h : Rd w 1 A n (strs ws)) (hk : k < n) : ∃ b o x, A = some ⟨b, o, none⟩ ∧ ws[k]? = some x ∧ ws.drop k = x :: ws.drop (k + 1) ∧ w.cell? ⟨b, o + k, none⟩ = some (.string (str x)) := by
  obtain ⟨b, o, e, hc⟩ := h.pos (by omega)
  have hl : ws.length = n := by have := h.len; rw [strs_len] at this; omega
  have hx : ws[k]? = some ws[k] := List.getElem?_eq_getElem (by omega)
  exact ⟨b, o, ws[k], e, hx, List.drop_eq_getElem_cons (by omega), hc k _ (strs_get hx)⟩
theorem Rd.len_str {w : World} {A : Option Addr} {n : Nat} {ws : List (List UInt8)} (h : Rd w 1 A n (strs ws)) : ws.length = n := by have := h.len; rw [strs_len] at this; omega
theorem Tryz.info_numQ : (Tryz.prog.info? 2).map (fun i => (i.zero, i.size, i.bytes)) = some (some (.int .i64 0), 1, 8) := by kernel_rfl
theorem app_numQ {ops : Array Oper} {rest : List Oper} {o : Oper} {a : Act} {Q : Exit → Act → World → Prop} (w : World) (hgd : o.guard = none) (s x : Operand)
    (ho : o.op = .call { callee := .builtin .append, args := #[s, x], argTypes := #[44, 44] }) {base n c : Nat} {A : Option Addr} {xs : List Int} {y : Int}
    (hs : a.eval s = .slice A n c) (hown : w.ownsRow base 2 1 (.slice A n c) n (ints xs)) {b : Nat} (hx : a.eval x = .slice (some ⟨b, 0, none⟩) 1 1)
    (hc : w.heap[b]? = some (.cells #[.int .i64 y] 2 (0, 0))) (hn : n ≤ 1099511627776) (hbase : base ≤ w.heap.size)
    (h : ∀ g c' w', w'.ownsRow base 2 1 (.slice (some ⟨g, 0, none⟩) (n + 1) c') (n + 1) (ints (xs ++ [y])) → w.grownBy w' (Value.slice A n c).ownBlock → ((Value.slice A n c).ownBlock = some g ∨ g = w.heap.size) → g < w'.heap.size → wpList Tryz.prog ops Q rest (a.put o.dst (.slice (some ⟨g, 0, none⟩) (n + 1) c')) w') :
    wpList Tryz.prog ops Q (o :: rest) a w := by
  obtain ⟨i, hi, hz, hs1, hb1⟩ := info_parts Tryz.info_numQ
  have e : ints xs ++ [.int .i64 y] = ints (xs ++ [y]) := by rw [ints_append]; rfl
  exact wpList_append_lies w hgd s x 44 ho base 2 i (.int .i64 0) 1 8 Tryz.underlying44 hi hz hs1 hb1 rfl (by decide) (.slice A n c) n (ints xs) hs hown ⟨b, 0, none⟩ 1 1 [.int .i64 y] hx rfl (World.news_of_block (cs := #[.int .i64 y]) hc)
    (by intro u hu; simp at hu; subst hu; rfl) (by decide) (by unfold maxLen; omega) (by omega) hbase _ rfl (by rw [e]; exact h)
/-- Result: new memory that holds numbers. -/
def RetNs (w : World) (xs : List Int) (e : Ending) (w' : World) : Prop :=
  ∃ A n c, e = .returned (.slice A n c) ∧ Rd w' 1 A n (ints xs) ∧ Below w.heap.size w w'
def nums (ws : List (List UInt8)) : List Int := ws.map fun w => (numF w).1
end Go.Proofs.YtnpldahkhaacnaaGreatDoor

/- One byte before bytes: append([]byte{k}, digits...). -/
namespace Go.Proofs.YtnpldahkhaacnaaGreatDoor
open Go.RowKit Go.Lib
set_option linter.unusedVariables false
set_option maxRecDepth 100000

theorem Tryz.info_byte : (Tryz.prog.info? 5).map (fun i => (i.zero, i.size, i.bytes)) = some (some (.int .u8 0), 1, 1) := by kernel_rfl
theorem u8s_one (ys : List Int) : ∀ u ∈ u8s ys, u.oneCell' = true := by
  intro u hu
  unfold u8s at hu
  obtain ⟨y, _, rfl⟩ := List.mem_map.1 hu
  rfl
theorem u8s_news {w : World} {b o m : Nat} {ys : List Int} (h : Rd w 1 (some ⟨b, o, none⟩) m (u8s ys)) : ∀ (j : Nat) (u : Value), (u8s ys)[j]? = some u → w.cell? ((⟨b, o, none⟩ : Addr).add j) = some u := by
  intro j u hu
  have hl := h.len
  have hj := (List.getElem?_eq_some_iff.1 hu).1
  obtain ⟨b', o', e, hc⟩ := h.pos (by omega)
  injection e with e
  injection e with e1 e2
  subst e1 e2
  have hadd : (⟨b, o, none⟩ : Addr).add j = ⟨b, o + j, none⟩ := by unfold Addr.add; split <;> simp_all
  rw [hadd]
  exact hc j u hu
theorem run_append_zeroB (w : World) (ty : TypeId) (A : Option Addr) (n c : Nat) (hnc : n ≤ c) (B : Option Addr) (d : Nat) :
    (Builtin.append_ #[22, 22] ty #[.slice A n c, .slice B 0 d]).run Tryz.prog w = .ok (.slice A n c) w := by
  obtain ⟨i, hi, hz, hs1, hb1⟩ := info_parts Tryz.info_byte
  cases A <;> cases B <;>
    simp [Builtin.append_, run_underlying Tryz.underlying22, sizeOf, typeInfo, hi, Builtin.lenOf, Builtin.firstCells, loadCells, loadCellsFrom, storeCells, hnc]
theorem run_code (w : World) (ty : TypeId) {base g0 : Nat} {k : Int} (hown : w.ownsRow base 5 1 (.slice (some ⟨g0, 0, none⟩) 1 1) 1 (u8s [k])) {A : Option Addr} {n d : Nat} {code : List Int}
    (hr : Rd w 1 A n (u8s code)) (hn : n ≤ 8192) (hbase : base ≤ w.heap.size) :
    ∃ A' c' w', (Builtin.append_ #[22, 22] ty #[.slice (some ⟨g0, 0, none⟩) 1 1, .slice A n d]).run Tryz.prog w = .ok (.slice A' (1 + n) c') w' ∧ w'.ownsRow base 5 1 (.slice A' (1 + n) c') (1 + n) (u8s (k :: code)) ∧ w.grownBy w' (some g0) := by
  have hl : (u8s code).length = n := by have := hr.len; omega
  rcases Nat.eq_zero_or_pos n with h0 | h0
  · subst h0
    have hy : code = [] := by
      have : code.length = 0 := by rwa [u8s_length] at hl
      exact List.eq_nil_of_length_eq_zero this
    subst hy
    exact ⟨_, 1, w, run_append_zeroB w ty _ 1 1 (Nat.le_refl _) A d, hown, World.grownBy.refl _ _⟩
  · obtain ⟨b, f, rfl, _⟩ := hr.pos (by omega)
    obtain ⟨i, hi, hz, hs1, hb1⟩ := info_parts Tryz.info_byte
    obtain ⟨v', w', h1, h2, h3, _, _⟩ := run_append_own_at (P := Tryz.prog) w base 22 ty 5 i (.int .u8 0) 1 1 Tryz.underlying22 hi hz hs1 hb1 rfl (by decide) (.slice (some ⟨g0, 0, none⟩) 1 1) 1 (u8s [k]) hown ⟨b, f, none⟩ n d (u8s code) (by rw [hl]; omega) (u8s_news hr) (u8s_one code) (by unfold maxLen; omega) (by omega) hbase
    have e : u8s [k] ++ u8s code = u8s (k :: code) := rfl
    rw [e] at h2
    rcases h2.2 with ⟨hv, hm⟩ | ⟨g', c', cur, hv, _⟩
    · omega
    · subst hv
      exact ⟨_, c', w', h1, h2, h3⟩
section
variable {ops : Array Oper} {rest : List Oper} {o : Oper} {a : Act} {Q : Exit → Act → World → Prop}
theorem wpl_code (w : World) (hgd : o.guard = none) (s x : Operand)
    (ho : o.op = .call { callee := .builtin .append, args := #[s, x], argTypes := #[22, 22] }) {base g0 : Nat} {k : Int}
    (hs : a.eval s = .slice (some ⟨g0, 0, none⟩) 1 1) (hown : w.ownsRow base 5 1 (.slice (some ⟨g0, 0, none⟩) 1 1) 1 (u8s [k])) {A : Option Addr} {n d : Nat} {code : List Int} (hx : a.eval x = .slice A n d)
    (hr : Rd w 1 A n (u8s code)) (hn : n ≤ 8192) (hbase : base ≤ w.heap.size)
    (h : ∀ A' c' w', w'.ownsRow base 5 1 (.slice A' (1 + n) c') (1 + n) (u8s (k :: code)) → w.grownBy w' (some g0) → wpList Tryz.prog ops Q rest (a.put o.dst (.slice A' (1 + n) c')) w') :
    wpList Tryz.prog ops Q (o :: rest) a w := by
  obtain ⟨A', c', w', h1, h2, h3⟩ := run_code w o.type hown hr (d := d) hn hbase
  exact Lib.wpList_append_run w hgd s x _ _ ho _ _ hs hx _ w' h1 (h A' c' w' h2 h3)
end
/-- Bytes as numbers. -/
def b8 (B : List UInt8) : List Int := B.map fun c => (c.toNat : Int)
theorem b8_len (B : List UInt8) : (b8 B).length = B.length := by simp [b8]
theorem b8_str (B : List UInt8) : strOfNums (b8 B) = str B := by
  unfold strOfNums str b8
  congr 1
  congr 1
  rw [List.map_map]
  refine (List.map_congr_left fun c _ => ?_).trans (List.map_id B)
  simp
theorem b8_dgt (n : Nat) (B : List UInt8) : b8 (dgt n :: B) = (48 + (n : Int) % 10) :: b8 B := by
  unfold b8
  rw [List.map_cons, dgt_nat]
  congr 1
theorem lit_one (w : World) (base : Nat) (k : Int) (hb : base ≤ w.heap.size) : (w.alloc (.cells #[.int .u8 k] 5)).ownsRow base 5 1 (.slice (some ⟨w.heap.size, 0, none⟩) 1 1) 1 (u8s [k]) := by
  have := World.ownsRow_lit (base := base) (e := 5) (size := 1) w #[.int .u8 k] 1 hb (by unfold maxLen; omega) (by simp)
  simpa [u8s] using this
/-- A string out of a row of bytes. -/
theorem convN {w : World} {base m c : Nat} {A : Option Addr} {B : List UInt8} (h : w.ownsRow base 5 1 (.slice A m c) m (u8s (b8 B))) (hm : 0 < m) : (convert 22 9 (.slice A m c)).run Tryz.prog w = .ok (.string (str B)) w := by
  have hr := own_rd h
  obtain ⟨b, o, rfl, hc⟩ := hr.pos hm
  have hl : (b8 B).length = m := by have := hr.len; rw [u8s_length] at this; omega
  have hx := run_convert_bytes_arg (P := Tryz.prog) w 22 5 Tryz.underlying22 Tryz.underlying5 b o m c (b8 B) hl (fun i hi => by
    have h1 : (b8 B)[i]? = some ((b8 B).getD i 0) := by simp [List.getD, List.getElem?_eq_getElem (show i < (b8 B).length by omega)]
    exact hc i _ (u8s_get h1)) 9 Tryz.underlying9
  rw [hx, b8_str]
end Go.Proofs.YtnpldahkhaacnaaGreatDoor

/- Walks: numbers as texts and texts as numbers (the reference's second pair). -/
namespace Go.Proofs.YtnpldahkhaacnaaGreatDoor
open Go.RowKit Go.Sort
set_option linter.unusedVariables false
set_option maxRecDepth 100000

def lenS : Value → Nat
  | .slice _ n _ => n
  | _ => 0
set_option maxHeartbeats 2000000 in
theorem number26_any (n : Nat) (hn : n ≤ 1000000000000) (w : World) :
    Calls Tryz.prog 247 #[.int .i64 n] w fun e w' => e = .returned (.string (str (dec n))) ∧ Below w.heap.size w w' := by
  go_enter Tryz.func247, Tryz.ntmps247
  go_wp2_with fail
  have HO0 := Lib.hid (show (w.alloc (.cells #[] 5)).ownsRow w.heap.size 5 1 (.slice (some ⟨w.heap.size, 0, none⟩) 0 0) 0 (u8s (b8 [])) from own_emptyS w w.heap.size 5 1 (Nat.le_refl _))
  have HB0 := Lib.hid ((Below.refl w.heap.size w).alloc (Nat.le_refl _) (.cells #[] 5))
  go_loopw [3, 4] (fun d r wr => ∃ (m c x : Nat) (A : Option Addr) (B : List UInt8), x ≤ 1000000000000 ∧ m + 1 ≤ 20 ∧ d = .slice A m c ∧ r = .int .i64 x ∧ Hid ((x = 0 ∧ 0 < m ∧ B = dec n) ∨ ((0 < x ∨ m = 0) ∧ dec x ++ B = dec n ∧ (dec x).length + m ≤ 13)) ∧ Hid (wr.ownsRow w.heap.size 5 1 (.slice A m c) m (u8s (b8 B))) ∧ Hid (Below w.heap.size w wr)) (fun d r _ => 2 * (intOf r).toNat + (1 - lenS d))
  case atStart => exact ⟨0, 0, n, _, [], hn, by omega, rfl, rfl, Lib.hid (.inr ⟨.inr rfl, by simp, dec_len 12 n (by omega)⟩), HO0, HB0⟩
  case round =>
    clear HO0 HB0
    obtain ⟨m, c, x, A, B, hx, hm, rfl, rfl, HI, HO, HB⟩ := hrel
    obtain ⟨wo, hwo⟩ : ∃ wo : World, wo = wr := ⟨_, rfl⟩
    subst hwo
    by_cases hgo : 0 < x ∨ m = 0
    · obtain ⟨hi, hi13⟩ : dec x ++ B = dec n ∧ (dec x).length + m ≤ 13 := by
        rcases HI.out with h | h
        · omega
        · exact h.2
      have HI2 := Lib.hid (show (x / 10 = 0 ∧ 0 < m + 1 ∧ dgt x :: B = dec n) ∨ ((0 < x / 10 ∨ m + 1 = 0) ∧ dec (x / 10) ++ (dgt x :: B) = dec n ∧ (dec (x / 10)).length + (m + 1) ≤ 13) from by
        by_cases h10 : x < 10
        · rw [dec_small h10] at hi
          exact .inl ⟨by omega, by omega, hi⟩
        · rw [dec_big h10] at hi hi13
          simp at hi13
          exact .inr ⟨.inl (by omega), by rw [← hi]; simp, by omega⟩)
      have hbs := HB.out.size
      have HOW := Lib.hid (lit_one wo w.heap.size (48 + (x : Int) % 10) hbs)
      have HRD := Lib.hid ((own_rd HO.out).below ((Below.refl wo.heap.size wo).alloc (Nat.le_refl _) (.cells #[.int .u8 (48 + (x : Int) % 10)] 5)))
      have hm13 : m ≤ 13 := by omega
      clear hi hi13 HI
      by_cases h0 : 0 < x
      · have hxd : decide (0 < x) = true := by simpa using h0
        have hxd2 : decide ((0 : Int) < (x : Int)) = true := by simp; omega
        clear hgo
        go_wp2_with (at_builtin; refine wpl_code _ rfl _ _ rfl rfl HOW.out rfl HRD.out (by omega) ?cBa ?_; rotate_left; intro A9 c9 w9 hown9 hgr9)
        · have HB9 := Lib.hid ((HB.out.alloc hbs _).grown hgr9 (by simp; omega) (fun j hj => by injection hj with hj; omega))
          rw [show 1 + m = m + 1 from by omega, ← b8_dgt] at hown9
          have HO9 := Lib.hid hown9
          clear hown9 hgr9
          go_roundw
          case rel => exact ⟨m + 1, c9, x / 10, A9, dgt x :: B, by omega, by omega, by go_num, by go_num, HI2, HO9, HB9⟩
          case measure => simp [intOf, lenS] <;> omega
        · first | omega | (simp; omega)
      · obtain rfl : x = 0 := by omega
        obtain rfl : m = 0 := by omega
        clear hgo h0
        go_wp2_with (at_builtin; refine wpl_code _ rfl _ _ rfl rfl HOW.out rfl HRD.out (by omega) ?cBb ?_; rotate_left; intro A9 c9 w9 hown9 hgr9)
        · have HB9 := Lib.hid ((HB.out.alloc hbs _).grown hgr9 (by simp; omega) (fun j hj => by injection hj with hj; omega))
          rw [← b8_dgt] at hown9
          have HO9 := Lib.hid hown9
          clear hown9 hgr9
          go_roundw
          case rel => exact ⟨1, c9, 0, A9, dgt 0 :: B, by omega, by omega, by go_num, by go_num, HI2, HO9, HB9⟩
          case measure => simp [intOf, lenS] <;> omega
        · first | omega | (simp; omega)
    · have hx0 : x = 0 := by omega
      subst hx0
      have hm0 : 0 < m := by omega
      have hB : B = dec n := by rcases HI.out with h | h; exact h.2.2; omega
      have hmb : ((m : Int) == 0) = false := by simp; omega
      have hcv := convN HO.out hm0
      rw [hB] at hcv
      have HCV := Lib.hid hB
      clear hgo hB HI
      go_wp2_with fail
      go_ret
      exact ⟨rfl, HB.out⟩
end Go.Proofs.YtnpldahkhaacnaaGreatDoor

/- Walks: a word read as a number (the reference). -/
namespace Go.Proofs.YtnpldahkhaacnaaGreatDoor
open Go.RowKit Go.Sort
set_option linter.unusedVariables false
set_option maxRecDepth 100000

theorem valL_snoc (n : Nat) (l : List UInt8) (c : UInt8) : valL n (l ++ [c]) = stepV (valL n l) c := by rw [valL_app, valL_cons, valL_nil]
end Go.Proofs.YtnpldahkhaacnaaGreatDoor

/- Walks: the laws' helpers on []int64: copy, compare, mark, hold. -/
namespace Go.Proofs.YtnpldahkhaacnaaGreatDoor
open Go.RowKit
set_option linter.unusedVariables false

theorem Tryz.info_i64 : (Tryz.prog.info? 2).map (fun i => (i.zero, i.size, i.bytes)) = some (some (.int .i64 0), 1, 8) := by kernel_rfl

theorem run_make_i64 (n : Nat) (h : n ≤ 1048576) (w : World) :
    (Instr.makeSlice 44 (.int .i64 (n : Int)) (.int .i64 (n : Int))).run Tryz.prog w = .ok (.slice (some ⟨w.heap.size, 0, none⟩) n n) (w.alloc (.cells (madeCells #[.int .i64 0] n) 2)) := by
  obtain ⟨i, hi, hz, hs, hb⟩ := info_parts Tryz.info_i64
  have hr := run_make (P := Tryz.prog) w 44 2 i (.int .i64 0) Tryz.underlying44 hi hz .i64 .i64 n n (by omega) (by omega) (by rw [hb]; omega) (by omega)
  rw [hs, Nat.mul_one, Int.toNat_natCast] at hr
  exact hr

/-- The copy of a slice: what it returns. -/
def RetCopy (w : World) (xs : List Int) (e : Ending) (w' : World) : Prop :=
  ∃ A n c, e = .returned (.slice A n c) ∧ w'.ownsRow w.heap.size 2 1 (.slice A n c) n (ints xs) ∧ n ≤ 1048576 ∧ Below w.heap.size w w'

/-- marking: the slice holds k, k+1, .. -/
def seqFrom (k : Int) : Nat → List Int
  | 0 => []
  | n + 1 => k :: seqFrom (k + 1) n
theorem seqFrom_length (k : Int) (n : Nat) : (seqFrom k n).length = n := by
  induction n generalizing k with
  | zero => rfl
  | succ n ih => simp [seqFrom, ih]
theorem seqFrom_get (k : Int) (n i : Nat) (h : i < n) : (seqFrom k n)[i]? = some (k + i) := by
  induction n generalizing k i with
  | zero => omega
  | succ n ih =>
    cases i with
    | zero => simp [seqFrom]
    | succ i => simp only [seqFrom, List.getElem?_cons_succ]; rw [ih _ _ (by omega)]; simp; omega

theorem seqFrom_snoc (k : Int) (j : Nat) : seqFrom k (j + 1) = seqFrom k j ++ [k + j] := by
  induction j generalizing k with
  | zero => simp [seqFrom]
  | succ j ih => rw [seqFrom, ih, seqFrom]; simp; omega
theorem seq_step (k : Int) (j : Nat) (xs : List Int) (h : j < xs.length) : (seqFrom k j ++ xs.drop j).set j (k + j) = seqFrom k (j + 1) ++ xs.drop (j + 1) := by
  rw [List.set_append, if_neg (by simp [seqFrom_length]), seqFrom_snoc, List.drop_eq_getElem_cons h, seqFrom_length, Nat.sub_self, List.set_cons_zero, List.append_assoc]
  rfl
/-- Held: are the marks still there? -/
def heldF (k : Int) : List Int → Int
  | [] => k
  | x :: r => if x = k then heldF (k + 1) r else -1
theorem heldF_seq (k : Int) (n : Nat) : heldF k (seqFrom k n) = k + n := by
  induction n generalizing k with
  | zero => simp [seqFrom, heldF]
  | succ n ih => simp only [seqFrom, heldF, if_true]; rw [ih]; omega

/-- One number is appended to an own row. -/
theorem app_i64 {ops : Array Oper} {rest : List Oper} {o : Oper} {a : Act} {Q : Exit → Act → World → Prop} (w : World) (hgd : o.guard = none) (s x : Operand)
    (ho : o.op = .call { callee := .builtin .append, args := #[s, x], argTypes := #[44, 44] }) {base n c : Nat} {A : Option Addr} {xs : List Int}
    (hs : a.eval s = .slice A n c) (hown : w.ownsRow base 2 1 (.slice A n c) n (ints xs)) {ad : Addr} {x0 : Int} (hx : a.eval x = .slice (some ad) 1 1)
    (hc : w.cell? ad = some (.int .i64 x0)) (hn : n ≤ 1099511627776) (hbase : base ≤ w.heap.size)
    (h : ∀ A' c' w', w'.ownsRow base 2 1 (.slice A' (n + 1) c') (n + 1) (ints (xs ++ [x0])) → w.grownBy w' (Value.slice A n c).ownBlock → wpList Tryz.prog ops Q rest (a.put o.dst (.slice A' (n + 1) c')) w') :
    wpList Tryz.prog ops Q (o :: rest) a w := by
  obtain ⟨i, hi, hz, hs1, hb1⟩ := info_parts Tryz.info_i64
  refine wpList_append_own w hgd s x 44 ho base 2 i (.int .i64 0) 1 8 Tryz.underlying44 hi hz hs1 hb1 rfl (by decide) (.slice A n c) n (ints xs) hs hown ad 1 1 [.int .i64 x0] hx rfl ?_ ?_ (by unfold maxLen; omega) (by omega) hbase ?_
  · intro j u hu
    have hj : j = 0 := by
      rcases j with _ | j
      · rfl
      · simp at hu
    subst hj
    have hadd : ad.add 0 = ad := by simp [Addr.add]
    rw [hadd, hc]
    simpa using hu
  · intro u hu
    simp at hu
    subst hu
    rfl
  · intro v' w' h1 h2 _
    rcases h1.2 with ⟨rfl, h0⟩ | ⟨g, cap, cur, rfl, _⟩
    · omega
    · refine h _ _ w' ?_ h2
      rw [ints_append]
      exact h1
theorem below_app {B base n c e : Nat} {w wr w1 : World} {A : Option Addr} {xs : List Value} {o : Obj} (hb : Below B w wr) (hB : B ≤ wr.heap.size) (hbase : B ≤ base) (hown : wr.ownsRow base e 1 (.slice A n c) n xs)
    (hg : (wr.alloc o).grownBy w1 (Value.slice A n c).ownBlock) : Below B w w1 :=
  (hb.alloc hB o).grown hg (by simp; omega) (fun k hk => Nat.le_trans hbase (hown.lt k hk).1)
/-- Result: new integers and a code. -/
def RetI (w : World) (r : List Int × Int) (e : Ending) (w' : World) : Prop :=
  ∃ A n c, e = .returned (.tuple #[.slice A n c, .int .i64 r.2]) ∧ w'.ownsRow w.heap.size 2 1 (.slice A n c) n (ints r.1) ∧ n ≤ 1048576 ∧ Below w.heap.size w w'
theorem RetI.nil (w w' : World) (code : Int) (h : Below w.heap.size w w') : RetI w ([], code) (.returned (.tuple #[.slice none 0 0, .int .i64 code])) w' :=
  ⟨none, 0, 0, rfl, World.ownsRow_nil _ _ _ _, by omega, h⟩

end Go.Proofs.YtnpldahkhaacnaaGreatDoor

/- Walks: the laws' helpers on slices of Finish. -/
namespace Go.Proofs.YtnpldahkhaacnaaGreatDoor
open Go.RowKit
set_option linter.unusedVariables false
set_option maxRecDepth 100000

abbrev FinishT := Int × Int × Int
def finC (p : FinishT) : List Value := [.int .i64 p.1, .int .i64 p.2.1, .int .i64 p.2.2]
theorem finC_len (p : FinishT) : (finC p).length = 3 := rfl
def fins (xs : List FinishT) : List Value := xs.flatMap finC
theorem zeroS3 (v : Value) (i : Nat) (h : i < (#[v, v, v] : Array Value).size) : (#[v, v, v] : Array Value)[i]! = v := by
  have : i = 0 ∨ i = 1 ∨ i = 2 := by simp at h; omega
  rcases this with rfl | rfl | rfl <;> rfl
theorem Rd.fin {w : World} {A : Option Addr} {n k : Nat} {xs : List FinishT} (h : Rd w 3 A n (fins xs)) (hk : k < n) :
    ∃ b o x0 x1 x2, A = some ⟨b, o, none⟩ ∧ xs[k]? = some (x0, x1, x2) ∧ xs.drop k = (x0, x1, x2) :: xs.drop (k + 1) ∧ w.cell? ⟨b, o + k * 3, none⟩ = some (.int .i64 x0) ∧ w.cell? ⟨b, o + k * 3 + 1, none⟩ = some (.int .i64 x1) ∧ w.cell? ⟨b, o + k * 3 + 2, none⟩ = some (.int .i64 x2) := by
  obtain ⟨b, o, ⟨x0, x1, x2⟩, e, h1, h2, h3⟩ := Rd.flat finC_len (by decide) h hk
  exact ⟨b, o, x0, x1, x2, e, h1, h2, h3 0 _ rfl, h3 1 _ rfl, h3 2 _ rfl⟩
theorem Rd.len_fin {w : World} {A : Option Addr} {n : Nat} {xs : List FinishT} (h : Rd w 3 A n (fins xs)) : xs.length = n := Rd.len_flat finC_len (by decide) h
theorem own_fin_at {w : World} {base e n c k : Nat} {A : Option Addr} {xs : List FinishT} (h : w.ownsRow base e 3 (.slice A n c) n (fins xs)) (hk : k < n) :
    ∃ g x0 x1 x2, A = some ⟨g, 0, none⟩ ∧ base ≤ g ∧ g < w.heap.size ∧ xs[k]? = some (x0, x1, x2) ∧ xs.drop k = (x0, x1, x2) :: xs.drop (k + 1) ∧ w.cell? ⟨g, k * 3, none⟩ = some (.int .i64 x0) ∧ w.cell? ⟨g, k * 3 + 1, none⟩ = some (.int .i64 x1) ∧ w.cell? ⟨g, k * 3 + 2, none⟩ = some (.int .i64 x2) ∧ w.frozen? ⟨g, k * 3, none⟩ = false ∧ w.frozen? ⟨g, k * 3 + 1, none⟩ = false ∧ w.frozen? ⟨g, k * 3 + 2, none⟩ = false := by
  obtain ⟨g, ⟨x0, x1, x2⟩, e, h1, h2, h3, h4, h5, h6⟩ := own_flat finC_len (by decide) h hk
  exact ⟨g, x0, x1, x2, e, h1, h2, h3, h4, h5 0 _ rfl, h5 1 _ rfl, h5 2 _ rfl, h6 _, h6 _, h6 _⟩
theorem own_fin_set {w : World} {base e g n c k : Nat} {xs : List FinishT} (h : w.ownsRow base e 3 (.slice (some ⟨g, 0, none⟩) n c) n (fins xs)) (hk : k < n) (x0 x1 x2 : Int) :
    (((w.setCell ⟨g, k * 3, none⟩ (.int .i64 x0)).setCell ⟨g, k * 3 + 1, none⟩ (.int .i64 x1)).setCell ⟨g, k * 3 + 2, none⟩ (.int .i64 x2)).ownsRow base e 3 (.slice (some ⟨g, 0, none⟩) n c) n (fins (xs.set k (x0, x1, x2))) := by
  have h1 := own_put (finC (x0, x1, x2)) (k * 3) h
  unfold fins at h1
  rw [flat_put finC_len xs k (x0, x1, x2) (by rw [own_len_flat finC_len (by decide) h]; exact hk)] at h1
  exact h1
theorem Tryz.info_fin : (Tryz.prog.info? 53).map (fun i => (i.zero, i.size, i.bytes)) = some (some (.agg #[.int .i64 0, .int .i64 0, .int .i64 0]), 3, 24) := by kernel_rfl
theorem run_make_fin (n : Nat) (h : n ≤ 1048576) (w : World) :
    (Instr.makeSlice 155 (.int .i64 (n : Int)) (.int .i64 (n : Int))).run Tryz.prog w = .ok (.slice (some ⟨w.heap.size, 0, none⟩) n n) (w.alloc (.cells (madeCells #[.int .i64 0, .int .i64 0, .int .i64 0] (n * 3)) 53)) := by
  obtain ⟨i, hi, hz, hs, hb⟩ := info_parts Tryz.info_fin
  have hr := run_make (P := Tryz.prog) w 155 53 i (.agg #[.int .i64 0, .int .i64 0, .int .i64 0]) Tryz.underlying155 hi hz .i64 .i64 n n (by omega) (by omega) (by rw [hb]; omega) (by omega)
  rw [hs, Int.toNat_natCast] at hr
  exact hr
/-- The copy of such a slice. -/
def RetFinishS (w : World) (xs : List FinishT) (e : Ending) (w' : World) : Prop :=
  ∃ A n c, e = .returned (.slice A n c) ∧ w'.ownsRow w.heap.size 53 3 (.slice A n c) n (fins xs) ∧ n ≤ 1048576 ∧ Below w.heap.size w w'
section
variable {ops : Array Oper} {rest : List Oper} {o : Oper} {a : Act} {K : Act → World → Prop} {Q : Exit → Act → World → Prop} {E : Prop}
theorem app_fin (w : World) (hgd : o.guard = none) (s x : Operand)
    (ho : o.op = .call { callee := .builtin .append, args := #[s, x], argTypes := #[155, 155] }) {base n c : Nat} {A : Option Addr} {xs : List FinishT}
    (hs : a.eval s = .slice A n c) (hown : w.ownsRow base 53 3 (.slice A n c) n (fins xs)) {b : Nat} {x0 x1 x2 : Int} (hx : a.eval x = .slice (some ⟨b, 0, none⟩) 1 1)
    (hc : w.heap[b]? = some (.cells #[.int .i64 x0, .int .i64 x1, .int .i64 x2] 53 (0, 0))) (hn : n ≤ 1099511627776) (hbase : base ≤ w.heap.size)
    (h : ∀ g c' w', w'.ownsRow base 53 3 (.slice (some ⟨g, 0, none⟩) (n + 1) c') (n + 1) (fins (xs ++ [(x0, x1, x2)])) → w.grownBy w' (Value.slice A n c).ownBlock → ((Value.slice A n c).ownBlock = some g ∨ g = w.heap.size) → g < w'.heap.size → wpList Tryz.prog ops Q rest (a.put o.dst (.slice (some ⟨g, 0, none⟩) (n + 1) c')) w') :
    wpList Tryz.prog ops Q (o :: rest) a w := by
  obtain ⟨i, hi, hz, hs1, hb1⟩ := info_parts Tryz.info_fin
  have e : ∀ (ys : List FinishT), fins ys ++ [.int .i64 x0, .int .i64 x1, .int .i64 x2] = fins (ys ++ [(x0, x1, x2)]) := fun ys => by unfold fins; rw [List.flatMap_append]; rfl
  exact wpList_append_lies w hgd s x 155 ho base 53 i (.agg #[.int .i64 0, .int .i64 0, .int .i64 0]) 3 24 Tryz.underlying155 hi hz hs1 hb1 rfl (by decide) (.slice A n c) n (fins xs) hs hown ⟨b, 0, none⟩ 1 1 [.int .i64 x0, .int .i64 x1, .int .i64 x2] hx rfl (World.news_of_block (cs := #[.int .i64 x0, .int .i64 x1, .int .i64 x2]) hc)
    (by intro u hu; simp at hu; rcases hu with rfl | rfl | rfl <;> rfl) (by decide) (by unfold maxLen; omega) (by omega) hbase _ rfl (by rw [e]; exact h)
theorem step_fin (w : World) (hgd : o.guard = none) (s x : Operand)
    (ho : o.op = .call { callee := .builtin .append, args := #[s, x], argTypes := #[155, 155] }) {base n c : Nat} {A : Option Addr} {xs : List FinishT}
    (hs : a.eval s = .slice A n c) (hown : w.ownsRow base 53 3 (.slice A n c) n (fins xs)) {b : Nat} {x0 x1 x2 : Int} (hx : a.eval x = .slice (some ⟨b, 0, none⟩) 1 1)
    (hc : w.heap[b]? = some (.cells #[.int .i64 x0, .int .i64 x1, .int .i64 x2] 53 (0, 0))) (hn : n ≤ 1099511627776) (hbase : base ≤ w.heap.size)
    (h : ∀ g c' w', w'.ownsRow base 53 3 (.slice (some ⟨g, 0, none⟩) (n + 1) c') (n + 1) (fins (xs ++ [(x0, x1, x2)])) → w.grownBy w' (Value.slice A n c).ownBlock → ((Value.slice A n c).ownBlock = some g ∨ g = w.heap.size) → g < w'.heap.size → K (a.put o.dst (.slice (some ⟨g, 0, none⟩) (n + 1) c')) w') :
    if Region.wanted o (yielded ops a.tmps) = true then Oper.wp Tryz.prog o a w K Q else E := by
  obtain ⟨i, hi, hz, hs1, hb1⟩ := info_parts Tryz.info_fin
  have e : ∀ (ys : List FinishT), fins ys ++ [.int .i64 x0, .int .i64 x1, .int .i64 x2] = fins (ys ++ [(x0, x1, x2)]) := fun ys => by unfold fins; rw [List.flatMap_append]; rfl
  exact step_append_lies w hgd s x 155 ho base 53 i (.agg #[.int .i64 0, .int .i64 0, .int .i64 0]) 3 24 Tryz.underlying155 hi hz hs1 hb1 rfl (by decide) (.slice A n c) n (fins xs) hs hown ⟨b, 0, none⟩ 1 1 [.int .i64 x0, .int .i64 x1, .int .i64 x2] hx rfl (World.news_of_block (cs := #[.int .i64 x0, .int .i64 x1, .int .i64 x2]) hc)
    (by intro u hu; simp at hu; rcases hu with rfl | rfl | rfl <;> rfl) (by decide) (by unfold maxLen; omega) (by omega) hbase _ rfl (by rw [e]; exact h)
end
/-- Numbers in a row, 3 an element. -/
def seqfin (k : Int) : Nat → List FinishT
  | 0 => []
  | n + 1 => (k, k + 1, k + 2) :: seqfin (k + 3) n
theorem seqfin_len (k : Int) (n : Nat) : (seqfin k n).length = n := by
  induction n generalizing k with
  | zero => rfl
  | succ n ih => simp [seqfin, ih]
theorem seqfin_snoc (k : Int) (n : Nat) : seqfin k (n + 1) = seqfin k n ++ [(k + 3 * n, k + 3 * n + 1, k + 3 * n + 2)] := by
  induction n generalizing k with
  | zero => simp [seqfin]
  | succ n ih =>
    rw [seqfin, ih, seqfin, List.cons_append]
    congr 3
    simp only [Prod.mk.injEq]
    omega
theorem seqfin_get (k : Int) (n j : Nat) (h : j < n) : (seqfin k n)[j]? = some (k + 3 * (j : Int), k + 3 * (j : Int) + 1, k + 3 * (j : Int) + 2) := by
  induction n generalizing k j with
  | zero => omega
  | succ n ih =>
    cases j with
    | zero => simp [seqfin]
    | succ j =>
      rw [seqfin, List.getElem?_cons_succ, ih _ _ (by omega)]
      simp only [Option.some.injEq, Prod.mk.injEq]
      omega
theorem seqfin_step (k : Int) (j : Nat) (xs : List FinishT) (h : j < xs.length) : (seqfin k j ++ xs.drop j).set j (k + 3 * (j : Int), k + 3 * (j : Int) + 1, k + 3 * (j : Int) + 2) = seqfin k (j + 1) ++ xs.drop (j + 1) := by
  rw [List.set_append, if_neg (by simp [seqfin_len]), seqfin_snoc, List.drop_eq_getElem_cons h, seqfin_len, Nat.sub_self, List.set_cons_zero, List.append_assoc]
  rfl
end Go.Proofs.YtnpldahkhaacnaaGreatDoor

/- Plain: finishes, races, places, points of fleets. -/
namespace Go.Proofs.YtnpldahkhaacnaaGreatDoor
open Go.RowKit
set_option linter.unusedVariables false

/-- Code and time of a finish fit. -/
def finB (f : FinishT) : Bool := if f.2.1 = 0 then withinB f.2.2 1 1000000000 else withinB f.2.1 1 9 && (f.2.2 == 0)
def isFinB (f : FinishT) : Bool := withinB f.1 0 15 && finB f
def finsGo : Nat → List FinishT → Bool
  | _, [] => true
  | i, f :: r => (f.1 == (i : Int)) && finB f && finsGo (i + 1) r
def raceB (b : Int) (fs : List FinishT) : Bool := withinB b 1 16 && ((fs.length : Int) == b) && finsGo 0 fs
theorem finsGo_at : ∀ {fs : List FinishT} {i : Nat}, finsGo i fs = true → ∀ (k : Nat) (f : FinishT), fs[k]? = some f → f.1 = ((i + k : Nat) : Int) ∧ finB f = true := by
  intro fs
  induction fs with
  | nil => intro i h k f hf; simp at hf
  | cons g r ih =>
    intro i h k f hf
    simp only [finsGo, Bool.and_eq_true, beq_iff_eq] at h
    cases k with
    | zero => simp at hf; subst hf; exact ⟨by simpa using h.1.1, h.1.2⟩
    | succ k =>
      have := ih h.2 k f (by simpa using hf)
      exact ⟨by rw [this.1]; congr 1; omega, this.2⟩
theorem finB_ok {f : FinishT} (h : finB f = true) : 0 ≤ f.2.1 ∧ f.2.1 ≤ 9 ∧ 0 ≤ f.2.2 ∧ f.2.2 ≤ 1000000000 := by
  unfold finB at h
  split at h
  · have := withinB_iff.1 h; omega
  · simp only [Bool.and_eq_true, beq_iff_eq] at h
    have := withinB_iff.1 h.1; omega
/-- What a valid race is. -/
structure RaceOk (b : Int) (fs : List FinishT) : Prop where
  b1 : 1 ≤ b
  b2 : b ≤ 16
  len : (fs.length : Int) = b
  fin : ∀ (k : Nat) (f : FinishT), fs[k]? = some f → f.1 = (k : Int) ∧ finB f = true
theorem raceB_ok {b : Int} {fs : List FinishT} (h : raceB b fs = true) : RaceOk b fs := by
  unfold raceB at h
  simp only [Bool.and_eq_true, beq_iff_eq] at h
  have h1 := withinB_iff.1 h.1.1
  exact ⟨h1.1, h1.2, h.1.2, fun k f hf => by have := finsGo_at h.2 k f hf; simpa using this⟩

/-! ### Places -/
def ltN (t : Int) (fs : List FinishT) : Nat := (fs.filter fun g => g.2.1 == 0 && decide (g.2.2 < t)).length
def eqN (t : Int) (fs : List FinishT) : Nat := (fs.filter fun g => g.2.1 == 0 && (g.2.2 == t)).length
/-- Place and how many share it; 0 and 0 for a boat that has not finished. -/
def placeF (fs : List FinishT) (f : FinishT) : Int × Int := if f.2.1 = 0 then (1 + ltN f.2.2 fs, eqN f.2.2 fs) else (0, 0)
/-- The finishes of a fleet. -/
def ofFleet (fl : Int) : List FinishT → List Int → List FinishT
  | f :: r, x :: l => if x = fl then f :: ofFleet fl r l else ofFleet fl r l
  | _, _ => []
def pointF (largest : Int) (fs : List FinishT) (f : FinishT) : Int :=
  if f.2.1 = 0 then 5 * (2 * (1 + (ltN f.2.2 fs : Int)) + eqN f.2.2 fs - 1) else if f.2.1 = 9 then 0 else 10 * (largest + 1)
def pointsGo (largest : Int) (all : List FinishT) (lst : List Int) : List FinishT → List Int → List Int
  | f :: r, x :: l => pointF largest (ofFleet x all lst) f :: pointsGo largest all lst r l
  | _, _ => []
def largestF (xs : List Int) : Int := xs.foldl max 0
def fleetPointsF (fs : List FinishT) (list : List Int) (k : Int) : List Int × Int :=
  if fleetsCodeF list k = 0 then (if raceB (list.length : Int) fs = true then (pointsGo (largestF (countF list (List.replicate k.toNat 0))) fs list fs list, 0) else ([], 5)) else ([], fleetsCodeF list k)
theorem ofFleet_len (fl : Int) : ∀ (fs : List FinishT) (l : List Int), (ofFleet fl fs l).length ≤ fs.length := by
  intro fs
  induction fs with
  | nil => intro l; simp [ofFleet]
  | cons f r ih =>
    intro l
    cases l with
    | nil => simp [ofFleet]
    | cons x l =>
      have := ih l
      unfold ofFleet
      split
      · simp; omega
      · simp; omega
theorem ltN_le (t : Int) (fs : List FinishT) : ltN t fs ≤ fs.length := List.length_filter_le _ _
theorem eqN_le (t : Int) (fs : List FinishT) : eqN t fs ≤ fs.length := List.length_filter_le _ _
end Go.Proofs.YtnpldahkhaacnaaGreatDoor

/- Walks: the laws' helpers on races: size, copy, compare, mark. -/
namespace Go.Proofs.YtnpldahkhaacnaaGreatDoor
open Go.RowKit
set_option linter.unusedVariables false
set_option maxRecDepth 100000

theorem Box.l1 {w : World} {b : Nat} {x : Value} {t : TypeId} (h : Box w b #[x] t) : w.cell? ⟨b, 0, none⟩ = some x ∧ w.frozen? ⟨b, 0, none⟩ = false ∧ b < w.heap.size := ⟨h.cell rfl, h.fz, h.lt⟩
/-- The copy of a race. -/
def RetRace (w : World) (fs : List FinishT) (e : Ending) (w' : World) : Prop :=
  ∃ A n c, e = .returned (.agg #[.slice A n c]) ∧ w'.ownsRow w.heap.size 53 3 (.slice A n c) n (fins fs) ∧ n ≤ 1048576 ∧ Below w.heap.size w w'
end Go.Proofs.YtnpldahkhaacnaaGreatDoor

/- Plain functions: the source of numbers of the drawn laws: no Go in sight. -/
namespace Go.Proofs.YtnpldahkhaacnaaGreatDoor
open Go.RowKit
set_option linter.unusedVariables false

/-- The state of a source: how many bytes are used up, the seed. -/
abbrev St := Nat × Int
def fromGo : List Int → Int → Int
  | [], h => h
  | c :: r, h => fromGo r ((h * 53 + c) % 2147483647)
def fromF (code : List Int) : St := (0, fromGo (code.take 64) 61657)
theorem fromGo_bd (code : List Int) (h : Int) (h0 : 0 ≤ h) (h1 : h < 2147483647) : 0 ≤ fromGo code h ∧ fromGo code h < 2147483647 := by
  induction code generalizing h with
  | nil => exact ⟨h0, h1⟩
  | cons c r ih => exact ih _ (by omega) (by omega)
def stepH (h : Int) : Int := (h * 48271 + 23) % 2147483647
def nextF (code : List Int) (s : St) (n : Int) : Int × St :=
  if n ≤ 1 then (0, s)
  else if s.1 < code.length then
    ((if n ≤ 256 ∧ (s.1 + 1) % 2 = 0 then code.getD s.1 0 else stepH s.2 / 17 + code.getD s.1 0) % n, (s.1 + 1, stepH s.2))
  else (stepH s.2 / 17 % n, (s.1, stepH s.2))
theorem stepH_bd (h : Int) : 0 ≤ stepH h ∧ stepH h < 2147483647 := by unfold stepH; omega
theorem nextF_bd (code : List Int) (s : St) (n : Int) (hn : 1 ≤ n) : 0 ≤ (nextF code s n).1 ∧ (nextF code s n).1 < n := by
  unfold nextF
  split
  · exact ⟨Int.le_refl _, by omega⟩
  · split
    · exact ⟨Int.emod_nonneg _ (by omega), Int.emod_lt_of_pos _ (by omega)⟩
    · exact ⟨Int.emod_nonneg _ (by omega), Int.emod_lt_of_pos _ (by omega)⟩
theorem nextF_nonneg (code : List Int) (s : St) (n : Int) : 0 ≤ (nextF code s n).1 := by
  by_cases h : 1 ≤ n
  · exact (nextF_bd code s n h).1
  · unfold nextF; rw [if_pos (by omega)]; exact Int.le_refl _

/-- A valid state. -/
def StOk (code : List Int) (s : St) : Prop := s.1 ≤ code.length ∧ 0 ≤ s.2 ∧ s.2 < 2147483647
theorem nextF_ok (code : List Int) (s : St) (n : Int) (h : StOk code s) : StOk code (nextF code s n).2 := by
  have hb := stepH_bd s.2
  unfold nextF
  split
  · exact h
  · split
    · exact ⟨by simp; omega, hb.1, hb.2⟩
    · exact ⟨h.1, hb.1, hb.2⟩
theorem fromF_ok (code : List Int) : StOk code (fromF code) := ⟨Nat.zero_le _, fromGo_bd _ _ (by omega) (by omega)⟩
end Go.Proofs.YtnpldahkhaacnaaGreatDoor

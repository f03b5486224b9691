/- Walks: the numbers of words, both sides. -/
import Derived.Test.YthlnoahjfllhfaaDoorQk
import Derived.Test.YthlnoahjfllhfaaDoorQc
namespace Go.Proofs.YthlnoahjfllhfaaDoor
open Go.RowKit Go.Sort
set_option linter.unusedVariables false
set_option maxRecDepth 100000

theorem Rd.str {w : World} {A : Option Addr} {n k : Nat} {ws : List (List UInt8)} (h : Rd w 1 A n (strs ws)) (hk : k < n) : ∃ b o x, A = some ⟨b, o, none⟩ ∧ ws[k]? = some x ∧ ws.drop k = x :: ws.drop (k + 1) ∧ w.cell? ⟨b, o + k, none⟩ = some (.string (str x)) := by
  obtain ⟨b, o, e, hc⟩ := h.pos (by omega)
  have hl : ws.length = n := by have := h.len; rw [strs_len] at this; omega
  have hx : ws[k]? = some ws[k] := List.getElem?_eq_getElem (by omega)
  exact ⟨b, o, ws[k], e, hx, List.drop_eq_getElem_cons (by omega), hc k _ (strs_get hx)⟩
theorem Rd.len_str {w : World} {A : Option Addr} {n : Nat} {ws : List (List UInt8)} (h : Rd w 1 A n (strs ws)) : ws.length = n := by have := h.len; rw [strs_len] at this; omega
theorem Tryd.info_num : (Tryd.prog.info? 2).map (fun i => (i.zero, i.size, i.bytes)) = some (some (.int .i64 0), 1, 8) := by kernel_rfl
theorem app_num {ops : Array Oper} {rest : List Oper} {o : Oper} {a : Act} {Q : Exit → Act → World → Prop} (w : World) (hgd : o.guard = none) (s x : Operand)
    (ho : o.op = .call { callee := .builtin .append, args := #[s, x], argTypes := #[45, 45] }) {base n c : Nat} {A : Option Addr} {xs : List Int} {y : Int}
    (hs : a.eval s = .slice A n c) (hown : w.ownsRow base 2 1 (.slice A n c) n (ints xs)) {b : Nat} (hx : a.eval x = .slice (some ⟨b, 0, none⟩) 1 1)
    (hc : w.heap[b]? = some (.cells #[.int .i64 y] 2 (0, 0))) (hn : n ≤ 1099511627776) (hbase : base ≤ w.heap.size)
    (h : ∀ g c' w', w'.ownsRow base 2 1 (.slice (some ⟨g, 0, none⟩) (n + 1) c') (n + 1) (ints (xs ++ [y])) → w.grownBy w' (Value.slice A n c).ownBlock → ((Value.slice A n c).ownBlock = some g ∨ g = w.heap.size) → g < w'.heap.size → wpList Tryd.prog ops Q rest (a.put o.dst (.slice (some ⟨g, 0, none⟩) (n + 1) c')) w') :
    wpList Tryd.prog ops Q (o :: rest) a w := by
  obtain ⟨i, hi, hz, hs1, hb1⟩ := info_parts Tryd.info_num
  have e : ints xs ++ [.int .i64 y] = ints (xs ++ [y]) := by rw [ints_append]; rfl
  exact wpList_append_lies w hgd s x 45 ho base 2 i (.int .i64 0) 1 8 Tryd.underlying45 hi hz hs1 hb1 rfl (by decide) (.slice A n c) n (ints xs) hs hown ⟨b, 0, none⟩ 1 1 [.int .i64 y] hx rfl (World.news_of_block (cs := #[.int .i64 y]) hc)
    (by intro u hu; simp at hu; subst hu; rfl) (by decide) (by unfold maxLen; omega) (by omega) hbase _ rfl (by rw [e]; exact h)
/-- Result: new memory that holds numbers. -/
def RetNs (w : World) (xs : List Int) (e : Ending) (w' : World) : Prop :=
  ∃ A n c, e = .returned (.slice A n c) ∧ Rd w' 1 A n (ints xs) ∧ Below w.heap.size w w'
def nums (ws : List (List UInt8)) : List Int := ws.map fun w => (numF w).1
set_option maxHeartbeats 2000000 in
theorem numbersOf_any (A : Option Addr) (n c : Nat) (ws : List (List UInt8)) (w : World) (h : Rd w 1 A n (strs ws)) (hn : n ≤ 4194304) (hsh : ∀ x ∈ ws, x.length ≤ 2097152) (HL : ∀ w', Below w.heap.size w w' → Libs w') :
    Calls Tryd.prog 23 #[.slice A n c] w (RetNs w (nums ws)) := by
  have hl := h.len_str
  have HR := Lib.hid h
  have HLN := Lib.hid hl
  have HSH := Lib.hid hsh
  have HLL := Lib.hid HL
  obtain ⟨V, hV⟩ : ∃ V, V = nums ws := ⟨_, rfl⟩
  rw [← hV]
  have HV := Lib.hid (show [] ++ nums (ws.drop 0) = V from by rw [hV]; rfl)
  clear h hl hsh HL hV
  go_enter Tryd.func23, Tryd.ntmps23
  go_wp2_with fail
  have HO0 := Lib.hid (show (w.alloc (.cells #[] 2)).ownsRow w.heap.size 2 1 (.slice (some ⟨w.heap.size, 0, none⟩) 0 0) 0 (ints []) from own_emptyS w w.heap.size 2 1 (Nat.le_refl _))
  have HB0 := Lib.hid ((Below.refl w.heap.size w).alloc (Nat.le_refl _) (.cells #[] 2))
  go_loopw [3, 11] (fun o i wr => ∃ (k cc : Nat) (B : Option Addr) (out : List Int), k ≤ n ∧ o = .slice B k cc ∧ i = .int .i64 k ∧ Hid (out ++ nums (ws.drop k) = V) ∧ Hid (wr.ownsRow w.heap.size 2 1 (.slice B k cc) k (ints out)) ∧ Hid (Below w.heap.size w wr)) (fun _ i _ => n - (intOf i).toNat)
  case atStart => exact ⟨0, 0, _, [], Nat.zero_le _, rfl, rfl, HV, HO0, HB0⟩
  case round =>
    clear HO0 HB0 HV
    obtain ⟨k, cc, B, out, hk, rfl, rfl, HI, HO, HB⟩ := hrel
    obtain ⟨wo, hwo⟩ : ∃ wo : World, wo = wr := ⟨_, rfl⟩
    subst hwo
    by_cases hlt : k < n
    · have hkd : decide ((k : Int) < (n : Int)) = true := by simpa using hlt
      obtain ⟨b, of, x, rfl, hx, hd, hc⟩ := (HR.out.below HB.out).str hlt
      have hlx := HSH.out x (List.mem_of_getElem? hx)
      have hlib := HLL.out _ HB.out
      have HN := Lib.hid (number_any' (str x) (by rw [str_size]; exact hlx) wo hlib.pow hlib.err (fun w' hb => (HLL.out _ (HB.out.trans (hb.mono HB.out.size))).pow))
      rw [str_list] at HN
      have HI2 := Lib.hid (show out ++ [(numF x).1] ++ nums (ws.drop (k + 1)) = V from by rw [← HI.out, hd]; simp [nums])
      generalize numF x = r at *
      obtain ⟨v, ok⟩ := r
      simp only at HI2
      clear hx hd hlx hlib HI
      go_wp2_with fail
      refine HN.out.mono ?_
      rintro e w1 ⟨rfl, hb⟩
      have HB1 := Lib.hid (HB.out.trans (hb.mono HB.out.size))
      have HO1 := Lib.hid (own_below HO.out hb)
      have hbs := HB1.out.size
      clear hb hc HN HO
      simp only
      go_wp2_with (at_builtin; refine app_num (y := v) _ rfl _ _ rfl rfl (own_below HO1.out ((Below.refl _ _).alloc (Nat.le_refl _) _)) rfl (heap_alloc_new _ _) (by omega) ?cBa ?_; rotate_left; intro g9 c9 w9 hown9 hgr9 _ _)
      · have HB9 := Lib.hid ((HB1.out.alloc hbs _).grown hgr9 (by simp; omega) (fun j hj => (HO1.out.lt j hj).1))
        have HO9 := Lib.hid hown9
        clear hown9 hgr9
        go_roundw
        case rel => exact ⟨k + 1, c9, _, _, by omega, rfl, by go_num, HI2, HO9, HB9⟩
        case measure => simp [intOf] <;> omega
      · first | omega | (simp; omega)
    · obtain rfl : k = n := by omega
      have hkd : decide ((k : Int) < (k : Int)) = false := by simp
      have hi := HI.out
      rw [List.drop_eq_nil_of_le (by have := HLN.out; omega)] at hi
      have HI2 := Lib.hid (show out = V from by rw [← hi]; simp [nums])
      clear hi HI
      go_wp2_with fail
      go_ret
      exact ⟨_, _, _, rfl, by rw [← HI2.out]; exact own_rd HO.out, HB.out⟩
end Go.Proofs.YthlnoahjfllhfaaDoor

/- Walks: words of a text, both sides. -/
import Derived.Test.YthlnoahjfllhfaaDoorQi
import Derived.Test.YthlnoahjfllhfaaDoorQg
import Derived.Test.YthlnoahjfllhfaaDoorShelf
import Derived.Deep.AppendLies
import Derived.IntWalk
namespace Go.Proofs.YthlnoahjfllhfaaDoor
open Go.RowKit Go.Sort
set_option linter.unusedVariables false
set_option maxRecDepth 100000

theorem own_emptyS (w : World) (base e s : Nat) (hb : base ≤ w.heap.size) : (w.alloc (.cells #[] e)).ownsRow base e s (.slice (some ⟨w.heap.size, 0, none⟩) 0 0) 0 [] := by
  have := World.ownsRow_lit (base := base) (e := e) (size := s) w #[] 0 hb (by unfold maxLen; omega) (by simp)
  simpa using this
/-- Strings as cells. -/
def strs (ws : List (List UInt8)) : List Value := ws.map fun w => Value.string (str w)
theorem strs_len (ws : List (List UInt8)) : (strs ws).length = ws.length := by simp [strs]
theorem strs_get {ws : List (List UInt8)} {k : Nat} {x : List UInt8} (h : ws[k]? = some x) : (strs ws)[k]? = some (.string (str x)) := by simp [strs, h]
theorem strs_app (xs ys : List (List UInt8)) : strs (xs ++ ys) = strs xs ++ strs ys := by simp [strs]
theorem extract_str (s : ByteArray) (a b : Nat) (hb : b ≤ s.size) : s.extract a b = str ((s.data.toList.drop a).take (b - a)) := by
  apply ByteArray.ext
  apply Array.ext'
  have h := Lib.extract_data s a b
  rw [h]
  simp [str]
theorem str_data (s : ByteArray) : str s.data.toList = s := by
  apply ByteArray.ext
  simp [str]
/-- Result: new memory that holds the words of a text. -/
def RetWs (w : World) (ws : List (List UInt8)) (e : Ending) (w' : World) : Prop :=
  ∃ A n c, e = .returned (.slice A n c) ∧ Rd w' 1 A n (strs ws) ∧ Below w.heap.size w w'
/-- The library's variable MaxLen holds some number. -/
def MaxL (w : World) : Prop := ∃ m, w.cell? ⟨1, 0, none⟩ = some (.int .i64 m)
theorem MaxL.below {w w' : World} (h : MaxL w) (hb : Below w.heap.size w w') : MaxL w' := by
  obtain ⟨m, hm⟩ := h
  exact ⟨m, (hb.cell (cell_lt hm)).trans hm⟩
theorem wordsOf_any (s : ByteArray) (hs : s.size ≤ 2097152) (w : World) (hm : MaxL w) :
    Calls Tryd.prog 22 #[.string s] w (RetWs w (wordsL s.data.toList)) := by
  obtain ⟨m, hm⟩ := hm
  have H := Tryd.strings_Split s ⟨#[32]⟩ m w (by omega) hm (by decide)
  have hw := split_words s
  have hc : Lib.countB s ⟨#[32]⟩ + 1 = (wordsL s.data.toList).length := by
    rw [wordsL_len]
    unfold Lib.countB
    rw [← Lib.count_one 32]
  have hv : (Lib.splitB ⟨#[32]⟩ 0 (Lib.countB s ⟨#[32]⟩) s).map Value.string = strs (wordsL s.data.toList) := by
    rw [← hw]
    unfold strs
    rw [List.map_map]
    refine List.map_congr_left fun x _ => ?_
    show Value.string x = Value.string (str x.data.toList)
    rw [str_data]
  rw [hv, hc] at H
  have hl : (wordsL s.data.toList).length ≤ 9223372036854775807 := by
    have h1 := wordsL_len s.data.toList
    have h2 : s.data.toList.count 32 ≤ s.data.toList.length := List.count_le_length
    have h3 := (Lib.size_eq s).symm
    omega
  generalize wordsL s.data.toList = ws at *
  have HH := Lib.hid H
  have HL := Lib.hid hl
  clear H hm hv hc hw hl
  go_enter Tryd.func22, Tryd.ntmps22
  go_wp2_with fail
  refine HH.out.mono ?_
  rintro e w' ⟨rfl, rfl⟩
  go_wp2_with fail
  go_ret
  refine ⟨_, _, _, rfl, ⟨by rw [strs_len]; omega, HL.out, fun h0 => ⟨_, _, rfl, fun i u hu => ?_⟩⟩, (Below.refl _ _).alloc (Nat.le_refl _) _⟩
  rw [Nat.zero_add]
  exact (Box.new w (strs ws).toArray 9).cell (by simpa using hu)
theorem Tryd.info_str : (Tryd.prog.info? 9).map (fun i => (i.zero, i.size, i.bytes)) = some (some (.string ByteArray.empty), 1, 16) := by kernel_rfl
theorem app_str {ops : Array Oper} {rest : List Oper} {o : Oper} {a : Act} {Q : Exit → Act → World → Prop} (w : World) (hgd : o.guard = none) (s x : Operand)
    (ho : o.op = .call { callee := .builtin .append, args := #[s, x], argTypes := #[40, 40] }) {base n c : Nat} {A : Option Addr} {xs : List (List UInt8)} {y : ByteArray} {l : List UInt8} (hy : y = str l)
    (hs : a.eval s = .slice A n c) (hown : w.ownsRow base 9 1 (.slice A n c) n (strs xs)) {b : Nat} (hx : a.eval x = .slice (some ⟨b, 0, none⟩) 1 1)
    (hc : w.heap[b]? = some (.cells #[.string y] 9 (0, 0))) (hn : n ≤ 1099511627776) (hbase : base ≤ w.heap.size)
    (h : ∀ g c' w', w'.ownsRow base 9 1 (.slice (some ⟨g, 0, none⟩) (n + 1) c') (n + 1) (strs (xs ++ [l])) → w.grownBy w' (Value.slice A n c).ownBlock → ((Value.slice A n c).ownBlock = some g ∨ g = w.heap.size) → g < w'.heap.size → wpList Tryd.prog ops Q rest (a.put o.dst (.slice (some ⟨g, 0, none⟩) (n + 1) c')) w') :
    wpList Tryd.prog ops Q (o :: rest) a w := by
  subst hy
  obtain ⟨i, hi, hz, hs1, hb1⟩ := info_parts Tryd.info_str
  have e : strs xs ++ [.string (str l)] = strs (xs ++ [l]) := by rw [strs_app]; rfl
  exact wpList_append_lies w hgd s x 40 ho base 9 i (.string ByteArray.empty) 1 16 Tryd.underlying40 hi hz hs1 hb1 rfl (by decide) (.slice A n c) n (strs xs) hs hown ⟨b, 0, none⟩ 1 1 [.string (str l)] hx rfl (World.news_of_block (cs := #[.string (str l)]) hc)
    (by intro u hu; simp at hu; subst hu; rfl) (by decide) (by unfold maxLen; omega) (by omega) hbase _ rfl (by rw [e]; exact h)
theorem ahead_blank (p : List UInt8) (r : List UInt8) : ahead p (wordsL (32 :: r)) = p :: wordsL r := by rw [wordsL_blank]; simp [ahead]
theorem ahead_char (p : List UInt8) {c : UInt8} (h : c ≠ 32) (r : List UInt8) : ahead p (wordsL (c :: r)) = ahead (p ++ [c]) (wordsL r) := by
  rw [wordsL_char h, ahead_ahead _ _ (wordsL_ne r)]
set_option maxHeartbeats 4000000 in
theorem split26_any (s : ByteArray) (hs : s.size ≤ 2097152) (w : World) :
    Calls Tryd.prog 19 #[.string s, .int .u8 32] w (RetWs w (wordsL s.data.toList)) := by
  have hsz := (Lib.size_eq s).symm
  obtain ⟨L, hL⟩ : ∃ L, L = s.data.toList := ⟨_, rfl⟩
  rw [← hL] at hsz ⊢
  obtain ⟨W, hW⟩ : ∃ W, W = wordsL L := ⟨_, rfl⟩
  rw [← hW]
  have HL := Lib.hid hL
  have HSZ := Lib.hid hsz
  have HW0 := Lib.hid (show [] ++ ahead ((L.drop 0).take (0 - 0)) (wordsL (L.drop 0)) = W from by simp [hW, ahead_nil (wordsL_ne L)])
  have HEX := Lib.hid (fun a b hb => extract_str s a b hb)
  rw [← hL] at HEX
  clear hL hsz hW
  go_enter Tryd.func19, Tryd.ntmps19
  go_wp2_with fail
  have HO0 := Lib.hid (show (w.alloc (.cells #[] 9)).ownsRow w.heap.size 9 1 (.slice (some ⟨w.heap.size, 0, none⟩) 0 0) 0 (strs []) from own_emptyS w w.heap.size 9 1 (Nat.le_refl _))
  have HB0 := Lib.hid ((Below.refl w.heap.size w).alloc (Nat.le_refl _) (.cells #[] 9))
  go_loopw [5, 6, 7] (fun o f i wr => ∃ (k fr m c : Nat) (A : Option Addr) (out : List (List UInt8)), k ≤ s.size + 1 ∧ m ≤ k ∧ o = .slice A m c ∧ f = .int .i64 fr ∧ i = .int .i64 k ∧ Hid ((k ≤ s.size ∧ fr ≤ k ∧ out ++ ahead ((L.drop fr).take (k - fr)) (wordsL (L.drop k)) = W) ∨ (k = s.size + 1 ∧ out = W)) ∧ Hid (wr.ownsRow w.heap.size 9 1 (.slice A m c) m (strs out)) ∧ Hid (Below w.heap.size w wr)) (fun _ _ i _ => s.size + 1 - (intOf i).toNat)
  case atStart => exact ⟨0, 0, 0, 0, _, [], Nat.zero_le _, Nat.zero_le _, rfl, rfl, rfl, Lib.hid (.inl ⟨Nat.zero_le _, Nat.le_refl _, HW0.out⟩), HO0, HB0⟩
  case round =>
    clear HO0 HB0 HW0
    obtain ⟨k, fr, m, c, A, out, hk, hmk, rfl, rfl, rfl, HI, HO, HB⟩ := hrel
    obtain ⟨wo, hwo⟩ : ∃ wo : World, wo = wr := ⟨_, rfl⟩
    subst hwo
    by_cases hlt : k ≤ s.size
    · have hkd : decide ((k : Int) ≤ (s.size : Int)) = true := by simp; omega
      have hi := HI.out
      have hi2 : fr ≤ k ∧ out ++ ahead ((L.drop fr).take (k - fr)) (wordsL (L.drop k)) = W := by rcases hi with h | h; exact h.2; exact absurd h.1 (by omega)
      obtain ⟨hfr, hinv⟩ := hi2
      have HEK := Lib.hid (HEX.out fr k hlt)
      have hbs := HB.out.size
      by_cases hend : k = s.size
      · have heq : ((k : Int) == (s.size : Int)) = true := by simp [hend]
        have HR := Lib.hid (show out ++ [(L.drop fr).take (k - fr)] = W from by
          have hdn : L.drop k = [] := List.drop_eq_nil_of_le (by have := HSZ.out; omega)
          rw [← hinv, hdn]
          simp [wordsL, ahead])
        have HEND := Lib.hid hend
        clear hi hinv HI hend
        go_wp2_with (at_builtin; refine app_str (l := (L.drop fr).take (k - fr)) _ rfl _ _ rfl HEK.out rfl (own_below HO.out ((Below.refl _ _).alloc (Nat.le_refl _) _)) rfl (heap_alloc_new _ _) (by omega) ?cBa ?_; rotate_left; intro g9 c9 w9 hown9 hgr9 _ _)
        · have HB9 := Lib.hid ((HB.out.alloc hbs _).grown hgr9 (by simp; omega) (fun j hj => (HO.out.lt j hj).1))
          have HO9 := Lib.hid hown9
          clear hown9 hgr9
          go_roundw
          case rel => exact ⟨k + 1, k + 1, m + 1, c9, _, _, by omega, by omega, rfl, by go_num, by go_num, Lib.hid (.inr ⟨by have := HEND.out; omega, HR.out⟩), HO9, HB9⟩
          case measure => simp [intOf] <;> omega
        · first | omega | (simp; omega)
      · have heq : ((k : Int) == (s.size : Int)) = false := by simp; omega
        have hks : k < s.size := by omega
        have hkL : k < L.length := by have := HSZ.out; omega
        have hd := List.drop_eq_getElem_cons hkL
        have hgs : s[k] = L[k] := by
          have h1 := HL.out
          subst h1
          rfl
        have HGS := Lib.hid hgs
        by_cases h32 : L[k] = 32
        · have hc : (((s[k]).toNat : Int) == 32) = true := by rw [hgs, h32]; rfl
          have HR := Lib.hid (show out ++ [(L.drop fr).take (k - fr)] ++ ahead ((L.drop (k + 1)).take (k + 1 - (k + 1))) (wordsL (L.drop (k + 1))) = W from by
            rw [← hinv, hd, h32, ahead_blank, Nat.sub_self, List.take_zero, ahead_nil (wordsL_ne _)]
            simp)
          clear hi hinv HI hd hgs h32 hend
          go_wp2_with (at_builtin; refine app_str (l := (L.drop fr).take (k - fr)) _ rfl _ _ rfl HEK.out rfl (own_below HO.out ((Below.refl _ _).alloc (Nat.le_refl _) _)) rfl (heap_alloc_new _ _) (by omega) ?cBb ?_; rotate_left; intro g9 c9 w9 hown9 hgr9 _ _)
          · have HB9 := Lib.hid ((HB.out.alloc hbs _).grown hgr9 (by simp; omega) (fun j hj => (HO.out.lt j hj).1))
            have HO9 := Lib.hid hown9
            clear hown9 hgr9
            go_roundw
            case rel => exact ⟨k + 1, k + 1, m + 1, c9, _, _, by omega, by omega, rfl, by go_num, by go_num, Lib.hid (.inl ⟨by omega, Nat.le_refl _, HR.out⟩), HO9, HB9⟩
            case measure => simp [intOf] <;> omega
          · first | omega | (simp; omega)
        · have hc : (((s[k]).toNat : Int) == 32) = false := by
            rw [hgs]
            simp only [beq_eq_false_iff_ne]
            intro e
            apply h32
            apply UInt8.toNat_inj.1
            show (L[k]).toNat = 32
            omega
          have HR := Lib.hid (show out ++ ahead ((L.drop fr).take (k + 1 - fr)) (wordsL (L.drop (k + 1))) = W from by
            rw [← hinv, hd, ahead_char _ h32]
            congr 3
            rw [show k + 1 - fr = (k - fr) + 1 from by omega, List.take_add_one]
            congr 1
            rw [List.getElem?_drop, show fr + (k - fr) = k from by omega, List.getElem?_eq_getElem hkL]
            rfl)
          clear hi hinv HI hd hgs h32 hend
          go_wp2_with fail
          go_roundw
          case rel => exact ⟨k + 1, fr, m, c, A, out, by omega, by omega, rfl, rfl, by go_num, Lib.hid (.inl ⟨by omega, by omega, HR.out⟩), HO, HB⟩
          case measure => simp [intOf] <;> omega
    · have hkd : decide ((k : Int) ≤ (s.size : Int)) = false := by simp; omega
      have hw : out = W := by rcases HI.out with h | h; omega; exact h.2
      have HWW := Lib.hid hw
      clear HI hw
      go_wp2_with fail
      go_ret
      exact ⟨_, _, _, rfl, by rw [← HWW.out]; exact own_rd HO.out, HB.out⟩
end Go.Proofs.YthlnoahjfllhfaaDoor

/- Walks: words of a text, both sides. -/
import Derived.Test.YthlnoahjfllhfaaGreatDoorQi
import Derived.Test.YthlnoahjfllhfaaGreatDoorQg
import Derived.Test.YthlnoahjfllhfaaGreatDoorShelf
import Derived.Deep.AppendLies
import Derived.IntWalk
namespace Go.Proofs.YthlnoahjfllhfaaGreatDoor
open Go.RowKit Go.Sort
set_option linter.unusedVariables false
set_option maxRecDepth 100000

theorem own_emptyS (w : World) (base e s : Nat) (hb : base ≤ w.heap.size) : (w.alloc (.cells #[] e)).ownsRow base e s (.slice (some ⟨w.heap.size, 0, none⟩) 0 0) 0 [] := by
  have := World.ownsRow_lit (base := base) (e := e) (size := s) w #[] 0 hb (by unfold maxLen; omega) (by simp)
  simpa using this
/-- Strings as cells. -/
def strs (ws : List (List UInt8)) : List Value := ws.map fun w => Value.string (str w)
theorem strs_len (ws : List (List UInt8)) : (strs ws).length = ws.length := by simp [strs]
theorem strs_get {ws : List (List UInt8)} {k : Nat} {x : List UInt8} (h : ws[k]? = some x) : (strs ws)[k]? = some (.string (str x)) := by simp [strs, h]
theorem strs_app (xs ys : List (List UInt8)) : strs (xs ++ ys) = strs xs ++ strs ys := by simp [strs]
theorem extract_str (s : ByteArray) (a b : Nat) (hb : b ≤ s.size) : s.extract a b = str ((s.data.toList.drop a).take (b - a)) := by
  apply ByteArray.ext
  apply Array.ext'
  have h := Lib.extract_data s a b
  rw [h]
  simp [str]
theorem str_data (s : ByteArray) : str s.data.toList = s := by
  apply ByteArray.ext
  simp [str]
/-- Result: new memory that holds the words of a text. -/
def RetWs (w : World) (ws : List (List UInt8)) (e : Ending) (w' : World) : Prop :=
  ∃ A n c, e = .returned (.slice A n c) ∧ Rd w' 1 A n (strs ws) ∧ Below w.heap.size w w'
/-- The same, and the row's room. -/
def RetWsC (w : World) (ws : List (List UInt8)) (e : Ending) (w' : World) : Prop :=
  ∃ A n c, e = .returned (.slice A n c) ∧ Rd w' 1 A n (strs ws) ∧ Below w.heap.size w w' ∧ n ≤ c
theorem own_capW {w : World} {base e s n c : Nat} {A : Option Addr} {xs : List Value} (h : w.ownsRow base e s (.slice A n c) n xs) : n ≤ c := by
  rcases h.2 with ⟨hv, hn⟩ | ⟨g, cap, cur, hv, hb, hg, hnc, _⟩
  · omega
  · injection hv with _ _ hc; omega
/-- The library's variable MaxLen holds some number. -/
def MaxL (w : World) : Prop := ∃ m, w.cell? ⟨0, 0, none⟩ = some (.int .i64 m)
theorem MaxL.below {w w' : World} (h : MaxL w) (hb : Below w.heap.size w w') : MaxL w' := by
  obtain ⟨m, hm⟩ := h
  exact ⟨m, (hb.cell (cell_lt hm)).trans hm⟩
theorem wordsOfC_any (s : ByteArray) (hs : s.size ≤ 2097152) (w : World) (hm : MaxL w) :
    Calls Tryz.prog 10 #[.string s] w (RetWsC w (wordsL s.data.toList)) := by
  obtain ⟨m, hm⟩ := hm
  have H := Tryz.strings_Split s ⟨#[32]⟩ m w (by omega) hm (by decide)
  have hw := split_words s
  have hc : Lib.countB s ⟨#[32]⟩ + 1 = (wordsL s.data.toList).length := by
    rw [wordsL_len]
    unfold Lib.countB
    rw [← Lib.count_one 32]
  have hv : (Lib.splitB ⟨#[32]⟩ 0 (Lib.countB s ⟨#[32]⟩) s).map Value.string = strs (wordsL s.data.toList) := by
    rw [← hw]
    unfold strs
    rw [List.map_map]
    refine List.map_congr_left fun x _ => ?_
    show Value.string x = Value.string (str x.data.toList)
    rw [str_data]
  rw [hv, hc] at H
  have hl : (wordsL s.data.toList).length ≤ 9223372036854775807 := by
    have h1 := wordsL_len s.data.toList
    have h2 : s.data.toList.count 32 ≤ s.data.toList.length := List.count_le_length
    have h3 := (Lib.size_eq s).symm
    omega
  generalize wordsL s.data.toList = ws at *
  have HH := Lib.hid H
  have HL := Lib.hid hl
  clear H hm hv hc hw hl
  go_enter Tryz.func10, Tryz.ntmps10
  go_wp2_with fail
  refine HH.out.mono ?_
  rintro e w' ⟨rfl, rfl⟩
  go_wp2_with fail
  go_ret
  refine ⟨_, _, _, rfl, ⟨by rw [strs_len]; omega, HL.out, fun h0 => ⟨_, _, rfl, fun i u hu => ?_⟩⟩, (Below.refl _ _).alloc (Nat.le_refl _) _, Nat.le_refl _⟩
  rw [Nat.zero_add]
  exact (Box.new w (strs ws).toArray 9).cell (by simpa using hu)
theorem wordsOf_any (s : ByteArray) (hs : s.size ≤ 2097152) (w : World) (hm : MaxL w) :
    Calls Tryz.prog 10 #[.string s] w (RetWs w (wordsL s.data.toList)) := by
  refine (wordsOfC_any s hs w hm).mono ?_
  rintro e w1 ⟨A, n, c, he, hr, hb, _⟩
  exact ⟨A, n, c, he, hr, hb⟩
theorem Tryz.info_str : (Tryz.prog.info? 9).map (fun i => (i.zero, i.size, i.bytes)) = some (some (.string ByteArray.empty), 1, 16) := by kernel_rfl
theorem app_str {ops : Array Oper} {rest : List Oper} {o : Oper} {a : Act} {Q : Exit → Act → World → Prop} (w : World) (hgd : o.guard = none) (s x : Operand)
    (ho : o.op = .call { callee := .builtin .append, args := #[s, x], argTypes := #[29, 29] }) {base n c : Nat} {A : Option Addr} {xs : List (List UInt8)} {y : ByteArray} {l : List UInt8} (hy : y = str l)
    (hs : a.eval s = .slice A n c) (hown : w.ownsRow base 9 1 (.slice A n c) n (strs xs)) {b : Nat} (hx : a.eval x = .slice (some ⟨b, 0, none⟩) 1 1)
    (hc : w.heap[b]? = some (.cells #[.string y] 9 (0, 0))) (hn : n ≤ 1099511627776) (hbase : base ≤ w.heap.size)
    (h : ∀ g c' w', w'.ownsRow base 9 1 (.slice (some ⟨g, 0, none⟩) (n + 1) c') (n + 1) (strs (xs ++ [l])) → w.grownBy w' (Value.slice A n c).ownBlock → ((Value.slice A n c).ownBlock = some g ∨ g = w.heap.size) → g < w'.heap.size → wpList Tryz.prog ops Q rest (a.put o.dst (.slice (some ⟨g, 0, none⟩) (n + 1) c')) w') :
    wpList Tryz.prog ops Q (o :: rest) a w := by
  subst hy
  obtain ⟨i, hi, hz, hs1, hb1⟩ := info_parts Tryz.info_str
  have e : strs xs ++ [.string (str l)] = strs (xs ++ [l]) := by rw [strs_app]; rfl
  exact wpList_append_lies w hgd s x 29 ho base 9 i (.string ByteArray.empty) 1 16 Tryz.underlying29 hi hz hs1 hb1 rfl (by decide) (.slice A n c) n (strs xs) hs hown ⟨b, 0, none⟩ 1 1 [.string (str l)] hx rfl (World.news_of_block (cs := #[.string (str l)]) hc)
    (by intro u hu; simp at hu; subst hu; rfl) (by decide) (by unfold maxLen; omega) (by omega) hbase _ rfl (by rw [e]; exact h)
theorem ahead_blank (p : List UInt8) (r : List UInt8) : ahead p (wordsL (32 :: r)) = p :: wordsL r := by rw [wordsL_blank]; simp [ahead]
theorem ahead_char (p : List UInt8) {c : UInt8} (h : c ≠ 32) (r : List UInt8) : ahead p (wordsL (c :: r)) = ahead (p ++ [c]) (wordsL r) := by
  rw [wordsL_char h, ahead_ahead _ _ (wordsL_ne r)]
end Go.Proofs.YthlnoahjfllhfaaGreatDoor

/- General and plain lemmas, and light walks (merged): Rh Zb Rt Zl Fq Ra Fw Rp Ec It Se Iu Sr Sq Tk Sa Gs Eo. -/
import Derived.Test.YtalgdeieejpelaaGreatEs
import Derived.Test.YtalgdeieejpelaaGreatZma
import Derived.Test.YtalgdeieejpelaaGreatZmg
import Derived.Test.YtalgdeieejpelaaGreatRows
import Derived.OrdersHeld
import Derived.StillTail
import Derived.RegionTactic
import Derived.Tactics
import Derived.Tactics2
import Derived.KernelRfl
import Derived.Lib.Hide
import Derived.Deep.DeepCutAuto
import Derived.WalkKit
import Derived.OrdersIn
import Derived.OwnWalkIn
import Derived.Sort.Grow
import Derived.RangeFuncNested
import Derived.RangeFuncBound
import Derived.RangeFuncCalls
import Derived.RangeFuncLeaves
import Derived.Shelf.Abstract
import Derived.TacticsInMore
import Derived.LoopNIn
import Derived.LoopIn
import Derived.Maps.AppendAt
import Derived.Shelf.SlSortCmp.WholeK
import Derived.Shelf.SlSortCmp.NoneTotal
import Derived.Ground.SlsfProg
import Derived.StillTailTactics
import Derived.Deep.Slices
import Derived.Deep.Fields
import Derived.Lib.SmallJoins
/- Walks: the laws' helpers on registers: size, copy, compare, mark, held. -/
namespace Go.Proofs.YtalgdeieejpelaaGreat
open Go.RowKit
set_option linter.unusedVariables false
set_option maxRecDepth 100000

/-- The copy of a register. -/
def RetReg (w : World) (b s : Int) (xs : List EntryT) (e : Ending) (w' : World) : Prop :=
  ∃ A n c, e = .returned (.agg #[.int .i64 b, .int .i64 s, .slice A n c]) ∧ w'.ownsRow w.heap.size 50 7 (.slice A n c) n (ents xs) ∧ n ≤ 1048576 ∧ Below w.heap.size w w'
theorem szRegister_any (b s : Int) (A : Option Addr) (n c : Nat) (xs : List EntryT) (left : Int) (h0 : 0 ≤ left) (h1 : left ≤ 1048576) (w : World) (hr : Rd w 7 A n (ents xs)) :
    Calls Tryz.prog 6 #[.agg #[.int .i64 b, .int .i64 s, .slice A n c], .int .i64 left] w fun e w' => e = .returned (.int .i64 (if left < (n : Int) then -1 else left - n)) ∧ Below w.heap.size w w' := by
  have hn := hr.le
  have HB := Lib.hid (show ∀ o, Below w.heap.size w (w.alloc o) from fun o => (Below.refl _ _).alloc (Nat.le_refl _) o)
  have HS := Lib.hid (fun w => szEntryS_any A n c left w h0 h1 hn)
  clear hr
  by_cases h : left < n
  · rw [if_pos h] at HS ⊢
    go_enter Tryz.func6, Tryz.ntmps6
    go_wp2_with fail
    refine (HS.out _).mono ?_
    rintro e w2 ⟨rfl, rfl⟩
    go_wp2_with fail
    go_ret
    exact ⟨rfl, HB.out _⟩
  · rw [if_neg h] at HS ⊢
    go_enter Tryz.func6, Tryz.ntmps6
    go_wp2_with fail
    refine (HS.out _).mono ?_
    rintro e w2 ⟨rfl, rfl⟩
    go_wp2_with fail
    go_ret
    exact ⟨rfl, HB.out _⟩
theorem toRegister_any (b s : Int) (A : Option Addr) (n c : Nat) (xs : List EntryT) (w : World) (h : Rd w 7 A n (ents xs)) (hn : n ≤ 1048576) :
    Calls Tryz.prog 8 #[.agg #[.int .i64 b, .int .i64 s, .slice A n c]] w (RetReg w b s xs) := by
  have HC := Lib.hid (fun w' (hb : Below w.heap.size w w') => toEntryS_any A n c xs w' (h.below hb) hn)
  clear h
  obtain ⟨w1, hw1, X0, X1, X2, hb1, hs1⟩ := three_boxes w #[.int .i64 b, .int .i64 s, .slice A n c] #[.int .i64 0, .int .i64 0, .slice none 0 0] #[.int .i64 b, .int .i64 s, .slice none 0 0] 24 31 31
  go_enter Tryz.func8, Tryz.ntmps8
  go_wp2_with fail
  rw [← hw1]
  clear hw1
  refine (HC.out _ hb1).mono ?_
  rintro e w2 ⟨A2, n2, c2, rfl, ho, hn2, hb2⟩
  have F1 := (X1.below hb2).f3
  have F2 := (X2.below hb2).f3
  have HO := Lib.hid ho
  have HB2 := Lib.hid (hb1.trans (hb2.mono hb1.size))
  have hsz := hb2.size
  clear ho hb2 HC X0 X1 X2
  go_wp2_with fail
  refine bodyPost_ret (v := .agg #[.int .i64 b, .int .i64 s, .slice A2 n2 c2]) (by simp [results, Tryz.results8, go_sem, F1]) rfl ?_
  have hch := put_chg (g := w.heap.size + 1) [.int .i64 b, .int .i64 s, .slice A2 n2 c2] 0 (put_chg (g := w.heap.size + 1 + 1) [.slice A2 n2 c2] 2 (Chg.refl (w.heap.size + 1) (w.heap.size + 1 + 1 + 1) w2) (by omega) (by omega)) (by omega) (by omega)
  exact ⟨A2, n2, c2, rfl, own_base (own_chg HO.out hch (fun b hb => .inr (by have := (HO.out.lt b hb).1; omega))) (by omega), hn2, below_chg HB2.out hch (by omega) (by omega)⟩
theorem eqRegister_any (b s : Int) (A : Option Addr) (n c : Nat) (A' : Option Addr) (n' c' : Nat) (xs : List EntryT) (w : World) (h : Rd w 7 A n (ents xs)) (h' : Rd w 7 A' n' (ents xs)) :
    Calls Tryz.prog 12 #[.agg #[.int .i64 b, .int .i64 s, .slice A n c], .agg #[.int .i64 b, .int .i64 s, .slice A' n' c']] w fun e w' => e = .returned (.bool true) ∧ Below w.heap.size w w' := by
  have HC := Lib.hid (fun w' (hb : Below w.heap.size w w') => eqEntryS_same A A' n c n' c' xs w' (h.below hb) (h'.below hb))
  clear h h'
  obtain ⟨w1, hw1, X0, X1, hb1, hs1⟩ := two_boxes w #[.int .i64 b, .int .i64 s, .slice A n c] #[.int .i64 b, .int .i64 s, .slice A' n' c'] 31 31
  go_enter Tryz.func12, Tryz.ntmps12
  go_wp2_with fail
  rw [← hw1]
  clear hw1
  refine (HC.out _ hb1).mono ?_
  rintro e w2 ⟨rfl, hb2⟩
  have HB2 := Lib.hid (hb1.trans (hb2.mono hb1.size))
  clear hb2 X0 X1
  go_wp2_with fail
  go_ret
  exact ⟨rfl, HB2.out⟩
theorem markRegister_any (base lo hi e : Nat) (b s : Int) (A : Option Addr) (n c : Nat) (xs : List EntryT) (k : Int) (w : World) (h : w.ownsRow base e 7 (.slice A n c) n (ents xs)) (hv : ∀ b, (Value.slice A n c).ownBlock = some b → lo ≤ b ∧ b < hi)
    (hk0 : 0 ≤ k) (hk1 : k ≤ 1099511627776) (hn : n ≤ 1048576) :
    Calls Tryz.prog 13 #[.agg #[.int .i64 b, .int .i64 s, .slice A n c], .int .i64 k] w fun e' w' => e' = .returned (.int .i64 (k + 7 * n)) ∧ w'.ownsRow base e 7 (.slice A n c) n (ents (seqent k n)) ∧ Chg lo hi w w' := by
  obtain ⟨w1, hw1, X0, hb1, hs1⟩ := one_box w #[.int .i64 b, .int .i64 s, .slice A n c] 31
  have HC := Lib.hid (markEntryS_seq base e A n c xs k w1 (own_below h hb1) hk0 hk1 hn)
  clear h
  go_enter Tryz.func13, Tryz.ntmps13
  go_wp2_with fail
  rw [← hw1]
  clear hw1
  refine HC.out.mono ?_
  rintro e w2 ⟨rfl, ho2, hc2⟩
  have HC2 := Lib.hid ((Chg.of_below (lo := lo) (hi := hi) hb1).trans (Chg.of_grown hc2 hv))
  have HO2 := Lib.hid ho2
  clear hc2 ho2
  go_wp2_with fail
  go_ret
  exact ⟨rfl, HO2.out, HC2.out⟩
theorem markEntryS_sq (base lo hi e : Nat) (A : Option Addr) (n c : Nat) (xs : List EntryT) (k : Int) (w : World) (h : w.ownsRow base e 7 (.slice A n c) n (ents xs)) (hv : ∀ b, (Value.slice A n c).ownBlock = some b → lo ≤ b ∧ b < hi)
    (hk0 : 0 ≤ k) (hk1 : k ≤ 1099511627776) (hn : n ≤ 1048576) :
    Calls Tryz.prog 45 #[.slice A n c, .int .i64 k] w fun e' w' => e' = .returned (.int .i64 (k + 7 * n)) ∧ w'.ownsRow base e 7 (.slice A n c) n (ents (seqent k n)) ∧ Chg lo hi w w' :=
  (markEntryS_seq base e A n c xs k w h hk0 hk1 hn).mono fun _ _ ⟨h1, h2, h3⟩ => ⟨h1, h2, Chg.of_grown h3 hv⟩
end Go.Proofs.YtalgdeieejpelaaGreat

/- Plain: comparing boats, ranks, the standing (chapter 28). -/
namespace Go.Proofs.YtalgdeieejpelaaGreat
open Go.RowKit
set_option linter.unusedVariables false
set_option maxRecDepth 100000

def sumI : List Int → Int
  | [] => 0
  | x :: r => x + sumI r
theorem sumI_app (a b : List Int) : sumI (a ++ b) = sumI a + sumI b := by
  induction a with
  | nil => simp [sumI]
  | cons x a ih => rw [List.cons_append, sumI, sumI, ih]; omega
theorem sumI_bd {l : List Int} {m : Int} (h : ∀ x ∈ l, 0 ≤ x ∧ x ≤ m) : 0 ≤ sumI l ∧ sumI l ≤ m * l.length := by
  induction l with
  | nil => simp [sumI]
  | cons x r ih =>
    have h1 := h x List.mem_cons_self
    have h2 := ih (fun y hy => h y (List.mem_cons_of_mem _ hy))
    rw [sumI, List.length_cons, Int.natCast_add, Int.mul_add]
    omega
theorem sumI_zero {l : List Int} (h : ∀ x ∈ l, 0 ≤ x) (hs : sumI l = 0) : l = List.replicate l.length 0 := by
  induction l with
  | nil => rfl
  | cons x r ih =>
    have h1 := h x List.mem_cons_self
    have h2 : 0 ≤ sumI r := by
      clear ih hs
      have h3 : ∀ y ∈ r, 0 ≤ y := fun y hy => h y (List.mem_cons_of_mem _ hy)
      clear h
      induction r with
      | nil => simp [sumI]
      | cons z r ih2 =>
        have := h3 z List.mem_cons_self
        have := ih2 (fun y hy => h3 y (List.mem_cons_of_mem _ hy))
        rw [sumI]; omega
    rw [sumI] at hs
    have hx : x = 0 := by omega
    have hr := ih (fun y hy => h y (List.mem_cons_of_mem _ hy)) (by omega)
    rw [List.length_cons, List.replicate_succ, hx]
    rw [← hr]
theorem sumI_perm {a b : List Int} (h : a.Perm b) : sumI a = sumI b := by
  induction h with
  | nil => rfl
  | cons x _ ih => rw [sumI, sumI, ih]
  | swap x y l => simp only [sumI]; omega
  | trans _ _ h1 h2 => rw [h1, h2]
/-! ### The first difference -/
def lexC : List Int → List Int → Int
  | x :: xs, y :: ys => if x = y then lexC xs ys else x - y
  | _, _ => 0
theorem lexC_nil (b : List Int) : lexC [] b = 0 := by cases b <;> rfl
theorem lexC_nil2 (a : List Int) : lexC a [] = 0 := by cases a <;> rfl
theorem lexC_self (a : List Int) : lexC a a = 0 := by
  induction a with
  | nil => rfl
  | cons x a ih => rw [lexC, if_pos rfl, ih]
theorem lexC_anti : ∀ (a b : List Int), lexC a b = - lexC b a := by
  intro a
  induction a with
  | nil => intro b; rw [lexC_nil, lexC_nil2]; rfl
  | cons x a ih =>
    intro b
    cases b with
    | nil => rfl
    | cons y b =>
      rw [lexC, lexC]
      by_cases h : x = y
      · rw [if_pos h, if_pos h.symm, ih]
      · rw [if_neg h, if_neg (fun e => h e.symm)]
        omega
theorem lexC_tr : ∀ (a b c : List Int), a.length = b.length → b.length = c.length → lexC a b ≤ 0 → lexC b c ≤ 0 → lexC a c ≤ 0 ∧ ((lexC a b < 0 ∨ lexC b c < 0) → lexC a c < 0) := by
  intro a
  induction a with
  | nil =>
    intro b c h1 h2
    cases b with
    | nil =>
      cases c with
      | nil => simp [lexC]
      | cons z c => simp at h2
    | cons y b => simp at h1
  | cons x a ih =>
    intro b c h1 h2
    cases b with
    | nil => simp at h1
    | cons y b =>
      cases c with
      | nil => simp at h2
      | cons z c =>
        have h3 := ih b c (by simpa using h1) (by simpa using h2)
        rw [lexC, lexC, lexC]
        by_cases e1 : x = y
        · subst e1
          by_cases e2 : x = z
          · subst e2
            simpa using h3
          · rw [if_pos rfl, if_neg e2]
            intro h4 h5
            omega
        · by_cases e2 : y = z
          · subst e2
            rw [if_neg e1, if_pos rfl]
            intro h4 h5
            omega
          · rw [if_neg e1, if_neg e2]
            intro h4 h5
            rw [if_neg (by omega)]
            omega
theorem weak_lex (f : Int → List Int) (L : Nat) (hL : ∀ a, (f a).length = L) : Weak (fun a b => decide (lexC (f a) (f b) < 0)) := by
  have hl : ∀ a b, (f a).length = (f b).length := fun a b => by rw [hL, hL]
  constructor
  · intro x
    show decide (lexC (f x) (f x) < 0) = false
    rw [lexC_self]
    rfl
  · intro x y
    show decide (lexC (f x) (f y) < 0) = true → decide (lexC (f y) (f x) < 0) = false
    rw [lexC_anti (f y) (f x)]
    simp
    omega
  · intro x y z
    show decide (lexC (f x) (f y) < 0) = true → decide (lexC (f y) (f z) < 0) = true → decide (lexC (f x) (f z) < 0) = true
    simp only [decide_eq_true_eq]
    intro h1 h2
    exact (lexC_tr _ _ _ (hl x y) (hl y z) (by omega) (by omega)).2 (.inl h1)
  · intro x y z
    show decide (lexC (f x) (f y) < 0) = false → decide (lexC (f y) (f x) < 0) = false → decide (lexC (f y) (f z) < 0) = false → decide (lexC (f z) (f y) < 0) = false → decide (lexC (f x) (f z) < 0) = false ∧ decide (lexC (f z) (f x) < 0) = false
    simp only [decide_eq_false_iff_not]
    have a1 := lexC_anti (f x) (f y)
    have a2 := lexC_anti (f y) (f z)
    have a3 := lexC_anti (f x) (f z)
    intro h1 h2 h3 h4
    have h5 := (lexC_tr _ _ _ (hl x y) (hl y z) (by omega) (by omega)).1
    have h6 := (lexC_tr _ _ _ (hl z y) (hl y x) (by omega) (by omega)).1
    omega
theorem lexC_app_ne : ∀ (a b u v : List Int), lexC a b ≠ 0 → lexC (a ++ u) (b ++ v) = lexC a b := by
  intro a
  induction a with
  | nil => intro b u v h; rw [lexC_nil] at h; exact absurd rfl h
  | cons x a ih =>
    intro b u v h
    cases b with
    | nil => exact absurd rfl h
    | cons y b =>
      rw [lexC] at h ⊢
      rw [List.cons_append, List.cons_append, lexC]
      by_cases e : x = y
      · rw [if_pos e] at h ⊢
        rw [if_pos e]
        exact ih b u v h
      · rw [if_neg e, if_neg e]
theorem lexC_app_eq (a b : List Int) : ∀ (u v : List Int), a = b → lexC (a ++ u) (b ++ v) = lexC u v := by
  intro u v h
  subst h
  induction a with
  | nil => rfl
  | cons x a ih => rw [List.cons_append, List.cons_append, lexC, if_pos rfl, ih]
theorem lexC_zero : ∀ (a b : List Int), lexC a b = 0 → a.length ≤ b.length → b = a ++ b.drop a.length := by
  intro a
  induction a with
  | nil => intro b _ _; simp
  | cons x a ih =>
    intro b h hl
    cases b with
    | nil => simp at hl
    | cons y b =>
      rw [lexC] at h
      by_cases e : x = y
      · rw [if_pos e] at h
        have := ih b h (by simpa using hl)
        rw [List.length_cons, List.drop_succ_cons, List.cons_append, ← this, e]
      · rw [if_neg e] at h
        omega
def padZ (l : List Int) : List Int := l ++ List.replicate (12 - l.length) 0
theorem padZ_len {l : List Int} (h : l.length ≤ 12) : (padZ l).length = 12 := by unfold padZ; rw [List.length_append, List.length_replicate]; omega
theorem padZ_pre {x y : List Int} (hx : ∀ z ∈ x, 0 ≤ z) (hy : ∀ z ∈ y, 0 ≤ z) (h2 : y.length ≤ 12) (hs : sumI x = sumI y) (h : lexC x y = 0) (hl : x.length ≤ y.length) : padZ x = padZ y := by
  have e := lexC_zero x y h hl
  have hd : y.drop x.length = List.replicate (y.length - x.length) 0 := by
    have hs2 : sumI (y.drop x.length) = 0 := by
      rw [e, sumI_app] at hs
      omega
    have := sumI_zero (fun z hz => hy z (List.mem_of_mem_drop hz)) hs2
    rw [List.length_drop] at this
    exact this
  rw [hd] at e
  unfold padZ
  have e2 : y ++ List.replicate (12 - y.length) 0 = x ++ (List.replicate (y.length - x.length) 0 ++ List.replicate (12 - y.length) 0) := by
    rw [← List.append_assoc, ← e]
  rw [e2, List.replicate_append_replicate, show y.length - x.length + (12 - y.length) = 12 - x.length by omega]
theorem lexC_pad {x y : List Int} (hx : ∀ z ∈ x, 0 ≤ z) (hy : ∀ z ∈ y, 0 ≤ z) (h1 : x.length ≤ 12) (h2 : y.length ≤ 12) (hs : sumI x = sumI y) : lexC (padZ x) (padZ y) = lexC x y := by
  by_cases h : lexC x y = 0
  · have : padZ x = padZ y := by
      rcases Nat.le_total x.length y.length with hl | hl
      · exact padZ_pre hx hy h2 hs h hl
      · exact (padZ_pre hy hx h1 hs.symm (by rw [lexC_anti, h]; rfl) hl).symm
    rw [this, lexC_self, h]
  · exact lexC_app_ne _ _ _ _ h
/-! ### Boats -/
def colOf (rows : List (List Int)) (b : Int) : List Int := rows.map fun r => atI r b
theorem colOf_len (rows : List (List Int)) (b : Int) : (colOf rows b).length = rows.length := by unfold colOf; rw [List.length_map]
def cntT (t : Tb) (rule : List Int) (b : Int) : List Int := cntP (colOf t.pts b) (goneL (colOf t.pts b) (colOf t.cds b) (leN t.pts.length rule))
def netT (t : Tb) (rule : List Int) (b : Int) : Int := sumI (cntT t rule b)
def ltI (a b : Int) : Bool := decide (a < b)
def srtT (t : Tb) (rule : List Int) (b : Int) : List Int := insSort ltI (cntT t rule b)
def sgnZ (x : Int) : Int := if x < 0 then -1 else if 0 < x then 1 else 0
theorem sgnZ_neg (x : Int) : (sgnZ x < 0) = (x < 0) := by
  unfold sgnZ
  split
  · simp; omega
  · split <;> simp <;> omega
theorem sgnZ_zero (x : Int) : (sgnZ x = 0) ↔ (x = 0) := by
  unfold sgnZ
  split
  · omega
  · split <;> omega
/-- The last race that differs. -/
def lastGoR (P Q : List Int) : Nat → Int × Int
  | 0 => (0, -1)
  | k + 1 => if atI P k = atI Q k then lastGoR P Q k else (atI P k - atI Q k, (k : Int))
def cmpT (t : Tb) (rule : List Int) (a b : Int) : Int × Int × Int :=
  if netT t rule a ≠ netT t rule b then (sgnZ (netT t rule a - netT t rule b), 1, 0)
  else if lexC (srtT t rule a) (srtT t rule b) ≠ 0 then (sgnZ (lexC (srtT t rule a) (srtT t rule b)), 2, 0)
  else if (lastGoR (colOf t.pts a) (colOf t.pts b) t.pts.length).1 ≠ 0 then (sgnZ (lastGoR (colOf t.pts a) (colOf t.pts b) t.pts.length).1, 3, (lastGoR (colOf t.pts a) (colOf t.pts b) t.pts.length).2)
  else (0, 0, 0)
def ltT (t : Tb) (rule : List Int) (a b : Int) : Bool := decide ((cmpT t rule a b).1 < 0)
def keyT (t : Tb) (rule : List Int) (a : Int) : List Int := netT t rule a :: (padZ (srtT t rule a) ++ (colOf t.pts a).reverse)
theorem last_lex (P Q : List Int) : ∀ k, k ≤ P.length → k ≤ Q.length → (lastGoR P Q k).1 = lexC (P.take k).reverse (Q.take k).reverse := by
  intro k
  induction k with
  | zero => intro _ _; rfl
  | succ k ih =>
    intro h1 h2
    have e1 : P.take (k + 1) = P.take k ++ [atI P k] := by
      rw [List.take_add_one, List.getElem?_eq_getElem (by omega)]
      unfold atI
      rw [Int.toNat_natCast, List.getD_eq_getElem?_getD, List.getElem?_eq_getElem (by omega)]
      rfl
    have e2 : Q.take (k + 1) = Q.take k ++ [atI Q k] := by
      rw [List.take_add_one, List.getElem?_eq_getElem (by omega)]
      unfold atI
      rw [Int.toNat_natCast, List.getD_eq_getElem?_getD, List.getElem?_eq_getElem (by omega)]
      rfl
    rw [lastGoR, e1, e2, List.reverse_append, List.reverse_append]
    show _ = lexC (atI P k :: (P.take k).reverse) (atI Q k :: (Q.take k).reverse)
    rw [lexC]
    by_cases h : atI P k = atI Q k
    · rw [if_pos h, if_pos h]
      exact ih (by omega) (by omega)
    · rw [if_neg h, if_neg h]
theorem cntP_len (P gone : List Int) : (cntP P gone).length ≤ P.length := by
  unfold cntP
  rw [List.length_map]
  have := List.length_filter_le (fun k => !decide (k ∈ gone)) (idx P.length)
  rw [idx_length] at this
  exact this
theorem atI_mem {l : List Int} {k : Int} : atI l k = 0 ∨ atI l k ∈ l := by
  unfold atI
  rw [List.getD_eq_getElem?_getD]
  cases h : l[k.toNat]? with
  | none => exact .inl rfl
  | some x => exact .inr (List.mem_of_getElem? h)
theorem cntP_mem {P gone : List Int} {x : Int} (h : x ∈ cntP P gone) : x = 0 ∨ x ∈ P := by
  unfold cntP at h
  obtain ⟨k, -, rfl⟩ := List.mem_map.1 h
  exact atI_mem
theorem colOf_bd {t : Tb} (ok : TabOk t) {b : Int} {x : Int} (h : x ∈ colOf t.pts b) : 0 ≤ x ∧ x ≤ 10000 := by
  unfold colOf at h
  obtain ⟨r, hr, rfl⟩ := List.mem_map.1 h
  obtain ⟨k, hk⟩ := List.getElem?_of_mem hr
  have hk2 := (List.getElem?_eq_some_iff.1 hk).1
  have hc : t.cds[k]? = some (t.cds[k]'(by rw [← ok.same]; exact hk2)) := List.getElem?_eq_getElem _
  have h1 := (ok.row k r _ hk hc).1.2
  rcases atI_mem (l := r) (k := b) with h2 | h2
  · rw [h2]; omega
  · exact h1 _ h2
theorem cntT_bd {t : Tb} (ok : TabOk t) {rule : List Int} {b : Int} {x : Int} (h : x ∈ cntT t rule b) : 0 ≤ x ∧ x ≤ 10000 := by
  rcases cntP_mem h with h | h
  · rw [h]; omega
  · exact colOf_bd ok h
theorem cntT_len {t : Tb} (ok : TabOk t) (rule : List Int) (b : Int) : (cntT t rule b).length ≤ 12 := by
  have := cntP_len (colOf t.pts b) (goneL (colOf t.pts b) (colOf t.cds b) (leN t.pts.length rule))
  rw [colOf_len] at this
  have := ok.many
  unfold cntT
  omega
theorem netT_bd {t : Tb} (ok : TabOk t) (rule : List Int) (b : Int) : 0 ≤ netT t rule b ∧ netT t rule b ≤ 120000 := by
  have h1 := sumI_bd (l := cntT t rule b) (m := 10000) (fun x hx => cntT_bd ok hx)
  have h2 := cntT_len ok rule b
  unfold netT
  omega
/-! ### Sorting with ties -/
theorem insOut_perm (lt : Int → Int → Bool) : ∀ (m : Nat) (p q : List Int), q.length = m → (insOut lt m p.length (p ++ q)).Perm (p ++ q) := by
  intro m
  induction m with
  | zero => intro p q _; exact List.Perm.refl _
  | succ m ih =>
    intro p q hm
    cases q with
    | nil => simp at hm
    | cons x q =>
      unfold insOut
      rw [insIn_app]
      have hperm := insRev_perm lt x p.reverse []
      rw [List.reverse_reverse, List.append_nil] at hperm
      have hlen : (insRev lt x p.reverse []).length = p.length + 1 := by rw [hperm.length_eq]; simp
      have h3 := ih (insRev lt x p.reverse []) q (by simpa using hm)
      rw [hlen] at h3
      refine h3.trans ((hperm.append_right q).trans ?_)
      exact (List.perm_middle (a := x) (l₁ := p) (l₂ := q)).symm
theorem insSort_perm (lt : Int → Int → Bool) (l : List Int) : (insSort lt l).Perm l := by
  unfold insSort
  cases l with
  | nil => exact List.Perm.refl _
  | cons x r => exact insOut_perm lt r.length [x] r rfl
theorem insRev_le (x : Int) : ∀ (r acc : List Int), (r.reverse ++ acc).Pairwise (fun a b => a ≤ b) → (∀ y ∈ acc, x ≤ y) → (insRev ltI x r acc).Pairwise (fun a b => a ≤ b) := by
  intro r
  induction r with
  | nil =>
    intro acc hs hx
    unfold insRev
    exact List.pairwise_cons.2 ⟨hx, by simpa using hs⟩
  | cons y r ih =>
    intro acc hs hx
    have e : (y :: r).reverse ++ acc = r.reverse ++ y :: acc := by simp
    rw [e] at hs
    unfold insRev
    by_cases h : x < y
    · rw [if_pos (by unfold ltI; exact decide_eq_true h)]
      refine ih (y :: acc) hs (fun z hz => ?_)
      rcases List.mem_cons.1 hz with rfl | hz
      · omega
      · exact hx z hz
    · rw [if_neg (by unfold ltI; simp [h])]
      rw [List.pairwise_append] at hs ⊢
      obtain ⟨h1, h2, h3⟩ := hs
      rw [List.pairwise_cons] at h2
      refine ⟨h1, List.pairwise_cons.2 ⟨fun z hz => ?_, List.pairwise_cons.2 ⟨hx, h2.2⟩⟩, fun a ha b hb => ?_⟩
      · rcases List.mem_cons.1 hz with rfl | hz
        · omega
        · exact h2.1 z hz
      · rcases List.mem_cons.1 hb with rfl | hb
        · exact h3 a ha b List.mem_cons_self
        · rcases List.mem_cons.1 hb with rfl | hb
          · have := h3 a ha y List.mem_cons_self; omega
          · exact h3 a ha b (List.mem_cons_of_mem _ hb)
theorem insOut_le : ∀ (m : Nat) (p q : List Int), q.length = m → p.Pairwise (fun a b => a ≤ b) → (insOut ltI m p.length (p ++ q)).Pairwise (fun a b => a ≤ b) := by
  intro m
  induction m with
  | zero =>
    intro p q hm hp
    obtain rfl := List.eq_nil_of_length_eq_zero hm
    simpa [insOut] using hp
  | succ m ih =>
    intro p q hm hp
    cases q with
    | nil => simp at hm
    | cons x q =>
      unfold insOut
      rw [insIn_app]
      have hperm := insRev_perm ltI x p.reverse []
      rw [List.reverse_reverse, List.append_nil] at hperm
      have hlen : (insRev ltI x p.reverse []).length = p.length + 1 := by rw [hperm.length_eq]; simp
      have h3 := ih (insRev ltI x p.reverse []) q (by simpa using hm) (insRev_le x p.reverse [] (by simpa using hp) (fun y hy => by cases hy))
      rw [hlen] at h3
      exact h3
theorem insSort_le (l : List Int) : (insSort ltI l).Pairwise (fun a b => a ≤ b) := by
  unfold insSort
  cases l with
  | nil => exact List.Pairwise.nil
  | cons x r => exact insOut_le r.length [x] r rfl (by simp)
/-- A sorted list that holds the same is the sorted list. -/
theorem sorted_eq {a l : List Int} (hp : a.Perm l) (hs : a.Pairwise (fun x y => x ≤ y)) : a = insSort ltI l :=
  (hp.trans (insSort_perm ltI l).symm).eq_of_pairwise (fun x y _ _ h h' => by omega) hs (insSort_le l)
theorem srtT_mem {t : Tb} {rule : List Int} {b x : Int} : x ∈ srtT t rule b ↔ x ∈ cntT t rule b := (insSort_perm _ _).mem_iff
theorem srtT_len (t : Tb) (rule : List Int) (b : Int) : (srtT t rule b).length = (cntT t rule b).length := insSort_length _ _
theorem srtT_sum (t : Tb) (rule : List Int) (b : Int) : sumI (srtT t rule b) = netT t rule b := sumI_perm (insSort_perm _ _)
/-! ### The comparison is one of keys -/
theorem cmp_key {t : Tb} (ok : TabOk t) (rule : List Int) (a b : Int) : (cmpT t rule a b).1 = sgnZ (lexC (keyT t rule a) (keyT t rule b)) := by
  have hl := last_lex (colOf t.pts a) (colOf t.pts b) t.pts.length (by rw [colOf_len]; exact Nat.le_refl _) (by rw [colOf_len]; exact Nat.le_refl _)
  rw [List.take_of_length_le (by rw [colOf_len]; exact Nat.le_refl _), List.take_of_length_le (by rw [colOf_len]; exact Nat.le_refl _)] at hl
  unfold cmpT keyT
  rw [hl, lexC]
  by_cases h1 : netT t rule a = netT t rule b
  · rw [if_neg (fun h => h h1), if_pos h1]
    have hp := lexC_pad (x := srtT t rule a) (y := srtT t rule b) (fun z hz => (cntT_bd ok (srtT_mem.1 hz)).1) (fun z hz => (cntT_bd ok (srtT_mem.1 hz)).1) (by rw [srtT_len]; exact cntT_len ok rule a) (by rw [srtT_len]; exact cntT_len ok rule b) (by rw [srtT_sum, srtT_sum, h1])
    by_cases h2 : lexC (srtT t rule a) (srtT t rule b) = 0
    · rw [if_neg (fun h => h h2)]
      rw [h2] at hp
      have he : padZ (srtT t rule a) = padZ (srtT t rule b) := by
        have h3 := lexC_zero _ _ hp (by rw [padZ_len (by rw [srtT_len]; exact cntT_len ok rule a), padZ_len (by rw [srtT_len]; exact cntT_len ok rule b)]; exact Nat.le_refl _)
        rw [List.drop_eq_nil_of_le (by rw [padZ_len (by rw [srtT_len]; exact cntT_len ok rule b), padZ_len (by rw [srtT_len]; exact cntT_len ok rule a)]; exact Nat.le_refl _), List.append_nil] at h3
        exact h3.symm
      rw [lexC_app_eq _ _ _ _ he]
      by_cases h3 : lexC (colOf t.pts a).reverse (colOf t.pts b).reverse = 0
      · rw [if_neg (fun h => h h3), h3]
        rfl
      · rw [if_pos h3]
    · rw [if_pos h2, lexC_app_ne _ _ _ _ (by rw [hp]; exact h2), hp]
  · rw [if_pos h1, if_neg h1]
theorem cmp_step (t : Tb) (rule : List Int) (a b : Int) : (cmpT t rule a b).1 = 0 ↔ (cmpT t rule a b).2.1 = 0 := by
  unfold cmpT
  split
  · rename_i h
    simp only [sgnZ_zero]
    omega
  · split
    · rename_i h
      simp only [sgnZ_zero]
      omega
    · split
      · rename_i h
        simp only [sgnZ_zero]
        omega
      · simp
theorem cmp_bd (t : Tb) (rule : List Int) (a b : Int) : -1 ≤ (cmpT t rule a b).1 ∧ (cmpT t rule a b).1 ≤ 1 := by
  have h : ∀ x, -1 ≤ sgnZ x ∧ sgnZ x ≤ 1 := by intro x; unfold sgnZ; split; omega; split <;> omega
  unfold cmpT
  split
  · exact h _
  · split
    · exact h _
    · split
      · exact h _
      · exact ⟨by omega, by omega⟩
theorem ltT_key {t : Tb} (ok : TabOk t) (rule : List Int) : ltT t rule = fun a b => decide (lexC (keyT t rule a) (keyT t rule b) < 0) := by
  funext a b
  unfold ltT
  rw [cmp_key ok]
  simp only [sgnZ_neg]
theorem ltT_weak {t : Tb} (ok : TabOk t) (rule : List Int) : Weak (ltT t rule) := by
  rw [ltT_key ok]
  refine weak_lex (keyT t rule) (13 + t.pts.length) (fun a => ?_)
  unfold keyT
  rw [List.length_cons, List.length_append, List.length_reverse, colOf_len, padZ_len (by rw [srtT_len]; exact cntT_len ok rule a)]
  omega
/-! ### Ranks and the standing -/
def rankL (lt : Int → Int → Bool) (n : Nat) (a : Int) : Nat := 1 + (idx n).countP (fun k => lt k a)
def standL (lt : Int → Int → Bool) (n : Nat) : List Int := (List.range' 1 n).flatMap fun r => (idx n).filter fun k => decide (rankL lt n k = r)
theorem countP_lt {l : List Int} {p q : Int → Bool} (h : ∀ x ∈ l, p x = true → q x = true) {a : Int} (ha : a ∈ l) (h1 : p a = false) (h2 : q a = true) : l.countP p < l.countP q := by
  induction l with
  | nil => cases ha
  | cons x r ih =>
    rw [List.countP_cons, List.countP_cons]
    have hle : r.countP p ≤ r.countP q := List.countP_mono_left (fun y hy => h y (List.mem_cons_of_mem _ hy))
    rcases List.mem_cons.1 ha with rfl | ha
    · rw [h1, h2]
      simp
      omega
    · have h3 := ih (fun y hy => h y (List.mem_cons_of_mem _ hy)) ha
      have h4 := h x List.mem_cons_self
      cases hp : p x with
      | true => rw [h4 hp]; simp; omega
      | false => cases q x <;> simp <;> omega
theorem rank_lt {lt : Int → Int → Bool} (hw : Weak lt) {n : Nat} {a b : Int} (ha : a ∈ idx n) (h : lt a b = true) : rankL lt n a < rankL lt n b := by
  unfold rankL
  have := countP_lt (l := idx n) (p := fun k => lt k a) (q := fun k => lt k b) (fun x _ hx => hw.tr _ _ _ hx h) ha (hw.irr a) h
  omega
theorem rank_eq {lt : Int → Int → Bool} (hw : Weak lt) {n : Nat} {a b : Int} (h1 : lt a b = false) (h2 : lt b a = false) : rankL lt n a = rankL lt n b := by
  unfold rankL
  congr 1
  refine List.countP_congr (fun x _ => ?_)
  constructor
  · intro h; exact hw.left h h1 h2
  · intro h; exact hw.left h h2 h1
theorem rank_bd {lt : Int → Int → Bool} (hw : Weak lt) {n : Nat} {a : Int} (ha : a ∈ idx n) : 1 ≤ rankL lt n a ∧ rankL lt n a ≤ n := by
  unfold rankL
  have h1 := countP_lt (l := idx n) (p := fun k => lt k a) (q := fun _ => true) (fun _ _ _ => rfl) ha (hw.irr a) rfl
  have h2 : (idx n).countP (fun _ => true) = n := by rw [List.countP_true, idx_length]
  omega
theorem stand_pair {lt : Int → Int → Bool} (hw : Weak lt) (n : Nat) : (standL lt n).Pairwise (fun a b => tieL lt a b = true) := by
  unfold standL
  rw [List.pairwise_flatMap]
  constructor
  · intro r hr
    refine List.Pairwise.imp_of_mem (fun {a b} ha hb h => ?_) ((idx_inc n).filter _)
    have ha2 := List.mem_filter.1 ha
    have hb2 := List.mem_filter.1 hb
    simp only [decide_eq_true_eq] at ha2 hb2
    unfold tieL
    cases h1 : lt a b with
    | true => rfl
    | false =>
      cases h2 : lt b a with
      | true => have := rank_lt hw hb2.1 h2; omega
      | false => simp; exact h
  · refine List.Pairwise.imp (fun {r s} hrs a ha b hb => ?_) List.pairwise_lt_range'
    have ha2 := List.mem_filter.1 ha
    have hb2 := List.mem_filter.1 hb
    simp only [decide_eq_true_eq] at ha2 hb2
    unfold tieL
    cases h1 : lt a b with
    | true => rfl
    | false =>
      exfalso
      cases h2 : lt b a with
      | true => have := rank_lt hw hb2.1 h2; omega
      | false => have := rank_eq hw (n := n) h1 h2; omega
theorem stand_mem {lt : Int → Int → Bool} (hw : Weak lt) (n : Nat) (a : Int) : a ∈ standL lt n ↔ a ∈ idx n := by
  unfold standL
  rw [List.mem_flatMap]
  constructor
  · rintro ⟨r, -, h⟩; exact (List.mem_filter.1 h).1
  · intro h
    have := rank_bd hw h
    exact ⟨rankL lt n a, by rw [List.mem_range'_1]; omega, List.mem_filter.2 ⟨h, by simp⟩⟩
/-- The stable sort is the order by ranks. -/
theorem stand_eq {lt : Int → Int → Bool} (hw : Weak lt) (n : Nat) : insSort lt (idx n) = standL lt n := by
  rw [sort_tie]
  obtain ⟨h1, h2⟩ := insSort_sorts (tie_strict hw (idx n)) (idx_nodup n)
  have h3 := stand_pair hw n
  have hn : (standL lt n).Nodup := h3.imp (fun {a b} h e => by
    subst e
    rw [(tie_strict hw [a]).irr a (List.mem_singleton.2 rfl)] at h
    cases h)
  have hp : (standL lt n).Perm (idx n) := (List.perm_ext_iff_of_nodup hn (idx_nodup n)).2 (stand_mem hw n)
  refine (h1.trans hp.symm).eq_of_pairwise (fun a b _ _ h h' => ?_) h2 h3
  rw [(tie_strict hw [a, b]).asy a (by simp) b (by simp) h] at h'
  cases h'
def rankT (t : Tb) (rule : List Int) (a : Int) : Int := (rankL (ltT t rule) t.boats.toNat a : Nat)
def standT (t : Tb) (rule : List Int) : List Int := insSort (ltT t rule) (idx t.boats.toNat)
theorem standT_eq {t : Tb} (ok : TabOk t) (rule : List Int) : standT t rule = standL (ltT t rule) t.boats.toNat := stand_eq (ltT_weak ok rule) _
theorem standT_len (t : Tb) (rule : List Int) : (standT t rule).length = t.boats.toNat := by unfold standT; rw [insSort_length, idx_length]
theorem standT_mem {t : Tb} {rule : List Int} {x : Int} : x ∈ standT t rule ↔ 0 ≤ x ∧ x < t.boats.toNat := (insSort_perm _ _).mem_iff.trans idx_mem
end Go.Proofs.YtalgdeieejpelaaGreat

/- A region that draws its order, reads cells, and writes them at its end: the reads are taken first, a condition S holds till the writes begin. No Go function in sight. -/
namespace Go.Proofs.YtalgdeieejpelaaGreat
open Go.RowKit
set_option linter.unusedVariables false

section
variable {P : Program} {ops : Array Oper} {Q : Exit → Act → World → Prop} {md : Region.Mode} {S : World → Prop} {late : Nat → Bool}

/-- Number j waits for number i, directly or through others. -/
def reachB (md : Region.Mode) (ops : Array Oper) : Nat → Nat → Nat → Bool
  | 0, _, _ => false
  | f + 1, j, i => Region.waitsFor md ops j i || (List.range j).any fun p => Region.waitsFor md ops j p && reachB md ops f p i
/-- What has come up came up behind what it waits for. -/
def Closed (md : Region.Mode) (ops : Array Oper) (listed : Array Bool) : Prop :=
  ∀ j oj, ops[j]? = some oj → listed.getD j false = true → ∀ e ∈ oj.after, Region.binds md e = true → listed.getD e.on false = true
def closedB (md : Region.Mode) (ops : Array Oper) (listed : Array Bool) : Bool :=
  (List.range ops.size).all fun j => !listed.getD j false || ((ops[j]?).map (·.after.all fun e => !Region.binds md e || listed.getD e.on false)).getD true
theorem closed_of {listed : Array Bool} (h : closedB md ops listed = true) : Closed md ops listed := by
  intro j oj hj hl e he hb
  unfold closedB at h
  rw [List.all_eq_true] at h
  have hjl : j < ops.size := (Array.getElem?_eq_some_iff.1 hj).1
  have h1 := h j (List.mem_range.2 hjl)
  rw [hl, hj] at h1
  simp only [Bool.not_true, Bool.false_or, Option.map_some, Option.getD_some] at h1
  have h2 := (Array.all_eq_true'.1 h1) e he
  rw [hb] at h2
  simpa using h2
theorem Closed.set {listed : Array Bool} {i : Nat} (h : Closed md ops listed) (hi : i ∈ Region.ready md ops listed) : Closed md ops (listed.setIfInBounds i true) := by
  intro j oj hj hl e he hb
  obtain ⟨hun, oi, hoi, hall⟩ := mem_ready.1 hi
  have up : ∀ k, listed.getD k false = true → (listed.setIfInBounds i true).getD k false = true := by
    intro k hk
    by_cases hik : i = k
    · subst hik
      have := getD_both hun
      rw [this] at hk; cases hk
    · rw [getD_set_ne false hik]; exact hk
  by_cases hij : i = j
  · subst hij
    obtain rfl : oi = oj := Option.some.inj (hoi.symm.trans hj)
    exact up _ (hall e he hb)
  · rw [getD_set_ne false hij] at hl
    exact up _ (h j oj hj hl e he hb)
theorem reach_unlisted {listed : Array Bool} (hc : Closed md ops listed) : ∀ (f j i : Nat), reachB md ops f j i = true → listed.getD i true = false → listed.getD j false = false ∧ j ∉ Region.ready md ops listed := by
  intro f
  induction f with
  | zero => intro j i h; cases h
  | succ f ih =>
    intro j i h hi
    unfold reachB at h
    have key : ∀ p, Region.waitsFor md ops j p = true → listed.getD p false = false → listed.getD j false = false ∧ j ∉ Region.ready md ops listed := by
      intro p hw hp
      obtain ⟨oj, hoj, e, he, hb, hon⟩ := Region.waitsFor_spec hw
      refine ⟨?_, fun hr => ?_⟩
      · cases hl : listed.getD j false with
        | false => rfl
        | true =>
          have := hc j oj hoj hl e he hb
          rw [hon, hp] at this; cases this
      · obtain ⟨_, oj', hoj', hall⟩ := mem_ready.1 hr
        obtain rfl : oj = oj' := Option.some.inj (hoj.symm.trans hoj')
        have := hall e he hb
        rw [hon, hp] at this; cases this
    rw [Bool.or_eq_true] at h
    rcases h with h | h
    · exact key i h (getD_both hi)
    · obtain ⟨p, _, hp⟩ := List.any_eq_true.1 h
      rw [Bool.and_eq_true] at hp
      exact key p hp.1 (ih p i hp.2 hi).1

/-- Whatever order is picked from here on; behind each operation that is not late, S holds. -/
def wpAnyT (P : Program) (md : Region.Mode) (ops : Array Oper) (Q : Exit → Act → World → Prop) (S : World → Prop) (late : Nat → Bool) : Nat → Array Bool → Act → World → Prop
  | 0, listed, a, w => Region.ready md ops listed = [] ∧ Q .normal a w
  | fuel + 1, listed, a, w =>
    (Region.ready md ops listed = [] → Q .normal a w) ∧
    ∀ i ∈ Region.ready md ops listed, wpOp P ops Q i (fun a' w' => (late i = true ∨ S w') ∧ wpAnyT P md ops Q S late fuel (listed.setIfInBounds i true) a' w') a w
theorem wpAny_of_T : ∀ (fuel : Nat) (listed : Array Bool) (a : Act) (w : World), wpAnyT P md ops Q S late fuel listed a w → wpAny P md ops Q fuel listed a w
  | 0, _, _, _, h => h
  | fuel + 1, _, _, _, h => ⟨h.1, fun i hi => wpOp_mono (fun a' w' h' => wpAny_of_T fuel _ a' w' h'.2) (h.2 i hi)⟩
theorem wpAnyT_first {i : Nat} {oi : Oper} {v : Value} (hi : ops[i]? = some oi) (hsel : ∀ (j : Nat) (o : Oper) cs b, ops[j]? = some o → o.op ≠ .select cs b)
    (hQ : ∀ c a w, Q (.panic c) (a.put oi.dst v) w → Q (.panic c) a w) (hlate : ∀ j oj, ops[j]? = some oj → late j = true → reachB md ops ops.size j i = true) :
    ∀ (fuel : Nat) (listed : Array Bool) (a : Act) (w : World), Closed md ops listed →
      (∀ j oj, ops[j]? = some oj → j ≠ i → listed.getD j true = false → (∀ e ∈ oj.after, Region.binds md e = true → e.on ≠ i) → oi.apart ops oj = true) →
      i ∈ Region.ready md ops listed → YieldsIf P ops S oi v a → S w →
      wpAnyT P md ops Q S late fuel (listed.setIfInBounds i true) (a.put oi.dst v) w → wpAnyT P md ops Q S late (fuel + 1) listed a w := by
  intro fuel
  induction fuel with
  | zero =>
    intro listed a w hc _ hr hy hS H
    refine ⟨fun h => (by rw [h] at hr; cases hr), fun j hj => ?_⟩
    by_cases hji : j = i
    · subst hji; exact hy.wpOp hi hS ⟨.inr hS, H⟩
    · have := ready_mono hj hji
      rw [H.1] at this
      cases this
  | succ fuel ih =>
    intro listed a w hc hfree hr hy hS H
    refine ⟨fun h => (by rw [h] at hr; cases hr), fun j hj => ?_⟩
    by_cases hji : j = i
    · subst hji; exact hy.wpOp hi hS ⟨.inr hS, H⟩
    · have h1 := H.2 j (ready_mono hj hji)
      have hun := (mem_ready.1 hr).1
      obtain ⟨hjun, oj, hoj, hall⟩ := mem_ready.1 hj
      have hnl : late j = false := by
        cases hl : late j with
        | false => rfl
        | true => exact absurd hj (reach_unlisted hc _ j i (hlate j oj hoj hl) hun).2
      have hnot : ∀ e ∈ oj.after, Region.binds md e = true → e.on ≠ i := fun e he hb heq => by
        have h1 := hall e he hb
        rw [heq, getD_both hun] at h1
        cases h1
      have h2 := wpOp_putIf hoj (hfree j oj hoj hji hjun hnot) (fun cs b => hsel i oi cs b hi) (fun cs b => hsel j oj cs b hoj) hQ hy h1
      have hfree' : ∀ k ok, ops[k]? = some ok → k ≠ i → (listed.setIfInBounds j true).getD k true = false →
          (∀ e ∈ ok.after, Region.binds md e = true → e.on ≠ i) → oi.apart ops ok = true := fun k ok hk hki hun hno => by
        refine hfree k ok hk hki ?_ hno
        by_cases hjk : j = k
        · subst hjk; exact hjun
        · rw [getD_set_ne true hjk] at hun; exact hun
      refine wpOp_mono (fun a' w' h3 => ?_) h2
      have hSw : S w' := by
        rcases h3.2.1 with h | h
        · rw [hnl] at h; cases h
        · exact h
      refine ⟨.inr hSw, ih (listed.setIfInBounds j true) a' w' (hc.set hj) hfree' (ready_mono hr (Ne.symm hji)) h3.1 hSw ?_⟩
      rw [Array.setIfInBounds_comm _ _ hji]
      exact h3.2.2
def lateB (md : Region.Mode) (ops : Array Oper) (late : Nat → Bool) (i : Nat) : Bool := (List.range ops.size).all fun j => !late j || reachB md ops ops.size j i
theorem lateB_spec {i : Nat} (h : lateB md ops late i = true) : ∀ j oj, ops[j]? = some oj → late j = true → reachB md ops ops.size j i = true := by
  intro j oj hj hl
  unfold lateB at h
  rw [List.all_eq_true] at h
  have := h j (List.mem_range.2 (Array.getElem?_eq_some_iff.1 hj).1)
  rw [hl] at this
  simpa using this
/-- Number i reads or reckons: it is taken first. -/
theorem wpAnyT_take (i : Nat) {oi : Oper} (v : Value) {fuel : Nat} {listed : Array Bool} {a : Act} {w : World} (hi : ops[i]? = some oi)
    (hB : (Region.noSelect ops && Region.free md ops listed i && (Region.ready md ops listed).contains i && lateB md ops late i && closedB md ops listed) = true)
    (hQ : ∀ c a w, Q (.panic c) (a.put oi.dst v) w → Q (.panic c) a w) (hg : oi.guard = none) (hy : ∀ w, S w → (execOp a.eval oi).run P w = .ok (.value v) w) (hS : S w)
    (h : wpAnyT P md ops Q S late fuel (listed.setIfInBounds i true) (a.put oi.dst v) w) : wpAnyT P md ops Q S late (fuel + 1) listed a w := by
  simp only [Bool.and_eq_true] at hB
  obtain ⟨⟨⟨⟨hs, hf⟩, hr⟩, hl⟩, hc⟩ := hB
  exact wpAnyT_first hi (Region.noSelect_spec hs) hQ (lateB_spec hl) fuel listed a w (closed_of hc) (Region.free_spec hi hf) (by simpa using hr) (.inl ⟨by simp [Region.wanted, hg], hy⟩) hS h
/-- Number i alone may come up. -/
theorem wpAnyT_one (i : Nat) {oi : Oper} {fuel : Nat} {listed : Array Bool} {a : Act} {w : World} (hi : ops[i]? = some oi) (hr : Region.ready md ops listed = [i])
    (h : ∀ K' : Act → World → Prop, (∀ a w, (late i = true ∨ S w) → wpAnyT P md ops Q S late fuel (listed.setIfInBounds i true) a w → K' a w) → if Region.wanted oi (yielded ops a.tmps) = true then Oper.wp P oi a w K' Q else K' (a.put oi.dst undef) w) :
    wpAnyT P md ops Q S late (fuel + 1) listed a w := by
  refine ⟨fun h0 => (by rw [hr] at h0; cases h0), fun j hj => ?_⟩
  rw [hr] at hj
  obtain rfl : j = i := by simpa using hj
  exact wpOp_step hi (fun K' hK => h K' (fun a w hs hW => hK a w ⟨hs, hW⟩))
/-- Two numbers may come up. -/
theorem wpAnyT_two (i j : Nat) {oi oj : Oper} {fuel : Nat} {listed : Array Bool} {a : Act} {w : World} (hi : ops[i]? = some oi) (hj : ops[j]? = some oj) (hr : Region.ready md ops listed = [i, j])
    (h1 : ∀ K' : Act → World → Prop, (∀ a w, (late i = true ∨ S w) → wpAnyT P md ops Q S late fuel (listed.setIfInBounds i true) a w → K' a w) → if Region.wanted oi (yielded ops a.tmps) = true then Oper.wp P oi a w K' Q else K' (a.put oi.dst undef) w)
    (h2 : ∀ K' : Act → World → Prop, (∀ a w, (late j = true ∨ S w) → wpAnyT P md ops Q S late fuel (listed.setIfInBounds j true) a w → K' a w) → if Region.wanted oj (yielded ops a.tmps) = true then Oper.wp P oj a w K' Q else K' (a.put oj.dst undef) w) :
    wpAnyT P md ops Q S late (fuel + 1) listed a w := by
  refine ⟨fun h0 => (by rw [hr] at h0; cases h0), fun k hk => ?_⟩
  rw [hr] at hk
  rcases List.mem_cons.1 hk with rfl | hk
  · exact wpOp_step hi (fun K' hK => h1 K' (fun a w hs hW => hK a w ⟨hs, hW⟩))
  · obtain rfl : k = j := by simpa using hk
    exact wpOp_step hj (fun K' hK => h2 K' (fun a w hs hW => hK a w ⟨hs, hW⟩))
theorem wpAnyT_done {listed : Array Bool} {a : Act} {w : World} (hr : Region.ready md ops listed = []) (h : Q .normal a w) : ∀ fuel, wpAnyT P md ops Q S late fuel listed a w
  | 0 => ⟨hr, h⟩
  | _ + 1 => ⟨fun _ => h, by rw [hr]; simp⟩
theorem wp_region_T (S : World → Prop) (late : Nat → Bool) {id : Nat} {a : Act} {w : World} (hm : P.follows .mixedOrders = true)
    (h : wpAnyT P .any ops Q S late ops.size (Array.replicate ops.size false) a w.drew) : (Code.region id ops true).wp P Q a w :=
  wp_region_any hm (wpAny_of_T _ _ _ _ h)
theorem wp_region_T2 (S : World → Prop) (late : Nat → Bool) {n : Nat} {id : Nat} {a : Act} {w : World} (hm : P.follows .mixedOrders = true) (hn : ops.size = n)
    (h : ∀ ops', Hid (ops' = ops) → wpAnyT P .any ops' Q S late n (Array.replicate n false) a w.drew) : (Code.region id ops true).wp P Q a w := by
  subst hn
  exact wp_region_T S late hm (h ops (Lib.hid rfl))
end
end Go.Proofs.YtalgdeieejpelaaGreat

/- Walks: a drawn region inside a round of a range over a function, by the region theorem Rt. No Go function in sight. -/
namespace Go.Proofs.YtalgdeieejpelaaGreat
open Go.RowKit
set_option linter.unusedVariables false

section
variable {P : Program} {ops : Array Oper} {Q : Exit → Act → World → Prop} {md : Region.Mode}

theorem rowsIn_round {l n : Nat} {row : String} {args : Array Value} {w : World} {R : Value → World → Prop} (h : Rows P row args w R) : Go.RowsIn (Fence.wide.inRound l) n P row args w R :=
  fun c cs _ => let ⟨v, w', r, s⟩ := h c cs; ⟨v, w', r, stepsIn_wide.2 s⟩
theorem callsIn_round {l n : Nat} {f : FuncId} {args : Array Value} {w : World} {R : Ending → World → Prop} (h : Calls P f args w R) : CallsIn (Fence.wide.inRound l) n P f args w R :=
  (callsIn_wide (n := n)).2 h
theorem wideRound_depth (l n : Nat) : (Fence.wide.inRound l).depth.isSome = true → 1 ≤ n := fun h => by simp [Fence.wide] at h
theorem Oper.wp_round {l n : Nat} {o : Oper} {a : Act} {w : World} {K : Act → World → Prop} (hnd : ∀ c, o.op ≠ .defer c) (h : o.wp P a w K Q) : o.wpIn (Fence.wide.inRound l) n P a w K Q := by
  unfold Go.Oper.wp at h
  unfold Go.Oper.wpIn
  refine ⟨fun _ _ => trivial, ?_⟩
  rw [Oper.semAt_eq _ _ _ hnd]
  generalize (execOp a.eval o).run P w = r at *
  cases r with
  | ok x w' =>
    cases x <;> simp only [Oper.upon, Oper.uponIn] at h ⊢ <;>
      first
        | exact h
        | exact ⟨wideRound_depth l n, callsIn_round h⟩
        | exact ⟨wideRound_depth l n, rowsIn_round h⟩
        | exact h.elim
  | halt x w' => cases x <;> simp only [Oper.upon, Oper.uponIn] at h ⊢ <;> exact h
theorem wpOp_round {l n i : Nat} {a : Act} {w : World} {K : Act → World → Prop} (hQ : ¬ LetsOut Q) (hnd : ∀ o, ops[i]? = some o → ∀ c, o.op ≠ .defer c) (h : wpOp P ops Q i K a w) :
    wpOpIn (Fence.wide.inRound l) n P ops Q i K a w := by
  unfold wpOp at h
  unfold wpOpIn
  cases ho : ops[i]? with
  | none => simpa [ho] using h
  | some o =>
    simp only [ho] at h ⊢
    by_cases hw : Region.wanted o (yielded ops a.tmps) = true
    · rw [if_pos hw] at h
      rw [if_pos hw]
      rcases h with h | h
      · exact Oper.wp_round (hnd o ho) h
      · exact absurd h.2 hQ
    · rw [if_neg hw] at h
      rw [if_neg hw]
      exact ⟨fun _ _ => trivial, h⟩
theorem wpAny_round {l n : Nat} (hQ : ¬ LetsOut Q) (hnd : ∀ (i : Nat) o, ops[i]? = some o → ∀ c, o.op ≠ .defer c) : ∀ (fuel : Nat) (listed : Array Bool) (a : Act) (w : World),
    wpAny P md ops Q fuel listed a w → wpAnyIn (Fence.wide.inRound l) n P md ops Q fuel listed a w
  | 0, _, _, _, h => h
  | fuel + 1, listed, a, w, h => ⟨h.1, fun i hi => wpOpIn_mono (fun a' w' h' => wpAny_round hQ hnd fuel _ a' w' h') (wpOp_round hQ (hnd i) (h.2 i hi))⟩
/-- No operation is a defer. -/
def ndB (ops : Array Oper) : Bool := ops.all fun o => match o.op with | .defer _ => false | _ => true
theorem ndB_spec (h : ndB ops = true) : ∀ (i : Nat) o, ops[i]? = some o → ∀ c, o.op ≠ .defer c := by
  intro i o ho c hc
  unfold ndB at h
  have h1 := (Array.all_eq_true'.1 h) o (Array.mem_of_getElem? ho)
  rw [hc] at h1
  cases h1
/-- The region goes on in its normal way alone. -/
def NormQ (Q : Exit → Act → World → Prop) : Exit → Act → World → Prop := fun e a w => match e with | .normal => Q .normal a w | _ => False
theorem wp_norm {c : Code} {a : Act} {w : World} (h : c.wp P (NormQ Q) a w) : c.wp P Q a w :=
  Code.wp_mono (fun e a w hq => by cases e <;> first | exact hq | exact hq.elim) h
theorem normQ_not : ¬ LetsOut (NormQ Q) := fun ⟨_, _, h⟩ => h
theorem wpIn_round_T2 (S : World → Prop) (late : Nat → Bool) {l m n : Nat} {id : Nat} {a : Act} {w : World} (hm : P.follows .mixedOrders = true) (hn : ops.size = n) (hnd : ndB ops = true)
    (h : ∀ ops', Hid (ops' = ops) → wpAnyT P .any ops' (NormQ Q) S late n (Array.replicate n false) a w.drew) : (Code.region id ops true).wpIn (Fence.wide.inRound l) m P Q a w := by
  subst hn
  exact Go.wpIn_mono (wpIn_region_any hm (wpAny_round normQ_not (ndB_spec hnd) _ _ _ _ (wpAny_of_T _ _ _ _ (h ops (Lib.hid rfl)))))
    (fun e a w hq => by cases e <;> first | exact hq | exact hq.elim)
/-- What holds with a condition holds without one: an operation that reads no memory may be taken ahead of it. -/
theorem wpAnyT_weaken {S : World → Prop} {late : Nat → Bool} : ∀ (fuel : Nat) (listed : Array Bool) (a : Act) (w : World), wpAnyT P md ops Q S late fuel listed a w → wpAnyT P md ops Q (fun _ => True) (fun _ => false) fuel listed a w
  | 0, _, _, _, h => h
  | fuel + 1, _, _, _, h => ⟨h.1, fun i hi => wpOp_mono (fun a' w' h' => ⟨.inr trivial, wpAnyT_weaken fuel _ a' w' h'.2⟩) (h.2 i hi)⟩
end
end Go.Proofs.YtalgdeieejpelaaGreat

/- Plain: finishes, races, places, points of fleets. -/
namespace Go.Proofs.YtalgdeieejpelaaGreat
open Go.RowKit
set_option linter.unusedVariables false

/-- Code and time of a finish fit. -/
def finB (f : FinishT) : Bool := if f.2.1 = 0 then withinB f.2.2 1 1000000000 else withinB f.2.1 1 9 && (f.2.2 == 0)
def isFinB (f : FinishT) : Bool := withinB f.1 0 15 && finB f
def finsGo : Nat → List FinishT → Bool
  | _, [] => true
  | i, f :: r => (f.1 == (i : Int)) && finB f && finsGo (i + 1) r
def raceB (b : Int) (fs : List FinishT) : Bool := withinB b 1 16 && ((fs.length : Int) == b) && finsGo 0 fs
theorem finsGo_at : ∀ {fs : List FinishT} {i : Nat}, finsGo i fs = true → ∀ (k : Nat) (f : FinishT), fs[k]? = some f → f.1 = ((i + k : Nat) : Int) ∧ finB f = true := by
  intro fs
  induction fs with
  | nil => intro i h k f hf; simp at hf
  | cons g r ih =>
    intro i h k f hf
    simp only [finsGo, Bool.and_eq_true, beq_iff_eq] at h
    cases k with
    | zero => simp at hf; subst hf; exact ⟨by simpa using h.1.1, h.1.2⟩
    | succ k =>
      have := ih h.2 k f (by simpa using hf)
      exact ⟨by rw [this.1]; congr 1; omega, this.2⟩
theorem finB_ok {f : FinishT} (h : finB f = true) : 0 ≤ f.2.1 ∧ f.2.1 ≤ 9 ∧ 0 ≤ f.2.2 ∧ f.2.2 ≤ 1000000000 := by
  unfold finB at h
  split at h
  · have := withinB_iff.1 h; omega
  · simp only [Bool.and_eq_true, beq_iff_eq] at h
    have := withinB_iff.1 h.1; omega
/-- What a valid race is. -/
structure RaceOk (b : Int) (fs : List FinishT) : Prop where
  b1 : 1 ≤ b
  b2 : b ≤ 16
  len : (fs.length : Int) = b
  fin : ∀ (k : Nat) (f : FinishT), fs[k]? = some f → f.1 = (k : Int) ∧ finB f = true
theorem raceB_ok {b : Int} {fs : List FinishT} (h : raceB b fs = true) : RaceOk b fs := by
  unfold raceB at h
  simp only [Bool.and_eq_true, beq_iff_eq] at h
  have h1 := withinB_iff.1 h.1.1
  exact ⟨h1.1, h1.2, h.1.2, fun k f hf => by have := finsGo_at h.2 k f hf; simpa using this⟩

/-! ### Places -/
def ltN (t : Int) (fs : List FinishT) : Nat := (fs.filter fun g => g.2.1 == 0 && decide (g.2.2 < t)).length
def eqN (t : Int) (fs : List FinishT) : Nat := (fs.filter fun g => g.2.1 == 0 && (g.2.2 == t)).length
/-- Place and how many share it; 0 and 0 for a boat that has not finished. -/
def placeF (fs : List FinishT) (f : FinishT) : Int × Int := if f.2.1 = 0 then (1 + ltN f.2.2 fs, eqN f.2.2 fs) else (0, 0)
/-- The finishes of a fleet. -/
def ofFleet (fl : Int) : List FinishT → List Int → List FinishT
  | f :: r, x :: l => if x = fl then f :: ofFleet fl r l else ofFleet fl r l
  | _, _ => []
def pointF (largest : Int) (fs : List FinishT) (f : FinishT) : Int :=
  if f.2.1 = 0 then 5 * (2 * (1 + (ltN f.2.2 fs : Int)) + eqN f.2.2 fs - 1) else if f.2.1 = 9 then 0 else 10 * (largest + 1)
def pointsGo (largest : Int) (all : List FinishT) (lst : List Int) : List FinishT → List Int → List Int
  | f :: r, x :: l => pointF largest (ofFleet x all lst) f :: pointsGo largest all lst r l
  | _, _ => []
def largestF (xs : List Int) : Int := xs.foldl max 0
def fleetPointsF (fs : List FinishT) (list : List Int) (k : Int) : List Int × Int :=
  if fleetsCodeF list k = 0 then (if raceB (list.length : Int) fs = true then (pointsGo (largestF (countF list (List.replicate k.toNat 0))) fs list fs list, 0) else ([], 5)) else ([], fleetsCodeF list k)
theorem ofFleet_len (fl : Int) : ∀ (fs : List FinishT) (l : List Int), (ofFleet fl fs l).length ≤ fs.length := by
  intro fs
  induction fs with
  | nil => intro l; simp [ofFleet]
  | cons f r ih =>
    intro l
    cases l with
    | nil => simp [ofFleet]
    | cons x l =>
      have := ih l
      unfold ofFleet
      split
      · simp; omega
      · simp; omega
theorem ltN_le (t : Int) (fs : List FinishT) : ltN t fs ≤ fs.length := List.length_filter_le _ _
theorem eqN_le (t : Int) (fs : List FinishT) : eqN t fs ≤ fs.length := List.length_filter_le _ _
end Go.Proofs.YtalgdeieejpelaaGreat

/- Walks: the laws' helpers on races: size, copy, compare, mark. -/
namespace Go.Proofs.YtalgdeieejpelaaGreat
open Go.RowKit
set_option linter.unusedVariables false
set_option maxRecDepth 100000

theorem Box.l1 {w : World} {b : Nat} {x : Value} {t : TypeId} (h : Box w b #[x] t) : w.cell? ⟨b, 0, none⟩ = some x ∧ w.frozen? ⟨b, 0, none⟩ = false ∧ b < w.heap.size := ⟨h.cell rfl, h.fz, h.lt⟩
/-- The copy of a race. -/
def RetRace (w : World) (fs : List FinishT) (e : Ending) (w' : World) : Prop :=
  ∃ A n c, e = .returned (.agg #[.slice A n c]) ∧ w'.ownsRow w.heap.size 128 3 (.slice A n c) n (fins fs) ∧ n ≤ 1048576 ∧ Below w.heap.size w w'
end Go.Proofs.YtalgdeieejpelaaGreat

/- Walks: what the points of fleets need of the fleets (chapter 30). -/
namespace Go.Proofs.YtalgdeieejpelaaGreat
open Go.RowKit
set_option linter.unusedVariables false
set_option maxRecDepth 100000

theorem fleetsB_len {xs : List Int} {k : Int} (h : fleetsB xs k = true) : 1 ≤ xs.length ∧ xs.length ≤ 16 := by
  unfold fleetsB at h
  simp only [Bool.and_eq_true, withinB_iff] at h
  omega
theorem fleetsB_mem {xs : List Int} {k : Int} (h : fleetsB xs k = true) {i : Nat} {x : Int} (hx : xs[i]? = some x) : ∃ j : Nat, x = j ∧ (j : Int) < k := by
  unfold fleetsB at h
  simp only [Bool.and_eq_true, List.all_eq_true] at h
  have := withinB_iff.1 (h.2 x (List.mem_of_getElem? hx))
  exact ⟨x.toNat, by omega, by omega⟩
theorem fleetsCode_ok {xs : List Int} {k : Int} (h : fleetsCodeF xs k = 0) : 1 ≤ k ∧ k ≤ 4 ∧ fleetsB xs k = true := by
  unfold fleetsCodeF at h
  split at h
  · rename_i h1
    split at h
    · rename_i h2
      exact ⟨(withinB_iff.1 h1).1, (withinB_iff.1 h1).2, h2⟩
    · cases h
  · cases h

end Go.Proofs.YtalgdeieejpelaaGreat

/- Plain: entries, registers, histories. -/
namespace Go.Proofs.YtalgdeieejpelaaGreat
open Go.RowKit
set_option linter.unusedVariables false

def isRedB (kind points : Int) : Bool := if kind = 3 then withinB points 0 10000 else withinB kind 1 2 && (points == 0)
namespace E
abbrev race (x : EntryT) : Int := x.1
abbrev boat (x : EntryT) : Int := x.2.1
abbrev rev (x : EntryT) : Int := x.2.2.1
abbrev code (x : EntryT) : Int := x.2.2.2.1
abbrev time (x : EntryT) : Int := x.2.2.2.2.1
abbrev kind (x : EntryT) : Int := x.2.2.2.2.2.1
abbrev points (x : EntryT) : Int := x.2.2.2.2.2.2
end E
/-- An entry is valid but for its revision. -/
def entB (b : Int) (x : EntryT) : Bool := withinB (E.race x) 0 11 && withinB (E.boat x) 0 (b - 1) && finB (E.boat x, E.code x, E.time x) && (if E.kind x = 0 then (E.points x == 0) else (E.code x == 9) && isRedB (E.kind x) (E.points x))
def revB (n : Int) : Bool := withinB n 1 1000
def sameB (x y : EntryT) : Bool := E.race x == E.race y && E.boat x == E.boat y && E.rev x == E.rev y
def hasB (xs : List EntryT) (x : EntryT) : Bool := xs.any fun y => sameB y x
/-- All valid, none with the key of an earlier one. -/
def entsGo (b : Int) : List EntryT → List EntryT → Bool
  | _, [] => true
  | seen, x :: r => entB b x && revB (E.rev x) && !hasB seen x && entsGo b (seen ++ [x]) r
def regB (b s : Int) (xs : List EntryT) : Bool := withinB b 1 16 && withinB s 0 1 && decide (xs.length ≤ 400) && entsGo b [] xs
/-- What a valid register is. -/
structure RegOk (b s : Int) (xs : List EntryT) : Prop where
  b1 : 1 ≤ b
  b2 : b ≤ 16
  s0 : 0 ≤ s
  s1 : s ≤ 1
  len : xs.length ≤ 400
  ent : ∀ x ∈ xs, entB b x = true ∧ 1 ≤ E.rev x ∧ E.rev x ≤ 1000
  key : xs.Pairwise fun x y => sameB x y = false
theorem sameB_iff {x y : EntryT} : sameB x y = true ↔ E.race x = E.race y ∧ E.boat x = E.boat y ∧ E.rev x = E.rev y := by
  unfold sameB
  simp [and_assoc]
theorem entsGo_iff (b : Int) : ∀ (xs seen : List EntryT), entsGo b seen xs = true ↔ (∀ x ∈ xs, entB b x = true ∧ revB (E.rev x) = true) ∧ (∀ x ∈ xs, ∀ y ∈ seen, sameB y x = false) ∧ xs.Pairwise fun x y => sameB x y = false := by
  intro xs
  induction xs with
  | nil => intro seen; simp [entsGo]
  | cons x r ih =>
    intro seen
    rw [entsGo, Bool.and_eq_true, ih, List.pairwise_cons]
    have hh : (!hasB seen x) = true ↔ ∀ y ∈ seen, sameB y x = false := by
      unfold hasB
      simp [List.any_eq_false]
    simp only [Bool.and_eq_true, hh, List.mem_append, List.mem_cons, List.not_mem_nil, or_false]
    constructor
    · rintro ⟨⟨⟨h1, h2⟩, h3⟩, h4, h5, h6⟩
      refine ⟨fun y hy => ?_, fun y hy z hz => ?_, fun y hy => h5 y hy x (.inr rfl), h6⟩
      · rcases hy with rfl | hy
        · exact ⟨h1, h2⟩
        · exact h4 y hy
      · rcases hy with rfl | hy
        · exact h3 z hz
        · exact h5 y hy z (.inl hz)
    · rintro ⟨h1, h2, h3, h4⟩
      refine ⟨⟨h1 x (.inl rfl), h2 x (.inl rfl)⟩, fun y hy => h1 y (.inr hy), fun y hy z hz => ?_, h4⟩
      rcases hz with hz | rfl
      · exact h2 y (.inr hy) z hz
      · exact h3 y hy
theorem regB_ok {b s : Int} {xs : List EntryT} (h : regB b s xs = true) : RegOk b s xs := by
  unfold regB at h
  simp only [Bool.and_eq_true, decide_eq_true_eq] at h
  obtain ⟨⟨⟨h1, h2⟩, h3⟩, h4⟩ := h
  have hb := withinB_iff.1 h1
  have hs := withinB_iff.1 h2
  obtain ⟨a, _, c⟩ := (entsGo_iff b xs []).1 h4
  exact ⟨hb.1, hb.2, hs.1, hs.2, h3, fun x hx => ⟨(a x hx).1, withinB_iff.1 (a x hx).2⟩, c⟩
theorem RegOk.regB {b s : Int} {xs : List EntryT} (h : RegOk b s xs) : regB b s xs = true := by
  unfold Go.Proofs.YtalgdeieejpelaaGreat.regB
  rw [withinB_iff.2 ⟨h.b1, h.b2⟩, withinB_iff.2 ⟨h.s0, h.s1⟩, decide_eq_true h.len, (entsGo_iff b xs []).2 ⟨fun x hx => ⟨(h.ent x hx).1, withinB_iff.2 (h.ent x hx).2⟩, fun x hx y hy => (by cases hy), h.key⟩]
  rfl

/-! ### Histories -/
/-- x is put behind the last entry with a revision that is not greater. -/
def putE (x : EntryT) : List EntryT → List EntryT
  | [] => [x]
  | y :: r => if (y :: r).all (fun z => decide (E.rev x < E.rev z)) = true then x :: y :: r else y :: putE x r
def ofKey (race boat : Int) (xs : List EntryT) : List EntryT := xs.filter fun x => E.race x == race && E.boat x == boat
/-- The sorted list with the same entries. -/
def histF (xs : List EntryT) (race boat : Int) : List EntryT := (ofKey race boat xs).mergeSort fun x y => decide (E.rev x ≤ E.rev y)
/-- Two sorted lists with the same elements are one, if no two elements have one revision. -/
theorem sorted_uniq {xs ys : List EntryT} (hp : xs.Perm ys) (h1 : xs.Pairwise fun x y => E.rev x < E.rev y) (h2 : ys.Pairwise fun x y => E.rev x < E.rev y) : xs = ys :=
  hp.eq_of_pairwise (fun a b _ _ h h' => by omega) h1 h2
end Go.Proofs.YtalgdeieejpelaaGreat

/- Walks: entries compared, the program: their keys, their order. -/
namespace Go.Proofs.YtalgdeieejpelaaGreat
open Go.RowKit Go.Sort
set_option linter.unusedVariables false
set_option maxRecDepth 100000

def sgn (n : Int) : Int := if n < 0 then -1 else if n = 0 then 0 else 1
theorem sign_any (n : Int) (w : World) : Calls Tryz.prog 93 #[.int .i64 n] w fun e w' => e = .returned (.int .i64 (sgn n)) ∧ w = w' := by
  unfold sgn
  rcases (by omega : n < 0 ∨ n = 0 ∨ 0 < n) with h | h | h
  · rw [if_pos h]
    go_enter Tryz.func93, Tryz.ntmps93
    go_wp2_with fail
    go_ret
    refine ⟨ret_int ?_, rfl⟩
    first | omega | rfl | (simp <;> omega)
  · subst h
    go_enter Tryz.func93, Tryz.ntmps93
    go_wp2_with fail
    go_ret
    exact ⟨rfl, rfl⟩
  · rw [if_neg (by omega), if_neg (by omega)]
    go_enter Tryz.func93, Tryz.ntmps93
    go_wp2_with fail
    go_ret
    refine ⟨ret_int ?_, rfl⟩
    first | omega | rfl | (simp <;> omega)

/-- Race, boat and revision of a valid entry. -/
def okE (x : EntryT) : Prop := 0 ≤ E.race x ∧ E.race x ≤ 11 ∧ 0 ≤ E.boat x ∧ E.boat x ≤ 15 ∧ 1 ≤ E.rev x ∧ E.rev x ≤ 1000
def keyE (x : EntryT) : Int := 1000000 * E.race x + 10000 * E.boat x + E.rev x
theorem key_same {x y : EntryT} (hx : okE x) (hy : okE y) : keyE x = keyE y ↔ sameB x y = true := by
  obtain ⟨a1, a2, a3, a4, a5, a6⟩ := hx
  obtain ⟨b1, b2, b3, b4, b5, b6⟩ := hy
  unfold keyE
  rw [sameB_iff]
  constructor
  · intro h; omega
  · rintro ⟨h1, h2, h3⟩; omega
theorem entB_okE {b : Int} {x : EntryT} (hb : b ≤ 16) (h : entB b x = true) (h1 : 1 ≤ E.rev x) (h2 : E.rev x ≤ 1000) : okE x := by
  unfold entB at h
  simp only [Bool.and_eq_true] at h
  have r := withinB_iff.1 h.1.1.1
  have q := withinB_iff.1 h.1.1.2
  exact ⟨r.1, r.2, q.1, by omega, h1, h2⟩
set_option maxHeartbeats 1000000 in
theorem compareEntries_grow (x0 x1 x2 x3 x4 x5 x6 y0 y1 y2 y3 y4 y5 y6 : Int) (hx : okE (x0, x1, x2, x3, x4, x5, x6)) (hy : okE (y0, y1, y2, y3, y4, y5, y6)) (W : World) :
    Calls Tryz.prog 75 #[.agg #[.int .i64 x0, .int .i64 x1, .int .i64 x2, .int .i64 x3, .int .i64 x4, .int .i64 x5, .int .i64 x6], .agg #[.int .i64 y0, .int .i64 y1, .int .i64 y2, .int .i64 y3, .int .i64 y4, .int .i64 y5, .int .i64 y6]] W
      fun e w' => e = .returned (.int .i64 (sgn (keyE (x0, x1, x2, x3, x4, x5, x6) - keyE (y0, y1, y2, y3, y4, y5, y6)))) ∧ ∃ q os', w' = grow (W.drewN q) os' := by
  obtain ⟨a1, a2, a3, a4, a5, a6⟩ := hx
  obtain ⟨b1, b2, b3, b4, b5, b6⟩ := hy
  simp only [E.race, E.boat, E.rev] at a1 a2 a3 a4 a5 a6 b1 b2 b3 b4 b5 b6
  have HK := Lib.hid (show keyE (x0, x1, x2, x3, x4, x5, x6) - keyE (y0, y1, y2, y3, y4, y5, y6) = 1000000 * (x0 - y0) + 10000 * (x1 - y1) + x2 - y2 from by unfold keyE; simp only [E.race, E.boat, E.rev]; omega)
  rw [HK.out]
  generalize hr : sgn (1000000 * (x0 - y0) + 10000 * (x1 - y1) + x2 - y2) = r
  have HS := Lib.hid (fun w => sign_any (1000000 * (x0 - y0) + 10000 * (x1 - y1) + x2 - y2) w)
  rw [hr] at HS
  clear hr HK
  go_enter Tryz.func75, Tryz.ntmps75
  go_wp2_with (go_at_call 93; refine (HS.out _).mono ?_; rintro e w' ⟨rfl, rfl⟩)
  go_ret
  exact ⟨rfl, 0, _, by rw [alloc_eq_grow, alloc_eq_grow, grow_grow]; rfl⟩
theorem sameKey_any (x0 x1 x2 x3 x4 x5 x6 y0 y1 y2 y3 y4 y5 y6 : Int) (w : World) :
    Calls Tryz.prog 59 #[.agg #[.int .i64 x0, .int .i64 x1, .int .i64 x2, .int .i64 x3, .int .i64 x4, .int .i64 x5, .int .i64 x6], .agg #[.int .i64 y0, .int .i64 y1, .int .i64 y2, .int .i64 y3, .int .i64 y4, .int .i64 y5, .int .i64 y6]] w
      fun e w' => e = .returned (.bool (sameB (x0, x1, x2, x3, x4, x5, x6) (y0, y1, y2, y3, y4, y5, y6))) ∧ Below w.heap.size w w' := by
  have HB := Lib.hid (show ∀ o1 o2, Below w.heap.size w ((w.alloc o1).alloc o2) from fun o1 o2 => ((Below.refl _ _).alloc (Nat.le_refl _) _).alloc (by simp) _)
  have e1 : sameB (x0, x1, x2, x3, x4, x5, x6) (y0, y1, y2, y3, y4, y5, y6) = (x0 == y0 && x1 == y1 && x2 == y2) := rfl
  rw [e1]
  clear e1
  go_enter Tryz.func59, Tryz.ntmps59
  go_wp2_with fail
  all_goals
    go_ret
    refine ⟨ret_bool ?_, HB.out _ _⟩
    simp_all
end Go.Proofs.YtalgdeieejpelaaGreat

/- Walks: the library's iterator over entries, and what collects it. -/
namespace Go.Proofs.YtalgdeieejpelaaGreat
open Go.RowKit Go.Shelf
set_option linter.unusedVariables false
set_option maxRecDepth 100000
attribute [local go_sem] Oper.semAt_some

def aggE (x : EntryT) : Array Value := #[.agg (entC x).toArray]
set_option maxHeartbeats 2000000 in
/-- The closure of slices.Values: each element is handed on, for every loop body that keeps what lay below n₀. -/
theorem values1_in (F : Fence) (n : Nat) (hF : F.fn 104) (hro : F.round = none) (hn : 1 ≤ n) (l Bs n₀ : Nat) (A : Option Addr) (len cap : Nat) (xs : List EntryT) (J Jx : List EntryT → World → Prop) (W : World) (hJ : AbidesFrom W.heap.size J)
    (hY : ∀ pre x W, J pre W → pre.length < len → YieldAt F (n - 1) Tryz.prog l (aggE x) W fun e W' =>
      (e = .returned (.bool true) ∧ J (pre ++ [x]) W' ∧ Below n₀ W W') ∨ (e = .returned (.bool false) ∧ Jx (pre ++ [x]) W'))
    (hn₀ : n₀ ≤ W.heap.size) (hBs : W.cell? ⟨Bs, 0, none⟩ = some (.slice A len cap)) (hr : Rd W 7 A len (ents xs)) (hb : 0 < len → ∀ b o, A = some ⟨b, o, none⟩ → b < n₀) (h0 : J [] W) :
    CallsIn F n Tryz.prog 104 #[.func (.yield l) #[] #[], .pointer (some ⟨Bs, 0, none⟩)] W fun e W' => (∃ v, e = .returned v) ∧
      ((∃ ys, ys = xs ∧ J ys W') ∨ (∃ pre, pre <+: xs ∧ Jx pre W')) := by
  have hl := hr.len_ent
  have hle := hr.le
  refine callsIn_of_wp Tryz.func104 rfl hF ?_ hro
  simp only [Tryz.ntmps104, List.size_toArray, List.length_cons, List.length_nil, Nat.reduceAdd, Nat.reduceSub, Array.replicate_succ, Array.replicate_zero, List.push_toArray, List.append_toArray, List.nil_append, List.cons_append]
  gi_wp2
  gi_loopw [7] (fun i wr => ∃ k : Nat, k ≤ len ∧ i = .int .i64 k ∧ J (xs.take k) wr ∧ Below n₀ W wr) (fun i _ => len - (intOf i).toNat)
  case atStart => exact ⟨0, Nat.zero_le _, rfl, h0, Below.refl _ _⟩
  case round =>
    obtain ⟨k, hk, rfl, hJs, hnx⟩ := hrel
    have HL := Lib.hid hl
    clear hl
    by_cases hlt : k < len
    · obtain ⟨b, o, x0, x1, x2, x3, x4, x5, x6, rfl, hx, hd, hc0, hc1, hc2, hc3, hc4, hc5, hc6⟩ := hr.ent hlt
      have hbn := hb (by omega) b o rfl
      have hsn := take_snoc_get hx
      have HSN := Lib.hid hsn
      have e0 := (hnx.cell (p := ⟨b, o + k * 7, none⟩) hbn).trans hc0
      have e1 := (hnx.cell (p := ⟨b, o + k * 7 + 1, none⟩) hbn).trans hc1
      have e2 := (hnx.cell (p := ⟨b, o + k * 7 + 2, none⟩) hbn).trans hc2
      have e3 := (hnx.cell (p := ⟨b, o + k * 7 + 3, none⟩) hbn).trans hc3
      have e4 := (hnx.cell (p := ⟨b, o + k * 7 + 4, none⟩) hbn).trans hc4
      have e5 := (hnx.cell (p := ⟨b, o + k * 7 + 5, none⟩) hbn).trans hc5
      have e6 := (hnx.cell (p := ⟨b, o + k * 7 + 6, none⟩) hbn).trans hc6
      have hJa := hJ _ _ (wr.alloc (.cells #[.int .i64 x0, .int .i64 x1, .int .i64 x2, .int .i64 x3, .int .i64 x4, .int .i64 x5, .int .i64 x6] 50)) none hJs (World.grownBy_alloc _ _ _) (fun r e => by cases e)
      obtain ⟨fn, tmps, assign, body, hy, hR⟩ := hY _ (x0, x1, x2, x3, x4, x5, x6) _ hJa (by rw [List.length_take, HL.out]; omega)
      simp only [aggE, entC] at hy
      have hwn : n₀ ≤ wr.heap.size := Nat.le_trans hn₀ hnx.size
      have HNX := Lib.hid hnx
      clear hx hd hc0 hc1 hc2 hc3 hc4 hc5 hc6 hsn hnx hJs hJa
      gi_wp2
      refine hR.mono ?_
      rintro e W3 (⟨rfl, hJ3, hk3⟩ | ⟨rfl, hJx3⟩)
      · gi_wp2
        go_roundw
        case rel => exact ⟨k + 1, by omega, by go_num, by rw [HSN.out]; exact hJ3, HNX.out.trans (((Below.refl n₀ wr).alloc hwn _).trans hk3)⟩
        case measure => simp [intOf] <;> omega
      · gi_wp2
        refine bodyPost_ret (results_none rfl _ _ _) rfl ?_
        exact ⟨⟨_, rfl⟩, .inr ⟨_, by rw [← HSN.out]; exact List.take_prefix _ _, hJx3⟩⟩
    · obtain rfl : k = len := by omega
      have ht : xs.take k = xs := List.take_of_length_le (by rw [HL.out]; exact Nat.le_refl _)
      rw [ht] at hJs
      clear ht
      gi_wp2
      go_end0
      exact ⟨⟨_, rfl⟩, .inl ⟨_, rfl, hJs⟩⟩

set_option maxHeartbeats 1000000 in
/-- slices.Values: the slice value is boxed; the function value captures the box. -/
theorem values_in (F : Fence) (n : Nat) (hF : F.fn 74) (hro : F.round = none) (A : Option Addr) (len cap : Nat) (w : World) :
    CallsIn F n Tryz.prog 74 #[.slice A len cap] w fun e w' => e = .returned (.func (.func 104) #[] #[.pointer (some ⟨w.heap.size, 0, none⟩)]) ∧ w' = w.alloc (.cells #[.slice A len cap] 29) := by
  refine callsIn_of_wp Tryz.func74 rfl hF ?_ hro
  simp only [Tryz.ntmps74, List.size_toArray, List.length_cons, List.length_nil, Nat.reduceAdd, Nat.reduceSub, Array.replicate_succ, Array.replicate_zero, List.push_toArray, List.append_toArray, List.nil_append, List.cons_append]
  gi_wp2
  go_ret
  exact ⟨rfl, rfl⟩

/-- What slices.Values hands back goes through all elements. -/
theorem values_stops (F : Fence) (n : Nat) (hF : F.fn 104) (hro : F.round = none) (hn : 1 ≤ n) (Bs n₀ : Nat) (A : Option Addr) (len cap : Nat) (xs : List EntryT) (w : World) (hBs : Bs < w.heap.size) (hn₀ : n₀ ≤ w.heap.size)
    (hc : w.cell? ⟨Bs, 0, none⟩ = some (.slice A len cap)) (hr : Rd w 7 A len (ents xs)) (hb : 0 < len → ∀ b o, A = some ⟨b, o, none⟩ → b < n₀) :
    SeqStopsK F n Tryz.prog 104 #[.pointer (some ⟨Bs, 0, none⟩)] aggE (Below n₀) (fun ys => ys = xs) (fun pre => pre <+: xs) len w := fun l J Jx W hW hJ _ hY h0 =>
  values1_in F n hF hro hn l Bs n₀ A len cap xs J Jx W hJ hY (Nat.le_trans hn₀ hW.size) ((hW.cell (p := ⟨Bs, 0, none⟩) hBs).trans hc) (hr.below hW) hb h0
end Go.Proofs.YtalgdeieejpelaaGreat

/- Walks: the library's sort at entries. -/
namespace Go.Proofs.YtalgdeieejpelaaGreat
open Go.RowKit Go.Sort Go.Shelf
set_option linter.unusedVariables false
set_option maxRecDepth 100000

/-! ### An own row of k cells an element, sorted -/
section
variable {α : Type} [Inhabited α] {f : α → List Value} {k : Nat}
theorem flatK_list (hk : ∀ x, (f x).length = k) (d : Array α) : (flatK f k d).toList = d.toList.flatMap f := by
  apply List.ext_getElem?
  intro t
  by_cases ht : t < d.size * k
  · have k0 : 0 < k := by rcases Nat.eq_zero_or_pos k with h | h; · subst h; simp at ht
                          · exact h
    have hq : t / k < d.size := Nat.div_lt_of_lt_mul (by rw [Nat.mul_comm]; exact ht)
    have e : t = t / k * k + t % k := by have := Nat.div_add_mod t k; rw [Nat.mul_comm] at this; exact this.symm
    have hx : d.toList[t / k]? = some d[t / k] := by simp [hq]
    have h2 := flat_get hk hx (j := t % k) (Nat.mod_lt t k0)
    rw [← e] at h2
    rw [h2, Array.getElem?_toList]
    have hF : (flatK f k d)[t]? = some ((flatK f k d)[t]!) := by
      rw [getElem!_pos _ t (by simpa using ht), Array.getElem?_eq_getElem]
    rw [hF, get_flatK _ _ _ _ ht, getElem!_pos d (t / k) hq]
    have hm : t % k < (f d[t / k]).length := by rw [hk]; exact Nat.mod_lt t k0
    rw [List.getElem?_eq_getElem hm, getElem!_pos (f d[t / k]) (t % k) hm]
  · rw [List.getElem?_eq_none (by simp; omega), List.getElem?_eq_none (by rw [flat_len hk]; simp; omega)]
theorem holdsK_own (hk : ∀ x, (f x).length = k) {w : World} {base e g n c : Nat} {xs : List α} (h : w.ownsRow base e k (.slice (some ⟨g, 0, none⟩) n c) n (xs.flatMap f)) : HoldsK f k w g 0 xs.toArray := by
  intro j hj
  rw [size_flatK] at hj
  have hF : (flatK f k xs.toArray).toList[j]? = some ((flatK f k xs.toArray)[j]!) := by
    rw [Array.getElem?_toList, getElem!_pos _ j (by simpa using hj), Array.getElem?_eq_getElem]
  rw [flatK_list hk] at hF
  have hc := h.cells (g := g) rfl j _ hF
  have hadd : (⟨g, 0, none⟩ : Addr).add j = ⟨g, 0 + j, none⟩ := by unfold Addr.add; split <;> simp_all
  rw [hadd] at hc
  exact ⟨hc, by rw [Nat.zero_add]; exact h.frozenAt j⟩
theorem grownBy_sortedK {w : World} {g n : Nat} {os : Array Obj} (d : Array α) : w.grownBy (sortWorldK f k w g 0 n d os) (some g) := by
  refine ⟨rfl, rfl, rfl, by simp [sortWorldK, putRowK, putRow, mapBlock, Sort.ahead], fun j hj hne => ?_⟩
  unfold sortWorldK
  rw [heap_grow_old _ _ (by simpa [putRowK, putRow, mapBlock, Sort.ahead] using hj)]
  have : g ≠ j := fun e => hne (by rw [e])
  simp [putRowK, putRow, mapBlock, Sort.ahead, Array.getElem?_modify, this]
theorem own_sortedK (hk : ∀ x, (f x).length = k) {w : World} {base e g m c n : Nat} {os : Array Obj} {xs ys : List α} (h : w.ownsRow base e k (.slice (some ⟨g, 0, none⟩) m c) m (xs.flatMap f)) (hl : ys.length = xs.length) :
    (sortWorldK f k w g 0 n ys.toArray os).ownsRow base e k (.slice (some ⟨g, 0, none⟩) m c) m (ys.flatMap f) := by
  have h1 := h.1
  rw [flat_len hk] at h1
  refine ⟨by rw [flat_len hk, hl]; exact h1, ?_⟩
  rcases h.2 with ⟨hv, _⟩ | ⟨g', cap, cur, hv, hb, hg, hnc, hcm, hcs, htake⟩
  · cases hv
  injection hv with hA _ hc
  injection hA with hA
  injection hA with hA
  subst hA hc
  have hgl : g < w.heap.size := (Array.getElem?_eq_some_iff.1 hg).1
  refine .inr ⟨g, c, putCells id 0 (flatK f k ys.toArray) cur, rfl, hb, ?_, hnc, hcm, by simp [putCells, hcs], ?_⟩
  · unfold sortWorldK
    rw [heap_grow_old _ _ (by simpa [putRowK, putRow, mapBlock, Sort.ahead] using hgl)]
    simp [putRowK, putRow, mapBlock, Sort.ahead, Array.getElem?_modify, hg, onCells]
  · have hsz : (flatK f k ys.toArray).size = m * k := by rw [size_flatK]; simp only [List.size_toArray]; rw [hl, h1]
    have hcz : m * k ≤ cur.size := by rw [hcs]; exact Nat.mul_le_mul_right k hnc
    rw [← flatK_list hk ys.toArray]
    apply List.ext_getElem?
    intro j
    by_cases hj : j < m * k
    · rw [List.getElem?_take_of_lt hj, Array.getElem?_toList, Array.getElem?_toList]
      simp only [putCells, Array.getElem?_mapIdx]
      rw [Array.getElem?_eq_getElem (show j < cur.size by omega)]
      simp only [Option.map_some, Nat.zero_add, Nat.zero_le, true_and, Nat.sub_zero, hsz, hj, if_true, id]
      rw [getElem!_pos _ j (by rw [hsz]; exact hj), Array.getElem?_eq_getElem]
    · rw [List.getElem?_take_eq_none (by omega), List.getElem?_eq_none (by simp only [Array.length_toList]; rw [hsz]; omega)]
end
theorem permIn_all {α : Type} [Inhabited α] {d d' : Array α} (h : PermIn 0 d.size d d') : d'.toList.Perm d.toList := by
  obtain ⟨h1, _, h3⟩ := h
  have e1 : d.extract 0 d.size = d := by simp
  have e2 : d'.extract 0 d.size = d' := by rw [← h1]; simp
  rwa [e1, e2] at h3
theorem sortedIn_all {α : Type} [Inhabited α] {lt : α → α → Bool} {d : Array α} {n : Nat} (hn : n = d.size) (h : SortedIn lt 0 n d) : d.toList.Pairwise fun x y => lt y x = false := by
  subst hn
  rw [List.pairwise_iff_getElem]
  intro i j hi hj hij
  have hi' : i < d.size := by simpa using hi
  have hj' : j < d.size := by simpa using hj
  have := h i j (Nat.zero_le _) hij hj'
  rw [getElem!_pos d i hi', getElem!_pos d j hj'] at this
  simpa using this

/-! ### Entries that may be compared -/
abbrev EV : Type := { x : EntryT // okE x }
instance : Inhabited EV := ⟨⟨(0, 0, 1, 0, 0, 0, 0), by unfold okE; simp [E.race, E.boat, E.rev]⟩⟩
def encE (x : EV) : List Value := entC x.1
def cmpE (x y : EV) : Int := sgn (keyE x.1 - keyE y.1)
theorem encE_len (x : EV) : (encE x).length = 7 := rfl
theorem encE_one (x : EV) : ∀ v ∈ encE x, v.oneCell' = true := by
  intro v hv
  obtain ⟨⟨x0, x1, x2, x3, x4, x5, x6⟩, hx⟩ := x
  simp [encE, entC] at hv
  rcases hv with rfl | rfl | rfl | rfl | rfl | rfl | rfl <;> rfl
theorem ltE (x y : EV) : ltOf cmpE x y = decide (keyE x.1 < keyE y.1) := by
  unfold ltOf cmpE sgn
  by_cases h1 : keyE x.1 < keyE y.1
  · rw [if_pos (by omega)]; simp [h1]
  · rw [if_neg (by omega)]
    by_cases h2 : keyE x.1 - keyE y.1 = 0
    · rw [if_pos h2]; simp [h1]
    · rw [if_neg h2]; simp [h1]
theorem swoE : SWO (ltOf cmpE) where
  irrefl x := by rw [ltE]; simp
  trans x y z h1 h2 := by rw [ltE] at *; simp at *; omega
  ntrans x y z h1 h2 := by rw [ltE] at *; simp at *; omega
theorem vals_of : ∀ (xs : List EntryT), (∀ x ∈ xs, okE x) → ∃ L : List EV, L.map (·.1) = xs := by
  intro xs
  induction xs with
  | nil => intro _; exact ⟨[], rfl⟩
  | cons x r ih =>
    intro h
    obtain ⟨L, hL⟩ := ih fun y hy => h y (List.mem_cons_of_mem _ hy)
    exact ⟨⟨x, h x (List.mem_cons_self ..)⟩ :: L, by rw [List.map_cons, hL]⟩
theorem ents_vals (L : List EV) : ents (L.map (·.1)) = L.flatMap encE := by
  unfold ents
  rw [List.flatMap_map]; rfl
def Tryz.sortEnt_ren : Go.Shelf.Ren := ⟨fun | 6 => 103 | 15 => 126 | 14 => 125 | 28 => 143 | 29 => 144 | 20 => 135 | 21 => 136 | 22 => 137 | 23 => 138 | 24 => 139 | 25 => 140 | 26 => 141 | 27 => 142 | 46 => 160 | 47 => 161 | 48 => 162 | 49 => 163 | 50 => 164 | 57 => 170 | n => n, fun | 22 => 29 | 24 => 50 | 25 => 117 | 3 => 3 | 39 => 85 | 0 => 0 | 53 => 175 | 55 => 47 | 4 => 4 | 46 => 168 | 45 => 167 | 50 => 172 | 5 => 5 | 9 => 9 | 66 => 187 | 70 => 191 | 76 => 195 | 77 => 196 | n => n, fun | n => n⟩
theorem Tryz.sortEnt : Go.Proofs.SlLaysF0.n6 Tryz.prog Tryz.sortEnt_ren := {
  mixed := by kernel_rfl,
  f6 := ⟨Tryz.f103.name, by decide, Tryz.func103.trans (congrArg some (by kernel_rfl))⟩,
  f14 := ⟨Tryz.f125.name, by decide, Tryz.func125.trans (congrArg some (by kernel_rfl))⟩,
  f15 := Tryz.func126.trans (congrArg some (by kernel_rfl)),
  f20 := ⟨Tryz.f135.name, by decide, Tryz.func135.trans (congrArg some (by kernel_rfl))⟩,
  f21 := ⟨Tryz.f136.name, by decide, Tryz.func136.trans (congrArg some (by kernel_rfl))⟩,
  f22 := ⟨Tryz.f137.name, by decide, Tryz.func137.trans (congrArg some (by kernel_rfl))⟩,
  f23 := ⟨Tryz.f138.name, by decide, Tryz.func138.trans (congrArg some (by kernel_rfl))⟩,
  f24 := ⟨Tryz.f139.name, by decide, Tryz.func139.trans (congrArg some (by kernel_rfl))⟩,
  f25 := ⟨Tryz.f140.name, by decide, Tryz.func140.trans (congrArg some (by kernel_rfl))⟩,
  f26 := ⟨Tryz.f141.name, by decide, Tryz.func141.trans (congrArg some (by kernel_rfl))⟩,
  f27 := ⟨Tryz.f142.name, by decide, Tryz.func142.trans (congrArg some (by kernel_rfl))⟩,
  f28 := Tryz.func143.trans (congrArg some (by kernel_rfl)),
  f29 := Tryz.func144.trans (congrArg some (by kernel_rfl)),
  f46 := ⟨Tryz.f160.name, by decide, Tryz.func160.trans (congrArg some (by kernel_rfl))⟩,
  f47 := Tryz.func161.trans (congrArg some (by kernel_rfl)),
  f48 := Tryz.func162.trans (congrArg some (by kernel_rfl)),
  f49 := ⟨Tryz.f163.name, by decide, Tryz.func163.trans (congrArg some (by kernel_rfl))⟩,
  f50 := ⟨Tryz.f164.name, by decide, Tryz.func164.trans (congrArg some (by kernel_rfl))⟩,
  f57 := ⟨Tryz.f170.name, by decide, Tryz.func170.trans (congrArg some (by kernel_rfl))⟩,
  t0 := Tryz.underlying0,
  a0 := Tryz.isAgg0,
  z0 := Tryz.sizeOf0,
  v0 := Tryz.zeroValue0,
  t3 := Tryz.underlying3,
  a3 := Tryz.isAgg3,
  z3 := Tryz.sizeOf3,
  v3 := Tryz.zeroValue3,
  t4 := Tryz.underlying4,
  a4 := Tryz.isAgg4,
  z4 := Tryz.sizeOf4,
  v4 := Tryz.zeroValue4,
  t5 := Tryz.underlying5,
  a5 := Tryz.isAgg5,
  z5 := Tryz.sizeOf5,
  v5 := Tryz.zeroValue5,
  t9 := Tryz.underlying9,
  a9 := Tryz.isAgg9,
  z9 := Tryz.sizeOf9,
  v9 := Tryz.zeroValue9,
  t22 := Tryz.underlying29,
  a22 := Tryz.isAgg29,
  z22 := Tryz.sizeOf29,
  v22 := Tryz.zeroValue29,
  t25 := Tryz.underlying117,
  a25 := Tryz.isAgg117,
  z25 := Tryz.sizeOf117,
  v25 := Tryz.zeroValue117,
  t39 := Tryz.underlying85,
  a39 := Tryz.isAgg85,
  z39 := Tryz.sizeOf85,
  v39 := Tryz.zeroValue85,
  t45 := Tryz.underlying167,
  a45 := Tryz.isAgg167,
  z45 := Tryz.sizeOf167,
  v45 := Tryz.zeroValue167,
  t46 := Tryz.underlying168,
  a46 := Tryz.isAgg168,
  z46 := Tryz.sizeOf168,
  v46 := Tryz.zeroValue168,
  t50 := Tryz.underlying172,
  a50 := Tryz.isAgg172,
  z50 := Tryz.sizeOf172,
  v50 := Tryz.zeroValue172,
  t53 := Tryz.underlying175,
  a53 := Tryz.isAgg175,
  z53 := Tryz.sizeOf175,
  v53 := Tryz.zeroValue175,
  t55 := Tryz.underlying47,
  a55 := Tryz.isAgg47,
  z55 := Tryz.sizeOf47,
  v55 := Tryz.zeroValue47,
  t66 := Tryz.underlying187,
  a66 := Tryz.isAgg187,
  z66 := Tryz.sizeOf187,
  v66 := Tryz.zeroValue187,
  t70 := Tryz.underlying191,
  a70 := Tryz.isAgg191,
  z70 := Tryz.sizeOf191,
  v70 := Tryz.zeroValue191,
  t76 := Tryz.underlying195,
  a76 := Tryz.isAgg195,
  z76 := Tryz.sizeOf195,
  v76 := Tryz.zeroValue195,
  t77 := Tryz.underlying196,
  a77 := Tryz.isAgg196,
  z77 := Tryz.sizeOf196,
  v77 := Tryz.zeroValue196 }
theorem cmpLaysE (blk off size : Nat) (w : World) : CmpLays Tryz.prog 75 #[] encE 7 cmpE blk off size w :=
  fun _ _ _ _ x y => by
    obtain ⟨⟨x0, x1, x2, x3, x4, x5, x6⟩, hx⟩ := x
    obtain ⟨⟨y0, y1, y2, y3, y4, y5, y6⟩, hy⟩ := y
    exact compareEntries_grow x0 x1 x2 x3 x4 x5 x6 y0 y1 y2 y3 y4 y5 y6 hx hy _
/-- What the sort leaves: the same row holds a sorted permutation. -/
def RetSort (w : World) (base : Nat) (A : Option Addr) (n c : Nat) (xs : List EntryT) (e : Ending) (w' : World) : Prop :=
  e = .returned (.tuple #[]) ∧ ∃ ys : List EntryT, ys.Perm xs ∧ (ys.Pairwise fun x y => keyE x ≤ keyE y) ∧ w'.ownsRow base 50 7 (.slice A n c) n (ents ys) ∧ w.grownBy w' (Value.slice A n c).ownBlock
set_option maxHeartbeats 1000000 in
theorem sortEnts_any (base : Nat) (A : Option Addr) (n c : Nat) (xs : List EntryT) (hok : ∀ x ∈ xs, okE x) (hn : n ≤ 1048576) (w : World) (h : w.ownsRow base 50 7 (.slice A n c) n (ents xs)) :
    Calls Tryz.prog 103 #[.slice A n c, .func (.func 75) #[] #[]] w (RetSort w base A n c xs) := by
  have hl : xs.length = n := own_len_flat entC_len (by decide) h
  rcases Nat.eq_zero_or_pos n with h0 | h0
  · subst h0
    obtain rfl : xs = [] := List.eq_nil_of_length_eq_zero hl
    have h1 := AnyF.slices_SortFunc_none { Tryz.sortEnt with } A c (.func (.func 75) #[] #[]) w
    change Calls Tryz.prog 103 _ _ _ at h1
    refine h1.mono ?_
    rintro e w' ⟨rfl, rfl⟩
    exact ⟨rfl, [], .nil, .nil, h, World.grownBy.refl _ _⟩
  · obtain ⟨L, rfl⟩ := vals_of xs hok
    rw [ents_vals] at h
    rw [List.length_map] at hl
    obtain ⟨g, rfl, hgw⟩ : ∃ g, A = some ⟨g, 0, none⟩ ∧ g < w.heap.size := by
      rcases h.2 with ⟨hv, hz⟩ | ⟨g, cap, cur, hv, hb, hg, _⟩
      · omega
      · injection hv with hA
        exact ⟨g, hA, (Array.getElem?_eq_some_iff.1 hg).1⟩
    have hH := holdsK_own encE_len h
    have eg : ∀ args w, (callFunc 75 args).run Tryz.prog w = .ok (.enter 75 args) w := enters_of Tryz.func75 (by kernel_rfl) rfl
    have hcon := AnyQ.slices_SortFunc Tryz.sortEnt 7 Tryz.isAgg50 Tryz.sizeOf50 encE encE_len encE_one cmpE swoE 75 #[] g 0 c L.toArray w eg (cmpLaysE g 0 L.toArray.size w) hH hgw (by simp only [List.size_toArray]; omega)
    change Calls Tryz.prog 103 _ _ _ at hcon
    simp only [List.size_toArray, hl] at hcon
    refine hcon.mono ?_
    rintro e w' ⟨rfl, d', q, os, hp, hs, rfl⟩
    have hp' := permIn_all (d := L.toArray) (d' := d') (by simp only [List.size_toArray, hl]; exact hp)
    have hdl : d'.toList.length = L.length := by have := hp'.length_eq; simpa using this
    have hs' := sortedIn_all (n := n) (by have : d'.size = L.length := by simpa using hdl
                                          omega) hs
    refine ⟨rfl, d'.toList.map (·.1), hp'.map _, ?_, ?_, grownBy_sortedK d'⟩
    · rw [List.pairwise_map]
      refine hs'.imp ?_
      intro x y hxy
      rw [ltE] at hxy
      simp at hxy
      exact hxy
    · rw [ents_vals]
      have := own_sortedK (n := q) (os := os) encE_len h (ys := d'.toList) hdl
      simpa using this
end Go.Proofs.YtalgdeieejpelaaGreat

/- Walks: the library's Collect and SortedFunc over the entries of a slice. -/
namespace Go.Proofs.YtalgdeieejpelaaGreat
open Go.RowKit Go.Shelf Go.Sort
set_option linter.unusedVariables false
set_option maxRecDepth 100000
attribute [local go_sem] Oper.semAt_some

theorem box_boxed {W : World} {B : Nat} {t : TypeId} {v : Value} (h : Boxed W B t v) : Box W B #[v] t := h
/-- What a round finds of its variable. -/
def AxE (s0 : Nat) (fv : Value) (x : EntryT) (a' : Act) (W : World) : Prop :=
  ∃ Bx, s0 < Bx ∧ Box W Bx (entC x).toArray 50 ∧ a' = { tmps := #[.slice none 0 0, fv, .pointer (some ⟨s0, 0, none⟩), undef, .slice none 0 0, .pointer (some ⟨Bx, 0, none⟩), fv, .agg (entC x).toArray, undef, undef, undef, undef, undef], defers := [] }
set_option maxHeartbeats 4000000 in
theorem appendSeq_in (F : Fence) (n : Nat) (hF : F.fn 124) (hro : F.round = none) (hn : 3 ≤ n) (g : Nat) (lb : Array Value) (hFg : F.fn g) (eg : ∀ args w, (callFunc g args).run Tryz.prog w = .ok (.enter g args) w)
    (Sp : List EntryT → Prop) (N : Nat) (hN : N ≤ 1048576) (xs : List EntryT) (w : World) (hseq : SeqStopsK F (n - 1) Tryz.prog g lb aggE (Below w.heap.size) (fun ys => ys = xs) Sp N w) :
    CallsIn F n Tryz.prog 124 #[.slice none 0 0, .func (.func g) #[] lb] w fun e W' => ∃ v, e = .returned v ∧ W'.ownsRow w.heap.size 50 7 v xs.length (ents xs) ∧ Below w.heap.size w W' := by
  have h1 : 1 ≤ n := by omega
  obtain ⟨i0, hi, hz0, hz1, hz2⟩ := info_parts Tryz.info_ent
  refine callsIn_of_wp_marks Tryz.func124 rfl hF ?_ hro
  simp only [Tryz.ntmps124, List.size_toArray, List.length_cons, List.length_nil, Nat.reduceAdd, Nat.reduceSub, Array.replicate_succ, Array.replicate_zero, List.push_toArray, List.append_toArray, List.nil_append, List.cons_append]
  gi_wp2
  have bO := Boxed.new w 29 (.slice none 0 0)
  have hB0 : Below w.heap.size w (w.alloc (.cells #[.slice none 0 0] 29)) := (Below.refl _ w).alloc (Nat.le_refl _) _
  refine wpIn_rangeFunc_ownH hro h1 (gf := g) (lb := lb) rfl hFg eg hseq belowK_t (belowK_b (by simp)) hB0 (fun _ => rfl)
    (fun pre W => (∃ v, Boxed W w.heap.size 29 v ∧ W.ownsRow w.heap.size 50 7 v pre.length (ents pre) ∧ True) ∧ Below w.heap.size w W)
    (fun _ _ _ => False)
    (OwnFrom.and (Own.from (holdsRow_own w.heap.size w.heap.size 29 50 7 (fun pre => pre.length) (fun pre => ents pre) (fun _ _ => True)) _) (ownFrom_below (Nat.le_refl _) (by simp)))
    (fun _ _ _ _ _ hs _ _ => hs)
    ⟨⟨_, bO, World.ownsRow_nil _ _ _ _, trivial⟩, hB0⟩
    (fun x a' W => AxE w.heap.size (.func (.func g) #[] lb) x a' W)
    (by
      rintro x a' s X Y row ⟨Bx, h1, hb, ha⟩ hg hr
      exact ⟨Bx, h1, (hg.block Bx hb.lt (fun e => by obtain ⟨_, o, ho, hc⟩ := hr Bx e.symm; rw [show X.heap[Bx]? = _ from hb] at ho; cases ho; cases hc)).trans hb, ha⟩) ?assign ?body ?done ?stop
  case assign =>
    rintro l pre ⟨x0, x1, x2, x3, x4, x5, x6⟩ W K ⟨⟨v, hv, hrow, _⟩, hB⟩ hK
    simp only [aggE, entC]
    gi_wp2
    exact hK _ _ ((KeepsOthers.alloc _ _).from _) ((Below.refl _ W).alloc hB.size _) ⟨⟨v, hv.alloc _, hrow.alloc _, trivial⟩, hB.alloc hB.size _⟩ ⟨W.heap.size, hv.lt, Box.new _ _ _, rfl⟩
  case body =>
    rintro l pre ⟨x0, x1, x2, x3, x4, x5, x6⟩ a' W hl hr ⟨⟨v, hv, hrow, _⟩, hB⟩ ⟨Bx, hBx, hbx, rfl⟩ hlt
    have hc := hv.cell
    have hbx' : Box W Bx #[.int .i64 x0, .int .i64 x1, .int .i64 x2, .int .i64 x3, .int .i64 x4, .int .i64 x5, .int .i64 x6] 50 := hbx
    obtain ⟨e0, e1, e2, e3, e4, e5, e6, _⟩ := hbx'.f7
    simp only [entC]
    gi_wp2_with (gi_at_builtin; refine wpListIn_append_own _ rfl _ _ 29 rfl w.heap.size 50 i0 (.agg #[.int .i64 0, .int .i64 0, .int .i64 0, .int .i64 0, .int .i64 0, .int .i64 0, .int .i64 0]) 7 56 Tryz.underlying29 hi hz0 hz1 hz2 rfl (by decide) _ _ _ rfl (hrow.alloc _) ⟨W.heap.size, 0, none⟩ 1 1 [.int .i64 x0, .int .i64 x1, .int .i64 x2, .int .i64 x3, .int .i64 x4, .int .i64 x5, .int .i64 x6] rfl rfl (World.news_of_block (cs := #[.int .i64 x0, .int .i64 x1, .int .i64 x2, .int .i64 x3, .int .i64 x4, .int .i64 x5, .int .i64 x6]) (heap_alloc_new _ _)) (by intro u hu; simp at hu; rcases hu with rfl | rfl | rfl | rfl | rfl | rfl | rfl <;> rfl) (by unfold maxLen; omega) (by omega) (by have := hB.size; simp; omega) ?_; intro v' w1 hown' hgrow _; obtain ⟨g', cap', rfl⟩ := ownsRow_succ hown'; obtain ⟨hv1, hv2, hr2, hk2, hb2⟩ := hv.appended (by decide) hrow hB.size (Nat.le_refl _) hown' hgrow; have hc1 := hv1.cell; have hf1 := hv1.frozen)
    have ee : ents (pre ++ [(x0, x1, x2, x3, x4, x5, x6)]) = ents pre ++ [.int .i64 x0, .int .i64 x1, .int .i64 x2, .int .i64 x3, .int .i64 x4, .int .i64 x5, .int .i64 x6] := by unfold ents; rw [List.flatMap_append]; rfl
    exact ⟨hk2.from _, hb2, ⟨_, hv2, by rw [ee, List.length_append]; exact hr2, trivial⟩, hB.trans hb2⟩
  case done =>
    rintro D ys W hD rfl ⟨⟨v, hv, hrow, _⟩, hB⟩ hK
    have hc := hv.cell
    gi_wp2
    refine ⟨by simp, .inl ⟨_, _, rfl, run_takeDeferred hK, ?_⟩⟩
    exact ⟨_, results_tmp rfl _ _ _, v, rfl, ownsRow_putObj hrow _ hK rfl, hB.trans (belowK_b (w := w) (Nat.le_refl _) W D _ _ (by simp at hD; omega) hK rfl rfl)⟩
  case stop =>
    rintro D c pre W _ _ h _
    exact h.elim
set_option maxHeartbeats 1000000 in
theorem collect_in (F : Fence) (n : Nat) (hC : F.fn 102) (hF : F.fn 124) (hro : F.round = none) (hn : 4 ≤ n) (g : Nat) (lb : Array Value) (hFg : F.fn g) (eg : ∀ args w, (callFunc g args).run Tryz.prog w = .ok (.enter g args) w)
    (Sp : List EntryT → Prop) (N : Nat) (hN : N ≤ 1048576) (xs : List EntryT) (w : World) (hseq : SeqStopsK F (n - 1 - 1) Tryz.prog g lb aggE (Below w.heap.size) (fun ys => ys = xs) Sp N w) :
    CallsIn F n Tryz.prog 102 #[.func (.func g) #[] lb] w fun e W' => ∃ v, e = .returned v ∧ W'.ownsRow w.heap.size 50 7 v xs.length (ents xs) ∧ Below w.heap.size w W' := by
  have h1 : 1 ≤ n := by omega
  refine callsIn_of_wp Tryz.func102 rfl hC ?_ hro
  simp only [Tryz.ntmps102, List.size_toArray, List.length_cons, List.length_nil, Nat.reduceAdd, Nat.reduceSub, Array.replicate_succ, Array.replicate_zero, List.push_toArray, List.append_toArray, List.nil_append, List.cons_append]
  gi_wp2_with (gi_at_call 124; refine (appendSeq_in F (n - 1) hF hro (by omega) g lb hFg eg Sp N hN xs _ hseq).mono ?_; rintro e w' ⟨v, rfl, hrow, hb⟩)
  go_ret
  exact ⟨v, rfl, hrow, hb⟩
/-- slices.Collect of the iterator over a slice: a copy. -/
theorem collect_any (A : Option Addr) (len cap : Nat) (xs : List EntryT) (hlen : len ≤ 1048576) (Bs : Nat) (w : World) (hc : w.cell? ⟨Bs, 0, none⟩ = some (.slice A len cap)) (hr : Rd w 7 A len (ents xs)) :
    Calls Tryz.prog 102 #[.func (.func 104) #[] #[.pointer (some ⟨Bs, 0, none⟩)]] w fun e W' => ∃ v, e = .returned v ∧ W'.ownsRow w.heap.size 50 7 v len (ents xs) ∧ Below w.heap.size w W' := by
  have hbs : Bs < w.heap.size := cell_lt hc
  have hl := hr.len_ent
  have h := collect_in Fence.wide 9 trivial trivial rfl (by omega) 104 #[.pointer (some ⟨Bs, 0, none⟩)] trivial (enters_of Tryz.func104 (by kernel_rfl) rfl) (fun pre => pre <+: xs) len hlen xs w
    (values_stops Fence.wide 7 trivial rfl (by omega) Bs w.heap.size A len cap xs w hbs (Nat.le_refl _) hc hr (fun h0 b o e => by
      obtain ⟨b', o', x0, x1, x2, x3, x4, x5, x6, e', _, _, c0, _⟩ := hr.ent (k := 0) h0
      rw [e] at e'
      injection e' with e'
      injection e' with e' _
      subst e'
      exact cell_lt c0))
  rw [hl] at h
  exact callsIn_wide.1 h
/-- slices.SortedFunc over a slice's iterator: a sorted copy. -/
def RetSorted (w : World) (xs : List EntryT) (e : Ending) (w' : World) : Prop :=
  ∃ A n c ys, e = .returned (.slice A n c) ∧ ys.Perm xs ∧ (ys.Pairwise fun x y => keyE x ≤ keyE y) ∧ w'.ownsRow w.heap.size 50 7 (.slice A n c) n (ents ys) ∧ Below w.heap.size w w'
theorem own_is_slice {w : World} {base e s n : Nat} {v : Value} {xs : List Value} (h : w.ownsRow base e s v n xs) : ∃ A c, v = .slice A n c := by
  rcases h.2 with ⟨rfl, rfl⟩ | ⟨g, cap, cur, rfl, _⟩
  · exact ⟨none, 0, rfl⟩
  · exact ⟨some ⟨g, 0, none⟩, cap, rfl⟩
theorem sortedFunc_any (A : Option Addr) (len cap : Nat) (xs : List EntryT) (hok : ∀ x ∈ xs, okE x) (hlen : len ≤ 1048576) (Bs : Nat) (w : World) (hc : w.cell? ⟨Bs, 0, none⟩ = some (.slice A len cap)) (hr : Rd w 7 A len (ents xs)) :
    Calls Tryz.prog 73 #[.func (.func 104) #[] #[.pointer (some ⟨Bs, 0, none⟩)], .func (.func 75) #[] #[]] w (RetSorted w xs) := by
  have HC := Lib.hid (collect_any A len cap xs hlen Bs w hc hr)
  clear hc hr
  go_enter Tryz.func73, Tryz.ntmps73
  go_wp2_with fail
  refine HC.out.mono ?_
  rintro e w1 ⟨v, rfl, ho, hb⟩
  obtain ⟨A1, c1, rfl⟩ := own_is_slice ho
  have HS := Lib.hid (sortEnts_any _ A1 len c1 xs hok hlen w1 ho)
  have HB := Lib.hid hb
  have HO := Lib.hid ho
  clear ho hb HC
  go_wp2_with fail
  refine HS.out.mono ?_
  rintro e w2 ⟨rfl, ys, hp, hs, ho2, hg2⟩
  have HO2 := Lib.hid ho2
  have HB2 := Lib.hid (HB.out.grown hg2 HB.out.size (fun k hk => (HO.out.lt k hk).1))
  clear ho2 hg2 HS
  go_wp2_with fail
  go_ret
  exact ⟨_, _, _, ys, rfl, hp, hs, HO2.out, HB2.out⟩
end Go.Proofs.YtalgdeieejpelaaGreat

/- General lemmas: slices of races (structs of one slice of finishes). No Go function in sight. -/
namespace Go.Proofs.YtalgdeieejpelaaGreat
open Go.RowKit
set_option linter.unusedVariables false

/-- A slice of slices that reads as a list of lists. -/
structure RdRaces (w : World) (A : Option Addr) (n : Nat) (rows : List (List FinishT)) : Prop where
  len : rows.length = n
  le : n ≤ 9223372036854775807
  at_ : ∀ k, k < n → ∃ b o A' c' xs, A = some ⟨b, o, none⟩ ∧ rows[k]? = some xs ∧ w.cell? ⟨b, o + k, none⟩ = some (.slice A' xs.length c') ∧ Rd w 3 A' xs.length (fins xs)
theorem RdRaces.keep {w w' : World} {A : Option Addr} {n : Nat} {rows : List (List FinishT)} (h : RdRaces w A n rows) (k : Keeps w w') : RdRaces w' A n rows :=
  ⟨h.len, h.le, fun i hi => by
    obtain ⟨b, o, A', c', xs, e, hx, hc, hr⟩ := h.at_ i hi
    exact ⟨b, o, A', c', xs, e, hx, k _ _ hc, hr.keep k⟩⟩
theorem RdRaces.below {w w' : World} {A : Option Addr} {n : Nat} {rows : List (List FinishT)} (h : RdRaces w A n rows) (k : Below w.heap.size w w') : RdRaces w' A n rows := h.keep (Keeps.below k)
theorem RdRaces.drawn {w w' : World} {A : Option Addr} {n : Nat} {rows : List (List FinishT)} (h : RdRaces w A n rows) (k : Drawn w w') : RdRaces w' A n rows := h.below k.below
theorem RdRaces.row {w : World} {A : Option Addr} {n k : Nat} {rows : List (List FinishT)} (h : RdRaces w A n rows) (hk : k < n) :
    ∃ b o A' c' xs, A = some ⟨b, o, none⟩ ∧ rows[k]? = some xs ∧ rows.drop k = xs :: rows.drop (k + 1) ∧ w.cell? ⟨b, o + k, none⟩ = some (.slice A' xs.length c') ∧ Rd w 3 A' xs.length (fins xs) := by
  obtain ⟨b, o, A', c', xs, e, hx, hc, hr⟩ := h.at_ k hk
  obtain ⟨y, h1, h2⟩ := drop_cons (xs := rows) (k := k) (by rw [h.len]; exact hk)
  obtain rfl : xs = y := by rw [hx] at h1; injection h1
  exact ⟨b, o, A', c', xs, e, hx, h2, hc, hr⟩

/-- A slice of slices of the call's own. -/
structure OwnRaces (w : World) (base eo ei : Nat) (A : Option Addr) (n c : Nat) (vs : List Value) (rows : List (List FinishT)) : Prop where
  outer : w.ownsRow base eo 1 (.slice A n c) n vs
  len : rows.length = n
  row : ∀ (k : Nat) (v : Value) (xs : List FinishT), vs[k]? = some v → rows[k]? = some xs → ∃ A' c', v = .slice A' xs.length c' ∧ w.ownsRow base ei 3 v xs.length (fins xs)
  apart : ∀ (i j : Nat) (u v : Value), i ≠ j → vs[i]? = some u → vs[j]? = some v → ∀ g, u.ownBlock = some g → v.ownBlock ≠ some g

section
variable {w w' : World} {base eo ei n c : Nat} {A : Option Addr} {vs : List Value} {rows : List (List FinishT)}
theorem OwnRaces.vlen (h : OwnRaces w base eo ei A n c vs rows) : vs.length = n := by have := h.outer.1; omega
theorem OwnRaces.nle (h : OwnRaces w base eo ei A n c vs rows) : n ≤ 9223372036854775807 := (own_rd h.outer).le
/-- What row k is. -/
theorem OwnRaces.get (h : OwnRaces w base eo ei A n c vs rows) {k : Nat} (hk : k < n) :
    ∃ v A' c' xs, vs[k]? = some v ∧ rows[k]? = some xs ∧ rows.drop k = xs :: rows.drop (k + 1) ∧ v = .slice A' xs.length c' ∧ w.ownsRow base ei 3 (.slice A' xs.length c') xs.length (fins xs) := by
  have h1 : vs[k]? = some (vs[k]'(by rw [h.vlen]; exact hk)) := List.getElem?_eq_getElem _
  obtain ⟨xs, h2, h3⟩ := drop_cons (xs := rows) (k := k) (by rw [h.len]; exact hk)
  obtain ⟨A', c', e, ho⟩ := h.row k _ _ h1 h2
  exact ⟨_, A', c', xs, h1, h2, h3, e, by rw [e] at ho; exact ho⟩
theorem OwnRaces.rd (h : OwnRaces w base eo ei A n c vs rows) : RdRaces w A n rows :=
  ⟨h.len, h.nle, fun k hk => by
    obtain ⟨v, A', c', xs, h1, h2, _, e, ho⟩ := h.get hk
    obtain ⟨g, u, hA, _, _, hu, hc, _⟩ := own_at h.outer hk
    obtain rfl : v = u := by rw [h1] at hu; injection hu
    exact ⟨g, 0, A', c', xs, hA, h2, by rw [Nat.zero_add, hc, e], own_rd ho⟩⟩
theorem OwnRaces.in_ (h : OwnRaces w base eo ei A n c vs rows) : RowsIn base w.heap.size A n c vs := by
  refine ⟨h.outer.lt, fun v hv b hb => ?_⟩
  obtain ⟨k, hk⟩ := List.mem_iff_getElem?.1 hv
  have hkn : k < n := by have := (List.getElem?_eq_some_iff.1 hk).1; rw [h.vlen] at this; exact this
  obtain ⟨u, A', c', xs, h1, h2, _, e, ho⟩ := h.get hkn
  obtain rfl : v = u := by rw [hk] at h1; injection h1
  rw [e] at hb
  exact ho.lt b hb
theorem OwnRaces.below (h : OwnRaces w base eo ei A n c vs rows) (k : Below w.heap.size w w') : OwnRaces w' base eo ei A n c vs rows :=
  ⟨own_below h.outer k, h.len, fun i v xs h1 h2 => by obtain ⟨A', c', e, ho⟩ := h.row i v xs h1 h2; exact ⟨A', c', e, own_below ho k⟩, h.apart⟩
theorem OwnRaces.drawn (h : OwnRaces w base eo ei A n c vs rows) (k : Drawn w w') : OwnRaces w' base eo ei A n c vs rows := h.below k.below
theorem OwnRaces.alloc (h : OwnRaces w base eo ei A n c vs rows) (o : Obj) : OwnRaces (w.alloc o) base eo ei A n c vs rows := h.below ((Below.refl _ _).alloc (Nat.le_refl _) _)
theorem OwnRaces.chg {lo hi : Nat} (h : OwnRaces w base eo ei A n c vs rows) (k : Chg lo hi w w') {lo2 hi2 : Nat} (hv : RowsIn lo2 hi2 A n c vs) (hd : hi2 ≤ lo ∨ hi ≤ lo2) : OwnRaces w' base eo ei A n c vs rows :=
  ⟨own_chg h.outer k (fun b hb => by have := hv.1 b hb; omega), h.len,
    fun i v xs h1 h2 => by
      obtain ⟨A', c', e, ho⟩ := h.row i v xs h1 h2
      exact ⟨A', c', e, own_chg ho k (fun b hb => by have := hv.2 v (List.mem_of_getElem? h1) b hb; omega)⟩, h.apart⟩
theorem OwnRaces.base' {base' : Nat} (h : OwnRaces w base eo ei A n c vs rows) (hb : base' ≤ base) : OwnRaces w base' eo ei A n c vs rows :=
  ⟨own_base h.outer hb, h.len, fun i v xs h1 h2 => by obtain ⟨A', c', e, ho⟩ := h.row i v xs h1 h2; exact ⟨A', c', e, own_base ho hb⟩, h.apart⟩

/-- Row k alone is written. -/
theorem OwnRaces.upd (h : OwnRaces w base eo ei A n c vs rows) (hne : eo ≠ ei) {k : Nat} {v : Value} {xs ys : List FinishT} (hk : vs[k]? = some v) (hx : rows[k]? = some xs) (hl : ys.length = xs.length)
    (hg : w.grownBy w' v.ownBlock) (hy : w'.ownsRow base ei 3 v ys.length (fins ys)) : OwnRaces w' base eo ei A n c vs (rows.set k ys) := by
  obtain ⟨A0, c0, e0, ho0⟩ := h.row k v xs hk hx
  refine ⟨h.outer.kept hg ?_, by simpa using h.len, ?_, h.apart⟩
  · rcases hb : (Value.slice A n c).ownBlock with _ | g
    · exact .inl rfl
    · exact .inr (fun he => own_type_ne h.outer ho0 hne g hb he.symm)
  · intro i u zs h1 h2
    by_cases hik : i = k
    · subst hik
      obtain rfl : v = u := by rw [hk] at h1; injection h1
      have hlt := (List.getElem?_eq_some_iff.1 hx).1
      rw [List.getElem?_set_self hlt] at h2
      injection h2 with h2; subst h2
      exact ⟨A0, c0, by rw [e0, hl], hy⟩
    · rw [List.getElem?_set_ne (fun e => hik e.symm)] at h2
      obtain ⟨A', c', e, ho⟩ := h.row i u zs h1 h2
      refine ⟨A', c', e, ho.kept hg ?_⟩
      rcases hb : u.ownBlock with _ | g
      · exact .inl rfl
      · exact .inr (fun he => h.apart i k u v hik h1 hk g hb he.symm)

/-- Row k is put: a slice whose block is none of the others'. -/
theorem OwnRaces.put {g : Nat} (h : OwnRaces w base eo ei (some ⟨g, 0, none⟩) n c vs rows) (hne : eo ≠ ei) {k : Nat} {A' : Option Addr} {c' : Nat} {ys : List FinishT}
    (hy : w.ownsRow base ei 3 (.slice A' ys.length c') ys.length (fins ys)) (hap : ∀ u ∈ vs, ∀ b, (Value.slice A' ys.length c').ownBlock = some b → u.ownBlock ≠ some b) :
    OwnRaces (w.setCell ⟨g, k, none⟩ (.slice A' ys.length c')) base eo ei (some ⟨g, 0, none⟩) n c (vs.set k (.slice A' ys.length c')) (rows.set k ys) := by
  have hst := h.outer.stored k (.slice A' ys.length c')
  have keep : ∀ (u : Value) (m : Nat) (zs : List Value), w.ownsRow base ei 3 u m zs → (w.setCell ⟨g, k, none⟩ (.slice A' ys.length c')).ownsRow base ei 3 u m zs := by
    intro u m zs ho
    refine ho.kept hst.2 ?_
    rcases hb : u.ownBlock with _ | b
    · exact .inl rfl
    · refine .inr (fun he => ?_)
      injection he with he
      subst he
      exact own_type_ne h.outer ho hne b rfl hb
  refine ⟨hst.1, by simpa using h.len, ?_, ?_⟩
  · intro i u zs h1 h2
    by_cases hik : i = k
    · subst hik
      have hlt : i < rows.length := by have := (List.getElem?_eq_some_iff.1 h2).1; simpa using this
      have hlt' : i < vs.length := by rw [h.vlen, ← h.len]; exact hlt
      rw [List.getElem?_set_self hlt] at h2
      rw [List.getElem?_set_self hlt'] at h1
      injection h2 with h2; injection h1 with h1
      subst h2; subst h1
      exact ⟨A', c', rfl, keep _ _ _ hy⟩
    · rw [List.getElem?_set_ne (fun e => hik e.symm)] at h1 h2
      obtain ⟨A'', c'', e, ho⟩ := h.row i u zs h1 h2
      exact ⟨A'', c'', e, keep _ _ _ ho⟩
  · intro i j u v hij h1 h2 b hb
    by_cases hik : i = k
    · subst hik
      rw [List.getElem?_set_ne (fun e => hij e)] at h2
      have hlt' : i < vs.length := by have := (List.getElem?_eq_some_iff.1 h1).1; simpa using this
      rw [List.getElem?_set_self hlt'] at h1
      injection h1 with h1; subst h1
      exact hap v (List.mem_of_getElem? h2) b hb
    · rw [List.getElem?_set_ne (fun e => hik e.symm)] at h1
      by_cases hjk : j = k
      · subst hjk
        have hlt' : j < vs.length := by have := (List.getElem?_eq_some_iff.1 h2).1; simpa using this
        rw [List.getElem?_set_self hlt'] at h2
        injection h2 with h2; subst h2
        exact fun hb' => hap u (List.mem_of_getElem? h1) b hb' hb
      · rw [List.getElem?_set_ne (fun e => hjk e.symm)] at h2
        exact h.apart i j u v hij h1 h2 b hb

/-- Behind a make: all rows are nil. -/
theorem OwnRaces.made (w : World) (base eo ei n : Nat) (hb : base ≤ w.heap.size) (hm : n ≤ 9223372036854775807) :
    OwnRaces (w.alloc (.cells (madeCells #[.slice none 0 0] n) eo)) base eo ei (some ⟨w.heap.size, 0, none⟩) n n (List.replicate n (.slice none 0 0)) (List.replicate n []) := by
  refine ⟨own_made w base eo n _ hb hm, by simp, ?_, ?_⟩
  · intro k v xs h1 h2
    rw [List.getElem?_replicate] at h1 h2
    split at h1
    · injection h1 with h1; subst h1
      rw [if_pos ‹_›] at h2
      injection h2 with h2; subst h2
      exact ⟨none, 0, rfl, World.ownsRow_nil _ _ _ _⟩
    · cases h1
  · intro i j u v _ h1 h2 g hg
    rw [List.getElem?_replicate] at h1
    split at h1
    · injection h1 with h1; subst h1
      simp [Value.ownBlock] at hg
    · cases h1
theorem OwnRaces.nil (w : World) (base eo ei : Nat) : OwnRaces w base eo ei none 0 0 [] [] :=
  ⟨World.ownsRow_nil _ _ _ _, rfl, fun k v xs h => by simp at h, fun i j u v _ h => by simp at h⟩
theorem OwnRaces.empty (w : World) (base eo ei : Nat) (hb : base ≤ w.heap.size) : OwnRaces (w.alloc (.cells #[] eo)) base eo ei (some ⟨w.heap.size, 0, none⟩) 0 0 [] [] :=
  ⟨own_empty w base eo hb, rfl, fun k v xs h => by simp at h, fun i j u v _ h => by simp at h⟩
/-- A row is appended. -/
theorem OwnRaces.append {w1 : World} {A1 : Option Addr} {c1 : Nat} (h : OwnRaces w base eo ei A n c vs rows) (hne : eo ≠ ei) {A' : Option Addr} {c' : Nat} {ys : List FinishT}
    (hy : w.ownsRow base ei 3 (.slice A' ys.length c') ys.length (fins ys)) (hap : ∀ u ∈ vs, ∀ b, (Value.slice A' ys.length c').ownBlock = some b → u.ownBlock ≠ some b)
    (o : Obj) (hg : (w.alloc o).grownBy w1 (Value.slice A n c).ownBlock) (ho : w1.ownsRow base eo 1 (.slice A1 (n + 1) c1) (n + 1) (vs ++ [.slice A' ys.length c'])) :
    OwnRaces w1 base eo ei A1 (n + 1) c1 (vs ++ [.slice A' ys.length c']) (rows ++ [ys]) := by
  have keep : ∀ (u : Value) (m : Nat) (zs : List Value), w.ownsRow base ei 3 u m zs → w1.ownsRow base ei 3 u m zs := by
    intro u m zs hu
    refine (hu.alloc o).kept hg ?_
    rcases hb : u.ownBlock with _ | b
    · exact .inl rfl
    · exact .inr (fun he => own_type_ne h.outer hu hne b he.symm hb)
  refine ⟨ho, by simp [h.len], ?_, ?_⟩
  · intro i u zs h1 h2
    by_cases hi : i < n
    · rw [List.getElem?_append_left (by rw [h.vlen]; exact hi)] at h1
      rw [List.getElem?_append_left (by rw [h.len]; exact hi)] at h2
      obtain ⟨A'', c'', e, hr⟩ := h.row i u zs h1 h2
      exact ⟨A'', c'', e, keep _ _ _ hr⟩
    · rw [List.getElem?_append_right (by rw [h.vlen]; omega), h.vlen] at h1
      rw [List.getElem?_append_right (by rw [h.len]; omega), h.len] at h2
      have h0 : i - n = 0 := by
        rcases Nat.eq_zero_or_pos (i - n) with h | h
        · exact h
        · rw [List.getElem?_eq_none (by simp; omega)] at h1; cases h1
      rw [h0] at h1 h2
      simp at h1 h2
      subst h1; subst h2
      exact ⟨A', c', rfl, keep _ _ _ hy⟩
  · intro i j u v hij h1 h2 b hb
    have split : ∀ (q : Nat) (x : Value), (vs ++ [Value.slice A' ys.length c'])[q]? = some x → (q < n ∧ vs[q]? = some x) ∨ (q = n ∧ x = .slice A' ys.length c') := by
      intro q x hx
      by_cases hq : q < n
      · rw [List.getElem?_append_left (by rw [h.vlen]; exact hq)] at hx; exact .inl ⟨hq, hx⟩
      · rw [List.getElem?_append_right (by rw [h.vlen]; omega), h.vlen] at hx
        have h0 : q - n = 0 := by
          rcases Nat.eq_zero_or_pos (q - n) with h | h
          · exact h
          · rw [List.getElem?_eq_none (by simp; omega)] at hx; cases hx
        rw [h0] at hx
        simp at hx
        exact .inr ⟨by omega, hx.symm⟩
    rcases split i u h1 with ⟨hi, hu⟩ | ⟨hi, rfl⟩ <;> rcases split j v h2 with ⟨hj, hv⟩ | ⟨hj, rfl⟩
    · exact h.apart i j u v hij hu hv b hb
    · exact fun hb' => hap u (List.mem_of_getElem? hu) b hb' hb
    · exact hap v (List.mem_of_getElem? hv) b hb
    · omega
end
end Go.Proofs.YtalgdeieejpelaaGreat

/- Walks: the laws' helpers on slices of races and on series: compare, mark, held. -/
namespace Go.Proofs.YtalgdeieejpelaaGreat
open Go.RowKit
set_option linter.unusedVariables false
set_option maxRecDepth 100000

theorem mixr_set {α : Type} (ys xs : List α) (j : Nat) (y : α) (hl : ys.length = xs.length) (hy : ys[j]? = some y) : (ys.take j ++ xs.drop j).set j y = ys.take (j + 1) ++ xs.drop (j + 1) := by
  have hj : j < ys.length := (List.getElem?_eq_some_iff.1 hy).1
  have hj' : j < xs.length := by omega
  rw [List.set_append, if_neg (by simp; omega), take_snoc_get hy, List.drop_eq_getElem_cons hj']
  have e : j - (ys.take j).length = 0 := by simp; omega
  rw [e, List.set_cons_zero, List.append_assoc]
  rfl
theorem mixr_get {α : Type} (ys xs : List α) (j : Nat) (hl : ys.length = xs.length) (hj : j < xs.length) : (ys.take j ++ xs.drop j)[j]? = xs[j]? := by
  rw [List.getElem?_append_right (by simp; omega)]
  have e : j - (ys.take j).length = 0 := by simp; omega
  rw [e, List.getElem?_drop]; simp
/-- All numbers of all races. -/
def raceSum : List (List FinishT) → Nat
  | [] => 0
  | x :: r => 3 * x.length + raceSum r
theorem raceSum_take_le (rows : List (List FinishT)) (j : Nat) : raceSum (rows.take j) ≤ raceSum rows := by
  induction rows generalizing j with
  | nil => simp
  | cons x r ih =>
    cases j with
    | zero => simp [raceSum]
    | succ j => simp only [List.take_succ_cons, raceSum]; have := ih j; omega
theorem raceSum_snoc (rows : List (List FinishT)) (x : List FinishT) : raceSum (rows ++ [x]) = raceSum rows + 3 * x.length := by
  induction rows with
  | nil => simp [raceSum]
  | cons y r ih => simp only [List.cons_append, raceSum, ih]; omega
def seqRaces (k : Int) : List (List FinishT) → List (List FinishT)
  | [] => []
  | x :: r => seqfin k x.length :: seqRaces (k + 3 * x.length) r
theorem seqRaces_length (k : Int) (rows : List (List FinishT)) : (seqRaces k rows).length = rows.length := by
  induction rows generalizing k with
  | nil => rfl
  | cons x r ih => simp [seqRaces, ih]
theorem seqRaces_get (k : Int) (rows : List (List FinishT)) (j : Nat) (x : List FinishT) (h : rows[j]? = some x) : (seqRaces k rows)[j]? = some (seqfin (k + raceSum (rows.take j)) x.length) := by
  induction rows generalizing k j with
  | nil => simp at h
  | cons y r ih =>
    cases j with
    | zero => simp at h; subst h; simp [seqRaces, raceSum]
    | succ j =>
      simp only [seqRaces, List.getElem?_cons_succ, List.take_succ_cons, raceSum]
      rw [ih _ _ (by simpa using h)]
      congr 2
      omega
/-! ### Series -/
/-- A new series and a code. -/
def RetSer (w : World) (b s : Int) (rows : List (List FinishT)) (code : Int) (e : Ending) (w' : World) : Prop :=
  ∃ A n c vs, e = .returned (.tuple #[.agg #[.int .i64 b, .int .i64 s, .slice A n c], .int .i64 code]) ∧ OwnRaces w' w.heap.size 90 128 A n c vs rows ∧ raceSum rows ≤ 1048576 ∧ Below w.heap.size w w'
/-- A new series. -/
def RetSer1 (w : World) (b s : Int) (rows : List (List FinishT)) (e : Ending) (w' : World) : Prop :=
  ∃ A n c vs, e = .returned (.agg #[.int .i64 b, .int .i64 s, .slice A n c]) ∧ OwnRaces w' w.heap.size 90 128 A n c vs rows ∧ raceSum rows ≤ 1048576 ∧ Below w.heap.size w w'
end Go.Proofs.YtalgdeieejpelaaGreat

/- Plain memory: a row is appended to both columns of a table of one's own. -/
namespace Go.Proofs.YtalgdeieejpelaaGreat
open Go.RowKit
set_option linter.unusedVariables false

theorem OwnRows.grown {w w' : World} {base eo ei n c : Nat} {A : Option Addr} {vs : List Value} {rows : List (List Int)} {r : Option Nat} (h : OwnRows w base eo ei A n c vs rows) (hg : w.grownBy w' r)
    (h1 : ∀ b, (Value.slice A n c).ownBlock = some b → r ≠ some b) (h2 : ∀ v ∈ vs, ∀ b, v.ownBlock = some b → r ≠ some b) : OwnRows w' base eo ei A n c vs rows := by
  have key : ∀ (u : Value) (e m : Nat) (zs : List Value), w.ownsRow base e 1 u m zs → (∀ b, u.ownBlock = some b → r ≠ some b) → w'.ownsRow base e 1 u m zs := by
    intro u e m zs hu hr
    refine hu.kept hg ?_
    rcases hb : u.ownBlock with _ | b
    · exact .inl rfl
    · exact .inr (fun he => hr b hb he.symm)
  exact ⟨key _ _ _ _ h.outer h1, h.len, fun i v xs e1 e2 => by
    obtain ⟨A', c', e, ho⟩ := h.row i v xs e1 e2
    exact ⟨A', c', e, key _ _ _ _ ho (h2 v (List.mem_of_getElem? e1))⟩, h.apart⟩
theorem OwnRows.row_ty {w : World} {base eo ei n c : Nat} {A : Option Addr} {vs : List Value} {rows : List (List Int)} (h : OwnRows w base eo ei A n c vs rows) {v : Value} (hv : v ∈ vs) : ∃ m zs, w.ownsRow base ei 1 v m zs := by
  obtain ⟨k, hk⟩ := List.mem_iff_getElem?.1 hv
  have hkn : k < n := by have := (List.getElem?_eq_some_iff.1 hk).1; rw [h.vlen] at this; exact this
  obtain ⟨u, A2, c2, xs, h1, h2, _, e, ho⟩ := h.get hkn
  obtain rfl : v = u := by rw [hk] at h1; injection h1
  exact ⟨_, _, by rw [e]; exact ho⟩
/-- A row is appended to own rows: where all lies. -/
structure Pushed (wr w' : World) (base : Nat) (A : Option Addr) (n c : Nat) (vs : List Value) (rows : List (List Int)) (ga ca g1 c1 : Nat) (p : List Int) : Prop where
  own : OwnRows w' base 25 2 (some ⟨ga, 0, none⟩) (n + 1) ca (vs ++ [.slice (some ⟨g1, 0, none⟩) p.length c1]) (rows ++ [p])
  lies : (Value.slice A n c).ownBlock = some ga ∨ wr.heap.size ≤ ga
  new : wr.heap.size ≤ g1 ∧ g1 < w'.heap.size
  ltA : ga < w'.heap.size
  size : wr.heap.size ≤ w'.heap.size
  keep : ∀ b, b < wr.heap.size → (Value.slice A n c).ownBlock ≠ some b → w'.heap[b]? = wr.heap[b]?
  frame : w'.os = wr.os ∧ w'.tape = wr.tape ∧ w'.output = wr.output
theorem push_row {wr wq w5 : World} {base b1 n c ga ca g1 c1 : Nat} {A : Option Addr} {vs : List Value} {rows : List (List Int)} {p : List Int} {o1 : Obj} (h : OwnRows wr base 25 2 A n c vs rows) (hbs : base ≤ wr.heap.size)
    (hb : Below wr.heap.size wr wq) (og : wq.ownsRow b1 2 1 (.slice (some ⟨g1, 0, none⟩) p.length c1) p.length (ints p)) (hg1 : wr.heap.size ≤ g1) (hb1 : base ≤ b1)
    (hga : (wq.alloc o1).grownBy w5 (Value.slice A n c).ownBlock) (ho : w5.ownsRow base 25 1 (.slice (some ⟨ga, 0, none⟩) (n + 1) ca) (n + 1) (vs ++ [.slice (some ⟨g1, 0, none⟩) p.length c1]))
    (hla : (Value.slice A n c).ownBlock = some ga ∨ ga = (wq.alloc o1).heap.size) : Pushed wr w5 base A n c vs rows ga ca g1 c1 p := by
  have hin := h.in_
  have hs := hb.size
  have hs5 := hga.size
  simp only [World.size_alloc] at hs5
  have hlt := (og.lt g1 rfl).2
  refine ⟨OwnRows.append (h.below hb) (by decide) (own_base og hb1) (fun u hu b hb' hub => ?_) o1 hga ho, ?_, ⟨hg1, by omega⟩, (ho.lt ga rfl).2, by omega, fun b hbl hne => ?_, ⟨hga.os.trans hb.os, hga.tape.trans hb.tape, hga.output.trans hb.output⟩⟩
  · have e : b = g1 := by simp [Value.ownBlock] at hb'; exact hb'.symm
    have := hin.2 u hu b hub
    omega
  · rcases hla with hla | hla
    · exact .inl hla
    · right; rw [hla]; simp; omega
  · have h2 := hga.block b (by simp; omega) (fun e => hne e.symm)
    rw [h2, ((Below.refl _ wq).alloc (Nat.le_refl _) o1).block b (by omega)]
    exact hb.block b hbl
/-- .. the world ahead of the append however it came about. -/
theorem push_row0 {wr wd w5 : World} {base b1 n c ga ca g1 c1 : Nat} {A : Option Addr} {vs : List Value} {rows : List (List Int)} {p : List Int} (h : OwnRows wr base 25 2 A n c vs rows) (hbs : base ≤ wr.heap.size)
    (hb : Below wr.heap.size wr wd) (og : wd.ownsRow b1 2 1 (.slice (some ⟨g1, 0, none⟩) p.length c1) p.length (ints p)) (hg1 : wr.heap.size ≤ g1) (hb1 : base ≤ b1)
    (hga : wd.grownBy w5 (Value.slice A n c).ownBlock) (ho : w5.ownsRow base 25 1 (.slice (some ⟨ga, 0, none⟩) (n + 1) ca) (n + 1) (vs ++ [.slice (some ⟨g1, 0, none⟩) p.length c1]))
    (hla : (Value.slice A n c).ownBlock = some ga ∨ ga = wd.heap.size) : Pushed wr w5 base A n c vs rows ga ca g1 c1 p := by
  have hin := h.in_
  have hs := hb.size
  have hs5 := hga.size
  have hlt := (og.lt g1 rfl).2
  have hW := h.below hb
  have og0 := own_base og hb1
  refine ⟨⟨ho, by simp [h.len], ?_, ?_⟩, ?_, ⟨hg1, by omega⟩, (ho.lt ga rfl).2, by omega, fun b hbl hne => ?_, ⟨hga.os.trans hb.os, hga.tape.trans hb.tape, hga.output.trans hb.output⟩⟩
  · have keep : ∀ (u : Value) (m : Nat) (zs : List Value), wd.ownsRow base 2 1 u m zs → w5.ownsRow base 2 1 u m zs := by
      intro u m zs hu
      refine hu.kept hga ?_
      rcases hb : u.ownBlock with _ | b
      · exact .inl rfl
      · exact .inr (fun he => own_type_ne hW.outer hu (by decide) b he.symm hb)
    intro i u zs h1 h2
    by_cases hi : i < n
    · rw [List.getElem?_append_left (by rw [h.vlen]; exact hi)] at h1
      rw [List.getElem?_append_left (by rw [h.len]; exact hi)] at h2
      obtain ⟨A'', c'', e, hr⟩ := hW.row i u zs h1 h2
      exact ⟨A'', c'', e, keep _ _ _ hr⟩
    · rw [List.getElem?_append_right (by rw [h.vlen]; omega), h.vlen] at h1
      rw [List.getElem?_append_right (by rw [h.len]; omega), h.len] at h2
      have h0 : i - n = 0 := by
        rcases Nat.eq_zero_or_pos (i - n) with h | h
        · exact h
        · rw [List.getElem?_eq_none (by simp; omega)] at h1; cases h1
      rw [h0] at h1 h2
      simp at h1 h2
      subst h1; subst h2
      exact ⟨_, c1, rfl, keep _ _ _ og0⟩
  · intro i j u v hij h1 h2 b hb hb'
    have split : ∀ (q : Nat) (x : Value), (vs ++ [Value.slice (some ⟨g1, 0, none⟩) p.length c1])[q]? = some x → (q < n ∧ vs[q]? = some x) ∨ (q = n ∧ x = .slice (some ⟨g1, 0, none⟩) p.length c1) := by
      intro q x hx
      by_cases hq : q < n
      · rw [List.getElem?_append_left (by rw [h.vlen]; exact hq)] at hx; exact .inl ⟨hq, hx⟩
      · rw [List.getElem?_append_right (by rw [h.vlen]; omega), h.vlen] at hx
        have h0 : q - n = 0 := by
          rcases Nat.eq_zero_or_pos (q - n) with h | h
          · exact h
          · rw [List.getElem?_eq_none (by simp; omega)] at hx; cases hx
        rw [h0] at hx
        simp at hx
        exact .inr ⟨by omega, hx.symm⟩
    have isg : ∀ b, (Value.slice (some ⟨g1, 0, none⟩) p.length c1).ownBlock = some b → b = g1 := fun b e => by simp [Value.ownBlock] at e; exact e.symm
    rcases split i u h1 with ⟨hi, hu⟩ | ⟨hi, rfl⟩ <;> rcases split j v h2 with ⟨hj, hv⟩ | ⟨hj, rfl⟩
    · exact h.apart i j u v hij hu hv b hb hb'
    · have := (hin.2 u (List.mem_of_getElem? hu) b hb).2; have := isg b hb'; omega
    · have := (hin.2 v (List.mem_of_getElem? hv) b hb').2; have := isg b hb; omega
    · omega
  · rcases hla with hla | hla
    · exact .inl hla
    · right; omega
  · have h2 := hga.block b (by omega) (fun e => hne e.symm)
    rw [h2]
    exact hb.block b hbl
/-- Both columns, one behind the other. -/
theorem push_two {wr w5 w9 : World} {base n c d ga ca gb cb g1 c1 g2 c2 : Nat} {A C : Option Addr} {vs us : List Value} {pts cds : List (List Int)} {B : Int} {p q : List Int}
    (h : OwnT wr base A n c vs C n d us ⟨B, pts, cds⟩) (hbs : base ≤ wr.heap.size)
    (h1 : Pushed wr w5 base A n c vs pts ga ca g1 c1 p)
    (h2 : OwnRows w5 base 25 2 C n d us cds → Pushed w5 w9 base C n d us cds gb cb g2 c2 q) :
    OwnT w9 base (some ⟨ga, 0, none⟩) (n + 1) ca (vs ++ [.slice (some ⟨g1, 0, none⟩) p.length c1]) (some ⟨gb, 0, none⟩) (n + 1) cb (us ++ [.slice (some ⟨g2, 0, none⟩) q.length c2]) ⟨B, pts ++ [p], cds ++ [q]⟩ := by
  have hpi := h.pts.in_
  have hci := h.cds.in_
  have hg5 : wr.grownBy w5 (Value.slice A n c).ownBlock := ⟨h1.frame.1, h1.frame.2.1, h1.frame.2.2, h1.size, fun k hk hn => h1.keep k hk (fun e => hn e.symm)⟩
  have hcd5 : OwnRows w5 base 25 2 C n d us cds := h.cds.grown hg5 (fun b hb e => h.apO b e hb) (fun v hv b hb e => by
    obtain ⟨m, zs, ho⟩ := h.cds.row_ty hv
    exact own_type_ne h.pts.outer ho (by decide) b e hb)
  have h2 := h2 hcd5
  have hg9 : w5.grownBy w9 (Value.slice C n d).ownBlock := ⟨h2.frame.1, h2.frame.2.1, h2.frame.2.2, h2.size, fun k hk hn => h2.keep k hk (fun e => hn e.symm)⟩
  have hne : ∀ b, (Value.slice C n d).ownBlock = some b → ga ≠ b := by
    rintro b hb rfl
    rcases h1.lies with e | e
    · exact h.apO ga e hb
    · have := (hci.1 ga hb).2; omega
  refine ⟨h1.own.grown hg9 (fun b hb e => ?_) (fun v hv b hb e => ?_), h2.own, ?_, ?_⟩
  · have e2 : ga = b := by simp [Value.ownBlock] at hb; exact hb
    exact hne b e e2
  · obtain ⟨m, zs, ho⟩ := h1.own.row_ty hv
    exact own_type_ne hcd5.outer ho (by decide) b e hb
  · intro g hg hg'
    have e1 : ga = g := by simpa [Value.ownBlock] using hg
    have e2 : gb = g := by simpa [Value.ownBlock] using hg'
    rcases h2.lies with e | e
    · exact hne gb e (by omega)
    · have := h1.ltA; omega
  · intro v hv u hu g hg hg'
    have hgl : g < w5.heap.size := by
      obtain ⟨m, zs, ho⟩ := h1.own.row_ty hv
      exact (ho.lt g hg).2
    rcases List.mem_append.1 hu with hu | hu
    · rcases List.mem_append.1 hv with hv | hv
      · exact h.apR v hv u hu g hg hg'
      · simp at hv; subst hv
        have e1 : g1 = g := by simpa [Value.ownBlock] using hg
        have := (hci.2 u hu g hg').2
        have := h1.new.1
        omega
    · simp at hu; subst hu
      have e1 : g2 = g := by simpa [Value.ownBlock] using hg'
      have := h2.new.1
      omega
theorem Pushed.below {wr w' : World} {base n c ga ca g1 c1 : Nat} {A : Option Addr} {vs : List Value} {rows : List (List Int)} {p : List Int} (h : Pushed wr w' base A n c vs rows ga ca g1 c1 p) (ho : OwnRows wr base 25 2 A n c vs rows) (hb : base ≤ wr.heap.size) : Below base wr w' :=
  ⟨h.frame.1, h.frame.2.1, h.frame.2.2, h.size, fun k hk => h.keep k (by omega) (fun e => by have := (ho.in_.1 k e).1; omega)⟩
end Go.Proofs.YtalgdeieejpelaaGreat

/- Appending to an own slice of races. -/
namespace Go.Proofs.YtalgdeieejpelaaGreat
open Go.RowKit
set_option linter.unusedVariables false
set_option maxRecDepth 100000

theorem Tryz.info_race : (Tryz.prog.info? 90).map (fun i => (i.zero, i.size, i.bytes)) = some (some (.agg #[.slice none 0 0]), 1, 24) := by kernel_rfl

theorem app_race {ops : Array Oper} {rest : List Oper} {o : Oper} {a : Act} {Q : Exit → Act → World → Prop} (w : World) (hgd : o.guard = none) (s x : Operand)
    (ho : o.op = .call { callee := .builtin .append, args := #[s, x], argTypes := #[56, 56] }) {base n c : Nat} {A : Option Addr} {vs : List Value}
    (hs : a.eval s = .slice A n c) (hown : w.ownsRow base 90 1 (.slice A n c) n vs) {ad : Addr} {B : Option Addr} {m d : Nat} (hx : a.eval x = .slice (some ad) 1 1)
    (hc : w.cell? ad = some (.slice B m d)) (hn : n ≤ 1099511627776) (hbase : base ≤ w.heap.size)
    (h : ∀ A' c' w', w'.ownsRow base 90 1 (.slice A' (n + 1) c') (n + 1) (vs ++ [.slice B m d]) → w.grownBy w' (Value.slice A n c).ownBlock → wpList Tryz.prog ops Q rest (a.put o.dst (.slice A' (n + 1) c')) w') :
    wpList Tryz.prog ops Q (o :: rest) a w := by
  obtain ⟨i, hi, hz, hs1, hb1⟩ := info_parts Tryz.info_race
  refine wpList_append_own w hgd s x 56 ho base 90 i (.agg #[.slice none 0 0]) 1 24 Tryz.underlying56 hi hz hs1 hb1 rfl (by decide) (.slice A n c) n vs hs hown ad 1 1 [.slice B m d] hx rfl ?_ ?_ (by unfold maxLen; omega) (by omega) hbase ?_
  · intro j u hu
    have hj : j = 0 := by
      rcases j with _ | j
      · rfl
      · simp at hu
    subst hj
    have hadd : ad.add 0 = ad := by simp [Addr.add]
    rw [hadd, hc]
    simpa using hu
  · intro u hu
    simp at hu
    subst hu
    rfl
  · intro v' w' h1 h2 _
    rcases h1.2 with ⟨rfl, h0⟩ | ⟨g, cap, cur, rfl, _⟩
    · omega
    · exact h _ _ w' h1 h2
end Go.Proofs.YtalgdeieejpelaaGreat

/- What a law is told of a slice of structs of integers that came in. No Go function in sight. -/
namespace Go.Proofs.YtalgdeieejpelaaGreat
open Go.RowKit Go.ChangeShapes Go.WideShapes Go.Deep Go.Joins
set_option linter.unusedVariables false
set_option maxRecDepth 100000

theorem list_of {P : Nat → Int → Prop} (m : Nat) (h : ∀ q, q < m → ∃ z, P q z) : ∃ zs : List Int, zs.length = m ∧ ∀ q z, zs[q]? = some z → P q z := by
  induction m with
  | zero => exact ⟨[], rfl, fun q z hq => by simp at hq⟩
  | succ m ih =>
    obtain ⟨zs, h1, h2⟩ := ih fun q hq => h q (by omega)
    obtain ⟨z, hz⟩ := h m (by omega)
    refine ⟨zs ++ [z], by simp [h1], fun q y hq => ?_⟩
    by_cases hlt : q < m
    · rw [List.getElem?_append_left (by omega)] at hq
      exact h2 q y hq
    · rw [List.getElem?_append_right (by omega)] at hq
      have hq0 : q - zs.length = 0 := by
        rcases Nat.eq_zero_or_pos (q - zs.length) with h | h
        · exact h
        · rw [List.getElem?_eq_none (by simp; omega)] at hq; cases hq
      rw [hq0] at hq
      simp at hq
      obtain rfl : q = m := by omega
      rw [← hq]; exact hz
section
variable {H : Type} {enc : TypeId × Value → H} {P : Program} {w : World} {base : Nat} {spare : Nat → Bool} {held : Bool}
theorem rd_structs {t e : TypeId} {fs : Array Field} {fuel s : Nat} {A : Option Addr} {len cap : Nat} {x : DataW H × List MemPlace} (ht : P.underlying t = some (.slice e)) (he : P.underlying e = some (.struct fs)) (hone : oneCellFields P fs = true)
    (hC : P.cellsOf e = s) (hfs : fs.size = s) (hpos : 0 < s) (hint : ∀ (j : Nat) (f : Field), fs[j]? = some f → P.underlying f.type = some (.int .i64)) (h : DataW.trod enc P w base spare held fuel t [.slice A len cap] = some x) :
    ∃ zs, Rd w s A len (ints zs) := by
  rcases open_slice ht h with ⟨hcs, _⟩ | ⟨a, l, c, m, n, D, Pl, hcs, hb, hl, hm, hmm, hx, hi⟩
  · simp at hcs
    obtain ⟨rfl, rfl, rfl⟩ := hcs
    exact ⟨[], by simp [ints], by omega, fun h => by omega⟩
  · simp at hcs
    obtain ⟨rfl, rfl, rfl⟩ := hcs
    have hlm : len ≤ m := by rw [hmm]; split <;> omega
    have key : ∀ q, q < len * s → ∃ z, w.cell? ((a.add (q / s * s)).add (q % s)) = some (.int .i64 z) := by
      intro q hq
      have hqs : q / s < len := Nat.div_lt_of_lt_mul (by rw [Nat.mul_comm]; exact hq)
      have hj : q % s < s := Nat.mod_lt q hpos
      obtain ⟨cs', hc, ht'⟩ := hi (q / s) (by omega)
      rw [hC] at hc
      obtain ⟨ys, n', _, _, hlen, hyl, hf⟩ := DataW.trod_struct he ht'
      obtain ⟨_, hcl, hat⟩ := World.cells?_some hc
      generalize q % s = j at *
      have hfj : fs[j]? = some (fs[j]'(by omega)) := Array.getElem?_eq_getElem (by omega)
      obtain ⟨ho, hk⟩ := hone_of hone j _ hfj
      have h1 := hf j _ hfj
      have hcj : cs'[j]? = some (cs'[j]'(by omega)) := List.getElem?_eq_getElem (by omega)
      have hyj : ys[j]? = some (ys[j]'(by omega)) := List.getElem?_eq_getElem (by omega)
      rw [ho, hk, List.drop_eq_getElem_cons (by omega), hyj] at h1
      obtain ⟨z, hz, _⟩ := DataW.trod_int (hint j _ hfj) h1
      simp only [List.take_succ_cons, List.take_zero, List.cons.injEq, and_true] at hz
      exact ⟨z, by rw [hat j hj, hcj, hz]⟩
    obtain ⟨zs, hz1, hz2⟩ := list_of (len * s) key
    unfold maxLen at hm
    refine ⟨zs, by rw [ints_length, hz1], by omega, fun h0 => ?_⟩
    have h00 : 0 < len * s := Nat.mul_pos h0 hpos
    obtain ⟨z0, hz0⟩ := key 0 h00
    have e0 : (a.add (0 / s * s)).add (0 % s) = a := by simp [Addr.add]
    rw [e0] at hz0
    obtain ⟨b, o, sp⟩ := a
    obtain rfl : sp = none := spot_none hz0
    refine ⟨b, o, rfl, fun i u hu => ?_⟩
    have hil : i < zs.length := by have := (List.getElem?_eq_some_iff.1 hu).1; rwa [ints_length] at this
    have hzi : zs[i]? = some zs[i] := List.getElem?_eq_getElem hil
    rw [ints_get hzi] at hu
    injection hu with hu
    subst hu
    have hc := hz2 i _ hzi
    have hadd : ∀ o k : Nat, (⟨b, o, none⟩ : Addr).add k = ⟨b, o + k, none⟩ := by intro o k; unfold Addr.add; split <;> simp_all
    rw [hadd, hadd] at hc
    rw [← hc]
    congr 2
    have := Nat.div_add_mod i s
    rw [Nat.mul_comm] at this
    omega
end
/-- Integers in groups of s. -/
def groupsOf {α : Type} (f : List Int → α) (s : Nat) : Nat → List Int → List α
  | 0, _ => []
  | n + 1, zs => f (zs.take s) :: groupsOf f s n (zs.drop s)
theorem groupsOf_flat {α : Type} {f : List Int → α} {g : α → List Value} {s : Nat} (hf : ∀ zs : List Int, zs.length = s → g (f zs) = ints zs) : ∀ (n : Nat) (zs : List Int), zs.length = n * s → (groupsOf f s n zs).flatMap g = ints zs := by
  intro n
  induction n with
  | zero =>
    intro zs h
    obtain rfl : zs = [] := List.eq_nil_of_length_eq_zero (by omega)
    rfl
  | succ n ih =>
    intro zs h
    have h' : zs.length = n * s + s := by rw [h, Nat.add_mul, Nat.one_mul]
    rw [groupsOf, List.flatMap_cons, ih _ (by rw [List.length_drop, h']; omega), hf _ (by rw [List.length_take, h']; omega), ← ints_append, List.take_append_drop]
end Go.Proofs.YtalgdeieejpelaaGreat

/- What a law is told of an entry, of a list of entries and of a register that came in. -/
namespace Go.Proofs.YtalgdeieejpelaaGreat
open Go.RowKit Go.ChangeShapes Go.WideShapes Go.Deep Go.Joins
set_option linter.unusedVariables false
set_option maxRecDepth 100000

def sevenOf (zs : List Int) : EntryT := (zs.getD 0 0, zs.getD 1 0, zs.getD 2 0, zs.getD 3 0, zs.getD 4 0, zs.getD 5 0, zs.getD 6 0)
theorem sevenOf_ent (zs : List Int) (h : zs.length = 7) : entC (sevenOf zs) = ints zs := by
  match zs, h with
  | [x0, x1, x2, x3, x4, x5, x6], _ => rfl
theorem ents_of {H : Type} {enc : TypeId × Value → H} {w : World} {base fuel : Nat} {spare : Nat → Bool} {held : Bool} {A : Option Addr} {len cap : Nat} {x : DataW H × List MemPlace}
    (h : DataW.trod enc Tryz.prog w base spare held fuel 22 [.slice A len cap] = some x) : ∃ xs, Rd w 7 A len (ents xs) := by
  obtain ⟨zs, hz⟩ := rd_structs (s := 7) Tryz.underlying22 Tryz.underlying112 (by kernel_rfl) (by kernel_rfl) rfl (by decide) (fun j f hj => by
    match j, hj with
    | 0, hj => simp at hj; subst hj; exact Tryz.underlying2
    | 1, hj => simp at hj; subst hj; exact Tryz.underlying2
    | 2, hj => simp at hj; subst hj; exact Tryz.underlying2
    | 3, hj => simp at hj; subst hj; exact Tryz.underlying2
    | 4, hj => simp at hj; subst hj; exact Tryz.underlying2
    | 5, hj => simp at hj; subst hj; exact Tryz.underlying2
    | 6, hj => simp at hj; subst hj; exact Tryz.underlying2
    | j + 7, hj => simp at hj) h
  have hl : zs.length = len * 7 := by have := hz.len; rwa [ints_length] at this
  exact ⟨groupsOf sevenOf 7 len zs, by unfold ents; rw [groupsOf_flat sevenOf_ent len zs hl]; exact hz⟩
theorem entSlice_at {H : Type} {enc : TypeId × Value → H} {w : World} {base fuel : Nat} {spare : Nat → Bool} {held : Bool} {v : Value} {x : DataW H × List MemPlace}
    (h : DataW.trod enc Tryz.prog w base spare held fuel 22 [v] = some x) : ∃ (A : Option Addr) (len cap : Nat) (zs : List EntryT), v = .slice A len cap ∧ Rd w 7 A len (ents zs) := by
  have h1 := h
  rcases DataW.trod_slice Tryz.underlying22 h with h3 | h3
  · obtain ⟨e2, _⟩ := h3
    injection e2 with e2
    subst e2
    exact ⟨none, 0, 0, [], rfl, by simp [ents], by omega, fun h => by omega⟩
  · obtain ⟨a, len, cap, _, _, _, _, e2, _⟩ := h3
    injection e2 with e2
    subst e2
    obtain ⟨ys, hy⟩ := ents_of h1
    exact ⟨some a, len, cap, ys, rfl, hy⟩
theorem register_of {H : Type} {enc : TypeId × Value → H} {w : World} {base : Nat} {spare : Nat → Bool} {held : Bool} {r : Reach} {b0 : Nat} {v : Value} {d : DataW H} {p : List MemPlace}
    (hv : Value.okWide Tryz.prog w r b0 24 v) (h : DataW.Trod enc Tryz.prog w base spare held 24 v d p) :
    ∃ (b s : Int) (A : Option Addr) (n c : Nat) (xs : List EntryT), v = .agg #[.int .i64 b, .int .i64 s, .slice A n c] ∧ Rd w 7 A n (ents xs) := by
  obtain ⟨v0, v1, v2, y0, y1, y2, m, rfl, _, _, h0, h1, h2⟩ := open_agg3 Tryz.underlying24 (by kernel_rfl) (by kernel_rfl) hv h
  obtain ⟨B, e0, _, _⟩ := DataW.trod_int Tryz.underlying2 h0
  injection e0 with e0
  subst e0
  obtain ⟨S, e1, _, _⟩ := DataW.trod_int Tryz.underlying2 h1
  injection e1 with e1
  subst e1
  obtain ⟨A, n, c, xs, rfl, hx⟩ := entSlice_at h2
  exact ⟨B, S, A, n, c, xs, rfl, hx⟩
theorem array7 {α : Type} {cs : Array α} (h : cs.size = 7) : ∃ c0 c1 c2 c3 c4 c5 c6, cs = #[c0, c1, c2, c3, c4, c5, c6] := by
  obtain ⟨l⟩ := cs
  match l, h with
  | [c0, c1, c2, c3, c4, c5, c6], _ => exact ⟨c0, c1, c2, c3, c4, c5, c6, rfl⟩
theorem entry_of {H : Type} {enc : TypeId × Value → H} {w : World} {base : Nat} {spare : Nat → Bool} {held : Bool} {r : Reach} {b0 : Nat} {v : Value} {d : DataW H} {p : List MemPlace}
    (hv : Value.okWide Tryz.prog w r b0 112 v) (h : DataW.Trod enc Tryz.prog w base spare held 112 v d p) :
    ∃ (x0 x1 x2 x3 x4 x5 x6 : Int), v = .agg #[.int .i64 x0, .int .i64 x1, .int .i64 x2, .int .i64 x3, .int .i64 x4, .int .i64 x5, .int .i64 x6] := by
  obtain ⟨cs, rfl, hsz⟩ := okWide_struct Tryz.underlying112 hv
  obtain ⟨c0, c1, c2, c3, c4, c5, c6, rfl⟩ := array7 (hsz.trans (by kernel_rfl))
  obtain ⟨fuel, hf⟩ := h
  obtain ⟨xs, n, _, _, hl, hlen, hf⟩ := DataW.trod_struct Tryz.underlying112 hf
  have hC : Tryz.prog.cellsOf 2 = 1 := by kernel_rfl
  match xs, hlen with
  | [y0, y1, y2, y3, y4, y5, y6], _ =>
    have h0 : DataW.trod enc Tryz.prog w base spare held n 2 [c0] = some y0 := by simpa [hC, Value.cells] using hf 0 _ rfl
    obtain ⟨x0, e0, _, _⟩ := DataW.trod_int Tryz.underlying2 h0
    injection e0 with e0
    subst e0
    have h1 : DataW.trod enc Tryz.prog w base spare held n 2 [c1] = some y1 := by simpa [hC, Value.cells] using hf 1 _ rfl
    obtain ⟨x1, e1, _, _⟩ := DataW.trod_int Tryz.underlying2 h1
    injection e1 with e1
    subst e1
    have h2 : DataW.trod enc Tryz.prog w base spare held n 2 [c2] = some y2 := by simpa [hC, Value.cells] using hf 2 _ rfl
    obtain ⟨x2, e2, _, _⟩ := DataW.trod_int Tryz.underlying2 h2
    injection e2 with e2
    subst e2
    have h3 : DataW.trod enc Tryz.prog w base spare held n 2 [c3] = some y3 := by simpa [hC, Value.cells] using hf 3 _ rfl
    obtain ⟨x3, e3, _, _⟩ := DataW.trod_int Tryz.underlying2 h3
    injection e3 with e3
    subst e3
    have h4 : DataW.trod enc Tryz.prog w base spare held n 2 [c4] = some y4 := by simpa [hC, Value.cells] using hf 4 _ rfl
    obtain ⟨x4, e4, _, _⟩ := DataW.trod_int Tryz.underlying2 h4
    injection e4 with e4
    subst e4
    have h5 : DataW.trod enc Tryz.prog w base spare held n 2 [c5] = some y5 := by simpa [hC, Value.cells] using hf 5 _ rfl
    obtain ⟨x5, e5, _, _⟩ := DataW.trod_int Tryz.underlying2 h5
    injection e5 with e5
    subst e5
    have h6 : DataW.trod enc Tryz.prog w base spare held n 2 [c6] = some y6 := by simpa [hC, Value.cells] using hf 6 _ rfl
    obtain ⟨x6, e6, _, _⟩ := DataW.trod_int Tryz.underlying2 h6
    injection e6 with e6
    subst e6
    exact ⟨x0, x1, x2, x3, x4, x5, x6, rfl⟩
end Go.Proofs.YtalgdeieejpelaaGreat

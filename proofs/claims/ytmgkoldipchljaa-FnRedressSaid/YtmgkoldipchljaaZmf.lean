/- General and plain lemmas, and light walks (merged): Fs Md Me Wd Web Ds Mi Wy Tb Tp Fw Ap Ta Tk Yp Co. -/
import Derived.Test.YtmgkoldipchljaaZma
import Derived.StillTailTactics
import Derived.Deep.RegionHeld3
import Derived.Deep.AppendLies
import Derived.Below
import Derived.Lib.BufferMore
/- Walks: the laws' helpers on slices of Finish. -/
namespace Go.Proofs.Ytmgkoldipchljaa
open Go.RowKit
set_option linter.unusedVariables false
set_option maxRecDepth 100000

abbrev FinishT := Int × Int × Int
def finC (p : FinishT) : List Value := [.int .i64 p.1, .int .i64 p.2.1, .int .i64 p.2.2]
theorem finC_len (p : FinishT) : (finC p).length = 3 := rfl
def fins (xs : List FinishT) : List Value := xs.flatMap finC
theorem zeroS3 (v : Value) (i : Nat) (h : i < (#[v, v, v] : Array Value).size) : (#[v, v, v] : Array Value)[i]! = v := by
  have : i = 0 ∨ i = 1 ∨ i = 2 := by simp at h; omega
  rcases this with rfl | rfl | rfl <;> rfl
theorem Rd.fin {w : World} {A : Option Addr} {n k : Nat} {xs : List FinishT} (h : Rd w 3 A n (fins xs)) (hk : k < n) :
    ∃ b o x0 x1 x2, A = some ⟨b, o, none⟩ ∧ xs[k]? = some (x0, x1, x2) ∧ xs.drop k = (x0, x1, x2) :: xs.drop (k + 1) ∧ w.cell? ⟨b, o + k * 3, none⟩ = some (.int .i64 x0) ∧ w.cell? ⟨b, o + k * 3 + 1, none⟩ = some (.int .i64 x1) ∧ w.cell? ⟨b, o + k * 3 + 2, none⟩ = some (.int .i64 x2) := by
  obtain ⟨b, o, ⟨x0, x1, x2⟩, e, h1, h2, h3⟩ := Rd.flat finC_len (by decide) h hk
  exact ⟨b, o, x0, x1, x2, e, h1, h2, h3 0 _ rfl, h3 1 _ rfl, h3 2 _ rfl⟩
theorem Rd.len_fin {w : World} {A : Option Addr} {n : Nat} {xs : List FinishT} (h : Rd w 3 A n (fins xs)) : xs.length = n := Rd.len_flat finC_len (by decide) h
theorem own_fin_at {w : World} {base e n c k : Nat} {A : Option Addr} {xs : List FinishT} (h : w.ownsRow base e 3 (.slice A n c) n (fins xs)) (hk : k < n) :
    ∃ g x0 x1 x2, A = some ⟨g, 0, none⟩ ∧ base ≤ g ∧ g < w.heap.size ∧ xs[k]? = some (x0, x1, x2) ∧ xs.drop k = (x0, x1, x2) :: xs.drop (k + 1) ∧ w.cell? ⟨g, k * 3, none⟩ = some (.int .i64 x0) ∧ w.cell? ⟨g, k * 3 + 1, none⟩ = some (.int .i64 x1) ∧ w.cell? ⟨g, k * 3 + 2, none⟩ = some (.int .i64 x2) ∧ w.frozen? ⟨g, k * 3, none⟩ = false ∧ w.frozen? ⟨g, k * 3 + 1, none⟩ = false ∧ w.frozen? ⟨g, k * 3 + 2, none⟩ = false := by
  obtain ⟨g, ⟨x0, x1, x2⟩, e, h1, h2, h3, h4, h5, h6⟩ := own_flat finC_len (by decide) h hk
  exact ⟨g, x0, x1, x2, e, h1, h2, h3, h4, h5 0 _ rfl, h5 1 _ rfl, h5 2 _ rfl, h6 _, h6 _, h6 _⟩
theorem own_fin_set {w : World} {base e g n c k : Nat} {xs : List FinishT} (h : w.ownsRow base e 3 (.slice (some ⟨g, 0, none⟩) n c) n (fins xs)) (hk : k < n) (x0 x1 x2 : Int) :
    (((w.setCell ⟨g, k * 3, none⟩ (.int .i64 x0)).setCell ⟨g, k * 3 + 1, none⟩ (.int .i64 x1)).setCell ⟨g, k * 3 + 2, none⟩ (.int .i64 x2)).ownsRow base e 3 (.slice (some ⟨g, 0, none⟩) n c) n (fins (xs.set k (x0, x1, x2))) := by
  have h1 := own_put (finC (x0, x1, x2)) (k * 3) h
  unfold fins at h1
  rw [flat_put finC_len xs k (x0, x1, x2) (by rw [own_len_flat finC_len (by decide) h]; exact hk)] at h1
  exact h1
theorem Try.info_fin : (Try.prog.info? 95).map (fun i => (i.zero, i.size, i.bytes)) = some (some (.agg #[.int .i64 0, .int .i64 0, .int .i64 0]), 3, 24) := by kernel_rfl
theorem run_make_fin (n : Nat) (h : n ≤ 1048576) (w : World) :
    (Instr.makeSlice 91 (.int .i64 (n : Int)) (.int .i64 (n : Int))).run Try.prog w = .ok (.slice (some ⟨w.heap.size, 0, none⟩) n n) (w.alloc (.cells (madeCells #[.int .i64 0, .int .i64 0, .int .i64 0] (n * 3)) 95)) := by
  obtain ⟨i, hi, hz, hs, hb⟩ := info_parts Try.info_fin
  have hr := run_make (P := Try.prog) w 91 95 i (.agg #[.int .i64 0, .int .i64 0, .int .i64 0]) Try.underlying91 hi hz .i64 .i64 n n (by omega) (by omega) (by rw [hb]; omega) (by omega)
  rw [hs, Int.toNat_natCast] at hr
  exact hr
/-- The copy of such a slice. -/
def RetFinishS (w : World) (xs : List FinishT) (e : Ending) (w' : World) : Prop :=
  ∃ A n c, e = .returned (.slice A n c) ∧ w'.ownsRow w.heap.size 95 3 (.slice A n c) n (fins xs) ∧ n ≤ 1048576 ∧ Below w.heap.size w w'
section
variable {ops : Array Oper} {rest : List Oper} {o : Oper} {a : Act} {K : Act → World → Prop} {Q : Exit → Act → World → Prop} {E : Prop}
theorem app_fin (w : World) (hgd : o.guard = none) (s x : Operand)
    (ho : o.op = .call { callee := .builtin .append, args := #[s, x], argTypes := #[91, 91] }) {base n c : Nat} {A : Option Addr} {xs : List FinishT}
    (hs : a.eval s = .slice A n c) (hown : w.ownsRow base 95 3 (.slice A n c) n (fins xs)) {b : Nat} {x0 x1 x2 : Int} (hx : a.eval x = .slice (some ⟨b, 0, none⟩) 1 1)
    (hc : w.heap[b]? = some (.cells #[.int .i64 x0, .int .i64 x1, .int .i64 x2] 95 (0, 0))) (hn : n ≤ 1099511627776) (hbase : base ≤ w.heap.size)
    (h : ∀ g c' w', w'.ownsRow base 95 3 (.slice (some ⟨g, 0, none⟩) (n + 1) c') (n + 1) (fins (xs ++ [(x0, x1, x2)])) → w.grownBy w' (Value.slice A n c).ownBlock → ((Value.slice A n c).ownBlock = some g ∨ g = w.heap.size) → g < w'.heap.size → wpList Try.prog ops Q rest (a.put o.dst (.slice (some ⟨g, 0, none⟩) (n + 1) c')) w') :
    wpList Try.prog ops Q (o :: rest) a w := by
  obtain ⟨i, hi, hz, hs1, hb1⟩ := info_parts Try.info_fin
  have e : ∀ (ys : List FinishT), fins ys ++ [.int .i64 x0, .int .i64 x1, .int .i64 x2] = fins (ys ++ [(x0, x1, x2)]) := fun ys => by unfold fins; rw [List.flatMap_append]; rfl
  exact wpList_append_lies w hgd s x 91 ho base 95 i (.agg #[.int .i64 0, .int .i64 0, .int .i64 0]) 3 24 Try.underlying91 hi hz hs1 hb1 rfl (by decide) (.slice A n c) n (fins xs) hs hown ⟨b, 0, none⟩ 1 1 [.int .i64 x0, .int .i64 x1, .int .i64 x2] hx rfl (World.news_of_block (cs := #[.int .i64 x0, .int .i64 x1, .int .i64 x2]) hc)
    (by intro u hu; simp at hu; rcases hu with rfl | rfl | rfl <;> rfl) (by decide) (by unfold maxLen; omega) (by omega) hbase _ rfl (by rw [e]; exact h)
theorem step_fin (w : World) (hgd : o.guard = none) (s x : Operand)
    (ho : o.op = .call { callee := .builtin .append, args := #[s, x], argTypes := #[91, 91] }) {base n c : Nat} {A : Option Addr} {xs : List FinishT}
    (hs : a.eval s = .slice A n c) (hown : w.ownsRow base 95 3 (.slice A n c) n (fins xs)) {b : Nat} {x0 x1 x2 : Int} (hx : a.eval x = .slice (some ⟨b, 0, none⟩) 1 1)
    (hc : w.heap[b]? = some (.cells #[.int .i64 x0, .int .i64 x1, .int .i64 x2] 95 (0, 0))) (hn : n ≤ 1099511627776) (hbase : base ≤ w.heap.size)
    (h : ∀ g c' w', w'.ownsRow base 95 3 (.slice (some ⟨g, 0, none⟩) (n + 1) c') (n + 1) (fins (xs ++ [(x0, x1, x2)])) → w.grownBy w' (Value.slice A n c).ownBlock → ((Value.slice A n c).ownBlock = some g ∨ g = w.heap.size) → g < w'.heap.size → K (a.put o.dst (.slice (some ⟨g, 0, none⟩) (n + 1) c')) w') :
    if Region.wanted o (yielded ops a.tmps) = true then Oper.wp Try.prog o a w K Q else E := by
  obtain ⟨i, hi, hz, hs1, hb1⟩ := info_parts Try.info_fin
  have e : ∀ (ys : List FinishT), fins ys ++ [.int .i64 x0, .int .i64 x1, .int .i64 x2] = fins (ys ++ [(x0, x1, x2)]) := fun ys => by unfold fins; rw [List.flatMap_append]; rfl
  exact step_append_lies w hgd s x 91 ho base 95 i (.agg #[.int .i64 0, .int .i64 0, .int .i64 0]) 3 24 Try.underlying91 hi hz hs1 hb1 rfl (by decide) (.slice A n c) n (fins xs) hs hown ⟨b, 0, none⟩ 1 1 [.int .i64 x0, .int .i64 x1, .int .i64 x2] hx rfl (World.news_of_block (cs := #[.int .i64 x0, .int .i64 x1, .int .i64 x2]) hc)
    (by intro u hu; simp at hu; rcases hu with rfl | rfl | rfl <;> rfl) (by decide) (by unfold maxLen; omega) (by omega) hbase _ rfl (by rw [e]; exact h)
end
/-- Numbers in a row, 3 an element. -/
def seqfin (k : Int) : Nat → List FinishT
  | 0 => []
  | n + 1 => (k, k + 1, k + 2) :: seqfin (k + 3) n
theorem seqfin_len (k : Int) (n : Nat) : (seqfin k n).length = n := by
  induction n generalizing k with
  | zero => rfl
  | succ n ih => simp [seqfin, ih]
theorem seqfin_snoc (k : Int) (n : Nat) : seqfin k (n + 1) = seqfin k n ++ [(k + 3 * n, k + 3 * n + 1, k + 3 * n + 2)] := by
  induction n generalizing k with
  | zero => simp [seqfin]
  | succ n ih =>
    rw [seqfin, ih, seqfin, List.cons_append]
    congr 3
    simp only [Prod.mk.injEq]
    omega
theorem seqfin_get (k : Int) (n j : Nat) (h : j < n) : (seqfin k n)[j]? = some (k + 3 * (j : Int), k + 3 * (j : Int) + 1, k + 3 * (j : Int) + 2) := by
  induction n generalizing k j with
  | zero => omega
  | succ n ih =>
    cases j with
    | zero => simp [seqfin]
    | succ j =>
      rw [seqfin, List.getElem?_cons_succ, ih _ _ (by omega)]
      simp only [Option.some.injEq, Prod.mk.injEq]
      omega
theorem seqfin_step (k : Int) (j : Nat) (xs : List FinishT) (h : j < xs.length) : (seqfin k j ++ xs.drop j).set j (k + 3 * (j : Int), k + 3 * (j : Int) + 1, k + 3 * (j : Int) + 2) = seqfin k (j + 1) ++ xs.drop (j + 1) := by
  rw [List.set_append, if_neg (by simp [seqfin_len]), seqfin_snoc, List.drop_eq_getElem_cons h, seqfin_len, Nat.sub_self, List.set_cons_zero, List.append_assoc]
  rfl
end Go.Proofs.Ytmgkoldipchljaa

/- Plain functions: the source of numbers of the drawn laws: no Go in sight. -/
namespace Go.Proofs.Ytmgkoldipchljaa
open Go.RowKit
set_option linter.unusedVariables false

/-- The state of a source: how many bytes are used up, the seed. -/
abbrev St := Nat × Int
def fromGo : List Int → Int → Int
  | [], h => h
  | c :: r, h => fromGo r ((h * 53 + c) % 2147483647)
def fromF (code : List Int) : St := (0, fromGo (code.take 64) 61657)
theorem fromGo_bd (code : List Int) (h : Int) (h0 : 0 ≤ h) (h1 : h < 2147483647) : 0 ≤ fromGo code h ∧ fromGo code h < 2147483647 := by
  induction code generalizing h with
  | nil => exact ⟨h0, h1⟩
  | cons c r ih => exact ih _ (by omega) (by omega)
def stepH (h : Int) : Int := (h * 48271 + 23) % 2147483647
def nextF (code : List Int) (s : St) (n : Int) : Int × St :=
  if n ≤ 1 then (0, s)
  else if s.1 < code.length then
    ((if n ≤ 256 ∧ (s.1 + 1) % 2 = 0 then code.getD s.1 0 else stepH s.2 / 17 + code.getD s.1 0) % n, (s.1 + 1, stepH s.2))
  else (stepH s.2 / 17 % n, (s.1, stepH s.2))
theorem stepH_bd (h : Int) : 0 ≤ stepH h ∧ stepH h < 2147483647 := by unfold stepH; omega
theorem nextF_bd (code : List Int) (s : St) (n : Int) (hn : 1 ≤ n) : 0 ≤ (nextF code s n).1 ∧ (nextF code s n).1 < n := by
  unfold nextF
  split
  · exact ⟨Int.le_refl _, by omega⟩
  · split
    · exact ⟨Int.emod_nonneg _ (by omega), Int.emod_lt_of_pos _ (by omega)⟩
    · exact ⟨Int.emod_nonneg _ (by omega), Int.emod_lt_of_pos _ (by omega)⟩
theorem nextF_nonneg (code : List Int) (s : St) (n : Int) : 0 ≤ (nextF code s n).1 := by
  by_cases h : 1 ≤ n
  · exact (nextF_bd code s n h).1
  · unfold nextF; rw [if_pos (by omega)]; exact Int.le_refl _

/-- A valid state. -/
def StOk (code : List Int) (s : St) : Prop := s.1 ≤ code.length ∧ 0 ≤ s.2 ∧ s.2 < 2147483647
theorem nextF_ok (code : List Int) (s : St) (n : Int) (h : StOk code s) : StOk code (nextF code s n).2 := by
  have hb := stepH_bd s.2
  unfold nextF
  split
  · exact h
  · split
    · exact ⟨by simp; omega, hb.1, hb.2⟩
    · exact ⟨h.1, hb.1, hb.2⟩
theorem fromF_ok (code : List Int) : StOk code (fromF code) := ⟨Nat.zero_le _, fromGo_bd _ _ (by omega) (by omega)⟩
end Go.Proofs.Ytmgkoldipchljaa

/- Plain functions: drawn orders and fleets: no Go in sight. -/
namespace Go.Proofs.Ytmgkoldipchljaa
open Go.RowKit
set_option linter.unusedVariables false

def boatsD (code : List Int) (s : St) : Int × St :=
  if (nextF code s 24).1 = 0 then (16 * (nextF code (nextF code s 24).2 2).1, (nextF code (nextF code s 24).2 2).2)
  else (1 + (nextF code (nextF code s 24).2 6).1, (nextF code (nextF code s 24).2 6).2)
def kD (code : List Int) (s : St) : Int × St :=
  if (nextF code s 24).1 = 0 then (5 * (nextF code (nextF code s 24).2 2).1, (nextF code (nextF code s 24).2 2).2)
  else (1 + (nextF code (nextF code s 24).2 4).1, (nextF code (nextF code s 24).2 4).2)
theorem boatsD_bd (code : List Int) (s : St) : 0 ≤ (boatsD code s).1 ∧ (boatsD code s).1 ≤ 16 := by
  unfold boatsD
  split
  · have := nextF_bd code (nextF code s 24).2 2 (by omega); simp only; omega
  · have := nextF_bd code (nextF code s 24).2 6 (by omega); simp only; omega
theorem kD_bd (code : List Int) (s : St) : 0 ≤ (kD code s).1 ∧ (kD code s).1 ≤ 5 := by
  unfold kD
  split
  · have := nextF_bd code (nextF code s 24).2 2 (by omega); simp only; omega
  · have := nextF_bd code (nextF code s 24).2 4 (by omega); simp only; omega
theorem boatsD_ok (code : List Int) (s : St) (h : StOk code s) : StOk code (boatsD code s).2 := by
  unfold boatsD
  split
  · exact nextF_ok _ _ _ (nextF_ok _ _ _ h)
  · exact nextF_ok _ _ _ (nextF_ok _ _ _ h)

/-- An order is drawn: i is put in at a drawn place. -/
def orderGo (code : List Int) : Nat → Nat → List Int → St → List Int × St
  | 0, _, out, s => (out, s)
  | m + 1, i, out, s =>
    orderGo code m (i + 1) (out.take (nextF code s ((i : Int) + 1)).1.toNat ++ [(i : Int)] ++ out.drop (nextF code s ((i : Int) + 1)).1.toNat) (nextF code s ((i : Int) + 1)).2
def orderD (code : List Int) (n : Nat) (s : St) : List Int × St := orderGo code n 0 [] s
theorem orderGo_len (code : List Int) (m i : Nat) (out : List Int) (s : St) : (orderGo code m i out s).1.length = out.length + m := by
  induction m generalizing i out s with
  | zero => rfl
  | succ m ih =>
    unfold orderGo
    rw [ih]
    simp only [List.length_append, List.length_take, List.length_drop, List.length_cons, List.length_nil]
    omega
theorem orderD_len (code : List Int) (n : Nat) (s : St) : (orderD code n s).1.length = n := by unfold orderD; rw [orderGo_len]; simp
def anyD (code : List Int) (s : St) : List Int × St :=
  if (orderD code (boatsD code s).1.toNat (boatsD code s).2).1.length = 0 then orderD code (boatsD code s).1.toNat (boatsD code s).2
  else if (nextF code (orderD code (boatsD code s).1.toNat (boatsD code s).2).2 16).1 = 0 then
    ((orderD code (boatsD code s).1.toNat (boatsD code s).2).1.set (nextF code (nextF code (orderD code (boatsD code s).1.toNat (boatsD code s).2).2 16).2 ((orderD code (boatsD code s).1.toNat (boatsD code s).2).1.length : Int)).1.toNat
      ((nextF code (nextF code (nextF code (orderD code (boatsD code s).1.toNat (boatsD code s).2).2 16).2 ((orderD code (boatsD code s).1.toNat (boatsD code s).2).1.length : Int)).2 8).1 - 1),
     (nextF code (nextF code (nextF code (orderD code (boatsD code s).1.toNat (boatsD code s).2).2 16).2 ((orderD code (boatsD code s).1.toNat (boatsD code s).2).1.length : Int)).2 8).2)
  else ((orderD code (boatsD code s).1.toNat (boatsD code s).2).1, (nextF code (orderD code (boatsD code s).1.toNat (boatsD code s).2).2 16).2)
theorem anyD_len (code : List Int) (s : St) : (anyD code s).1.length ≤ 16 := by
  have h := boatsD_bd code s
  unfold anyD
  split
  · rw [orderD_len]; omega
  · split
    · rw [List.length_set, orderD_len]; omega
    · rw [orderD_len]; omega
def snakeD (code : List Int) : List Int × Int := ((anyD code (fromF code)).1, (kD code (anyD code (fromF code)).2).1)
end Go.Proofs.Ytmgkoldipchljaa

/- Walks: the source of numbers of the drawn laws. -/
namespace Go.Proofs.Ytmgkoldipchljaa
open Go.RowKit
set_option linter.unusedVariables false
set_option maxRecDepth 100000

def u8s (xs : List Int) : List Value := xs.map (Value.int .u8)
theorem u8s_length (xs : List Int) : (u8s xs).length = xs.length := by simp [u8s]
theorem u8s_get {xs : List Int} {k : Nat} {x : Int} (h : xs[k]? = some x) : (u8s xs)[k]? = some (.int .u8 x) := by simp [u8s, h]
/-- The code that came in: it reads as the bytes code, at the world w0 in which the law began. -/
structure Code0 (w0 : World) (A : Option Addr) (n : Nat) (code : List Int) : Prop where
  rd : Rd w0 1 A n (u8s code)
  n4 : n ≤ 8192
  byte : ∀ c ∈ code, 0 ≤ c ∧ c ≤ 255
theorem Code0.len {w0 : World} {A : Option Addr} {n : Nat} {code : List Int} (h : Code0 w0 A n code) : code.length = n := by
  have := h.rd.len
  rwa [u8s_length, Nat.mul_one] at this
theorem Code0.at_ {w0 w : World} {A : Option Addr} {n k : Nat} {code : List Int} (h : Code0 w0 A n code) (hb : Below w0.heap.size w0 w) (hk : k < n) :
    ∃ b o c, A = some ⟨b, o, none⟩ ∧ code[k]? = some c ∧ 0 ≤ c ∧ c ≤ 255 ∧ w.cell? ⟨b, o + k, none⟩ = some (.int .u8 c) := by
  obtain ⟨b, o, e, hc⟩ := h.rd.pos (by omega)
  obtain ⟨c, h1, _⟩ := drop_cons (xs := code) (k := k) (by rw [h.len]; exact hk)
  have hbd := h.byte c (List.mem_of_getElem? h1)
  exact ⟨b, o, c, e, h1, hbd.1, hbd.2, Keeps.below hb _ _ (hc k _ (u8s_get h1))⟩

/-- The source in memory: block g. -/
structure Src (w0 w : World) (A : Option Addr) (n cap : Nat) (code : List Int) (g : Nat) (s : St) : Prop where
  blk : w.heap[g]? = some (.cells #[.slice A n cap, .int .i64 (s.1 : Int), .int .i64 s.2] 79 (0, 0))
  old : w0.heap.size ≤ g
  bel : Below w0.heap.size w0 w
  ok : StOk code s
theorem Src.lt {w0 w : World} {A : Option Addr} {n cap : Nat} {code : List Int} {g : Nat} {s : St} (h : Src w0 w A n cap code g s) : g < w.heap.size := (Array.getElem?_eq_some_iff.1 h.blk).1
theorem Src.c0 {w0 w : World} {A : Option Addr} {n cap : Nat} {code : List Int} {g : Nat} {s : St} (h : Src w0 w A n cap code g s) : w.cell? ⟨g, 0, none⟩ = some (.slice A n cap) := by simp [World.cell?, h.blk]
theorem Src.c1 {w0 w : World} {A : Option Addr} {n cap : Nat} {code : List Int} {g : Nat} {s : St} (h : Src w0 w A n cap code g s) : w.cell? ⟨g, 1, none⟩ = some (.int .i64 (s.1 : Int)) := by simp [World.cell?, h.blk]
theorem Src.c2 {w0 w : World} {A : Option Addr} {n cap : Nat} {code : List Int} {g : Nat} {s : St} (h : Src w0 w A n cap code g s) : w.cell? ⟨g, 2, none⟩ = some (.int .i64 s.2) := by simp [World.cell?, h.blk]
theorem Src.fz {w0 w : World} {A : Option Addr} {n cap : Nat} {code : List Int} {g : Nat} {s : St} (h : Src w0 w A n cap code g s) (i : Nat) : w.frozen? ⟨g, i, none⟩ = false := by simp [World.frozen?, h.blk]
theorem Src.drewN {w0 w : World} {A : Option Addr} {n cap : Nat} {code : List Int} {g : Nat} {s : St} (h : Src w0 w A n cap code g s) (q : Nat) : Src w0 (w.drewN q) A n cap code g s := ⟨h.blk, h.old, below_drewN h.bel q, h.ok⟩
theorem Src.seed {w0 w : World} {A : Option Addr} {n cap : Nat} {code : List Int} {g : Nat} {s : St} (h : Src w0 w A n cap code g s) (x : Int) (h0 : 0 ≤ x) (h1 : x < 2147483647) :
    Src w0 (w.setCell ⟨g, 2, none⟩ (.int .i64 x)) A n cap code g (s.1, x) :=
  ⟨by simp [World.setCell, Array.getElem?_modify, h.blk], h.old, h.bel.setCell h.old _, h.ok.1, h0, h1⟩
theorem Src.at1 {w0 w : World} {A : Option Addr} {n cap : Nat} {code : List Int} {g : Nat} {s : St} (h : Src w0 w A n cap code g s) (k : Nat) (hk : k ≤ code.length) :
    Src w0 (w.setCell ⟨g, 1, none⟩ (.int .i64 (k : Int))) A n cap code g (k, s.2) :=
  ⟨by simp [World.setCell, Array.getElem?_modify, h.blk], h.old, h.bel.setCell h.old _, hk, h.ok.2⟩
theorem Src.below {w0 w w' : World} {A : Option Addr} {n cap : Nat} {code : List Int} {g : Nat} {s : St} (h : Src w0 w A n cap code g s) (k : Below w.heap.size w w') : Src w0 w' A n cap code g s :=
  ⟨(k.block g h.lt).trans h.blk, h.old, h.bel.trans (k.mono h.bel.size), h.ok⟩
theorem Src.chg {w0 w w' : World} {A : Option Addr} {n cap : Nat} {code : List Int} {g lo hi : Nat} {s : St} (h : Src w0 w A n cap code g s) (k : Chg lo hi w w') (hl : g < lo) : Src w0 w' A n cap code g s :=
  ⟨(k.block g h.lt (.inl hl)).trans h.blk, h.old, below_chg h.bel k (by have := h.old; omega) h.bel.size, h.ok⟩
theorem chg_set {lo hi : Nat} {w w' : World} (h : Chg lo hi w w') {g i : Nat} (h1 : lo ≤ g) (h2 : g < hi) (v : Value) : Chg lo hi w (w'.setCell ⟨g, i, none⟩ v) :=
  h.trans ⟨rfl, rfl, rfl, by simp [World.setCell], fun k hk hn => Below.heap_setCell _ _ _ _ (by simp; omega)⟩
theorem chg_drewN {lo hi : Nat} {w w' : World} (h : Chg lo hi w w') (q : Nat) : Chg lo hi w (w'.drewN q) := ⟨h.os, h.tape, h.output, h.size, h.block⟩

/-- What a draw leaves: the number, the source behind it; nothing else has turned. -/
def RetN (w0 w : World) (A : Option Addr) (n cap : Nat) (code : List Int) (g : Nat) (r : Int × St) (e : Ending) (w' : World) : Prop :=
  e = .returned (.int .i64 r.1) ∧ Src w0 w' A n cap code g r.2 ∧ Chg g (g + 1) w w'

theorem next_any (w0 : World) (A : Option Addr) (n cap : Nat) (code : List Int) (hcode : Code0 w0 A n code) (g : Nat) (s : St) (k : Int) (hk : k ≤ 1099511627776) (w : World) (h : Src w0 w A n cap code g s) :
    Calls Try.prog 29 #[.pointer (some ⟨g, 0, none⟩), .int .i64 k] w (RetN w0 w A n cap code g (nextF code s k)) := by
  have HL := Lib.hid hcode.len
  have hn4 := hcode.n4
  obtain ⟨at_, seed⟩ := s
  by_cases hk1 : k ≤ 1
  · have e1 : nextF code (at_, seed) k = (0, (at_, seed)) := by unfold nextF; rw [if_pos hk1]
    rw [e1]; clear e1
    go_enter Try.func29, Try.ntmps29
    go_wp2_with fail
    go_ret
    exact ⟨rfl, h, Chg.refl _ _ _⟩
  · obtain ⟨hat, hs0, hs1⟩ := h.ok
    simp only at hat hs0 hs1
    obtain ⟨hh0, hh1⟩ := stepH_bd seed
    have h2 := h.seed (stepH seed) hh0 hh1
    have hc2 : Chg g (g + 1) w (w.setCell ⟨g, 2, none⟩ (.int .i64 (stepH seed))) := chg_set (Chg.refl _ _ _) (Nat.le_refl _) (by omega) _
    have HST := Lib.hid (show stepH seed = (seed * 48271 + 23) % 2147483647 from rfl)
    have f0 := h.c0; have f1 := h.c1; have f2 := h.c2; have z2 := h.fz 2
    simp only at f0 f1 f2
    rw [HST.out] at h2 hc2 hh0 hh1
    have H2 := Lib.hid h2; have HC2 := Lib.hid hc2
    clear h2 hc2
    go_enter Try.func29, Try.ntmps29
    go_wp2_with fail
    obtain ⟨hz, hzv⟩ : ∃ z, z = (seed * 48271 + 23) % 2147483647 := ⟨_, rfl⟩
    rw [← hzv] at H2 HC2 hh0 hh1 HST
    rw [← hzv]
    obtain ⟨w1, hw1⟩ : ∃ x, x = w.setCell ⟨g, 2, none⟩ (.int .i64 hz) := ⟨_, rfl⟩
    rw [← hw1] at H2 HC2
    rw [← hw1]
    clear hzv hw1 f0 f1 f2 z2
    have f0 := H2.out.c0; have f1 := H2.out.c1; have z1 := H2.out.fz 1
    simp only at f0 f1
    have hk2 : 2 ≤ k := by omega
    have hz17 : 0 ≤ hz / 17 ∧ hz / 17 ≤ 126322567 := by omega
    obtain ⟨hz1, hz2⟩ := hz17
    have hko := HL.out
    rw [hko] at hat
    clear hko
    by_cases hlt : at_ < n
    · have hd : decide ((at_ : Int) < n) = true := by simpa using hlt
      obtain ⟨b, o, cc, rfl, hcc, hc0, hc1, hcell⟩ := hcode.at_ H2.out.bel hlt
      have HCC := Lib.hid hcc; clear hcc
      go_quiet (fail)
      obtain ⟨wq, hwq⟩ : ∃ x, x = w1.drewN nq := ⟨_, rfl⟩
      replace H2 := Lib.hid (H2.out.drewN nq); replace HC2 := Lib.hid (chg_drewN HC2.out nq)
      rw [← hwq] at H2 HC2
      rw [← hwq]
      clear hwq f0 f1 z1 hcell nq w1
      obtain ⟨w1, rfl⟩ : ∃ x, x = wq := ⟨_, rfl⟩
      have f0 := H2.out.c0; have f1 := H2.out.c1; have z1 := H2.out.fz 1
      simp only at f0 f1
      obtain ⟨b', o', c2, hb', hc2, _, _, hcell⟩ := hcode.at_ H2.out.bel hlt
      obtain ⟨rfl, rfl⟩ : b = b' ∧ o = o' := by injection hb' with hb'; injection hb' with e1 e2; exact ⟨e1, e2⟩
      obtain rfl : cc = c2 := by rw [HCC.out] at hc2; injection hc2
      clear hb' hc2
      go_wp2_with fail
      have HS := Lib.hid (show IntKind.i64.wrap (hz / 17 + cc) = hz / 17 + cc from IntWalk.i64_in _ (by omega))
      have hs := HS.out
      go_quiet (fail)
      clear hs
      obtain ⟨w2, hw2⟩ : ∃ x, x = w1.drewN nq := ⟨_, rfl⟩
      have H3 := Lib.hid (H2.out.drewN nq); have HC3 := Lib.hid (chg_drewN HC2.out nq)
      rw [← hw2] at H3 HC3
      rw [← hw2]
      clear hw2 f0 f1 z1 hcell
      have f0 := H3.out.c0; have f1 := H3.out.c1; have z1 := H3.out.fz 1
      simp only at f0 f1
      have H4 := Lib.hid (H3.out.at1 (at_ + 1) (by rw [HL.out]; omega))
      have HC4 := Lib.hid (chg_set (i := 1) HC3.out (Nat.le_refl _) (by omega) (.int .i64 ((at_ + 1 : Nat) : Int)))
      simp only [Int.natCast_add, Int.cast_ofNat_Int] at H4 HC4
      by_cases h256 : k ≤ 256
      · by_cases hpar : ((at_ : Int) + 1) % 2 = 0
        · have hb1 : (((at_ : Int) + 1) % 2 == 0) = true := by simpa using hpar
          go_wp2_with fail
          obtain ⟨w3, hw3⟩ : ∃ x, x = w2.setCell ⟨g, 1, none⟩ (.int .i64 ((at_ : Int) + 1)) := ⟨_, rfl⟩
          rw [← hw3] at H4 HC4
          rw [← hw3]
          clear hw3 f0 f1 z1
          have f0 := H4.out.c0; have f1 := H4.out.c1
          simp only [Int.natCast_add, Int.cast_ofNat_Int] at f0 f1
          obtain ⟨b', o', c2, hb', hc2, _, _, hcell⟩ := hcode.at_ H4.out.bel hlt
          obtain ⟨rfl, rfl⟩ : b = b' ∧ o = o' := by injection hb' with hb'; injection hb' with e1 e2; exact ⟨e1, e2⟩
          obtain rfl : cc = c2 := by rw [HCC.out] at hc2; injection hc2
          clear hb' hc2
          have HS2 := Lib.hid (show IntKind.i64.wrap ((at_ : Int) + 1 - 1) = (at_ : Int) by rw [IntWalk.i64_in _ (by omega)]; omega)
          have hs := HS2.out
          go_quiet (fail)
          clear hs
          go_wp2_with fail
          go_ret
          have e1 : nextF code (at_, seed) k = (cc % k, (at_ + 1, hz)) := by
            unfold nextF
            rw [if_neg (by omega), if_pos (by rw [HL.out]; exact hlt), if_pos ⟨h256, by simp only; omega⟩, HST.out]
            simp only [List.getD_eq_getElem?_getD]
            rw [HCC.out]; rfl
          rw [e1]
          exact ⟨rfl, H4.out.drewN _, chg_drewN HC4.out _⟩
        · have hb1 : (((at_ : Int) + 1) % 2 == 0) = false := by simpa using hpar
          go_wp2_with fail
          go_ret
          have e1 : nextF code (at_, seed) k = ((hz / 17 + cc) % k, (at_ + 1, hz)) := by
            unfold nextF
            rw [if_neg (by omega), if_pos (by rw [HL.out]; exact hlt), if_neg (by simp only; omega), HST.out]
            simp only [List.getD_eq_getElem?_getD]
            rw [HCC.out]; rfl
          rw [e1]
          exact ⟨rfl, H4.out, HC4.out⟩
      · go_wp2_with fail
        go_ret
        have e1 : nextF code (at_, seed) k = ((hz / 17 + cc) % k, (at_ + 1, hz)) := by
          unfold nextF
          rw [if_neg (by omega), if_pos (by rw [HL.out]; exact hlt), if_neg (by omega), HST.out]
          simp only [List.getD_eq_getElem?_getD]
          rw [HCC.out]; rfl
        rw [e1]
        exact ⟨rfl, H4.out, HC4.out⟩
    · have hd : decide ((at_ : Int) < n) = false := by simpa using hlt
      go_quiet (fail)
      go_wp2_with fail
      go_ret
      have e1 : nextF code (at_, seed) k = (hz / 17 % k, (at_, hz)) := by
        unfold nextF
        rw [if_neg (by omega), if_neg (by rw [HL.out]; exact hlt), HST.out]
      rw [e1]
      exact ⟨rfl, H2.out.drewN _, chg_drewN HC2.out _⟩

/-- A new source. -/
def RetSrc (w0 w : World) (A : Option Addr) (n cap : Nat) (code : List Int) (s : St) (e : Ending) (w' : World) : Prop :=
  ∃ g, e = .returned (.pointer (some ⟨g, 0, none⟩)) ∧ Src w0 w' A n cap code g s ∧ w.heap.size ≤ g ∧ Below w.heap.size w w'
theorem from_any (w0 : World) (A : Option Addr) (n cap : Nat) (code : List Int) (hcode : Code0 w0 A n code) (w : World) (hb : Below w0.heap.size w0 w) :
    Calls Try.prog 27 #[.slice A n cap] w (RetSrc w0 w A n cap code (fromF code)) := by
  have HL := Lib.hid hcode.len
  have hn4 := hcode.n4
  have hs0 : Src w0 (w.alloc (.cells #[.slice A n cap, .int .i64 0, .int .i64 61657] 79)) A n cap code w.heap.size (0, 61657) :=
    ⟨heap_alloc_new w _, hb.size, hb.alloc hb.size _, Nat.zero_le _, by decide, by decide⟩
  have hb0 : Below w.heap.size w (w.alloc (.cells #[.slice A n cap, .int .i64 0, .int .i64 61657] 79)) := (Below.refl _ _).alloc (Nat.le_refl _) _
  have HS0 := Lib.hid hs0; have HB0 := Lib.hid hb0
  clear hs0 hb0
  go_enter Try.func27, Try.ntmps27
  go_wp2_with fail
  go_loopw [4] (fun i wr => ∃ (k : Nat) (seed : Int), k ≤ n ∧ k ≤ 64 ∧ i = .int .i64 k ∧ Src w0 wr A n cap code w.heap.size (0, seed) ∧ fromGo ((code.take 64).drop k) seed = fromGo (code.take 64) 61657 ∧ Below w.heap.size w wr) (fun i _ => n - (intOf i).toNat)
  case atStart => exact ⟨0, 61657, Nat.zero_le _, by omega, rfl, HS0.out, rfl, HB0.out⟩
  case round =>
    clear HS0 HB0
    obtain ⟨k, seed, hk, hk64, rfl, hs, hr, hbl⟩ := hrel
    have HR := Lib.hid hr; clear hr
    obtain ⟨_, hsd0, hsd1⟩ := hs.ok
    simp only at hsd0 hsd1
    have hfin : ¬ (k < n ∧ k < 64) → seed = fromGo (code.take 64) 61657 := by
      intro hn
      rw [← HR.out, List.drop_eq_nil_of_le (by rw [List.length_take, HL.out]; omega)]; rfl
    have HFIN := Lib.hid hfin; clear hfin
    by_cases hlt : k < n
    · by_cases hlt64 : k < 64
      · obtain ⟨b, o, c, rfl, hcc, hc0, hc1, hcell⟩ := hcode.at_ hs.bel hlt
        have hd : (code.take 64).drop k = c :: (code.take 64).drop (k + 1) := by
          obtain ⟨x, h1, h2⟩ := drop_cons (xs := code.take 64) (k := k) (by rw [List.length_take, HL.out]; omega)
          rw [List.getElem?_take, if_pos hlt64, hcc] at h1
          injection h1 with h1
          rw [h2, h1]
        have HD := Lib.hid hd; clear hd hcc
        have f2 := hs.c2; have z2 := hs.fz 2
        simp only at f2
        have h2 := hs.seed ((seed * 53 + c) % 2147483647) (by omega) (by omega)
        have hb2 := hbl.setCell (p := ⟨w.heap.size, 2, none⟩) (Nat.le_refl _) (.int .i64 ((seed * 53 + c) % 2147483647))
        have H2 := Lib.hid h2; have HB2 := Lib.hid hb2
        clear h2 hb2
        go_wp2_with fail
        go_region
        go_wp2_with fail
        go_roundw
        case rel => exact ⟨k + 1, _, by omega, by omega, by go_num, H2.out.drewN 1, by rw [← HR.out, HD.out, fromGo], HB2.out.drew⟩
        case measure => simp [intOf]; omega
      · go_wp2_with fail
        go_ret
        exact ⟨_, rfl, by rw [fromF, ← HFIN.out (by omega)]; exact hs, Nat.le_refl _, hbl⟩
    · go_wp2_with fail
      go_ret
      exact ⟨_, rfl, by rw [fromF, ← HFIN.out (by omega)]; exact hs, Nat.le_refl _, hbl⟩
end Go.Proofs.Ytmgkoldipchljaa

/- Walks: the source of numbers beside other memory; the drawn number of boats. -/
namespace Go.Proofs.Ytmgkoldipchljaa
open Go.RowKit
set_option linter.unusedVariables false
set_option maxRecDepth 100000

theorem chg_grown {lo hi : Nat} {a w w' : World} {row : Option Nat} (h : Chg lo hi a w) (hg : w.grownBy w' row) (hr : ∀ k, row = some k → a.heap.size ≤ k) : Chg lo hi a w' :=
  ⟨hg.os.trans h.os, hg.tape.trans h.tape, hg.output.trans h.output, Nat.le_trans h.size hg.size, fun k hk hn => (hg.block k (Nat.lt_of_lt_of_le hk h.size) (fun e => by have := hr k e.symm; omega)).trans (h.block k hk hn)⟩
theorem chg_alloc {lo hi : Nat} {a w : World} (h : Chg lo hi a w) (o : Obj) : Chg lo hi a (w.alloc o) := chg_grown h (World.grownBy_alloc w o none) (fun k e => by cases e)
theorem chg_below {lo hi : Nat} {a w w' : World} (h : Chg lo hi a w) (k : Below w.heap.size w w') : Chg lo hi a w' := h.trans (Chg.of_below k)
theorem Src.grown {w0 w w' : World} {A : Option Addr} {n cap : Nat} {code : List Int} {g : Nat} {s : St} {row : Option Nat} (h : Src w0 w A n cap code g s) (hg : w.grownBy w' row) (hr : ∀ k, row = some k → g < k) : Src w0 w' A n cap code g s :=
  ⟨(hg.block g h.lt (fun e => by have := hr g e.symm; omega)).trans h.blk, h.old, h.bel.grown hg h.bel.size (fun k e => by have := hr k e; have := h.old; omega), h.ok⟩
theorem Src.alloc {w0 w : World} {A : Option Addr} {n cap : Nat} {code : List Int} {g : Nat} {s : St} (h : Src w0 w A n cap code g s) (o : Obj) : Src w0 (w.alloc o) A n cap code g s := h.grown (World.grownBy_alloc w o none) (fun k e => by cases e)
theorem own_ne_chg {g : Nat} {w w' : World} {base e s n : Nat} {v : Value} {xs : List Value} (h : w.ownsRow base e s v n xs) (k : Chg g (g + 1) w w') (hb : g < base) : w'.ownsRow base e s v n xs :=
  own_chg h k (fun b hv => by have := (h.lt b hv).1; omega)

theorem boatsD_any (w0 : World) (A : Option Addr) (n cap : Nat) (code : List Int) (hcode : Code0 w0 A n code) (g : Nat) (s : St) (w : World) (h : Src w0 w A n cap code g s) :
    Calls Try.prog 79 #[.pointer (some ⟨g, 0, none⟩)] w (RetN w0 w A n cap code g (boatsD code s)) := by
  have e1 : boatsD code s = if (nextF code s 24).1 = 0 then (16 * (nextF code (nextF code s 24).2 2).1, (nextF code (nextF code s 24).2 2).2) else (1 + (nextF code (nextF code s 24).2 6).1, (nextF code (nextF code s 24).2 6).2) := rfl
  rw [e1]; clear e1
  have hn := next_any w0 A n cap code hcode g s 24 (by omega) w h
  generalize nextF code s 24 = r at *
  obtain ⟨v, s1⟩ := r
  have HN := Lib.hid hn; clear hn
  simp only
  by_cases hv : v = 0
  · subst hv
    rw [if_pos rfl]
    have hb := nextF_bd code s1 2 (by omega)
    obtain ⟨hb0, hb1⟩ := hb
    go_enter Try.func79, Try.ntmps79
    go_wp2_with fail
    refine HN.out.mono ?_
    rintro e w1 ⟨rfl, hs1, hc1⟩
    go_wp2_with fail
    refine (next_any w0 A n cap code hcode g s1 2 (by omega) _ hs1).mono ?_
    rintro e w2 ⟨rfl, hs2, hc2⟩
    go_wp2_with fail
    go_ret
    exact ⟨rfl, hs2, hc1.trans hc2⟩
  · rw [if_neg hv]
    have hne : (v == 0) = false := by simpa using hv
    have hb := nextF_bd code s1 6 (by omega)
    obtain ⟨hb0, hb1⟩ := hb
    clear hv
    go_enter Try.func79, Try.ntmps79
    go_wp2_with fail
    refine HN.out.mono ?_
    rintro e w1 ⟨rfl, hs1, hc1⟩
    go_wp2_with fail
    refine (next_any w0 A n cap code hcode g s1 6 (by omega) _ hs1).mono ?_
    rintro e w2 ⟨rfl, hs2, hc2⟩
    go_wp2_with fail
    go_ret
    exact ⟨rfl, hs2, hc1.trans hc2⟩
end Go.Proofs.Ytmgkoldipchljaa

/- Walks: what stands while something is drawn. -/
namespace Go.Proofs.Ytmgkoldipchljaa
open Go.RowKit
set_option linter.unusedVariables false

/-- What stands while something is drawn: the source at g, all else new. -/
structure DS (w0 w W : World) (A : Option Addr) (n cap : Nat) (code : List Int) (g : Nat) (s : St) : Prop where
  src : Src w0 W A n cap code g s
  ch : Chg g (g + 1) w W
  gl : g < w.heap.size
section
variable {w0 w W W' : World} {A : Option Addr} {n cap g : Nat} {code : List Int} {s s' : St}
theorem DS.turn (h : DS w0 w W A n cap code g s) (hs : Src w0 W' A n cap code g s') (hc : Chg g (g + 1) W W') : DS w0 w W' A n cap code g s' := ⟨hs, h.ch.trans hc, h.gl⟩
theorem DS.below (h : DS w0 w W A n cap code g s) (k : Below W.heap.size W W') : DS w0 w W' A n cap code g s := ⟨h.src.below k, h.ch.trans (Chg.of_below k), h.gl⟩
theorem DS.put (h : DS w0 w W A n cap code g s) {b : Nat} (hb : w.heap.size ≤ b) (i : Nat) (v : Value) : DS w0 w (W.setCell ⟨b, i, none⟩ v) A n cap code g s := by
  have hg := h.gl
  refine ⟨h.src.grown (row := some b) (grown_set ⟨rfl, rfl, rfl, Nat.le_refl _, fun _ _ _ => rfl⟩ i v) (fun k e => by injection e with e; omega), ?_, h.gl⟩
  exact ⟨h.ch.os, h.ch.tape, h.ch.output, by simpa [World.setCell] using h.ch.size, fun k hk hn => (Below.heap_setCell _ _ _ _ (by simp; omega)).trans (h.ch.block k hk hn)⟩
theorem DS.puts (vs : List Value) : ∀ {W : World} (h : DS w0 w W A n cap code g s) {b : Nat} (hb : w.heap.size ≤ b) (i : Nat), DS w0 w (putW W b i vs) A n cap code g s := by
  induction vs with
  | nil => intro W h b hb i; exact h
  | cons v r ih => intro W h b hb i; exact ih (h.put hb i v) hb (i + 1)
theorem DS.grown {base e sz m c : Nat} {A1 : Option Addr} {vs : List Value} (h : DS w0 w W A n cap code g s) (ho : W.ownsRow base e sz (.slice A1 m c) m vs) (hb : w.heap.size ≤ base) (hg : W.grownBy W' (Value.slice A1 m c).ownBlock) : DS w0 w W' A n cap code g s :=
  ⟨h.src.grown hg (fun k e => by have := (ho.lt k e).1; have := h.gl; omega), chg_grown h.ch hg (fun k e => by have := (ho.lt k e).1; omega), h.gl⟩
end
theorem Box.z7 {w : World} {b : Nat} {vs : Array Value} {t : TypeId} (h : Box w b vs t) : w.frozen? ⟨b, 0, none⟩ = false ∧ w.frozen? ⟨b, 1, none⟩ = false ∧ w.frozen? ⟨b, 2, none⟩ = false ∧ w.frozen? ⟨b, 3, none⟩ = false ∧ w.frozen? ⟨b, 4, none⟩ = false ∧ w.frozen? ⟨b, 5, none⟩ = false ∧ w.frozen? ⟨b, 6, none⟩ = false :=
  ⟨h.fz, h.fz, h.fz, h.fz, h.fz, h.fz, h.fz⟩
/-- The first k rows of own memory. -/
theorem own_take {w : World} {base e s n c k : Nat} {A : Option Addr} {xs : List Value} (h : w.ownsRow base e s (.slice A n c) n xs) (hk : k ≤ n) : w.ownsRow base e s (.slice A k c) k (xs.take (k * s)) := by
  have hl := h.1
  have hm : k * s ≤ n * s := Nat.mul_le_mul_right s hk
  rcases h.2 with ⟨e1, _⟩ | ⟨g, cap, cur, e1, h1, h2, h3, h4, h5, h6⟩
  · injection e1 with e1 e2 e3
    subst e1; subst e2; subst e3
    obtain rfl : k = 0 := by omega
    simpa using World.ownsRow_nil w base e s
  · injection e1 with e1 e2 e3
    subst e1; subst e3
    refine ⟨by rw [List.length_take, hl]; exact Nat.min_eq_left hm, .inr ⟨g, c, cur, rfl, h1, h2, by omega, h4, h5, ?_⟩⟩
    rw [← h6, List.take_take, Nat.min_eq_left hm]
end Go.Proofs.Ytmgkoldipchljaa

/- Plain functions: drawn fleets and rounds: no Go in sight. -/
namespace Go.Proofs.Ytmgkoldipchljaa
open Go.RowKit
set_option linter.unusedVariables false

def fleetsGo (code : List Int) (K : Int) : Nat → List Int → St → List Int × St
  | 0, out, s => (out, s)
  | m + 1, out, s => fleetsGo code K m (out ++ [(nextF code s (max 1 K)).1]) (nextF code s (max 1 K)).2
theorem fleetsGo_len (code : List Int) (K : Int) (m : Nat) (out : List Int) (s : St) : (fleetsGo code K m out s).1.length = out.length + m := by
  induction m generalizing out s with
  | zero => rfl
  | succ m ih =>
    unfold fleetsGo
    rw [ih]
    simp only [List.length_append, List.length_cons, List.length_nil]
    omega
/-- The drawn list is spoiled now and then. -/
def spoilF (code : List Int) (K : Int) (r : List Int × St) : List Int × St :=
  if r.1.length = 0 then r
  else if (nextF code r.2 24).1 = 0 then (r.1.set 0 (K - (K + 1) * (nextF code (nextF code r.2 24).2 2).1), (nextF code (nextF code r.2 24).2 2).2)
  else (r.1, (nextF code r.2 24).2)
theorem spoilF_len (code : List Int) (K : Int) (r : List Int × St) : (spoilF code K r).1.length = r.1.length := by
  unfold spoilF
  split
  · rfl
  · split
    · simp
    · rfl
def fleetsD (code : List Int) (K : Int) (N : Nat) (s : St) : List Int × St := spoilF code K (fleetsGo code K N [] s)
theorem fleetsD_len (code : List Int) (K : Int) (N : Nat) (s : St) : (fleetsD code K N s).1.length = N := by
  unfold fleetsD
  rw [spoilF_len, fleetsGo_len]
  simp

def roundsGo1 (code : List Int) (n : Nat) (K : Int) : Nat → List (List Int) → St → List (List Int) × St
  | 0, rows, s => (rows, s)
  | m + 1, rows, s => roundsGo1 code n K m (rows ++ [(fleetsD code K (n + ((nextF code s 40).1 / 39).toNat) (nextF code s 40).2).1]) (fleetsD code K (n + ((nextF code s 40).1 / 39).toNat) (nextF code s 40).2).2
def roundsGo2 (code : List Int) (n : Nat) (K : Int) : Nat → List (List Int) → St → List (List Int) × St
  | 0, rows, s => (rows, s)
  | m + 1, rows, s => roundsGo2 code n K m (rows ++ [(fleetsD code K n s).1]) (fleetsD code K n s).2
def roundsEnd (code : List Int) (n : Nat) (K : Int) (r : List (List Int) × St) : List (List Int) × St :=
  if (nextF code r.2 24).1 = 0 then roundsGo2 code n K (13 - r.1.length) r.1 (nextF code r.2 24).2 else (r.1, (nextF code r.2 24).2)
def roundsD (code : List Int) : List (List Int) × Int :=
  ((roundsEnd code (boatsD code (kD code (fromF code)).2).1.toNat (kD code (fromF code)).1
      (roundsGo1 code (boatsD code (kD code (fromF code)).2).1.toNat (kD code (fromF code)).1
        (nextF code (boatsD code (kD code (fromF code)).2).2 6).1.toNat [] (nextF code (boatsD code (kD code (fromF code)).2).2 6).2)).1,
   (kD code (fromF code)).1)
end Go.Proofs.Ytmgkoldipchljaa

/- Walks: the laws' helpers on [][]int64: size, copy, compare, mark, hold. -/
namespace Go.Proofs.Ytmgkoldipchljaa
open Go.RowKit
set_option linter.unusedVariables false
set_option maxRecDepth 100000

theorem Try.info_ints : (Try.prog.info? 31).map (fun i => (i.zero, i.size, i.bytes)) = some (some (.slice none 0 0), 1, 24) := by kernel_rfl
theorem run_make_rows (n : Nat) (h : n ≤ 1048576) (w : World) :
    (Instr.makeSlice 24 (.int .i64 (n : Int)) (.int .i64 (n : Int))).run Try.prog w = .ok (.slice (some ⟨w.heap.size, 0, none⟩) n n) (w.alloc (.cells (madeCells #[.slice none 0 0] n) 31)) := by
  obtain ⟨i, hi, hz, hs, hb⟩ := info_parts Try.info_ints
  have hr := run_make (P := Try.prog) w 24 31 i (.slice none 0 0) Try.underlying24 hi hz .i64 .i64 n n (by omega) (by omega) (by rw [hb]; omega) (by omega)
  rw [hs, Nat.mul_one, Int.toNat_natCast] at hr
  exact hr

/-! ### Sizes -/
def szF (left : Int) (n : Nat) : Int := if left - n < 0 then -1 else left - n
def szGo (left : Int) : List (List Int) → Int
  | [] => left
  | x :: r => if left - x.length < 0 then -1 else szGo (left - x.length) r
def szRowsF (left : Int) (rows : List (List Int)) : Int := if left - rows.length < 0 then -1 else szGo (left - rows.length) rows
theorem szGo_le {left : Int} {rows : List (List Int)} (h : 0 ≤ szGo left rows) (h0 : 0 ≤ left) : szGo left rows ≤ left ∧ ∀ x ∈ rows, (x.length : Int) ≤ left := by
  induction rows generalizing left with
  | nil => exact ⟨Int.le_refl _, fun x hx => by cases hx⟩
  | cons y r ih =>
    unfold szGo at h ⊢
    split at h
    · omega
    · rename_i hn
      rw [if_neg hn]
      have := ih h (by omega)
      refine ⟨by omega, fun x hx => ?_⟩
      rcases List.mem_cons.1 hx with rfl | hx
      · omega
      · have := this.2 x hx; omega
theorem szRowsF_le {left : Int} {rows : List (List Int)} (h : 0 ≤ szRowsF left rows) (h0 : 0 ≤ left) : (rows.length : Int) ≤ left ∧ ∀ x ∈ rows, (x.length : Int) ≤ left := by
  unfold szRowsF at h
  split at h
  · omega
  · rename_i hn
    have := szGo_le h (by omega)
    exact ⟨by omega, fun x hx => by have := this.2 x hx; omega⟩

theorem szInt64S_any (A : Option Addr) (n c : Nat) (hn : n ≤ 9223372036854775807) (left : Int) (h0 : 0 ≤ left) (h1 : left ≤ 1048576) (w : World) :
    Calls Try.prog 63 #[.slice A n c, .int .i64 left] w fun e w' => e = .returned (.int .i64 (szF left n)) ∧ w = w' := by
  by_cases h : left - n < 0
  · have e : szF left n = -1 := by unfold szF; rw [if_pos h]
    rw [e]
    go_enter Try.func63, Try.ntmps63
    go_wp2_with fail
    go_ret
    exact ⟨rfl, rfl⟩
  · have e : szF left n = left - n := by unfold szF; rw [if_neg h]
    rw [e]
    go_enter Try.func63, Try.ntmps63
    go_wp2_with fail
    go_ret
    exact ⟨rfl, rfl⟩

theorem szInt64SS_any (A : Option Addr) (n c : Nat) (rows : List (List Int)) (left : Int) (h0 : 0 ≤ left) (h1 : left ≤ 1048576) (w : World) (h : RdRows w A n rows) :
    Calls Try.prog 46 #[.slice A n c, .int .i64 left] w fun e w' => e = .returned (.int .i64 (szRowsF left rows)) ∧ w = w' := by
  have HN := Lib.hid h.len
  have hle := h.le
  by_cases hl : left - n < 0
  · have e : szRowsF left rows = -1 := by unfold szRowsF; rw [HN.out, if_pos hl]
    rw [e]
    go_enter Try.func46, Try.ntmps46
    go_wp2_with fail
    go_ret
    exact ⟨rfl, rfl⟩
  · have e : szRowsF left rows = szGo (left - n) rows := by unfold szRowsF; rw [HN.out, if_neg hl]
    rw [e]
    go_enter Try.func46, Try.ntmps46
    go_wp2_with fail
    go_loop [1, 5] (fun t i => ∃ (k : Nat) (l : Int), k ≤ n ∧ i = .int .i64 k ∧ t = .int .i64 l ∧ 0 ≤ l ∧ l ≤ 1048576 ∧ szGo l (rows.drop k) = szGo (left - n) rows) (fun _ i => n - (intOf i).toNat)
    case atStart => exact ⟨0, _, Nat.zero_le _, rfl, rfl, by omega, by omega, rfl⟩
    case round =>
      obtain ⟨k, l, hk, rfl, rfl, hl0, hl1, hr⟩ := hrel
      have HR := Lib.hid hr; clear hr
      by_cases hlt : k < n
      · obtain ⟨b, o, A', c', xs, rfl, hx, hd, hc, hrd⟩ := h.row hlt
        have HD := Lib.hid hd; clear hd hx
        have hxl := hrd.le
        generalize hm : xs.length = m at *
        have HM := Lib.hid hm; clear hm
        have hc1 := fun w => szInt64S_any A' m c' hxl l hl0 hl1 w
        by_cases hneg : l - m < 0
        · have e : szF l m = -1 := by unfold szF; rw [if_pos hneg]
          rw [e] at hc1
          have HC := Lib.hid hc1; clear hc1
          go_wp2_with (go_at_call 63; refine (HC.out _).mono ?_; rintro e w' ⟨rfl, rfl⟩)
          go_ret
          exact ⟨ret_int (by rw [← HR.out, HD.out, szGo, HM.out, if_pos hneg]), rfl⟩
        · have e : szF l m = l - m := by unfold szF; rw [if_neg hneg]
          rw [e] at hc1
          have HC := Lib.hid hc1; clear hc1
          go_wp2_with (go_at_call 63; refine (HC.out _).mono ?_; rintro e w' ⟨rfl, rfl⟩)
          go_round
          case rel => exact ⟨k + 1, l - m, by omega, by go_num, rfl, by omega, by omega, by rw [← HR.out, HD.out, szGo, HM.out, if_neg (by omega)]⟩
          case measure => simp [intOf]; omega
      · obtain rfl : k = n := by omega
        go_wp2
        go_ret
        exact ⟨ret_int (by rw [← HR.out, List.drop_eq_nil_of_le (by rw [HN.out]; omega), szGo]), rfl⟩

/-! ### Lengths together -/
def sumLen : List (List Int) → Nat
  | [] => 0
  | x :: r => x.length + sumLen r
theorem sumLen_take_le (rows : List (List Int)) (j : Nat) : sumLen (rows.take j) ≤ sumLen rows := by
  induction rows generalizing j with
  | nil => simp
  | cons x r ih =>
    cases j with
    | zero => simp [sumLen]
    | succ j => simp only [List.take_succ_cons, sumLen]; have := ih j; omega
theorem sumLen_snoc (rows : List (List Int)) (x : List Int) : sumLen (rows ++ [x]) = sumLen rows + x.length := by
  induction rows with
  | nil => simp [sumLen]
  | cons y r ih => simp only [List.cons_append, sumLen, ih]; omega
theorem sumLen_le {rows : List (List Int)} {m : Nat} (h : ∀ x ∈ rows, x.length ≤ m) : sumLen rows ≤ rows.length * m := by
  induction rows with
  | nil => simp [sumLen]
  | cons x r ih =>
    have h1 := h x (by simp)
    have h2 := ih (fun y hy => h y (by simp [hy]))
    simp only [sumLen, List.length_cons, Nat.add_mul, Nat.one_mul]
    omega

/-! ### Copy -/
def RetRowsCopy (w : World) (rows : List (List Int)) (e : Ending) (w' : World) : Prop :=
  ∃ A n c vs, e = .returned (.slice A n c) ∧ OwnRows w' w.heap.size 31 2 A n c vs rows ∧ sumLen rows ≤ 576460752303423488 ∧ Below w.heap.size w w'

theorem toInt64SS_any (A : Option Addr) (n c : Nat) (rows : List (List Int)) (w : World) (h : RdRows w A n rows) (hn : n ≤ 1048576) (hrow : ∀ x ∈ rows, x.length ≤ 1048576) :
    Calls Try.prog 49 #[.slice A n c] w (RetRowsCopy w rows) := by
  have HN := Lib.hid h.len
  have HROW := Lib.hid hrow; clear hrow
  have hmk := run_make_rows n hn
  have hown := OwnRows.made w w.heap.size 31 2 n (Nat.le_refl _) (by omega)
  have hb0 : Below w.heap.size w (w.alloc (.cells (madeCells #[.slice none 0 0] n) 31)) := (Below.refl _ _).alloc (Nat.le_refl _) _
  go_enter Try.func49, Try.ntmps49
  go_wp2_with fail
  go_loopw [4] (fun i wr => ∃ (k : Nat) (vs : List Value), k ≤ n ∧ i = .int .i64 k ∧ OwnRows wr w.heap.size 31 2 (some ⟨w.heap.size, 0, none⟩) n n vs (rows.take k ++ List.replicate (n - k) []) ∧ Below w.heap.size w wr) (fun i _ => n - (intOf i).toNat)
  case atStart => exact ⟨0, _, Nat.zero_le _, rfl, by simpa using hown, hb0⟩
  case round =>
    obtain ⟨k, vs, hk, rfl, ho, hb⟩ := hrel
    clear hown hb0 hmk
    by_cases hlt : k < n
    · obtain ⟨b, o, A', c', xs, rfl, hx, _, hc, hrd⟩ := (h.below hb).row hlt
      have HX := Lib.hid hx
      have hxl := HROW.out xs (List.mem_of_getElem? hx)
      clear hx
      go_wp2_with fail
      refine (toInt64S_any _ _ _ _ _ hrd hxl).mono ?_
      rintro e w1 ⟨A1, n1, c1, rfl, ho1, hn1, hb1⟩
      have hl1 := own_len ho1
      subst hl1
      have ho' := ho.below hb1
      have hin := ho.in_
      obtain ⟨g, u, hg, hg1, hg2, _, hcy, hfy⟩ := own_at ho'.outer hlt
      obtain rfl : w.heap.size = g := by injection hg with hg; injection hg
      have hlt1 := ho1.lt
      have ho2 := ho'.put (by decide) (k := k) (own_base ho1 hb.size) (fun u hu b hb hb' => by have h1 := hlt1 b hb; have h2 := hin.2 u hu b hb'; omega)
      have hb2 := (hb.trans (hb1.mono hb.size)).setCell (p := ⟨w.heap.size, k, none⟩) (Nat.le_refl _) (.slice A1 xs.length c1)
      clear hg hin hlt1
      go_wp2_with fail
      go_roundw
      case rel => exact ⟨k + 1, _, by omega, by go_num, by rw [← copy_stepG [] rows n k xs HN.out HX.out hlt]; exact ho2, hb2⟩
      case measure => simp [intOf]; omega
    · obtain rfl : k = n := by omega
      go_wp2
      go_ret
      have hsum : sumLen rows ≤ 576460752303423488 := by
        have h1 := sumLen_le HROW.out
        have h2 := Nat.mul_le_mul_right 1048576 hn
        rw [HN.out] at h1
        omega
      refine ⟨_, _, _, vs, rfl, ?_, hsum, hb⟩
      have hl := HN.out
      simpa [← hl] using ho

/-! ### Compare -/
theorem eqInt64SS_any (A A' : Option Addr) (n c n' c' : Nat) (xs ys : List (List Int)) (w : World) (h : RdRows w A n xs) (h' : RdRows w A' n' ys) :
    Calls Try.prog 53 #[.slice A n c, .slice A' n' c'] w fun e w' => e = .returned (.bool (decide (xs = ys))) ∧ Drawn w w' := by
  have HN := Lib.hid h.len
  have HN' := Lib.hid h'.len
  have hm := h.le
  by_cases hl : n = n'
  · subst hl
    go_enter Try.func53, Try.ntmps53
    go_wp2
    go_loopw [5] (fun i wr => ∃ k : Nat, k ≤ n ∧ i = .int .i64 k ∧ Hid (xs = ys ↔ xs.drop k = ys.drop k) ∧ Drawn w wr) (fun i _ => n - (intOf i).toNat)
    case atStart => exact ⟨0, Nat.zero_le _, rfl, Iff.rfl, Drawn.refl _⟩
    case round =>
      obtain ⟨k, hk, rfl, HA, hq⟩ := hrel
      by_cases hlt : k < n
      · obtain ⟨b, o, B, cB, x, rfl, _, hd, hc, hrd⟩ := (h.drawn hq).row hlt
        obtain ⟨b', o', B', cB', x', rfl, _, hd', hc', hrd'⟩ := (h'.drawn hq).row hlt
        have HD := Lib.hid hd; clear hd
        have HD' := Lib.hid hd'; clear hd'
        have hcall := fun q : Nat => eqInt64S_any B B' x.length cB x'.length cB' x x' (wr.drewN q) (hrd.drewN q) (hrd'.drewN q)
        by_cases hxx : x = x'
        · subst hxx
          simp only [decide_true] at hcall
          have HC := Lib.hid hcall; clear hcall
          go_wp2
          go_quiet ((go_at_call 26; exact Calls.quiet_of (HC.out _)))
          go_wp2
          go_roundw
          case rel => exact ⟨k + 1, by omega, by go_num, by unfold Hid; rw [HA.out, HD.out, HD'.out]; simp, hq.step _⟩
          case measure => simp [intOf]; omega
        · rw [decide_eq_false hxx] at hcall
          have HC := Lib.hid hcall; clear hcall
          go_wp2
          go_quiet ((go_at_call 26; exact Calls.quiet_of (HC.out _)))
          go_wp2
          go_ret
          exact ⟨ret_bool (by rw [eq_comm, decide_eq_false_iff_not, HA.out, HD.out, HD'.out]; simp [hxx]), hq.step _⟩
      · obtain rfl : k = n := by omega
        go_wp2
        go_ret
        exact ⟨ret_bool (by rw [eq_comm, decide_eq_true_iff, HA.out, List.drop_eq_nil_of_le (by rw [HN.out]; omega), List.drop_eq_nil_of_le (by rw [HN'.out]; omega)]), hq⟩
  · have hne : ((n : Int) != n') = true := by simp; omega
    go_enter Try.func53, Try.ntmps53
    go_wp2
    go_ret
    exact ⟨ret_bool (by rw [eq_comm, decide_eq_false_iff_not]; rintro rfl; exact hl (HN.out.symm.trans HN'.out)), Drawn.refl _⟩

/-! ### Mark and hold -/
def seqRows (k : Int) : List (List Int) → List (List Int)
  | [] => []
  | x :: r => seqFrom k x.length :: seqRows (k + x.length) r
theorem seqRows_length (k : Int) (rows : List (List Int)) : (seqRows k rows).length = rows.length := by
  induction rows generalizing k with
  | nil => rfl
  | cons x r ih => simp [seqRows, ih]
theorem seqRows_sum (k : Int) (rows : List (List Int)) : sumLen (seqRows k rows) = sumLen rows := by
  induction rows generalizing k with
  | nil => rfl
  | cons x r ih => simp [seqRows, sumLen, ih, seqFrom_length]
theorem seqRows_get (k : Int) (rows : List (List Int)) (j : Nat) (x : List Int) (h : rows[j]? = some x) : (seqRows k rows)[j]? = some (seqFrom (k + sumLen (rows.take j)) x.length) := by
  induction rows generalizing k j with
  | nil => simp at h
  | cons y r ih =>
    cases j with
    | zero => simp at h; subst h; simp [seqRows, sumLen]
    | succ j =>
      simp only [seqRows, List.getElem?_cons_succ, List.take_succ_cons, sumLen]
      rw [ih _ _ (by simpa using h)]
      congr 2
      omega
theorem mix_set {α : Type} (ys xs : List α) (j : Nat) (y : α) (hl : ys.length = xs.length) (hy : ys[j]? = some y) : (ys.take j ++ xs.drop j).set j y = ys.take (j + 1) ++ xs.drop (j + 1) := by
  have hj : j < ys.length := (List.getElem?_eq_some_iff.1 hy).1
  have hj' : j < xs.length := by omega
  rw [List.set_append, if_neg (by simp; omega), take_snoc_get hy, List.drop_eq_getElem_cons hj']
  have e : j - (ys.take j).length = 0 := by simp; omega
  rw [e, List.set_cons_zero, List.append_assoc]
  rfl
theorem mix_get {α : Type} (ys xs : List α) (j : Nat) (hl : ys.length = xs.length) (hj : j < xs.length) : (ys.take j ++ xs.drop j)[j]? = xs[j]? := by
  rw [List.getElem?_append_right (by simp; omega)]
  have e : j - (ys.take j).length = 0 := by simp; omega
  rw [e, List.getElem?_drop]; simp

/-- Result: new rows and a code. -/
def RetR (w : World) (r : List (List Int) × Int) (e : Ending) (w' : World) : Prop :=
  ∃ A n c vs, e = .returned (.tuple #[.slice A n c, .int .i64 r.2]) ∧ OwnRows w' w.heap.size 31 2 A n c vs r.1 ∧ sumLen r.1 ≤ 576460752303423488 ∧ Below w.heap.size w w'
theorem RetR.nil (w w' : World) (code : Int) (h : Below w.heap.size w w') : RetR w ([], code) (.returned (.tuple #[.slice none 0 0, .int .i64 code])) w' :=
  ⟨none, 0, 0, [], rfl, OwnRows.nil _ _ _ _, by simp [sumLen], h⟩

/-- One row is appended to own rows. -/
theorem app_row {ops : Array Oper} {rest : List Oper} {o : Oper} {a : Act} {Q : Exit → Act → World → Prop} (w : World) (hgd : o.guard = none) (s x : Operand)
    (ho : o.op = .call { callee := .builtin .append, args := #[s, x], argTypes := #[24, 24] }) {base n c : Nat} {A : Option Addr} {vs : List Value}
    (hs : a.eval s = .slice A n c) (hown : w.ownsRow base 31 1 (.slice A n c) n vs) {ad : Addr} {B : Option Addr} {m d : Nat} (hx : a.eval x = .slice (some ad) 1 1)
    (hc : w.cell? ad = some (.slice B m d)) (hn : n ≤ 1099511627776) (hbase : base ≤ w.heap.size)
    (h : ∀ A' c' w', w'.ownsRow base 31 1 (.slice A' (n + 1) c') (n + 1) (vs ++ [.slice B m d]) → w.grownBy w' (Value.slice A n c).ownBlock → wpList Try.prog ops Q rest (a.put o.dst (.slice A' (n + 1) c')) w') :
    wpList Try.prog ops Q (o :: rest) a w := by
  obtain ⟨i, hi, hz, hs1, hb1⟩ := info_parts Try.info_ints
  refine wpList_append_own w hgd s x 24 ho base 31 i (.slice none 0 0) 1 24 Try.underlying24 hi hz hs1 hb1 rfl (by decide) (.slice A n c) n vs hs hown ad 1 1 [.slice B m d] hx rfl ?_ ?_ (by unfold maxLen; omega) (by omega) hbase ?_
  · intro j u hu
    have hj : j = 0 := by
      rcases j with _ | j
      · rfl
      · simp at hu
    subst hj
    have hadd : ad.add 0 = ad := by simp [Addr.add]
    rw [hadd, hc]
    simpa using hu
  · intro u hu
    simp at hu
    subst hu
    rfl
  · intro v' w' h1 h2 _
    rcases h1.2 with ⟨rfl, h0⟩ | ⟨g, cap, cur, rfl, _⟩
    · omega
    · exact h _ _ w' h1 h2
theorem eqInt64SS_below (A A' : Option Addr) (n c n' c' : Nat) (xs ys : List (List Int)) (w : World) (h : RdRows w A n xs) (h' : RdRows w A' n' ys) :
    Calls Try.prog 53 #[.slice A n c, .slice A' n' c'] w fun e w' => e = .returned (.bool (decide (xs = ys))) ∧ Below w.heap.size w w' :=
  (eqInt64SS_any A A' n c n' c' xs ys w h h').mono fun _ _ ⟨h1, h2⟩ => ⟨h1, h2.below⟩
end Go.Proofs.Ytmgkoldipchljaa

/- Tables in memory: two slices of slices of integers behind a number. No Go function in sight. -/
namespace Go.Proofs.Ytmgkoldipchljaa
open Go.RowKit
set_option linter.unusedVariables false

/-- A table: boats, points, codes. -/
structure Tb where
  boats : Int
  pts : List (List Int)
  cds : List (List Int)
/-- A table's slices read as the table. -/
structure RdT (w : World) (P : Option Addr) (n : Nat) (C : Option Addr) (m : Nat) (t : Tb) : Prop where
  pts : RdRows w P n t.pts
  cds : RdRows w C m t.cds
theorem RdT.below {w w' : World} {P C : Option Addr} {n m : Nat} {t : Tb} (h : RdT w P n C m t) (k : Below w.heap.size w w') : RdT w' P n C m t := ⟨h.pts.below k, h.cds.below k⟩
theorem RdT.keep {w w' : World} {P C : Option Addr} {n m : Nat} {t : Tb} (h : RdT w P n C m t) (k : Keeps w w') : RdT w' P n C m t := ⟨h.pts.keep k, h.cds.keep k⟩
/-- A table of the call's own. -/
structure OwnT (w : World) (base : Nat) (P : Option Addr) (n c : Nat) (vs : List Value) (C : Option Addr) (m d : Nat) (us : List Value) (t : Tb) : Prop where
  pts : OwnRows w base 31 2 P n c vs t.pts
  cds : OwnRows w base 31 2 C m d us t.cds
  apO : ∀ g, (Value.slice P n c).ownBlock = some g → (Value.slice C m d).ownBlock ≠ some g
  apR : ∀ v ∈ vs, ∀ u ∈ us, ∀ g, v.ownBlock = some g → u.ownBlock ≠ some g
/-- The blocks of a table lie from lo to below hi. -/
def TIn (lo hi : Nat) (P : Option Addr) (n c : Nat) (vs : List Value) (C : Option Addr) (m d : Nat) (us : List Value) : Prop :=
  RowsIn lo hi P n c vs ∧ RowsIn lo hi C m d us
section
variable {w w' : World} {base n c m d : Nat} {P C : Option Addr} {vs us : List Value} {t : Tb}
theorem OwnT.rd (h : OwnT w base P n c vs C m d us t) : RdT w P n C m t := ⟨h.pts.rd, h.cds.rd⟩
theorem OwnT.in_ (h : OwnT w base P n c vs C m d us t) : TIn base w.heap.size P n c vs C m d us := ⟨h.pts.in_, h.cds.in_⟩
theorem OwnT.below (h : OwnT w base P n c vs C m d us t) (k : Below w.heap.size w w') : OwnT w' base P n c vs C m d us t := ⟨h.pts.below k, h.cds.below k, h.apO, h.apR⟩
theorem OwnT.base' {base' : Nat} (h : OwnT w base P n c vs C m d us t) (hb : base' ≤ base) : OwnT w base' P n c vs C m d us t := ⟨h.pts.base' hb, h.cds.base' hb, h.apO, h.apR⟩
theorem OwnT.chg {lo hi : Nat} (h : OwnT w base P n c vs C m d us t) (k : Chg lo hi w w') {lo2 hi2 : Nat} (hv : TIn lo2 hi2 P n c vs C m d us) (hd : hi2 ≤ lo ∨ hi ≤ lo2) : OwnT w' base P n c vs C m d us t :=
  ⟨h.pts.chg k hv.1 hd, h.cds.chg k hv.2 hd, h.apO, h.apR⟩
/-- Two slices of slices that lie one behind the other. -/
theorem OwnT.join {mid : Nat} (h1 : OwnRows w base 31 2 P n c vs t.pts) (h2 : OwnRows w mid 31 2 C m d us t.cds) (hb : base ≤ mid) (hv : RowsIn base mid P n c vs) : OwnT w base P n c vs C m d us t := by
  have hu := h2.in_
  refine ⟨h1, h2.base' hb, fun g hg hg' => ?_, fun v hv' u hu' g hg hg' => ?_⟩
  · have := hv.1 g hg; have := hu.1 g hg'; omega
  · have := hv.2 v hv' g hg; have := hu.2 u hu' g hg'; omega
end
/-- Result: a new table. -/
def RetT (w : World) (t : Tb) (e : Ending) (w' : World) : Prop :=
  ∃ P n c vs C m d us, e = .returned (.agg #[.int .i64 t.boats, .slice P n c, .slice C m d]) ∧ OwnT w' w.heap.size P n c vs C m d us t ∧ (sumLen t.pts ≤ 1099511627776 ∧ sumLen t.cds ≤ 1099511627776) ∧ Below w.heap.size w w'
/-- Result: a new table and a code. -/
def RetTC (w : World) (r : Tb × Int) (e : Ending) (w' : World) : Prop :=
  ∃ P n c vs C m d us, e = .returned (.tuple #[.agg #[.int .i64 r.1.boats, .slice P n c, .slice C m d], .int .i64 r.2]) ∧ OwnT w' w.heap.size P n c vs C m d us r.1 ∧ (sumLen r.1.pts ≤ 1099511627776 ∧ sumLen r.1.cds ≤ 1099511627776) ∧ Below w.heap.size w w'
def noT : Tb := ⟨0, [], []⟩
theorem OwnT.nil (w : World) (base : Nat) : OwnT w base none 0 0 [] none 0 0 [] noT := ⟨OwnRows.nil _ _ _ _, OwnRows.nil _ _ _ _, fun g h => by simp [Value.ownBlock] at h, fun v hv => by simp at hv⟩
theorem RetTC.nil (w w' : World) (code : Int) (h : Below w.heap.size w w') : RetTC w (noT, code) (.returned (.tuple #[.agg #[.int .i64 0, .slice none 0 0, .slice none 0 0], .int .i64 code])) w' :=
  ⟨none, 0, 0, [], none, 0, 0, [], rfl, OwnT.nil _ _, by simp [noT, sumLen], h⟩
end Go.Proofs.Ytmgkoldipchljaa

/- Plain: valid tables, averages, redress. -/
namespace Go.Proofs.Ytmgkoldipchljaa
open Go.RowKit
set_option linter.unusedVariables false

/-- Two columns of rows are valid for a number of boats. -/
def zipB (b : Int) : List (List Int) → List (List Int) → Bool
  | p :: ps, c :: cs => rowB p b 10000 && rowB c b 9 && zipB b ps cs
  | _, _ => true
theorem zipB_nil (b : Int) (cs : List (List Int)) : zipB b [] cs = true := by cases cs <;> rfl
def tableB (t : Tb) : Bool := withinB t.boats 1 16 && decide (t.pts.length ≤ 12) && decide (t.pts.length = t.cds.length) && zipB t.boats t.pts t.cds
/-- Two rows of equal length, side by side. -/
def pairB : List Int → List Int → Bool
  | p :: ps, c :: cs => withinB p 0 10000 && withinB c 0 9 && pairB ps cs
  | _, _ => true
theorem pairB_nil (q : List Int) : pairB [] q = true := by cases q <;> rfl
theorem pairB_eq (b : Int) : ∀ (p c : List Int), (p.length : Int) = b → (c.length : Int) = b → (rowB p b 10000 && rowB c b 9) = pairB p c := by
  intro p c h1 h2
  have hl : p.length = c.length := by omega
  have key : ∀ (p c : List Int), p.length = c.length → (p.all (fun x => withinB x 0 10000) && c.all (fun x => withinB x 0 9)) = pairB p c := by
    intro p
    induction p with
    | nil => intro c h; cases c <;> simp_all [pairB]
    | cons x p ih =>
      intro c h
      cases c with
      | nil => simp at h
      | cons y c =>
        have := ih c (by simpa using h)
        simp only [List.all_cons, pairB, ← this]
        cases withinB x 0 10000 <;> cases withinB y 0 9 <;> simp [Bool.and_comm]
  rw [← key p c hl]
  unfold rowB
  have e1 : ((p.length : Int) == b) = true := by simp [h1]
  have e2 : ((c.length : Int) == b) = true := by simp [h2]
  rw [e1, e2]
  simp
theorem rowB_false {xs : List Int} {b most : Int} (h : (xs.length : Int) ≠ b) : rowB xs b most = false := by
  unfold rowB
  have : ((xs.length : Int) == b) = false := by simpa using h
  rw [this, Bool.and_false]
theorem rowB_ok {xs : List Int} {b most : Int} (h : rowB xs b most = true) : (xs.length : Int) = b ∧ ∀ x ∈ xs, 0 ≤ x ∧ x ≤ most := by
  unfold rowB at h
  simp only [Bool.and_eq_true, List.all_eq_true, beq_iff_eq] at h
  exact ⟨h.2, fun x hx => withinB_iff.1 (h.1 x hx)⟩
theorem zipB_at {b : Int} : ∀ {ps cs : List (List Int)}, zipB b ps cs = true → ∀ (k : Nat) (p c : List Int), ps[k]? = some p → cs[k]? = some c → rowB p b 10000 = true ∧ rowB c b 9 = true := by
  intro ps
  induction ps with
  | nil => intro cs h k p c hp; simp at hp
  | cons p0 ps ih =>
    intro cs h k p c hp hc
    cases cs with
    | nil => simp at hc
    | cons c0 cs =>
      simp only [zipB, Bool.and_eq_true] at h
      cases k with
      | zero => simp at hp hc; subst hp; subst hc; exact h.1
      | succ k => exact ih h.2 k p c (by simpa using hp) (by simpa using hc)
/-- What a valid table is. -/
structure TabOk (t : Tb) : Prop where
  b1 : 1 ≤ t.boats
  b2 : t.boats ≤ 16
  many : t.pts.length ≤ 12
  same : t.pts.length = t.cds.length
  row : ∀ (k : Nat) (p c : List Int), t.pts[k]? = some p → t.cds[k]? = some c → ((p.length : Int) = t.boats ∧ ∀ x ∈ p, 0 ≤ x ∧ x ≤ 10000) ∧ ((c.length : Int) = t.boats ∧ ∀ x ∈ c, 0 ≤ x ∧ x ≤ 9)
theorem tableB_ok {t : Tb} (h : tableB t = true) : TabOk t := by
  unfold tableB at h
  simp only [Bool.and_eq_true, decide_eq_true_eq] at h
  obtain ⟨⟨⟨h1, h2⟩, h3⟩, h4⟩ := h
  have hb := withinB_iff.1 h1
  exact ⟨hb.1, hb.2, h2, h3, fun k p c hp hc => ⟨rowB_ok (zipB_at h4 k p c hp hc).1, rowB_ok (zipB_at h4 k p c hp hc).2⟩⟩
theorem TabOk.tableB {t : Tb} (h : TabOk t) : tableB t = true := by
  have hz : ∀ (ps cs : List (List Int)), (∀ (k : Nat) (p c : List Int), ps[k]? = some p → cs[k]? = some c → ((p.length : Int) = t.boats ∧ ∀ x ∈ p, 0 ≤ x ∧ x ≤ 10000) ∧ ((c.length : Int) = t.boats ∧ ∀ x ∈ c, 0 ≤ x ∧ x ≤ 9)) → zipB t.boats ps cs = true := by
    intro ps
    induction ps with
    | nil => intro cs _; simp [zipB]
    | cons p ps ih =>
      intro cs h
      cases cs with
      | nil => simp [zipB]
      | cons c cs =>
        obtain ⟨⟨h1, h2⟩, h3, h4⟩ := h 0 p c rfl rfl
        have := ih cs (fun k p c hp hc => h (k + 1) p c (by simpa using hp) (by simpa using hc))
        simp only [zipB, this, Bool.and_true, Bool.and_eq_true, rowB, List.all_eq_true, beq_iff_eq]
        exact ⟨⟨fun x hx => withinB_iff.2 (h2 x hx), h1⟩, fun x hx => withinB_iff.2 (h4 x hx), h3⟩
  unfold Go.Proofs.Ytmgkoldipchljaa.tableB
  rw [hz _ _ h.row, withinB_iff.2 ⟨h.b1, h.b2⟩]
  rw [decide_eq_true h.many, decide_eq_true h.same]
  rfl

/-- Whether race k counts for an average. -/
def otherB (race kind : Int) (k : Nat) : Bool := !((k : Int) == race) && !(kind == 2 && decide (race < (k : Int)))
theorem otherB_all {race kind : Int} (k : Nat) (h : kind = 1 ∨ kind = 2) : otherB race kind k = (decide ((k : Int) < race) || (decide ((k : Int) > race) && (kind == 1))) := by
  unfold otherB
  rcases h with rfl | rfl
  · by_cases h1 : (k : Int) < race
    · simp [h1]; omega
    · by_cases h2 : (k : Int) > race <;> simp [h1, h2] <;> omega
  · by_cases h1 : (k : Int) < race
    · simp [h1]; omega
    · by_cases h2 : (k : Int) > race <;> simp [h1, h2] <;> omega
def avgGo (race kind : Int) (b : Nat) : Nat → List (List Int) → List (List Int) → Int → Int → Int × Int
  | k, p :: ps, c :: cs, s, m => if (otherB race kind k && !(c.getD b 0 == 9)) = true then avgGo race kind b (k + 1) ps cs (s + p.getD b 0) (m + 1) else avgGo race kind b (k + 1) ps cs s m
  | _, _, _, s, m => (s, m)
theorem avgGo_nil (race kind : Int) (b k : Nat) (cs : List (List Int)) (s m : Int) : avgGo race kind b k [] cs s m = (s, m) := by cases cs <;> rfl
def avgOf (r : Int × Int) : Int × Bool := if r.2 = 0 then (0, false) else ((2 * r.1 + r.2) / (2 * r.2), true)
def avgF (t : Tb) (race boat kind : Int) : Int × Bool := avgOf (avgGo race kind boat.toNat 0 t.pts t.cds 0 0)
def avgPointsF (t : Tb) (race boat kind : Int) : Int × Int :=
  if tableB t = true then (if withinB race 0 ((t.pts.length : Int) - 1) = true ∧ withinB boat 0 (t.boats - 1) = true ∧ withinB kind 1 2 = true then (if (avgF t race boat kind).2 = true then ((avgF t race boat kind).1, 0) else (0, 4)) else (0, 2)) else (0, 1)

/-! ### Redress -/
abbrev RedT := Int × Int × Int × Int
def isRedBT (kind points : Int) : Bool := if kind = 3 then withinB points 0 10000 else withinB kind 1 2 && (points == 0)
def codeAt (t : Tb) (race boat : Int) : Int := (t.cds.getD race.toNat []).getD boat.toNat 0
def redB (t : Tb) (x : RedT) : Bool :=
  withinB x.1 0 ((t.pts.length : Int) - 1) && withinB x.2.1 0 (t.boats - 1) && isRedBT x.2.2.1 x.2.2.2 && (codeAt t x.1 x.2.1 == 9) && (x.2.2.1 == 3 || (avgF t x.1 x.2.1 x.2.2.1).2)
def ltRB (y x : RedT) : Bool := decide (y.1 < x.1) || ((y.1 == x.1) && decide (y.2.1 < x.2.1))
def redsGo (t : Tb) : Option RedT → List RedT → Bool
  | _, [] => true
  | none, x :: r => redB t x && redsGo t (some x) r
  | some y, x :: r => redB t x && ltRB y x && redsGo t (some x) r
def redsB (t : Tb) (xs : List RedT) : Bool := redsGo t none xs
def redCodeF (t : Tb) (xs : List RedT) : Int := if tableB t = true then (if redsB t xs = true then 0 else 2) else 1
def redVal (t : Tb) (x : RedT) : Int := if x.2.2.1 = 3 then x.2.2.2 else (avgF t x.1 x.2.1 x.2.2.1).1
def setRC (rows : List (List Int)) (r b : Nat) (v : Int) : List (List Int) := rows.set r ((rows.getD r []).set b v)
def applyGo (t : Tb) : List RedT → List (List Int) → List (List Int)
  | [], rows => rows
  | x :: r, rows => applyGo t r (setRC rows x.1.toNat x.2.1.toNat (redVal t x))
def applyF (t : Tb) (xs : List RedT) : Tb := ⟨t.boats, applyGo t xs t.pts, t.cds⟩
def namedB (xs : List RedT) (k b : Int) : Bool := xs.any fun x => x.1 == k && x.2.1 == b
def openRow (xs : List RedT) (k : Nat) : Nat → List Int → List (List Int)
  | _, [] => []
  | b, c :: cs => (if (c == 9 && !namedB xs k b) = true then [[(k : Int), (b : Int)]] else []) ++ openRow xs k (b + 1) cs
def openGo (xs : List RedT) : Nat → List (List Int) → List (List Int)
  | _, [] => []
  | k, r :: rs => openRow xs k 0 r ++ openGo xs (k + 1) rs
def openF (t : Tb) (xs : List RedT) : List (List Int) × Int := if redCodeF t xs = 0 then (openGo xs 0 t.cds, 0) else ([], redCodeF t xs)
def applyCF (t : Tb) (xs : List RedT) : Tb × Int := if redCodeF t xs = 0 then (applyF t xs, 0) else (noT, redCodeF t xs)
end Go.Proofs.Ytmgkoldipchljaa

/- Walks: what the points of fleets need of the fleets (chapter 30). -/
namespace Go.Proofs.Ytmgkoldipchljaa
open Go.RowKit
set_option linter.unusedVariables false
set_option maxRecDepth 100000

theorem fleetsB_len {xs : List Int} {k : Int} (h : fleetsB xs k = true) : 1 ≤ xs.length ∧ xs.length ≤ 16 := by
  unfold fleetsB at h
  simp only [Bool.and_eq_true, withinB_iff] at h
  omega
theorem fleetsB_mem {xs : List Int} {k : Int} (h : fleetsB xs k = true) {i : Nat} {x : Int} (hx : xs[i]? = some x) : ∃ j : Nat, x = j ∧ (j : Int) < k := by
  unfold fleetsB at h
  simp only [Bool.and_eq_true, List.all_eq_true] at h
  have := withinB_iff.1 (h.2 x (List.mem_of_getElem? hx))
  exact ⟨x.toNat, by omega, by omega⟩
theorem fleetsCode_ok {xs : List Int} {k : Int} (h : fleetsCodeF xs k = 0) : 1 ≤ k ∧ k ≤ 4 ∧ fleetsB xs k = true := by
  unfold fleetsCodeF at h
  split at h
  · rename_i h1
    split at h
    · rename_i h2
      exact ⟨(withinB_iff.1 h1).1, (withinB_iff.1 h1).2, h2⟩
    · cases h
  · cases h

end Go.Proofs.Ytmgkoldipchljaa

/- Appends: rows to rows, numbers to numbers, at a step of a drawn region and in a plain one; slices.Clone. -/
namespace Go.Proofs.Ytmgkoldipchljaa
open Go.RowKit
set_option linter.unusedVariables false
set_option maxRecDepth 100000

theorem one_news {w : World} {ad : Addr} {v : Value} (hc : w.cell? ad = some v) : ∀ (j : Nat) (u : Value), [v][j]? = some u → w.cell? (ad.add j) = some u := by
  intro j u hu
  have hj : j = 0 := by
    rcases j with _ | j
    · rfl
    · simp at hu
  subst hj
  have hadd : ad.add 0 = ad := by simp [Addr.add]
  rw [hadd, hc]
  simpa using hu
theorem ints_one (k : IntKind) (ys : List Int) : ∀ u ∈ ints ys, u.oneCell' = true := by
  intro u hu
  unfold ints at hu
  obtain ⟨y, _, rfl⟩ := List.mem_map.1 hu
  rfl
theorem ints_news {w : World} {b o m : Nat} {ys : List Int} (h : Rd w 1 (some ⟨b, o, none⟩) m (ints ys)) : ∀ (j : Nat) (u : Value), (ints ys)[j]? = some u → w.cell? ((⟨b, o, none⟩ : Addr).add j) = some u := by
  intro j u hu
  have hl := h.len
  have hj := (List.getElem?_eq_some_iff.1 hu).1
  obtain ⟨b', o', e, hc⟩ := h.pos (by omega)
  injection e with e
  injection e with e1 e2
  subst e1 e2
  have hadd : (⟨b, o, none⟩ : Addr).add j = ⟨b, o + j, none⟩ := by unfold Addr.add; split <;> simp_all
  rw [hadd]
  exact hc j u hu
/-- Numbers are appended to a slice without room: the result lies in a new block, nothing else changes. -/
theorem run_fresh (w : World) (ty : TypeId) (e0 : Addr) {b f m d : Nat} {ys : List Int} (hr : Rd w 1 (some ⟨b, f, none⟩) m (ints ys)) (hm : 0 < m) (hn : m ≤ 1099511627776) :
    ∃ cap w', (Builtin.append_ #[31, 31] ty #[.slice (some e0) 0 0, .slice (some ⟨b, f, none⟩) m d]).run Try.prog w = .ok (.slice (some ⟨w.heap.size, 0, none⟩) m cap) w' ∧
      w'.ownsRow w.heap.size 2 1 (.slice (some ⟨w.heap.size, 0, none⟩) m cap) m (ints ys) ∧ Below w.heap.size w w' ∧ w.heap.size < w'.heap.size := by
  obtain ⟨i, hi, hz, hs1, hb1⟩ := info_parts Try.info_i64
  have hl := hr.len
  have hl1 : (ints ys).length = m * i.size := by rw [hs1, hl]
  have hx := run_append_grow (P := Try.prog) w 31 ty 2 i (.int .i64 0) Try.underlying31 hi hz e0 0 0 [] (by simp) (fun j v h => by simp at h) ⟨b, f, none⟩ m d (ints ys) hl1 (ints_news hr) (by omega) (by omega) (growslice_fits (by omega) (by rw [hb1]; omega))
  rw [Nat.zero_add] at hx
  refine ⟨_, _, hx, ⟨hl, .inr ⟨w.heap.size, _, _, rfl, Nat.le_refl _, heap_alloc_new _ _, grownCap_ge _ _ _ _, grownCap_le_maxLen _ _ _ _ (by unfold maxLen; omega), ?_, ?_⟩⟩, (below_drewN' _ w 1).alloc (Nat.le_refl _) _, by simp⟩
  · have hg := grownCap_ge w m 0 2
    simp [Builtin.zeroCells, Value.cells, hl]
    omega
  · have hl' : (ints ys).length = m := by rw [hl, Nat.mul_one]
    rw [Nat.mul_one, Array.toList_append, Array.toList_append, List.append_assoc]
    have e : ([] : List Value).toArray.toList = [] := rfl
    rw [e, List.nil_append, List.take_append_of_le_length (by rw [List.toList_toArray, hl']; exact Nat.le_refl _), List.toList_toArray, List.take_of_length_le (by rw [hl']; exact Nat.le_refl _)]
section
variable {ops : Array Oper} {rest : List Oper} {o : Oper} {a : Act} {K : Act → World → Prop} {Q : Exit → Act → World → Prop} {E : Prop}
/-- One row is appended, at a step of a drawn region. -/
theorem step_row (w : World) (hgd : o.guard = none) (s x : Operand)
    (ho : o.op = .call { callee := .builtin .append, args := #[s, x], argTypes := #[24, 24] }) {base n c : Nat} {A : Option Addr} {vs : List Value}
    (hs : a.eval s = .slice A n c) (hown : w.ownsRow base 31 1 (.slice A n c) n vs) {ad : Addr} {B : Option Addr} {m d : Nat} (hx : a.eval x = .slice (some ad) 1 1)
    (hc : w.cell? ad = some (.slice B m d)) (hn : n ≤ 1099511627776) (hbase : base ≤ w.heap.size)
    (h : ∀ g c' w', w'.ownsRow base 31 1 (.slice (some ⟨g, 0, none⟩) (n + 1) c') (n + 1) (vs ++ [.slice B m d]) → w.grownBy w' (Value.slice A n c).ownBlock → ((Value.slice A n c).ownBlock = some g ∨ g = w.heap.size) → g < w'.heap.size → K (a.put o.dst (.slice (some ⟨g, 0, none⟩) (n + 1) c')) w') :
    if Region.wanted o (yielded ops a.tmps) = true then Oper.wp Try.prog o a w K Q else E := by
  obtain ⟨i, hi, hz, hs1, hb1⟩ := info_parts Try.info_ints
  exact step_append_lies w hgd s x 24 ho base 31 i (.slice none 0 0) 1 24 Try.underlying24 hi hz hs1 hb1 rfl (by decide) (.slice A n c) n vs hs hown ad 1 1 [.slice B m d] hx rfl (one_news hc)
    (by intro u hu; simp at hu; subst hu; rfl) (by decide) (by unfold maxLen; omega) (by omega) hbase _ rfl h
/-- Numbers are appended, at a step of a drawn region; the source is not empty. -/
theorem step_ints (w : World) (hgd : o.guard = none) (s x : Operand)
    (ho : o.op = .call { callee := .builtin .append, args := #[s, x], argTypes := #[31, 31] }) {base n c : Nat} {A : Option Addr} {xs : List Int}
    (hs : a.eval s = .slice A n c) (hown : w.ownsRow base 2 1 (.slice A n c) n (ints xs)) {b f m d : Nat} {ys : List Int} (hx : a.eval x = .slice (some ⟨b, f, none⟩) m d)
    (hr : Rd w 1 (some ⟨b, f, none⟩) m (ints ys)) (hm : 0 < m) (hn : n + m ≤ 1099511627776) (hbase : base ≤ w.heap.size) (N' : Nat) (hN' : n + m = N')
    (h : ∀ g c' w', w'.ownsRow base 2 1 (.slice (some ⟨g, 0, none⟩) N' c') N' (ints (xs ++ ys)) → w.grownBy w' (Value.slice A n c).ownBlock → ((Value.slice A n c).ownBlock = some g ∨ g = w.heap.size) → g < w'.heap.size → K (a.put o.dst (.slice (some ⟨g, 0, none⟩) N' c')) w') :
    if Region.wanted o (yielded ops a.tmps) = true then Oper.wp Try.prog o a w K Q else E := by
  subst hN'
  obtain ⟨i, hi, hz, hs1, hb1⟩ := info_parts Try.info_i64
  exact step_append_lies w hgd s x 31 ho base 2 i (.int .i64 0) 1 8 Try.underlying31 hi hz hs1 hb1 rfl (by decide) (.slice A n c) n (ints xs) hs hown ⟨b, f, none⟩ m d (ints ys) hx (by have := hr.len; omega) (ints_news hr)
    (ints_one .i64 ys) hm (by unfold maxLen; omega) (by omega) hbase _ rfl (by rw [← ints_append]; exact h)
/-- Numbers are appended, in a plain region. -/
theorem app_ints (w : World) (hgd : o.guard = none) (s x : Operand)
    (ho : o.op = .call { callee := .builtin .append, args := #[s, x], argTypes := #[31, 31] }) {base n c : Nat} {A : Option Addr} {xs : List Int}
    (hs : a.eval s = .slice A n c) (hown : w.ownsRow base 2 1 (.slice A n c) n (ints xs)) {b f m d : Nat} {ys : List Int} (hx : a.eval x = .slice (some ⟨b, f, none⟩) m d)
    (hr : Rd w 1 (some ⟨b, f, none⟩) m (ints ys)) (hm : 0 < m) (hn : n + m ≤ 1099511627776) (hbase : base ≤ w.heap.size) (N' : Nat) (hN' : n + m = N')
    (h : ∀ g c' w', w'.ownsRow base 2 1 (.slice (some ⟨g, 0, none⟩) N' c') N' (ints (xs ++ ys)) → w.grownBy w' (Value.slice A n c).ownBlock → ((Value.slice A n c).ownBlock = some g ∨ g = w.heap.size) → g < w'.heap.size → wpList Try.prog ops Q rest (a.put o.dst (.slice (some ⟨g, 0, none⟩) N' c')) w') :
    wpList Try.prog ops Q (o :: rest) a w := by
  subst hN'
  obtain ⟨i, hi, hz, hs1, hb1⟩ := info_parts Try.info_i64
  exact wpList_append_lies w hgd s x 31 ho base 2 i (.int .i64 0) 1 8 Try.underlying31 hi hz hs1 hb1 rfl (by decide) (.slice A n c) n (ints xs) hs hown ⟨b, f, none⟩ m d (ints ys) hx (by have := hr.len; omega) (ints_news hr)
    (ints_one .i64 ys) hm (by unfold maxLen; omega) (by omega) hbase _ rfl (by rw [← ints_append]; exact h)
/-- Numbers are appended to a slice without room, at a step of a drawn region. -/
theorem step_fresh (w : World) (hgd : o.guard = none) (s x : Operand)
    (ho : o.op = .call { callee := .builtin .append, args := #[s, x], argTypes := #[31, 31] }) {e0 : Addr}
    (hs : a.eval s = .slice (some e0) 0 0) {b f m d : Nat} {ys : List Int} (hx : a.eval x = .slice (some ⟨b, f, none⟩) m d)
    (hr : Rd w 1 (some ⟨b, f, none⟩) m (ints ys)) (hm : 0 < m) (hn : m ≤ 1099511627776)
    (h : ∀ c' w', w'.ownsRow w.heap.size 2 1 (.slice (some ⟨w.heap.size, 0, none⟩) m c') m (ints ys) → Below w.heap.size w w' → w.heap.size < w'.heap.size → K (a.put o.dst (.slice (some ⟨w.heap.size, 0, none⟩) m c')) w') :
    if Region.wanted o (yielded ops a.tmps) = true then Oper.wp Try.prog o a w K Q else E := by
  have hw : Region.wanted o (yielded ops a.tmps) = true := by simp [Region.wanted, hgd]
  rw [if_pos hw]
  obtain ⟨cap, w', hrun, h1, h2, h3⟩ := run_fresh w o.type e0 (d := d) hr hm hn
  unfold Oper.wp execOp
  simp only [ho, resolve, invoke, builtin, Sem.run_bind, Sem.run_pure, Result.andThen_ok, List.map_toArray, List.map_cons, List.map_nil, hs, hx, hrun]
  exact h cap w' h1 h2 h3
/-- One row is appended, in a plain region. -/
theorem app_rows (w : World) (hgd : o.guard = none) (s x : Operand)
    (ho : o.op = .call { callee := .builtin .append, args := #[s, x], argTypes := #[24, 24] }) {base n c : Nat} {A : Option Addr} {vs : List Value}
    (hs : a.eval s = .slice A n c) (hown : w.ownsRow base 31 1 (.slice A n c) n vs) {ad : Addr} {B : Option Addr} {m d : Nat} (hx : a.eval x = .slice (some ad) 1 1)
    (hc : w.cell? ad = some (.slice B m d)) (hn : n ≤ 1099511627776) (hbase : base ≤ w.heap.size)
    (h : ∀ g c' w', w'.ownsRow base 31 1 (.slice (some ⟨g, 0, none⟩) (n + 1) c') (n + 1) (vs ++ [.slice B m d]) → w.grownBy w' (Value.slice A n c).ownBlock → ((Value.slice A n c).ownBlock = some g ∨ g = w.heap.size) → g < w'.heap.size → wpList Try.prog ops Q rest (a.put o.dst (.slice (some ⟨g, 0, none⟩) (n + 1) c')) w') :
    wpList Try.prog ops Q (o :: rest) a w := by
  obtain ⟨i, hi, hz, hs1, hb1⟩ := info_parts Try.info_ints
  exact wpList_append_lies w hgd s x 24 ho base 31 i (.slice none 0 0) 1 24 Try.underlying24 hi hz hs1 hb1 rfl (by decide) (.slice A n c) n vs hs hown ad 1 1 [.slice B m d] hx rfl (one_news hc)
    (by intro u hu; simp at hu; subst hu; rfl) (by decide) (by unfold maxLen; omega) (by omega) hbase _ rfl h
end
/-- A new copy of numbers that are not none. -/
def RetNew (w : World) (xs : List Int) (e : Ending) (w' : World) : Prop :=
  ∃ g c, e = .returned (.slice (some ⟨g, 0, none⟩) xs.length c) ∧ w'.ownsRow w.heap.size 2 1 (.slice (some ⟨g, 0, none⟩) xs.length c) xs.length (ints xs) ∧ w.heap.size ≤ g ∧ Below w.heap.size w w'
theorem clone_any (b f c : Nat) (xs : List Int) (w : World) (h : Rd w 1 (some ⟨b, f, none⟩) xs.length (ints xs)) (h0 : 0 < xs.length) (h1 : xs.length ≤ 1048576) :
    Calls Try.prog 70 #[.slice (some ⟨b, f, none⟩) xs.length c] w (RetNew w xs) := by
  have HO := Lib.hid (own_empty w w.heap.size 2 (Nat.le_refl _))
  have HR := Lib.hid (h.below ((Below.refl _ _).alloc (Nat.le_refl _) (.cells #[] 2)))
  have hnil : ∀ W, (binOp .eql 31 (.slice (some ⟨b, f, none⟩) xs.length c) (.slice none 0 0)).run Try.prog W = .ok (.bool false) W := fun W => Lib.run_eql_slice_some_nil W _ _ _ Try.underlying31
  clear h
  go_enter Try.func70, Try.ntmps70
  go_wp2_with (at_builtin; refine app_ints _ rfl _ _ rfl (xs := []) rfl HO.out rfl HR.out h0 (by omega) (by simp) xs.length (by omega) ?_; intro g1 c1 w1 ho1 hg1 hw1 hl1)
  have HO1 := Lib.hid ho1; have HG1 := Lib.hid hg1; have HW1 := Lib.hid hw1
  clear ho1 hg1 hw1
  go_wp2_with fail
  go_ret
  refine ⟨g1, c1, rfl, by simpa using HO1.out, (HO1.out.lt g1 rfl).1, ?_⟩
  exact ((Below.refl _ _).alloc (Nat.le_refl _) _).grown HG1.out (by simp) (fun k hk => by simp [Value.ownBlock] at hk; omega)
end Go.Proofs.Ytmgkoldipchljaa

/- Walks: the laws' helpers on tables: size, copy, compare, mark, hold. -/
namespace Go.Proofs.Ytmgkoldipchljaa
open Go.RowKit
set_option linter.unusedVariables false
set_option maxRecDepth 100000

def szTabF (left : Int) (t : Tb) : Int := if szRowsF left t.pts < 0 then -1 else if szRowsF (szRowsF left t.pts) t.cds < 0 then -1 else szRowsF (szRowsF left t.pts) t.cds
theorem szRowsF_mono {left : Int} {rows : List (List Int)} (h : 0 ≤ szRowsF left rows) : szRowsF left rows ≤ left := by
  unfold szRowsF at h ⊢
  split at h
  · omega
  · rename_i hn
    rw [if_neg hn]
    have := (szGo_le h (by omega)).1
    omega
theorem szTabF_le {left : Int} {t : Tb} (h : 0 ≤ szTabF left t) (h0 : 0 ≤ left) (h1 : left ≤ 1048576) :
    (t.pts.length ≤ 1048576 ∧ ∀ x ∈ t.pts, x.length ≤ 1048576) ∧ (t.cds.length ≤ 1048576 ∧ ∀ x ∈ t.cds, x.length ≤ 1048576) ∧ szTabF left t ≤ 1048576 := by
  unfold szTabF at h ⊢
  split at h
  · omega
  · rename_i hn
    rw [if_neg hn]
    split at h
    · omega
    · rename_i hn2
      rw [if_neg hn2]
      have a := szRowsF_le (by omega : 0 ≤ szRowsF left t.pts) h0
      have m := szRowsF_mono (by omega : 0 ≤ szRowsF left t.pts)
      have b := szRowsF_le h (by omega)
      have m2 := szRowsF_mono h
      exact ⟨⟨by omega, fun x hx => by have := a.2 x hx; omega⟩, ⟨by omega, fun x hx => by have := b.2 x hx; omega⟩, by omega⟩
theorem szTable_any (B : Int) (P : Option Addr) (n c : Nat) (C : Option Addr) (m d : Nat) (t : Tb) (left : Int) (h0 : 0 ≤ left) (h1 : left ≤ 1048576) (w : World) (hr : RdT w P n C m t) :
    Calls Try.prog 17 #[.agg #[.int .i64 B, .slice P n c, .slice C m d], .int .i64 left] w fun e w' => e = .returned (.int .i64 (szTabF left t)) ∧ Below w.heap.size w w' := by
  have HB := Lib.hid (show ∀ o, Below w.heap.size w (w.alloc o) from fun o => (Below.refl _ _).alloc (Nat.le_refl _) o)
  have HP := Lib.hid (fun w' (hb : Below w.heap.size w w') => szInt64SS_any P n c t.pts left h0 h1 w' (hr.pts.below hb))
  have hm := @szRowsF_mono left t.pts
  have HC := Lib.hid (fun (h : 0 ≤ szRowsF left t.pts) w' (hb : Below w.heap.size w w') => szInt64SS_any C m d t.cds (szRowsF left t.pts) h (by have := hm h; omega) w' (hr.cds.below hb))
  unfold szTabF
  generalize szRowsF left t.pts = s1 at *
  clear hr
  by_cases k1 : s1 < 0
  · rw [if_pos k1]
    clear HC hm
    go_enter Try.func17, Try.ntmps17
    go_wp2_with fail
    refine (HP.out _ (HB.out _)).mono ?_
    rintro e w2 ⟨rfl, rfl⟩
    go_wp2_with fail
    go_ret
    exact ⟨rfl, HB.out _⟩
  · rw [if_neg k1]
    have HC2 := Lib.hid (HC.out (by omega))
    generalize szRowsF s1 t.cds = s2 at *
    clear HC hm
    by_cases k2 : s2 < 0
    · rw [if_pos k2]
      go_enter Try.func17, Try.ntmps17
      go_wp2_with fail
      refine (HP.out _ (HB.out _)).mono ?_
      rintro e w2 ⟨rfl, rfl⟩
      go_wp2_with fail
      refine (HC2.out _ (HB.out _)).mono ?_
      rintro e w2 ⟨rfl, rfl⟩
      go_wp2_with fail
      go_ret
      exact ⟨rfl, HB.out _⟩
    · rw [if_neg k2]
      go_enter Try.func17, Try.ntmps17
      go_wp2_with fail
      refine (HP.out _ (HB.out _)).mono ?_
      rintro e w2 ⟨rfl, rfl⟩
      go_wp2_with fail
      refine (HC2.out _ (HB.out _)).mono ?_
      rintro e w2 ⟨rfl, rfl⟩
      go_wp2_with fail
      go_ret
      exact ⟨rfl, HB.out _⟩
theorem set_chg {b i lo hi : Nat} {v : Value} (w : World) (h1 : lo ≤ b) (h2 : b < hi) : Chg lo hi w (w.setCell ⟨b, i, none⟩ v) := put_chg (g := b) [v] i (Chg.refl _ _ _) h1 h2
theorem OwnRows.setU {w : World} {base eo ei n c b i : Nat} {A : Option Addr} {vs : List Value} {rows : List (List Int)} {v : Value} (h : OwnRows w base eo ei A n c vs rows) (hb : b < base) : OwnRows (w.setCell ⟨b, i, none⟩ v) base eo ei A n c vs rows :=
  h.chg (set_chg w (Nat.le_refl b) (Nat.lt_succ_self b)) h.in_ (.inr hb)
theorem OwnT.setU {w : World} {base n c m d b i : Nat} {P C : Option Addr} {vs us : List Value} {t : Tb} {v : Value} (h : OwnT w base P n c vs C m d us t) (hb : b < base) : OwnT (w.setCell ⟨b, i, none⟩ v) base P n c vs C m d us t :=
  ⟨h.pts.setU hb, h.cds.setU hb, h.apO, h.apR⟩
theorem toTable_any (B : Int) (P : Option Addr) (n c : Nat) (C : Option Addr) (m d : Nat) (t : Tb) (w : World) (hB : t.boats = B) (h : RdT w P n C m t) (hn : n ≤ 1048576) (hm : m ≤ 1048576) (hp : ∀ x ∈ t.pts, x.length ≤ 1048576) (hc : ∀ x ∈ t.cds, x.length ≤ 1048576) :
    Calls Try.prog 20 #[.agg #[.int .i64 B, .slice P n c, .slice C m d]] w (RetT w t) := by
  have HB := Lib.hid (show ∀ o1 o2 o3, Below w.heap.size w (((w.alloc o1).alloc o2).alloc o3) from fun o1 o2 o3 => (((Below.refl _ _).alloc (Nat.le_refl _) _).alloc (by simp) _).alloc (by simp; omega) _)
  have HP := Lib.hid (fun w' (hb : Below w.heap.size w w') => toInt64SS_any P n c t.pts w' (h.pts.below hb) hn hp)
  have HC := Lib.hid (fun w' (hb : Below w.heap.size w w') => toInt64SS_any C m d t.cds w' (h.cds.below hb) hm hc)
  subst hB
  have hsz : sumLen t.pts ≤ 1099511627776 ∧ sumLen t.cds ≤ 1099511627776 := by
    have h1 := sumLen_le hp
    have h2 := sumLen_le hc
    have h3 := Nat.mul_le_mul_right 1048576 hn
    have h4 := Nat.mul_le_mul_right 1048576 hm
    rw [h.pts.len] at h1
    rw [h.cds.len] at h2
    omega
  have HSUM := Lib.hid hsz
  clear h hp hc hsz
  go_enter Try.func20, Try.ntmps20
  go_wp2_with fail
  obtain ⟨w1, hw1⟩ : ∃ w1, w1 = (((w.alloc (.cells #[.int .i64 t.boats, .slice P n c, .slice C m d] 44)).alloc (.cells #[.int .i64 0, .slice none 0 0, .slice none 0 0] 26)).alloc (.cells #[.int .i64 t.boats, .slice none 0 0, .slice none 0 0] 26)) := ⟨_, rfl⟩
  rw [← hw1]
  have hb1 : Below w.heap.size w w1 := by rw [hw1]; exact HB.out _ _ _
  have X0 : Box w1 w.heap.size #[.int .i64 t.boats, .slice P n c, .slice C m d] 44 := by rw [hw1]; exact ((Box.new _ _ _).below ((Below.refl _ _).alloc (Nat.le_refl _) _)).below ((Below.refl _ _).alloc (Nat.le_refl _) _)
  have X1 : Box w1 (w.heap.size + 1) #[.int .i64 0, .slice none 0 0, .slice none 0 0] 26 := by
    rw [hw1]
    have := Box.new (w.alloc (.cells #[.int .i64 t.boats, .slice P n c, .slice C m d] 44)) #[.int .i64 0, .slice none 0 0, .slice none 0 0] 26
    rw [World.size_alloc] at this
    exact this.below ((Below.refl _ _).alloc (Nat.le_refl _) _)
  have X2 : Box w1 (w.heap.size + 1 + 1) #[.int .i64 t.boats, .slice none 0 0, .slice none 0 0] 26 := by
    rw [hw1]
    have := Box.new ((w.alloc (.cells #[.int .i64 t.boats, .slice P n c, .slice C m d] 44)).alloc (.cells #[.int .i64 0, .slice none 0 0, .slice none 0 0] 26)) #[.int .i64 t.boats, .slice none 0 0, .slice none 0 0] 26
    rw [World.size_alloc, World.size_alloc] at this
    exact this
  have hs1 : w1.heap.size = w.heap.size + 1 + 1 + 1 := by rw [hw1]; simp
  have HS1 := Lib.hid hs1
  clear hw1 hs1 HB
  refine (HP.out w1 hb1).mono ?_
  rintro e w2 ⟨P', n', c', vs, rfl, ho, hs, hb2⟩
  have Y0 := X0.below hb2
  have Y1 := X1.below hb2
  have Y2 := X2.below hb2
  have HB2 := Lib.hid (hb1.trans (hb2.mono hb1.size))
  have HSZ := Lib.hid hb2.size
  have ho' := ho.setU (b := w.heap.size + 1 + 1) (i := 1) (v := .slice P' n' c') (by have := HS1.out; omega)
  have Z0 := Y0.other (c := w.heap.size + 1 + 1) (i := 1) (by omega) (.slice P' n' c')
  have Z1 := Y1.other (c := w.heap.size + 1 + 1) (i := 1) (by omega) (.slice P' n' c')
  have Z2 := Y2.set 1 (.slice P' n' c')
  have hB3 := HB2.out.setCell (p := ⟨w.heap.size + 1 + 1, 1, none⟩) (by simp <;> omega) (.slice P' n' c')
  have F0 := Y0.f3
  have F2 := Y2.f3
  clear ho X0 X1 X2 Y0 Y1 Y2 hb2 hb1
  go_wp2_with fail
  have HS2 := Lib.hid (show (w2.setCell ⟨w.heap.size + 1 + 1, 1, none⟩ (.slice P' n' c')).heap.size = w2.heap.size from size_set _ _ _)
  generalize w2.setCell ⟨w.heap.size + 1 + 1, 1, none⟩ (.slice P' n' c') = w3 at *
  clear F0 F2
  refine (HC.out w3 hB3).mono ?_
  rintro e w4 ⟨C', m', d', us, rfl, ho4, hs4, hb4⟩
  have Y1 := Z1.below hb4
  have Y2 := Z2.below hb4
  have ho'' := ho'.below hb4
  have HB4 := Lib.hid (hB3.trans (hb4.mono hB3.size))
  have F1 := Y1.f3
  have F2 := Y2.f3
  have HL := Lib.hid (show w.heap.size + 1 + 1 + 1 ≤ w1.heap.size ∧ w1.heap.size ≤ w3.heap.size from ⟨by have := HS1.out; omega, by have := HSZ.out; have := HS2.out; omega⟩)
  go_wp2_with fail
  refine bodyPost_ret (v := .agg #[.int .i64 t.boats, .slice P' n' c', .slice C' m' d']) (by simp [results, Try.results20, go_sem, F1]) rfl ?_
  have hl := HL.out
  have hw0 := HB4.out.size
  have hch := put_chg (g := w.heap.size + 1) [.int .i64 t.boats, .slice P' n' c', .slice C' m' d'] 0 (put_chg (g := w.heap.size + 1 + 1) [.slice C' m' d'] 2 (Chg.refl (w.heap.size + 1) (w.heap.size + 1 + 1 + 1) w4) (by omega) (by omega)) (by omega) (by omega)
  have hj := OwnT.join (base := w1.heap.size) ho'' ho4 hl.2 ho'.in_
  exact ⟨P', n', c', vs, C', m', d', us, rfl, (hj.chg hch hj.in_ (.inr (by omega))).base' (by omega), HSUM.out, below_chg HB4.out hch (by omega) (by omega)⟩
theorem eqTable_any (P : Option Addr) (n c : Nat) (C : Option Addr) (m d : Nat) (P' : Option Addr) (n' c' : Nat) (C' : Option Addr) (m' d' : Nat) (B B' : Int) (t t' : Tb) (w : World) (h : RdT w P n C m t) (h' : RdT w P' n' C' m' t') (hB : B = t.boats) (hB' : B' = t'.boats) (ht : t = t') :
    Calls Try.prog 24 #[.agg #[.int .i64 B, .slice P n c, .slice C m d], .agg #[.int .i64 B', .slice P' n' c', .slice C' m' d']] w fun e w' => e = .returned (.bool true) ∧ Below w.heap.size w w' := by
  subst ht hB hB'
  have HB := Lib.hid (show ∀ o1 o2, Below w.heap.size w ((w.alloc o1).alloc o2) from fun o1 o2 => ((Below.refl _ _).alloc (Nat.le_refl _) _).alloc (by simp) _)
  have HP := Lib.hid (fun w' (hb : Below w.heap.size w w') => eqInt64SS_below P P' n c n' c' t.pts t.pts w' (h.pts.below hb) (h'.pts.below hb))
  have HC := Lib.hid (fun w' (hb : Below w.heap.size w w') => eqInt64SS_below C C' m d m' d' t.cds t.cds w' (h.cds.below hb) (h'.cds.below hb))
  simp only [decide_true] at HP HC
  clear h h'
  go_enter Try.func24, Try.ntmps24
  go_wp2_with fail
  obtain ⟨w1, hw1, X0, X1, hb1, hs1⟩ := two_boxes w #[.int .i64 t.boats, .slice P n c, .slice C m d] #[.int .i64 t.boats, .slice P' n' c', .slice C' m' d'] 26 26
  rw [← hw1]
  clear hw1 hs1 HB
  refine (HP.out w1 hb1).mono ?_
  rintro e w2 ⟨rfl, hb2⟩
  have F0 := (X0.below hb2).f3
  have F1 := (X1.below hb2).f3
  have HB2 := Lib.hid (hb1.trans (hb2.mono hb1.size))
  clear X0 X1 hb1 hb2
  go_wp2_with fail
  refine (HC.out w2 HB2.out).mono ?_
  rintro e w3 ⟨rfl, hb3⟩
  have HB3 := Lib.hid (HB2.out.trans (hb3.mono HB2.out.size))
  clear hb3
  go_wp2_with fail
  go_ret
  exact ⟨rfl, HB3.out⟩
/-- The blocks of a set may have been written; all others of w are as they were. -/
structure ChgS (S : Nat → Prop) (w w' : World) : Prop where
  os : w'.os = w.os
  tape : w'.tape = w.tape
  output : w'.output = w.output
  size : w.heap.size ≤ w'.heap.size
  block : ∀ k, k < w.heap.size → ¬ S k → w'.heap[k]? = w.heap[k]?
theorem ChgS.refl (S : Nat → Prop) (w : World) : ChgS S w w := ⟨rfl, rfl, rfl, Nat.le_refl _, fun _ _ _ => rfl⟩
theorem ChgS.trans {S : Nat → Prop} {a b c : World} (h : ChgS S a b) (k : ChgS S b c) : ChgS S a c :=
  ⟨k.os.trans h.os, k.tape.trans h.tape, k.output.trans h.output, Nat.le_trans h.size k.size, fun i hi hn => (k.block i (Nat.lt_of_lt_of_le hi h.size) hn).trans (h.block i hi hn)⟩
theorem ChgS.mono {S T : Nat → Prop} {a b : World} (h : ChgS S a b) (k : ∀ i, S i → T i) : ChgS T a b :=
  ⟨h.os, h.tape, h.output, h.size, fun i hi hn => h.block i hi (fun hs => hn (k i hs))⟩
theorem ChgS.of_grown {S : Nat → Prop} {w w' : World} {row : Option Nat} (h : w.grownBy w' row) (hr : ∀ k, row = some k → S k) : ChgS S w w' :=
  ⟨h.os, h.tape, h.output, h.size, fun k hk hn => h.block k hk (fun e => hn (hr k e.symm))⟩
theorem ChgS.of_below {S : Nat → Prop} {w w' : World} (h : Below w.heap.size w w') : ChgS S w w' := ⟨h.os, h.tape, h.output, h.size, fun k hk _ => h.block k hk⟩
theorem ChgS.chg {S : Nat → Prop} {lo hi : Nat} {w w' : World} (h : ChgS S w w') (k : ∀ i, S i → lo ≤ i ∧ i < hi) : Chg lo hi w w' :=
  ⟨h.os, h.tape, h.output, h.size, fun i hi' hn => h.block i hi' (fun hs => by have := k i hs; omega)⟩
theorem own_chgS {S : Nat → Prop} {w w' : World} {base e s n : Nat} {v : Value} {xs : List Value} (h : w.ownsRow base e s v n xs) (k : ChgS S w w') (hv : ∀ b, v.ownBlock = some b → ¬ S b) : w'.ownsRow base e s v n xs := by
  refine ⟨h.1, ?_⟩
  rcases h.2 with hn | ⟨g, cap, cur, rfl, hb, hgg, rest⟩
  · exact .inl hn
  · exact .inr ⟨g, cap, cur, rfl, hb, (k.block g (Array.getElem?_eq_some_iff.1 hgg).1 (hv g rfl)).trans hgg, rest⟩
theorem OwnRows.chgS {S : Nat → Prop} {w w' : World} {base eo ei n c : Nat} {A : Option Addr} {vs : List Value} {rows : List (List Int)} (h : OwnRows w base eo ei A n c vs rows) (k : ChgS S w w')
    (h1 : ∀ b, (Value.slice A n c).ownBlock = some b → ¬ S b) (h2 : ∀ v ∈ vs, ∀ b, v.ownBlock = some b → ¬ S b) : OwnRows w' base eo ei A n c vs rows :=
  ⟨own_chgS h.outer k h1, h.len, fun i v xs e1 e2 => by obtain ⟨A', c', e, ho⟩ := h.row i v xs e1 e2; exact ⟨A', c', e, own_chgS ho k (h2 v (List.mem_of_getElem? e1))⟩, h.apart⟩
theorem Box.chgS {S : Nat → Prop} {w w' : World} {b : Nat} {vs : Array Value} {t : TypeId} (h : Box w b vs t) (k : ChgS S w w') (hb : ¬ S b) : Box w' b vs t := (k.block b h.lt hb).trans h
/-- The outer block of slices of slices is none of any rows. -/
theorem OwnRows.outer_ne {w : World} {base eo ei base' eo' n c n' c' : Nat} {A A' : Option Addr} {vs vs' : List Value} {rows rows' : List (List Int)} (h : OwnRows w base eo ei A n c vs rows) (h' : OwnRows w base' eo' ei A' n' c' vs' rows') (hne : eo ≠ ei) :
    ∀ b, (Value.slice A n c).ownBlock = some b → ¬ ∃ v ∈ vs', v.ownBlock = some b := by
  rintro b hb ⟨v, hv, hvb⟩
  obtain ⟨k, hk⟩ := List.mem_iff_getElem?.1 hv
  have hkn : k < n' := by have := (List.getElem?_eq_some_iff.1 hk).1; rw [h'.vlen] at this; exact this
  obtain ⟨u, A2, c2, xs, h1, h2, _, e, ho⟩ := h'.get hkn
  obtain rfl : v = u := by rw [hk] at h1; injection h1
  rw [e] at hvb
  exact own_type_ne h.outer ho hne b hb hvb
end Go.Proofs.Ytmgkoldipchljaa

/- Plain memory: a row is appended to both columns of a table of one's own. -/
namespace Go.Proofs.Ytmgkoldipchljaa
open Go.RowKit
set_option linter.unusedVariables false

theorem OwnRows.grown {w w' : World} {base eo ei n c : Nat} {A : Option Addr} {vs : List Value} {rows : List (List Int)} {r : Option Nat} (h : OwnRows w base eo ei A n c vs rows) (hg : w.grownBy w' r)
    (h1 : ∀ b, (Value.slice A n c).ownBlock = some b → r ≠ some b) (h2 : ∀ v ∈ vs, ∀ b, v.ownBlock = some b → r ≠ some b) : OwnRows w' base eo ei A n c vs rows := by
  have key : ∀ (u : Value) (e m : Nat) (zs : List Value), w.ownsRow base e 1 u m zs → (∀ b, u.ownBlock = some b → r ≠ some b) → w'.ownsRow base e 1 u m zs := by
    intro u e m zs hu hr
    refine hu.kept hg ?_
    rcases hb : u.ownBlock with _ | b
    · exact .inl rfl
    · exact .inr (fun he => hr b hb he.symm)
  exact ⟨key _ _ _ _ h.outer h1, h.len, fun i v xs e1 e2 => by
    obtain ⟨A', c', e, ho⟩ := h.row i v xs e1 e2
    exact ⟨A', c', e, key _ _ _ _ ho (h2 v (List.mem_of_getElem? e1))⟩, h.apart⟩
theorem OwnRows.row_ty {w : World} {base eo ei n c : Nat} {A : Option Addr} {vs : List Value} {rows : List (List Int)} (h : OwnRows w base eo ei A n c vs rows) {v : Value} (hv : v ∈ vs) : ∃ m zs, w.ownsRow base ei 1 v m zs := by
  obtain ⟨k, hk⟩ := List.mem_iff_getElem?.1 hv
  have hkn : k < n := by have := (List.getElem?_eq_some_iff.1 hk).1; rw [h.vlen] at this; exact this
  obtain ⟨u, A2, c2, xs, h1, h2, _, e, ho⟩ := h.get hkn
  obtain rfl : v = u := by rw [hk] at h1; injection h1
  exact ⟨_, _, by rw [e]; exact ho⟩
/-- A row is appended to own rows: where all lies. -/
structure Pushed (wr w' : World) (base : Nat) (A : Option Addr) (n c : Nat) (vs : List Value) (rows : List (List Int)) (ga ca g1 c1 : Nat) (p : List Int) : Prop where
  own : OwnRows w' base 31 2 (some ⟨ga, 0, none⟩) (n + 1) ca (vs ++ [.slice (some ⟨g1, 0, none⟩) p.length c1]) (rows ++ [p])
  lies : (Value.slice A n c).ownBlock = some ga ∨ wr.heap.size ≤ ga
  new : wr.heap.size ≤ g1 ∧ g1 < w'.heap.size
  ltA : ga < w'.heap.size
  size : wr.heap.size ≤ w'.heap.size
  keep : ∀ b, b < wr.heap.size → (Value.slice A n c).ownBlock ≠ some b → w'.heap[b]? = wr.heap[b]?
  frame : w'.os = wr.os ∧ w'.tape = wr.tape ∧ w'.output = wr.output
theorem push_row {wr wq w5 : World} {base b1 n c ga ca g1 c1 : Nat} {A : Option Addr} {vs : List Value} {rows : List (List Int)} {p : List Int} {o1 : Obj} (h : OwnRows wr base 31 2 A n c vs rows) (hbs : base ≤ wr.heap.size)
    (hb : Below wr.heap.size wr wq) (og : wq.ownsRow b1 2 1 (.slice (some ⟨g1, 0, none⟩) p.length c1) p.length (ints p)) (hg1 : wr.heap.size ≤ g1) (hb1 : base ≤ b1)
    (hga : (wq.alloc o1).grownBy w5 (Value.slice A n c).ownBlock) (ho : w5.ownsRow base 31 1 (.slice (some ⟨ga, 0, none⟩) (n + 1) ca) (n + 1) (vs ++ [.slice (some ⟨g1, 0, none⟩) p.length c1]))
    (hla : (Value.slice A n c).ownBlock = some ga ∨ ga = (wq.alloc o1).heap.size) : Pushed wr w5 base A n c vs rows ga ca g1 c1 p := by
  have hin := h.in_
  have hs := hb.size
  have hs5 := hga.size
  simp only [World.size_alloc] at hs5
  have hlt := (og.lt g1 rfl).2
  refine ⟨OwnRows.append (h.below hb) (by decide) (own_base og hb1) (fun u hu b hb' hub => ?_) o1 hga ho, ?_, ⟨hg1, by omega⟩, (ho.lt ga rfl).2, by omega, fun b hbl hne => ?_, ⟨hga.os.trans hb.os, hga.tape.trans hb.tape, hga.output.trans hb.output⟩⟩
  · have e : b = g1 := by simp [Value.ownBlock] at hb'; exact hb'.symm
    have := hin.2 u hu b hub
    omega
  · rcases hla with hla | hla
    · exact .inl hla
    · right; rw [hla]; simp; omega
  · have h2 := hga.block b (by simp; omega) (fun e => hne e.symm)
    rw [h2, ((Below.refl _ wq).alloc (Nat.le_refl _) o1).block b (by omega)]
    exact hb.block b hbl
/-- .. the world ahead of the append however it came about. -/
theorem push_row0 {wr wd w5 : World} {base b1 n c ga ca g1 c1 : Nat} {A : Option Addr} {vs : List Value} {rows : List (List Int)} {p : List Int} (h : OwnRows wr base 31 2 A n c vs rows) (hbs : base ≤ wr.heap.size)
    (hb : Below wr.heap.size wr wd) (og : wd.ownsRow b1 2 1 (.slice (some ⟨g1, 0, none⟩) p.length c1) p.length (ints p)) (hg1 : wr.heap.size ≤ g1) (hb1 : base ≤ b1)
    (hga : wd.grownBy w5 (Value.slice A n c).ownBlock) (ho : w5.ownsRow base 31 1 (.slice (some ⟨ga, 0, none⟩) (n + 1) ca) (n + 1) (vs ++ [.slice (some ⟨g1, 0, none⟩) p.length c1]))
    (hla : (Value.slice A n c).ownBlock = some ga ∨ ga = wd.heap.size) : Pushed wr w5 base A n c vs rows ga ca g1 c1 p := by
  have hin := h.in_
  have hs := hb.size
  have hs5 := hga.size
  have hlt := (og.lt g1 rfl).2
  have hW := h.below hb
  have og0 := own_base og hb1
  refine ⟨⟨ho, by simp [h.len], ?_, ?_⟩, ?_, ⟨hg1, by omega⟩, (ho.lt ga rfl).2, by omega, fun b hbl hne => ?_, ⟨hga.os.trans hb.os, hga.tape.trans hb.tape, hga.output.trans hb.output⟩⟩
  · have keep : ∀ (u : Value) (m : Nat) (zs : List Value), wd.ownsRow base 2 1 u m zs → w5.ownsRow base 2 1 u m zs := by
      intro u m zs hu
      refine hu.kept hga ?_
      rcases hb : u.ownBlock with _ | b
      · exact .inl rfl
      · exact .inr (fun he => own_type_ne hW.outer hu (by decide) b he.symm hb)
    intro i u zs h1 h2
    by_cases hi : i < n
    · rw [List.getElem?_append_left (by rw [h.vlen]; exact hi)] at h1
      rw [List.getElem?_append_left (by rw [h.len]; exact hi)] at h2
      obtain ⟨A'', c'', e, hr⟩ := hW.row i u zs h1 h2
      exact ⟨A'', c'', e, keep _ _ _ hr⟩
    · rw [List.getElem?_append_right (by rw [h.vlen]; omega), h.vlen] at h1
      rw [List.getElem?_append_right (by rw [h.len]; omega), h.len] at h2
      have h0 : i - n = 0 := by
        rcases Nat.eq_zero_or_pos (i - n) with h | h
        · exact h
        · rw [List.getElem?_eq_none (by simp; omega)] at h1; cases h1
      rw [h0] at h1 h2
      simp at h1 h2
      subst h1; subst h2
      exact ⟨_, c1, rfl, keep _ _ _ og0⟩
  · intro i j u v hij h1 h2 b hb hb'
    have split : ∀ (q : Nat) (x : Value), (vs ++ [Value.slice (some ⟨g1, 0, none⟩) p.length c1])[q]? = some x → (q < n ∧ vs[q]? = some x) ∨ (q = n ∧ x = .slice (some ⟨g1, 0, none⟩) p.length c1) := by
      intro q x hx
      by_cases hq : q < n
      · rw [List.getElem?_append_left (by rw [h.vlen]; exact hq)] at hx; exact .inl ⟨hq, hx⟩
      · rw [List.getElem?_append_right (by rw [h.vlen]; omega), h.vlen] at hx
        have h0 : q - n = 0 := by
          rcases Nat.eq_zero_or_pos (q - n) with h | h
          · exact h
          · rw [List.getElem?_eq_none (by simp; omega)] at hx; cases hx
        rw [h0] at hx
        simp at hx
        exact .inr ⟨by omega, hx.symm⟩
    have isg : ∀ b, (Value.slice (some ⟨g1, 0, none⟩) p.length c1).ownBlock = some b → b = g1 := fun b e => by simp [Value.ownBlock] at e; exact e.symm
    rcases split i u h1 with ⟨hi, hu⟩ | ⟨hi, rfl⟩ <;> rcases split j v h2 with ⟨hj, hv⟩ | ⟨hj, rfl⟩
    · exact h.apart i j u v hij hu hv b hb hb'
    · have := (hin.2 u (List.mem_of_getElem? hu) b hb).2; have := isg b hb'; omega
    · have := (hin.2 v (List.mem_of_getElem? hv) b hb').2; have := isg b hb; omega
    · omega
  · rcases hla with hla | hla
    · exact .inl hla
    · right; omega
  · have h2 := hga.block b (by omega) (fun e => hne e.symm)
    rw [h2]
    exact hb.block b hbl
/-- Both columns, one behind the other. -/
theorem push_two {wr w5 w9 : World} {base n c d ga ca gb cb g1 c1 g2 c2 : Nat} {A C : Option Addr} {vs us : List Value} {pts cds : List (List Int)} {B : Int} {p q : List Int}
    (h : OwnT wr base A n c vs C n d us ⟨B, pts, cds⟩) (hbs : base ≤ wr.heap.size)
    (h1 : Pushed wr w5 base A n c vs pts ga ca g1 c1 p)
    (h2 : OwnRows w5 base 31 2 C n d us cds → Pushed w5 w9 base C n d us cds gb cb g2 c2 q) :
    OwnT w9 base (some ⟨ga, 0, none⟩) (n + 1) ca (vs ++ [.slice (some ⟨g1, 0, none⟩) p.length c1]) (some ⟨gb, 0, none⟩) (n + 1) cb (us ++ [.slice (some ⟨g2, 0, none⟩) q.length c2]) ⟨B, pts ++ [p], cds ++ [q]⟩ := by
  have hpi := h.pts.in_
  have hci := h.cds.in_
  have hg5 : wr.grownBy w5 (Value.slice A n c).ownBlock := ⟨h1.frame.1, h1.frame.2.1, h1.frame.2.2, h1.size, fun k hk hn => h1.keep k hk (fun e => hn e.symm)⟩
  have hcd5 : OwnRows w5 base 31 2 C n d us cds := h.cds.grown hg5 (fun b hb e => h.apO b e hb) (fun v hv b hb e => by
    obtain ⟨m, zs, ho⟩ := h.cds.row_ty hv
    exact own_type_ne h.pts.outer ho (by decide) b e hb)
  have h2 := h2 hcd5
  have hg9 : w5.grownBy w9 (Value.slice C n d).ownBlock := ⟨h2.frame.1, h2.frame.2.1, h2.frame.2.2, h2.size, fun k hk hn => h2.keep k hk (fun e => hn e.symm)⟩
  have hne : ∀ b, (Value.slice C n d).ownBlock = some b → ga ≠ b := by
    rintro b hb rfl
    rcases h1.lies with e | e
    · exact h.apO ga e hb
    · have := (hci.1 ga hb).2; omega
  refine ⟨h1.own.grown hg9 (fun b hb e => ?_) (fun v hv b hb e => ?_), h2.own, ?_, ?_⟩
  · have e2 : ga = b := by simp [Value.ownBlock] at hb; exact hb
    exact hne b e e2
  · obtain ⟨m, zs, ho⟩ := h1.own.row_ty hv
    exact own_type_ne hcd5.outer ho (by decide) b e hb
  · intro g hg hg'
    have e1 : ga = g := by simpa [Value.ownBlock] using hg
    have e2 : gb = g := by simpa [Value.ownBlock] using hg'
    rcases h2.lies with e | e
    · exact hne gb e (by omega)
    · have := h1.ltA; omega
  · intro v hv u hu g hg hg'
    have hgl : g < w5.heap.size := by
      obtain ⟨m, zs, ho⟩ := h1.own.row_ty hv
      exact (ho.lt g hg).2
    rcases List.mem_append.1 hu with hu | hu
    · rcases List.mem_append.1 hv with hv | hv
      · exact h.apR v hv u hu g hg hg'
      · simp at hv; subst hv
        have e1 : g1 = g := by simpa [Value.ownBlock] using hg
        have := (hci.2 u hu g hg').2
        have := h1.new.1
        omega
    · simp at hu; subst hu
      have e1 : g2 = g := by simpa [Value.ownBlock] using hg'
      have := h2.new.1
      omega
theorem Pushed.below {wr w' : World} {base n c ga ca g1 c1 : Nat} {A : Option Addr} {vs : List Value} {rows : List (List Int)} {p : List Int} (h : Pushed wr w' base A n c vs rows ga ca g1 c1 p) (ho : OwnRows wr base 31 2 A n c vs rows) (hb : base ≤ wr.heap.size) : Below base wr w' :=
  ⟨h.frame.1, h.frame.2.1, h.frame.2.2, h.size, fun k hk => h.keep k (by omega) (fun e => by have := (ho.in_.1 k e).1; omega)⟩
end Go.Proofs.Ytmgkoldipchljaa

/- Plain memory: a row is appended to both columns of a table of one's own: the second row lay there before. -/
namespace Go.Proofs.Ytmgkoldipchljaa
open Go.RowKit
set_option linter.unusedVariables false

/-- A row is appended to own rows: where all lies; the row may be old. -/
structure PushedW (wr w' : World) (base : Nat) (A : Option Addr) (n c : Nat) (vs : List Value) (rows : List (List Int)) (ga ca g1 c1 : Nat) (p : List Int) : Prop where
  own : OwnRows w' base 31 2 (some ⟨ga, 0, none⟩) (n + 1) ca (vs ++ [.slice (some ⟨g1, 0, none⟩) p.length c1]) (rows ++ [p])
  lies : (Value.slice A n c).ownBlock = some ga ∨ wr.heap.size ≤ ga
  ltA : ga < w'.heap.size
  size : wr.heap.size ≤ w'.heap.size
  keep : ∀ b, b < wr.heap.size → (Value.slice A n c).ownBlock ≠ some b → w'.heap[b]? = wr.heap[b]?
  frame : w'.os = wr.os ∧ w'.tape = wr.tape ∧ w'.output = wr.output
/-- .. the world ahead of the append however it came about. -/
theorem push_row1 {wr wd w5 : World} {base b1 n c ga ca g1 c1 : Nat} {A : Option Addr} {vs : List Value} {rows : List (List Int)} {p : List Int} (h : OwnRows wr base 31 2 A n c vs rows) (hbs : base ≤ wr.heap.size)
    (hb : Below wr.heap.size wr wd) (og : wd.ownsRow b1 2 1 (.slice (some ⟨g1, 0, none⟩) p.length c1) p.length (ints p)) (hg1 : ∀ u ∈ vs, ∀ b, u.ownBlock = some b → b ≠ g1) (hb1 : base ≤ b1)
    (hga : wd.grownBy w5 (Value.slice A n c).ownBlock) (ho : w5.ownsRow base 31 1 (.slice (some ⟨ga, 0, none⟩) (n + 1) ca) (n + 1) (vs ++ [.slice (some ⟨g1, 0, none⟩) p.length c1]))
    (hla : (Value.slice A n c).ownBlock = some ga ∨ ga = wd.heap.size) : PushedW wr w5 base A n c vs rows ga ca g1 c1 p := by
  have hin := h.in_
  have hs := hb.size
  have hs5 := hga.size
  have hlt := (og.lt g1 rfl).2
  have hW := h.below hb
  have og0 := own_base og hb1
  refine ⟨⟨ho, by simp [h.len], ?_, ?_⟩, ?_, (ho.lt ga rfl).2, by omega, fun b hbl hne => ?_, ⟨hga.os.trans hb.os, hga.tape.trans hb.tape, hga.output.trans hb.output⟩⟩
  · have keep : ∀ (u : Value) (m : Nat) (zs : List Value), wd.ownsRow base 2 1 u m zs → w5.ownsRow base 2 1 u m zs := by
      intro u m zs hu
      refine hu.kept hga ?_
      rcases hb : u.ownBlock with _ | b
      · exact .inl rfl
      · exact .inr (fun he => own_type_ne hW.outer hu (by decide) b he.symm hb)
    intro i u zs h1 h2
    by_cases hi : i < n
    · rw [List.getElem?_append_left (by rw [h.vlen]; exact hi)] at h1
      rw [List.getElem?_append_left (by rw [h.len]; exact hi)] at h2
      obtain ⟨A'', c'', e, hr⟩ := hW.row i u zs h1 h2
      exact ⟨A'', c'', e, keep _ _ _ hr⟩
    · rw [List.getElem?_append_right (by rw [h.vlen]; omega), h.vlen] at h1
      rw [List.getElem?_append_right (by rw [h.len]; omega), h.len] at h2
      have h0 : i - n = 0 := by
        rcases Nat.eq_zero_or_pos (i - n) with h | h
        · exact h
        · rw [List.getElem?_eq_none (by simp; omega)] at h1; cases h1
      rw [h0] at h1 h2
      simp at h1 h2
      subst h1; subst h2
      exact ⟨_, c1, rfl, keep _ _ _ og0⟩
  · intro i j u v hij h1 h2 b hb hb'
    have split : ∀ (q : Nat) (x : Value), (vs ++ [Value.slice (some ⟨g1, 0, none⟩) p.length c1])[q]? = some x → (q < n ∧ vs[q]? = some x) ∨ (q = n ∧ x = .slice (some ⟨g1, 0, none⟩) p.length c1) := by
      intro q x hx
      by_cases hq : q < n
      · rw [List.getElem?_append_left (by rw [h.vlen]; exact hq)] at hx; exact .inl ⟨hq, hx⟩
      · rw [List.getElem?_append_right (by rw [h.vlen]; omega), h.vlen] at hx
        have h0 : q - n = 0 := by
          rcases Nat.eq_zero_or_pos (q - n) with h | h
          · exact h
          · rw [List.getElem?_eq_none (by simp; omega)] at hx; cases hx
        rw [h0] at hx
        simp at hx
        exact .inr ⟨by omega, hx.symm⟩
    have isg : ∀ b, (Value.slice (some ⟨g1, 0, none⟩) p.length c1).ownBlock = some b → b = g1 := fun b e => by simp [Value.ownBlock] at e; exact e.symm
    rcases split i u h1 with ⟨hi, hu⟩ | ⟨hi, rfl⟩ <;> rcases split j v h2 with ⟨hj, hv⟩ | ⟨hj, rfl⟩
    · exact h.apart i j u v hij hu hv b hb hb'
    · exact absurd (isg b hb') (hg1 u (List.mem_of_getElem? hu) b hb)
    · exact absurd (isg b hb) (hg1 v (List.mem_of_getElem? hv) b hb')
    · omega
  · rcases hla with hla | hla
    · exact .inl hla
    · right; omega
  · have h2 := hga.block b (by omega) (fun e => hne e.symm)
    rw [h2]
    exact hb.block b hbl
/-- Both columns, one behind the other. -/
theorem push_pair {wr w5 w9 : World} {base n c d ga ca gb cb g1 c1 g2 c2 : Nat} {A C : Option Addr} {vs us : List Value} {pts cds : List (List Int)} {B : Int} {p q : List Int}
    (h : OwnT wr base A n c vs C n d us ⟨B, pts, cds⟩) (hbs : base ≤ wr.heap.size)
    (h1 : Pushed wr w5 base A n c vs pts ga ca g1 c1 p)
    (h2 : OwnRows w5 base 31 2 C n d us cds → PushedW w5 w9 base C n d us cds gb cb g2 c2 q) (hn2 : wr.heap.size ≤ g2) (hn12 : g1 ≠ g2) :
    OwnT w9 base (some ⟨ga, 0, none⟩) (n + 1) ca (vs ++ [.slice (some ⟨g1, 0, none⟩) p.length c1]) (some ⟨gb, 0, none⟩) (n + 1) cb (us ++ [.slice (some ⟨g2, 0, none⟩) q.length c2]) ⟨B, pts ++ [p], cds ++ [q]⟩ := by
  have hpi := h.pts.in_
  have hci := h.cds.in_
  have hg5 : wr.grownBy w5 (Value.slice A n c).ownBlock := ⟨h1.frame.1, h1.frame.2.1, h1.frame.2.2, h1.size, fun k hk hn => h1.keep k hk (fun e => hn e.symm)⟩
  have hcd5 : OwnRows w5 base 31 2 C n d us cds := h.cds.grown hg5 (fun b hb e => h.apO b e hb) (fun v hv b hb e => by
    obtain ⟨m, zs, ho⟩ := h.cds.row_ty hv
    exact own_type_ne h.pts.outer ho (by decide) b e hb)
  have h2 := h2 hcd5
  have hg9 : w5.grownBy w9 (Value.slice C n d).ownBlock := ⟨h2.frame.1, h2.frame.2.1, h2.frame.2.2, h2.size, fun k hk hn => h2.keep k hk (fun e => hn e.symm)⟩
  have hne : ∀ b, (Value.slice C n d).ownBlock = some b → ga ≠ b := by
    rintro b hb rfl
    rcases h1.lies with e | e
    · exact h.apO ga e hb
    · have := (hci.1 ga hb).2; omega
  refine ⟨h1.own.grown hg9 (fun b hb e => ?_) (fun v hv b hb e => ?_), h2.own, ?_, ?_⟩
  · have e2 : ga = b := by simp [Value.ownBlock] at hb; exact hb
    exact hne b e e2
  · obtain ⟨m, zs, ho⟩ := h1.own.row_ty hv
    exact own_type_ne hcd5.outer ho (by decide) b e hb
  · intro g hg hg'
    have e1 : ga = g := by simpa [Value.ownBlock] using hg
    have e2 : gb = g := by simpa [Value.ownBlock] using hg'
    rcases h2.lies with e | e
    · exact hne gb e (by omega)
    · have := h1.ltA; omega
  · intro v hv u hu g hg hg'
    rcases List.mem_append.1 hu with hu | hu
    · rcases List.mem_append.1 hv with hv | hv
      · exact h.apR v hv u hu g hg hg'
      · simp at hv; subst hv
        have e1 : g1 = g := by simpa [Value.ownBlock] using hg
        have := (hci.2 u hu g hg').2
        have := h1.new.1
        omega
    · simp at hu; subst hu
      have e1 : g2 = g := by simpa [Value.ownBlock] using hg'
      rcases List.mem_append.1 hv with hv | hv
      · have := (hpi.2 v hv g hg).2
        omega
      · simp at hv; subst hv
        have e2 : g1 = g := by simpa [Value.ownBlock] using hg
        omega
theorem PushedW.below {wr w' : World} {base n c ga ca g1 c1 : Nat} {A : Option Addr} {vs : List Value} {rows : List (List Int)} {p : List Int} (h : PushedW wr w' base A n c vs rows ga ca g1 c1 p) (ho : OwnRows wr base 31 2 A n c vs rows) (hb : base ≤ wr.heap.size) : Below base wr w' :=
  ⟨h.frame.1, h.frame.2.1, h.frame.2.2, h.size, fun k hk => h.keep k (by omega) (fun e => by have := (ho.in_.1 k e).1; omega)⟩
end Go.Proofs.Ytmgkoldipchljaa

/- The code of a drawn law, as it came in. -/
namespace Go.Proofs.Ytmgkoldipchljaa
open Go.RowKit
set_option linter.unusedVariables false

theorem IsRow.u8 {w : World} {a : Option Addr} {len cap : Nat} {zs : List Int} (h : IsRow .u8 w a len cap zs) : Rd w 1 a len (u8s (zs.take len)) ∧ ∀ c ∈ zs.take len, 0 ≤ c ∧ c ≤ 255 := by
  rcases h with ⟨rfl, rfl, rfl, rfl⟩ | ⟨x, rfl, h1, h2, h3, h4, h5⟩
  · exact ⟨⟨rfl, by omega, fun h => by omega⟩, fun c hc => by simp at hc⟩
  · unfold maxLen at h2
    refine ⟨⟨by simp [u8s]; omega, by omega, fun hn => ?_⟩, ?_⟩
    · have h0 := h4 0 (by omega)
      have hadd0 : x.add 0 = x := by simp [Addr.add]
      rw [hadd0] at h0
      obtain ⟨b, o, sp⟩ := x
      obtain rfl : sp = none := spot_none h0
      refine ⟨b, o, rfl, fun i u hu => ?_⟩
      have hlen : i < (u8s (zs.take len)).length := by
        rcases Nat.lt_or_ge i (u8s (zs.take len)).length with h | h
        · exact h
        · rw [List.getElem?_eq_none h] at hu; cases hu
      have hi : i < len := by simp [u8s] at hlen; omega
      have hc := h4 i (by omega)
      have hadd : (⟨b, o, none⟩ : Addr).add i = ⟨b, o + i, none⟩ := by unfold Addr.add; split <;> simp_all
      rw [hadd] at hc
      rw [hc, ← hu]
      simp [u8s, hi, List.getElem?_eq_getElem (show i < zs.length by omega)]
    · intro c hc
      have hw := h5 c (List.mem_of_mem_take hc)
      simp [Lit.wf, IntKind.min, IntKind.max, IntKind.signed, IntKind.bits] at hw
      omega
theorem code0_of {w : World} {a : Option Addr} {len cap : Nat} {zs : List Int} (h : IsRow .u8 w a len cap zs) (hl : len ≤ 4096) : Code0 w a len (zs.take len) := ⟨h.u8.1, by omega, h.u8.2⟩
theorem IsRow.addr {k : IntKind} {w : World} {a : Option Addr} {len cap : Nat} {zs : List Int} (h : IsRow k w a len cap zs) : (a = none ∧ len = 0 ∧ cap = 0) ∨ ∃ ad, a = some ad := by
  rcases h with ⟨rfl, rfl, rfl, rfl⟩ | ⟨x, rfl, _⟩
  · exact .inl ⟨rfl, rfl, rfl⟩
  · exact .inr ⟨x, rfl⟩
theorem IsRow.lenle {k : IntKind} {w : World} {a : Option Addr} {len cap : Nat} {zs : List Int} (h : IsRow k w a len cap zs) : len ≤ 9223372036854775807 := by
  rcases h with ⟨rfl, rfl, rfl, rfl⟩ | ⟨x, rfl, h1, h2, _⟩
  · omega
  · unfold maxLen at h2; omega
theorem big_any (A : Option Addr) (n c : Nat) (hn : n ≤ 9223372036854775807) (w : World) :
    Calls Try.prog 6 #[.slice A n c] w fun e w' => e = .returned (.bool (decide (4096 < n))) ∧ w = w' := by
  go_enter Try.func6, Try.ntmps6
  go_wp2_with fail
  go_ret
  refine ⟨?_, rfl⟩
  refine ret_bool ?_
  rw [Bool.eq_iff_iff]
  simp only [decide_eq_true_eq]
  omega
end Go.Proofs.Ytmgkoldipchljaa

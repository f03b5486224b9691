/- General and plain lemmas, and light walks (merged): Mk Rd Sa Fu Rs. -/
import Derived.Test.YtmgkoldipchljaaZmf
import Derived.Test.YtmgkoldipchljaaZmb
import Derived.Test.YtmgkoldipchljaaZma
import Derived.StillTailTactics
import Derived.Deep.RegionHeld3
/- Plain functions: drawn races: no Go in sight. -/
namespace Go.Proofs.Ytmgkoldipchljaa
open Go.RowKit
set_option linter.unusedVariables false

/-- One finish is drawn. -/
def finX (code : List Int) (N : Int) (i : Nat) (s : St) : FinishT × St :=
  if (nextF code (nextF code s (2 * N)).2 4).1 = 0 then (((i : Int), 1 + (nextF code (nextF code (nextF code s (2 * N)).2 4).2 9).1, 0), (nextF code (nextF code (nextF code s (2 * N)).2 4).2 9).2)
  else (((i : Int), 0, 1 + (nextF code s (2 * N)).1), (nextF code (nextF code s (2 * N)).2 4).2)
def raceGo (code : List Int) (N : Int) : Nat → Nat → List FinishT → St → List FinishT × St
  | 0, _, out, s => (out, s)
  | m + 1, i, out, s => raceGo code N m (i + 1) (out ++ [(finX code N i s).1]) (finX code N i s).2
def raceD (code : List Int) (N : Nat) (s : St) : List FinishT × St := raceGo code (N : Int) N 0 [] s
theorem raceGo_len (code : List Int) (N : Int) (m i : Nat) (out : List FinishT) (s : St) : (raceGo code N m i out s).1.length = out.length + m := by
  induction m generalizing i out s with
  | zero => rfl
  | succ m ih =>
    unfold raceGo
    rw [ih]
    simp only [List.length_append, List.length_cons, List.length_nil]
    omega
theorem raceD_len (code : List Int) (N : Nat) (s : St) : (raceD code N s).1.length = N := by unfold raceD; rw [raceGo_len]; simp
/-- A finish is spoiled now and then: t tells how. -/
def spoilFin (t n v : Int) (f : FinishT) : FinishT :=
  if t = 0 then (f.1, f.2.1, 0) else if t = 1 then (f.1, 10 * v, f.2.2) else if t = 2 then (n, f.2.1, f.2.2) else if t = 3 then (f.1, f.2.1, 1000000000 + v) else f
def spoilRace (code : List Int) (n : Nat) (r : List FinishT × St) : List FinishT × St :=
  if n < 1 then r
  else
    let a := nextF code r.2 (n : Int)
    let b := nextF code a.2 24
    let c := if b.1 = 1 ∨ b.1 = 3 then nextF code b.2 2 else (0, b.2)
    (r.1.set a.1.toNat (spoilFin b.1 n c.1 (r.1.getD a.1.toNat (0, 0, 0))), c.2)
def anyRaceD (code : List Int) (n : Nat) (s : St) : List FinishT × St := spoilRace code n (raceD code n s)
theorem anyRaceD_len (code : List Int) (n : Nat) (s : St) : (anyRaceD code n s).1.length = n := by
  unfold anyRaceD spoilRace
  split
  · exact raceD_len _ _ _
  · simp only [List.length_set]; exact raceD_len _ _ _
/-- What DrawFleetPoints draws: the race, the fleets, their number. -/
def fleetPtsD (code : List Int) : List FinishT × List Int × Int :=
  let k := kD code (fromF code)
  let n := boatsD code k.2
  let r := anyRaceD code n.1.toNat n.2
  let e := nextF code r.2 24
  (r.1, (fleetsD code k.1 (n.1 + e.1 / 23).toNat e.2).1, k.1)
end Go.Proofs.Ytmgkoldipchljaa

/- Walks: drawn races. -/
namespace Go.Proofs.Ytmgkoldipchljaa
open Go.RowKit
set_option linter.unusedVariables false
set_option maxRecDepth 100000

/-- A new race is drawn. -/
def RetFD (w0 w : World) (A : Option Addr) (n cap : Nat) (code : List Int) (g : Nat) (r : List FinishT × St) (e : Ending) (w' : World) : Prop :=
  ∃ A' m c, e = .returned (.agg #[.slice A' m c]) ∧ w'.ownsRow w.heap.size 95 3 (.slice A' m c) m (fins r.1) ∧ Src w0 w' A n cap code g r.2 ∧ Chg g (g + 1) w w'
theorem src_put {w0 w : World} {A : Option Addr} {n cap : Nat} {code : List Int} {g : Nat} {s : St} (h : Src w0 w A n cap code g s) {b i : Nat} (hb : g < b) (v : Value) : Src w0 (w.setCell ⟨b, i, none⟩ v) A n cap code g s :=
  h.grown (row := some b) (grown_set ⟨rfl, rfl, rfl, Nat.le_refl _, fun _ _ _ => rfl⟩ i v) (fun k e => by injection e with e; omega)
theorem chg_put {lo hi : Nat} {w w' : World} (h : Chg lo hi w w') {g i : Nat} (h1 : w.heap.size ≤ g) (v : Value) : Chg lo hi w (w'.setCell ⟨g, i, none⟩ v) :=
  ⟨h.os, h.tape, h.output, by simpa [World.setCell] using h.size, fun k hk hn => (Below.heap_setCell _ _ _ _ (by simp; omega)).trans (h.block k hk hn)⟩
theorem src_app {w0 w w' : World} {A : Option Addr} {n cap : Nat} {code : List Int} {g : Nat} {s : St} (h : Src w0 w A n cap code g s) {base e sz m c : Nat} {A1 : Option Addr} {vs : List Value} {o : Obj} (ho : w.ownsRow base e sz (.slice A1 m c) m vs) (hb : g < base) (hg : (w.alloc o).grownBy w' (Value.slice A1 m c).ownBlock) : Src w0 w' A n cap code g s :=
  (h.alloc o).grown hg (fun k e => by have := (ho.lt k e).1; omega)
theorem chg_app {lo hi : Nat} {a w w' : World} (h : Chg lo hi a w) {base e sz m c : Nat} {A1 : Option Addr} {vs : List Value} {o : Obj} (ho : w.ownsRow base e sz (.slice A1 m c) m vs) (hb : a.heap.size ≤ base) (hg : (w.alloc o).grownBy w' (Value.slice A1 m c).ownBlock) : Chg lo hi a w' :=
  chg_grown (chg_alloc h o) hg (fun k e => by have := (ho.lt k e).1; omega)
theorem own_emptyF (w : World) (base e s : Nat) (hb : base ≤ w.heap.size) : (w.alloc (.cells #[] e)).ownsRow base e s (.slice (some ⟨w.heap.size, 0, none⟩) 0 0) 0 [] := by
  have := World.ownsRow_lit (base := base) (e := e) (size := s) w #[] 0 hb (by unfold maxLen; omega) (by simp)
  simpa using this
set_option maxHeartbeats 4000000 in
theorem raceD_any (w0 : World) (A : Option Addr) (n cap : Nat) (code : List Int) (hcode : Code0 w0 A n code) (g : Nat) (s : St) (N : Nat) (hN : N ≤ 17) (w : World) (h : Src w0 w A n cap code g s) :
    Calls Try.prog 80 #[.pointer (some ⟨g, 0, none⟩), .int .i64 (N : Int)] w (RetFD w0 w A n cap code g (raceD code N s)) := by
  have hgl := h.lt
  have HNX := Lib.hid (fun s k hk w' h => next_any w0 A n cap code hcode g s k hk w' h)
  unfold raceD
  generalize hR : raceGo code (N : Int) N 0 [] s = R at *
  have HR := Lib.hid hR
  clear hR
  obtain ⟨wa, hwa, XR, hba, hsa⟩ := one_box w #[.slice none 0 0] 93
  have HS := Lib.hid (h.below hba)
  have HC := Lib.hid (Chg.of_below (lo := g) (hi := g + 1) hba)
  have ho0 := own_emptyF wa (w.heap.size + 1) 95 3 (by omega)
  have HSA := Lib.hid hsa
  clear h hba hsa
  go_enter Try.func80, Try.ntmps80
  go_wp2_with fail
  rw [← hwa]
  clear hwa
  rw [← HSA.out] at *
  go_wp2_with fail
  go_loopw [5, 6] (fun v i wr => ∃ (k c' : Nat) (A' : Option Addr) (out : List FinishT) (s' : St), k ≤ N ∧ i = .int .i64 k ∧ v = .slice A' k c' ∧ Hid (wr.ownsRow (w.heap.size + 1) 95 3 (.slice A' k c') k (fins out)) ∧ Hid (raceGo code (N : Int) (N - k) k out s' = R) ∧ Hid (Src w0 wr A n cap code g s') ∧ Hid (Chg g (g + 1) w wr) ∧ Hid (Box wr w.heap.size #[.slice none 0 0] 93)) (fun _ i _ => N - (intOf i).toNat)
  case atStart => exact ⟨0, _, _, [], s, Nat.zero_le _, rfl, rfl, Lib.hid ho0, HR, Lib.hid (HS.out.alloc _), Lib.hid (chg_alloc HC.out _), Lib.hid (XR.below ((Below.refl _ _).alloc (Nat.le_refl _) _))⟩
  case round =>
    clear ho0 HR HS HC XR
    obtain ⟨k, c', A', out, s', hk, rfl, rfl, HO, HR, HS, HC, HX⟩ := hrel
    by_cases hlt : k < N
    · have hsz := HC.out.size
      have hxl := HX.out.lt
      have ek : N - k = (N - (k + 1)) + 1 := by omega
      have hr := HR.out
      rw [ek, raceGo] at hr
      have ex : finX code (N : Int) k s' = if (nextF code (nextF code s' (2 * (N : Int))).2 4).1 = 0 then (((k : Int), 1 + (nextF code (nextF code (nextF code s' (2 * (N : Int))).2 4).2 9).1, 0), (nextF code (nextF code (nextF code s' (2 * (N : Int))).2 4).2 9).2) else (((k : Int), 0, 1 + (nextF code s' (2 * (N : Int))).1), (nextF code (nextF code s' (2 * (N : Int))).2 4).2) := rfl
      generalize finX code (N : Int) k s' = X at *
      have H1 := Lib.hid (HNX.out s' (2 * (N : Int)) (by omega))
      have b1 := nextF_bd code s' (2 * (N : Int)) (by omega)
      generalize nextF code s' (2 * (N : Int)) = r1 at *
      obtain ⟨t, s1⟩ := r1
      have H2 := Lib.hid (HNX.out s1 4 (by omega))
      simp only at ex b1
      generalize nextF code s1 4 = r2 at *
      obtain ⟨q, s2⟩ := r2
      have H3 := Lib.hid (HNX.out s2 9 (by omega))
      have b3 := nextF_bd code s2 9 (by omega)
      simp only at ex
      generalize nextF code s2 9 = r3 at *
      obtain ⟨v3, s3⟩ := r3
      simp only at ex b3
      obtain ⟨b10, b11⟩ := b1
      obtain ⟨b30, b31⟩ := b3
      have HR2 := Lib.hid hr
      have HEX := Lib.hid ex
      clear hr ex HR ek
      go_wp2_with fail
      refine (H1.out _ HS.out).mono ?_
      rintro e w1 ⟨rfl, hs1, hc1⟩
      have HO1 := Lib.hid (own_ne_chg HO.out hc1 (by omega))
      have HC1 := Lib.hid (HC.out.trans hc1)
      have HX1 := Lib.hid (HX.out.chg hc1 (by omega))
      have HS1 := Lib.hid hs1
      have hsz1 := hc1.size
      have HV := Lib.hid (fun b hb => (HO1.out.lt b hb).2)
      clear hs1 hc1 HO HC HX HS H1
      simp only
      go_wp2_with fail
      obtain ⟨wb, hwb, XB, hbb, hsb⟩ := one_box w1 #[.int .i64 (k : Int), .int .i64 0, .int .i64 (1 + t)] 95
      rw [← hwb]
      clear hwb
      refine (H2.out _ (HS1.out.below hbb)).mono ?_
      rintro e w2 ⟨rfl, hs2, hc2⟩
      have XB2 := Lib.hid (XB.chg hc2 (by omega))
      have HO2 := Lib.hid (own_ne_chg (own_below HO1.out hbb) hc2 (by omega))
      have HC2 := Lib.hid ((chg_below HC1.out hbb).trans hc2)
      have HX2 := Lib.hid ((HX1.out.below hbb).chg hc2 (by omega))
      have HS2 := Lib.hid hs2
      have hsz2 := hc2.size
      clear hs2 hc2 HO1 HC1 HX1 HS1 H2 XB hbb
      simp only
      by_cases hq : q = 0
      · subst hq
        have ex := HEX.out
        rw [if_pos rfl] at ex
        have hr := HR2.out
        subst ex
        have HR3 := Lib.hid hr
        clear hr HR2 HEX
        go_wp2_with fail
        refine (H3.out _ HS2.out).mono ?_
        rintro e w3 ⟨rfl, hs3, hc3⟩
        have XB3 := XB2.out.chg hc3 (by omega)
        have HO3 := Lib.hid (own_ne_chg HO2.out hc3 (by omega))
        have HC3 := Lib.hid (HC2.out.trans hc3)
        have HX3 := Lib.hid (HX2.out.chg hc3 (by omega))
        have HS3 := Lib.hid hs3
        have hsz3 := hc3.size
        have F3 := XB3.f3
        clear hs3 hc3 HO2 HC2 HX2 HS2 H3 XB2
        simp only
        have hput := put_chg (g := w1.heap.size) [.int .i64 (k : Int), .int .i64 (1 + v3), .int .i64 0] 0 (Chg.refl w1.heap.size (w1.heap.size + 1) w3) (Nat.le_refl _) (by omega)
        have HO4 := Lib.hid (own_chg HO3.out hput (fun b hb => .inl (HV.out b hb)))
        have HS4 := Lib.hid (HS3.out.chg hput (by omega))
        have HC4 := Lib.hid (chg_put (i := 2) (chg_put (i := 1) (chg_put (i := 0) HC3.out (g := w1.heap.size) (by omega) (.int .i64 (k : Int))) (g := w1.heap.size) (by omega) (.int .i64 (1 + v3))) (g := w1.heap.size) (by omega) (.int .i64 0))
        have HX4 := Lib.hid (HX3.out.chg hput (.inl (by omega)))
        clear hput
        have HN4 := Lib.hid (show ((((w3.setCell ⟨w1.heap.size, 0, none⟩ (.int .i64 (k : Int))).setCell ⟨w1.heap.size, 1, none⟩ (.int .i64 (1 + v3))).setCell ⟨w1.heap.size, 2, none⟩ (.int .i64 0)).alloc (.cells #[.int .i64 (k : Int), .int .i64 (1 + v3), .int .i64 0] 95)).heap[w3.heap.size]? = some (.cells #[.int .i64 (k : Int), .int .i64 (1 + v3), .int .i64 0] 95 (0, 0)) from by
          have := heap_alloc_new (((w3.setCell ⟨w1.heap.size, 0, none⟩ (.int .i64 (k : Int))).setCell ⟨w1.heap.size, 1, none⟩ (.int .i64 (1 + v3))).setCell ⟨w1.heap.size, 2, none⟩ (.int .i64 0)) (.cells #[.int .i64 (k : Int), .int .i64 (1 + v3), .int .i64 0] 95)
          rwa [size_set, size_set, size_set] at this)
        go_wp2_with (at_builtin; refine app_fin _ rfl _ _ rfl rfl (HO4.out.alloc _) rfl HN4.out (by omega) ?cA ?_; rotate_left; intro g5 c5 w5 hown5 hgr5 _ _)
        · have HO5 := Lib.hid hown5
          have HS5 := Lib.hid (src_app HS4.out HO4.out (by omega) hgr5)
          have HC5 := Lib.hid (chg_app HC4.out HO4.out (by omega) hgr5)
          have HX5 := Lib.hid ((HX4.out.below ((Below.refl _ _).alloc (Nat.le_refl _) _)).grown hgr5 (fun e => by have := (HO4.out.lt _ e).1; omega))
          clear hown5 hgr5
          go_roundw
          case rel => exact ⟨k + 1, _, _, _, _, by omega, by go_num, rfl, HO5, HR3, HS5, HC5, HX5⟩
          case measure => simp [intOf] <;> omega
        · first | omega | (simp; omega)
      · have ex := HEX.out
        rw [if_neg hq] at ex
        have hqb : (q == 0) = false := by simpa using hq
        have hr := HR2.out
        subst ex
        have HR3 := Lib.hid hr
        have F2 := XB2.out.f3
        clear hr HR2 HEX hq XB2
        go_wp2_with (at_builtin; refine app_fin _ rfl _ _ rfl rfl (HO2.out.alloc _) rfl (heap_alloc_new _ _) (by omega) ?cB ?_; rotate_left; intro g5 c5 w5 hown5 hgr5 _ _)
        · have HO5 := Lib.hid hown5
          have HS5 := Lib.hid (src_app HS2.out HO2.out (by omega) hgr5)
          have HC5 := Lib.hid (chg_app HC2.out HO2.out (by omega) hgr5)
          have HX5 := Lib.hid ((HX2.out.below ((Below.refl _ _).alloc (Nat.le_refl _) _)).grown hgr5 (fun e => by have := (HO2.out.lt _ e).1; omega))
          clear hown5 hgr5
          go_roundw
          case rel => exact ⟨k + 1, _, _, _, _, by omega, by go_num, rfl, HO5, HR3, HS5, HC5, HX5⟩
          case measure => simp [intOf] <;> omega
        · first | omega | (simp; omega)
    · obtain rfl : k = N := by omega
      have hr := HR.out
      rw [Nat.sub_self, raceGo] at hr
      subst hr
      have F := HX.out.l1
      go_wp2_with fail
      refine bodyPost_ret (v := .agg #[.slice A' k c']) (by simp [results, Try.results80, go_sem, F]) rfl ?_
      have hxl := HX.out.lt
      have hput := put_chg (g := w.heap.size) [.slice A' k c'] 0 (Chg.refl w.heap.size (w.heap.size + 1) wr) (Nat.le_refl _) (by omega)
      exact ⟨_, _, _, rfl, own_base (own_chg HO.out hput (fun b hb => .inr (by have := (HO.out.lt b hb).1; omega))) (by omega), src_put HS.out hgl _, chg_put HC.out (Nat.le_refl _) _⟩
end Go.Proofs.Ytmgkoldipchljaa

/- Appending to an own slice of races. -/
namespace Go.Proofs.Ytmgkoldipchljaa
open Go.RowKit
set_option linter.unusedVariables false
set_option maxRecDepth 100000

theorem Try.info_race : (Try.prog.info? 93).map (fun i => (i.zero, i.size, i.bytes)) = some (some (.agg #[.slice none 0 0]), 1, 24) := by kernel_rfl

theorem app_race {ops : Array Oper} {rest : List Oper} {o : Oper} {a : Act} {Q : Exit → Act → World → Prop} (w : World) (hgd : o.guard = none) (s x : Operand)
    (ho : o.op = .call { callee := .builtin .append, args := #[s, x], argTypes := #[87, 87] }) {base n c : Nat} {A : Option Addr} {vs : List Value}
    (hs : a.eval s = .slice A n c) (hown : w.ownsRow base 93 1 (.slice A n c) n vs) {ad : Addr} {B : Option Addr} {m d : Nat} (hx : a.eval x = .slice (some ad) 1 1)
    (hc : w.cell? ad = some (.slice B m d)) (hn : n ≤ 1099511627776) (hbase : base ≤ w.heap.size)
    (h : ∀ A' c' w', w'.ownsRow base 93 1 (.slice A' (n + 1) c') (n + 1) (vs ++ [.slice B m d]) → w.grownBy w' (Value.slice A n c).ownBlock → wpList Try.prog ops Q rest (a.put o.dst (.slice A' (n + 1) c')) w') :
    wpList Try.prog ops Q (o :: rest) a w := by
  obtain ⟨i, hi, hz, hs1, hb1⟩ := info_parts Try.info_race
  refine wpList_append_own w hgd s x 87 ho base 93 i (.agg #[.slice none 0 0]) 1 24 Try.underlying87 hi hz hs1 hb1 rfl (by decide) (.slice A n c) n vs hs hown ad 1 1 [.slice B m d] hx rfl ?_ ?_ (by unfold maxLen; omega) (by omega) hbase ?_
  · intro j u hu
    have hj : j = 0 := by
      rcases j with _ | j
      · rfl
      · simp at hu
    subst hj
    have hadd : ad.add 0 = ad := by simp [Addr.add]
    rw [hadd, hc]
    simpa using hu
  · intro u hu
    simp at hu
    subst hu
    rfl
  · intro v' w' h1 h2 _
    rcases h1.2 with ⟨rfl, h0⟩ | ⟨g, cap, cur, rfl, _⟩
    · omega
    · exact h _ _ w' h1 h2
end Go.Proofs.Ytmgkoldipchljaa

/- Plain: the points of a race in fleets, boat by boat. -/
namespace Go.Proofs.Ytmgkoldipchljaa
open Go.RowKit
set_option linter.unusedVariables false

def ptF (L : Int) (fs : List FinishT) (list : List Int) (i : Nat) : Int := pointF L (ofFleet (list.getD i 0) fs list) (fs.getD i (0, 0, 0))
def pointsL (L : Int) (fs : List FinishT) (list : List Int) : List Int := (List.range list.length).map (ptF L fs list)
/-- The points of the fleets below fl and of the boats in S. -/
def partG (L : Int) (fs : List FinishT) (list : List Int) (fl : Int) (S : List Int) : List Int :=
  (List.range list.length).map fun i => if list.getD i 0 < fl ∨ (i : Int) ∈ S then ptF L fs list i else 0
def fleetPointsL (fs : List FinishT) (list : List Int) (k : Int) : List Int × Int :=
  if fleetsCodeF list k = 0 then (if raceB (list.length : Int) fs = true then (pointsL (largestF (countF list (List.replicate k.toNat 0))) fs list, 0) else ([], 5)) else ([], fleetsCodeF list k)
theorem partG_len (L : Int) (fs : List FinishT) (list : List Int) (fl : Int) (S : List Int) : (partG L fs list fl S).length = list.length := by unfold partG; simp
theorem getD_mem {α : Type} {xs : List α} {i : Nat} {d : α} (h : i < xs.length) : xs.getD i d ∈ xs := by
  rw [List.getD_eq_getElem?_getD, List.getElem?_eq_getElem h]; exact List.getElem_mem _
theorem partG_zero (L : Int) (fs : List FinishT) {list : List Int} (h : ∀ x ∈ list, 0 ≤ x) : partG L fs list 0 [] = List.replicate list.length 0 := by
  apply List.ext_getElem
  · simp [partG]
  · intro i h1 h2
    simp only [partG, List.length_map, List.length_range] at h1
    have := h _ (getD_mem (d := 0) h1)
    simp only [partG, List.getElem_map, List.getElem_range, List.getElem_replicate, List.not_mem_nil, or_false]
    rw [if_neg (by omega)]
theorem partG_end (L : Int) (fs : List FinishT) {list : List Int} {k : Int} (h : ∀ x ∈ list, x < k) : partG L fs list k [] = pointsL L fs list := by
  apply List.ext_getElem
  · simp [partG, pointsL]
  · intro i h1 h2
    simp only [partG, List.length_map, List.length_range] at h1
    have := h _ (getD_mem (d := 0) h1)
    simp only [partG, pointsL, List.getElem_map, List.getElem_range]
    rw [if_pos (.inl this)]
theorem partG_set (L : Int) (fs : List FinishT) (list : List Int) (fl : Int) (S : List Int) (b : Nat) : (partG L fs list fl S).set b (ptF L fs list b) = partG L fs list fl (S ++ [(b : Int)]) := by
  apply List.ext_getElem
  · simp [partG]
  · intro i h1 h2
    rw [List.getElem_set]
    simp only [partG, List.getElem_map, List.getElem_range, List.mem_append, List.mem_singleton]
    by_cases hb : b = i
    · subst hb
      rw [if_pos rfl, if_pos (.inr (.inr rfl))]
    · rw [if_neg hb]
      have : ¬ (i : Int) = (b : Int) := by omega
      simp [this]
theorem boatsF_mem {fl : Int} : ∀ {xs : List Int} {i : Nat} {y : Int}, y ∈ boatsF fl i xs ↔ ∃ j : Nat, y = ((i + j : Nat) : Int) ∧ xs[j]? = some fl := by
  intro xs
  induction xs with
  | nil => intro i y; simp [boatsF]
  | cons x r ih =>
    intro i y
    unfold boatsF
    constructor
    · intro h
      split at h
      · rename_i hx
        rcases List.mem_cons.1 h with h | h
        · exact ⟨0, by simpa using h, by simp [hx]⟩
        · obtain ⟨j, h1, h2⟩ := ih.1 h
          exact ⟨j + 1, by rw [h1]; congr 1; omega, by simpa using h2⟩
      · obtain ⟨j, h1, h2⟩ := ih.1 h
        exact ⟨j + 1, by rw [h1]; congr 1; omega, by simpa using h2⟩
    · rintro ⟨j, h1, h2⟩
      cases j with
      | zero => simp at h2; rw [if_pos h2]; exact List.mem_cons.2 (.inl (by simpa using h1))
      | succ j =>
        have hm : y ∈ boatsF fl (i + 1) r := ih.2 ⟨j, by rw [h1]; congr 1; omega, by simpa using h2⟩
        split
        · exact List.mem_cons_of_mem _ hm
        · exact hm
theorem boatsF_at {fl : Int} {xs : List Int} {t : Nat} {y : Int} (h : (boatsF fl 0 xs)[t]? = some y) : ∃ j : Nat, y = (j : Int) ∧ j < xs.length ∧ xs[j]? = some fl := by
  obtain ⟨j, h1, h2⟩ := boatsF_mem.1 (List.mem_of_getElem? h)
  exact ⟨j, by simpa using h1, (List.getElem?_eq_some_iff.1 h2).1, h2⟩
theorem boatsF_len (fl : Int) : ∀ (xs : List Int) (i : Nat), (boatsF fl i xs).length ≤ xs.length := by
  intro xs
  induction xs with
  | nil => intro i; simp [boatsF]
  | cons x r ih => intro i; have := ih (i + 1); unfold boatsF; split <;> simp <;> omega
theorem partG_next (L : Int) (fs : List FinishT) (list : List Int) (fl : Int) : partG L fs list fl (boatsF fl 0 list) = partG L fs list (fl + 1) [] := by
  apply List.ext_getElem
  · simp [partG]
  · intro i h1 h2
    simp only [partG, List.length_map, List.length_range] at h1
    simp only [partG, List.getElem_map, List.getElem_range, List.not_mem_nil, or_false]
    have e : (i : Int) ∈ boatsF fl 0 list ↔ list.getD i 0 = fl := by
      rw [boatsF_mem, List.getD_eq_getElem?_getD, List.getElem?_eq_getElem h1]
      constructor
      · rintro ⟨j, e1, e2⟩
        obtain rfl : i = j := by omega
        rw [List.getElem?_eq_getElem h1] at e2; injection e2
      · intro e1
        exact ⟨i, by simp, by rw [List.getElem?_eq_getElem h1]; simpa using e1⟩
    by_cases hc : list.getD i 0 < fl + 1
    · rw [if_pos hc, if_pos (by rw [e]; omega)]
    · rw [if_neg hc, if_neg (by rw [e]; omega)]
theorem boats_fins_go (fl : Int) (all : List FinishT) : ∀ (xs : List Int) (fs : List FinishT) (i : Nat), all.drop i = fs → fs.length = xs.length →
    (boatsF fl i xs).map (fun y => all.getD y.toNat (0, 0, 0)) = ofFleet fl fs xs := by
  intro xs
  induction xs with
  | nil => intro fs i h hl; cases fs with
    | nil => rfl
    | cons f r => simp at hl
  | cons x r ih =>
    intro fs i h hl
    cases fs with
    | nil => simp at hl
    | cons f q =>
      have h2 : all.drop (i + 1) = q := by rw [← List.drop_drop, h]; rfl
      have hg : all.getD i (0, 0, 0) = f := by
        have : (all.drop i)[0]? = some f := by rw [h]; rfl
        rw [List.getElem?_drop] at this
        rw [List.getD_eq_getElem?_getD]
        simp at this
        rw [this]; rfl
      have := ih q (i + 1) h2 (by simpa using hl)
      unfold boatsF ofFleet
      split
      · rw [List.map_cons, this]; congr 1
      · exact this
theorem boats_fins (fl : Int) {xs : List Int} {fs : List FinishT} (h : fs.length = xs.length) : (boatsF fl 0 xs).map (fun y => fs.getD y.toNat (0, 0, 0)) = ofFleet fl fs xs :=
  boats_fins_go fl fs xs fs 0 rfl h
theorem ofFleet_at {fl : Int} {xs : List Int} {fs : List FinishT} (h : fs.length = xs.length) {t : Nat} {y : Nat} (hy : (boatsF fl 0 xs)[t]? = some (y : Int)) : (ofFleet fl fs xs)[t]? = some (fs.getD y (0, 0, 0)) := by
  rw [← boats_fins fl h, List.getElem?_map, hy]; rfl
/-- What a boat of the fleet gets. -/
theorem ptF_at {L fl : Int} {xs : List Int} {fs : List FinishT} {y : Nat} (hy : xs[y]? = some fl) : ptF L fs xs y = pointF L (ofFleet fl fs xs) (fs.getD y (0, 0, 0)) := by
  unfold ptF
  rw [List.getD_eq_getElem?_getD, hy]; rfl
theorem partG_skip {L : Int} {fs : List FinishT} {list : List Int} {fl : Int} {S : List Int} {b : Nat} (hz : ptF L fs list b = 0) : partG L fs list fl S = partG L fs list fl (S ++ [(b : Int)]) := by
  rw [← partG_set]
  apply List.ext_getElem
  · simp
  · intro i h1 h2
    rw [List.getElem_set]
    split
    · rename_i hb
      subst hb
      simp only [partG, List.getElem_map, List.getElem_range]
      rw [hz]
      split <;> rfl
    · rfl
theorem largest_snoc (xs : List Int) (x : Int) : largestF (xs ++ [x]) = max (largestF xs) x := by unfold largestF; rw [List.foldl_append]; rfl
theorem largest_le {xs : List Int} (h : ∀ x ∈ xs, x ≤ 16) : 0 ≤ largestF xs ∧ largestF xs ≤ 16 := by
  unfold largestF
  have : ∀ (ys : List Int) (a : Int), 0 ≤ a → a ≤ 16 → (∀ x ∈ ys, x ≤ 16) → 0 ≤ ys.foldl max a ∧ ys.foldl max a ≤ 16 := by
    intro ys
    induction ys with
    | nil => intro a h0 h1 _; exact ⟨h0, h1⟩
    | cons y r ih => intro a h0 h1 h2; exact ih _ (by omega) (by have := h2 y (by simp); omega) (fun x hx => h2 x (by simp [hx]))
  exact this xs 0 (by omega) (by omega) h
theorem filter_of_fleet (fl t : Int) (p : FinishT → Bool) : ∀ (fs : List FinishT) (l : List Int), fs.length = l.length →
    ((ofFleet fl fs l).filter p).length = (((fs.zip l).filter fun q => p q.1 && (q.2 == fl)).length) := by
  intro fs
  induction fs with
  | nil => intro l h; simp [ofFleet]
  | cons f r ih =>
    intro l h
    cases l with
    | nil => simp at h
    | cons x l =>
      have := ih l (by simpa using h)
      unfold ofFleet
      rw [List.zip_cons_cons, List.filter_cons]
      by_cases hx : x = fl
      · subst hx
        rw [if_pos rfl, List.filter_cons]
        by_cases hp : p f = true
        · rw [if_pos hp, if_pos (by simp [hp])]; simp [this]
        · rw [if_neg hp, if_neg (by simp [hp])]; exact this
      · rw [if_neg hx, if_neg (by simp [hx])]; exact this
end Go.Proofs.Ytmgkoldipchljaa

/- Walks: the laws' helpers on slices of Redress. -/
namespace Go.Proofs.Ytmgkoldipchljaa
open Go.RowKit
set_option linter.unusedVariables false
set_option maxRecDepth 100000

abbrev RedressT := Int × Int × Int × Int
def redC (p : RedressT) : List Value := [.int .i64 p.1, .int .i64 p.2.1, .int .i64 p.2.2.1, .int .i64 p.2.2.2]
theorem redC_len (p : RedressT) : (redC p).length = 4 := rfl
def reds (xs : List RedressT) : List Value := xs.flatMap redC
theorem zeroS4 (v : Value) (i : Nat) (h : i < (#[v, v, v, v] : Array Value).size) : (#[v, v, v, v] : Array Value)[i]! = v := by
  have : i = 0 ∨ i = 1 ∨ i = 2 ∨ i = 3 := by simp at h; omega
  rcases this with rfl | rfl | rfl | rfl <;> rfl
theorem Rd.red {w : World} {A : Option Addr} {n k : Nat} {xs : List RedressT} (h : Rd w 4 A n (reds xs)) (hk : k < n) :
    ∃ b o x0 x1 x2 x3, A = some ⟨b, o, none⟩ ∧ xs[k]? = some (x0, x1, x2, x3) ∧ xs.drop k = (x0, x1, x2, x3) :: xs.drop (k + 1) ∧ w.cell? ⟨b, o + k * 4, none⟩ = some (.int .i64 x0) ∧ w.cell? ⟨b, o + k * 4 + 1, none⟩ = some (.int .i64 x1) ∧ w.cell? ⟨b, o + k * 4 + 2, none⟩ = some (.int .i64 x2) ∧ w.cell? ⟨b, o + k * 4 + 3, none⟩ = some (.int .i64 x3) := by
  obtain ⟨b, o, ⟨x0, x1, x2, x3⟩, e, h1, h2, h3⟩ := Rd.flat redC_len (by decide) h hk
  exact ⟨b, o, x0, x1, x2, x3, e, h1, h2, h3 0 _ rfl, h3 1 _ rfl, h3 2 _ rfl, h3 3 _ rfl⟩
theorem Rd.len_red {w : World} {A : Option Addr} {n : Nat} {xs : List RedressT} (h : Rd w 4 A n (reds xs)) : xs.length = n := Rd.len_flat redC_len (by decide) h
theorem own_red_at {w : World} {base e n c k : Nat} {A : Option Addr} {xs : List RedressT} (h : w.ownsRow base e 4 (.slice A n c) n (reds xs)) (hk : k < n) :
    ∃ g x0 x1 x2 x3, A = some ⟨g, 0, none⟩ ∧ base ≤ g ∧ g < w.heap.size ∧ xs[k]? = some (x0, x1, x2, x3) ∧ xs.drop k = (x0, x1, x2, x3) :: xs.drop (k + 1) ∧ w.cell? ⟨g, k * 4, none⟩ = some (.int .i64 x0) ∧ w.cell? ⟨g, k * 4 + 1, none⟩ = some (.int .i64 x1) ∧ w.cell? ⟨g, k * 4 + 2, none⟩ = some (.int .i64 x2) ∧ w.cell? ⟨g, k * 4 + 3, none⟩ = some (.int .i64 x3) ∧ w.frozen? ⟨g, k * 4, none⟩ = false ∧ w.frozen? ⟨g, k * 4 + 1, none⟩ = false ∧ w.frozen? ⟨g, k * 4 + 2, none⟩ = false ∧ w.frozen? ⟨g, k * 4 + 3, none⟩ = false := by
  obtain ⟨g, ⟨x0, x1, x2, x3⟩, e, h1, h2, h3, h4, h5, h6⟩ := own_flat redC_len (by decide) h hk
  exact ⟨g, x0, x1, x2, x3, e, h1, h2, h3, h4, h5 0 _ rfl, h5 1 _ rfl, h5 2 _ rfl, h5 3 _ rfl, h6 _, h6 _, h6 _, h6 _⟩
theorem own_red_set {w : World} {base e g n c k : Nat} {xs : List RedressT} (h : w.ownsRow base e 4 (.slice (some ⟨g, 0, none⟩) n c) n (reds xs)) (hk : k < n) (x0 x1 x2 x3 : Int) :
    ((((w.setCell ⟨g, k * 4, none⟩ (.int .i64 x0)).setCell ⟨g, k * 4 + 1, none⟩ (.int .i64 x1)).setCell ⟨g, k * 4 + 2, none⟩ (.int .i64 x2)).setCell ⟨g, k * 4 + 3, none⟩ (.int .i64 x3)).ownsRow base e 4 (.slice (some ⟨g, 0, none⟩) n c) n (reds (xs.set k (x0, x1, x2, x3))) := by
  have h1 := own_put (redC (x0, x1, x2, x3)) (k * 4) h
  unfold reds at h1
  rw [flat_put redC_len xs k (x0, x1, x2, x3) (by rw [own_len_flat redC_len (by decide) h]; exact hk)] at h1
  exact h1
theorem toRedress_any (x0 x1 x2 x3 : Int) (w : World) :
    Calls Try.prog 50 #[.agg #[.int .i64 x0, .int .i64 x1, .int .i64 x2, .int .i64 x3]] w fun e w' => e = .returned (.agg #[.int .i64 x0, .int .i64 x1, .int .i64 x2, .int .i64 x3]) ∧ Below w.heap.size w w' := by
  go_enter Try.func50, Try.ntmps50
  go_wp2_with fail
  refine bodyPost_ret (v := .agg #[.int .i64 x0, .int .i64 x1, .int .i64 x2, .int .i64 x3]) (by simp [results, Try.results50, go_sem]) rfl ⟨rfl, ?_⟩
  exact (((Below.refl _ _).alloc (Nat.le_refl _) _).alloc (by simp) _).alloc (by simp; omega) _
theorem eqRedress_any (x0 x1 x2 x3 y0 y1 y2 y3 : Int) (w : World) :
    Calls Try.prog 54 #[.agg #[.int .i64 x0, .int .i64 x1, .int .i64 x2, .int .i64 x3], .agg #[.int .i64 y0, .int .i64 y1, .int .i64 y2, .int .i64 y3]] w fun e w' => e = .returned (.bool (decide ((x0, x1, x2, x3) = (y0, y1, y2, y3)))) ∧ Below w.heap.size w w' := by
  have hb : ∀ o1 o2, Below w.heap.size w ((w.alloc o1).alloc o2) := fun o1 o2 => ((Below.refl _ _).alloc (Nat.le_refl _) _).alloc (by simp) _
  have HB := Lib.hid hb; clear hb
  by_cases h0 : x0 = y0
  · subst h0
    by_cases h1 : x1 = y1
    · subst h1
      by_cases h2 : x2 = y2
      · subst h2
        by_cases h3 : x3 = y3
        · subst h3
          go_enter Try.func54, Try.ntmps54
          go_wp2_with fail
          go_ret
          exact ⟨ret_bool (by simp), HB.out _ _⟩
        · have hne : (x3 != y3) = true := by simp [h3]
          go_enter Try.func54, Try.ntmps54
          go_wp2_with fail
          go_ret
          exact ⟨ret_bool (by simp [h3]), HB.out _ _⟩
      · have hne : (x2 != y2) = true := by simp [h2]
        go_enter Try.func54, Try.ntmps54
        go_wp2_with fail
        go_ret
        exact ⟨ret_bool (by simp [h2]), HB.out _ _⟩
    · have hne : (x1 != y1) = true := by simp [h1]
      go_enter Try.func54, Try.ntmps54
      go_wp2_with fail
      go_ret
      exact ⟨ret_bool (by simp [h1]), HB.out _ _⟩
  · have hne : (x0 != y0) = true := by simp [h0]
    go_enter Try.func54, Try.ntmps54
    go_wp2_with fail
    go_ret
    exact ⟨ret_bool (by simp [h0]), HB.out _ _⟩
theorem Try.info_red : (Try.prog.info? 42).map (fun i => (i.zero, i.size, i.bytes)) = some (some (.agg #[.int .i64 0, .int .i64 0, .int .i64 0, .int .i64 0]), 4, 32) := by kernel_rfl
theorem run_make_red (n : Nat) (h : n ≤ 1048576) (w : World) :
    (Instr.makeSlice 32 (.int .i64 (n : Int)) (.int .i64 (n : Int))).run Try.prog w = .ok (.slice (some ⟨w.heap.size, 0, none⟩) n n) (w.alloc (.cells (madeCells #[.int .i64 0, .int .i64 0, .int .i64 0, .int .i64 0] (n * 4)) 42)) := by
  obtain ⟨i, hi, hz, hs, hb⟩ := info_parts Try.info_red
  have hr := run_make (P := Try.prog) w 32 42 i (.agg #[.int .i64 0, .int .i64 0, .int .i64 0, .int .i64 0]) Try.underlying32 hi hz .i64 .i64 n n (by omega) (by omega) (by rw [hb]; omega) (by omega)
  rw [hs, Int.toNat_natCast] at hr
  exact hr
/-- The copy of such a slice. -/
def RetRedressS (w : World) (xs : List RedressT) (e : Ending) (w' : World) : Prop :=
  ∃ A n c, e = .returned (.slice A n c) ∧ w'.ownsRow w.heap.size 42 4 (.slice A n c) n (reds xs) ∧ n ≤ 1048576 ∧ Below w.heap.size w w'
theorem toRedressS_any (A : Option Addr) (n c : Nat) (xs : List RedressT) (w : World) (h : Rd w 4 A n (reds xs)) (hn : n ≤ 1048576) :
    Calls Try.prog 21 #[.slice A n c] w (RetRedressS w xs) := by
  have HN := Lib.hid h.len_red
  have hmk := run_make_red n hn
  have hown := own_madeS w w.heap.size 42 n 4 #[.int .i64 0, .int .i64 0, .int .i64 0, .int .i64 0] (.int .i64 0) (by decide) (zeroS4 _) (Nat.le_refl _) (by omega)
  rw [← flat_replicate (f := redC) (s := 4) n (0, 0, 0, 0) (.int .i64 0) rfl] at hown
  have hb0 : Below w.heap.size w (w.alloc (.cells (madeCells #[.int .i64 0, .int .i64 0, .int .i64 0, .int .i64 0] (n * 4)) 42)) := (Below.refl _ _).alloc (Nat.le_refl _) _
  go_enter Try.func21, Try.ntmps21
  go_wp2
  go_loopw [4] (fun i wr => ∃ k : Nat, k ≤ n ∧ i = .int .i64 k ∧ wr.ownsRow w.heap.size 42 4 (.slice (some ⟨w.heap.size, 0, none⟩) n n) n (reds (xs.take k ++ List.replicate (n - k) (0, 0, 0, 0))) ∧ Below w.heap.size w wr) (fun i _ => n - (intOf i).toNat)
  case atStart => exact ⟨0, Nat.zero_le _, rfl, by simpa [reds] using hown, hb0⟩
  case round =>
    obtain ⟨k, hk, rfl, ho, hb⟩ := hrel
    clear hown hb0 hmk
    by_cases hlt : k < n
    · obtain ⟨b, o, x0, x1, x2, x3, rfl, hx, hd, hc0, hc1, hc2, hc3⟩ := (h.below hb).red hlt
      have HX := Lib.hid hx; clear hx hd
      have HO := Lib.hid ho; have HB := Lib.hid hb
      clear ho hb
      go_wp2_with fail
      refine (toRedress_any x0 x1 x2 x3 _).mono ?_
      rintro e w2 ⟨rfl, hb2⟩
      have ho2 := own_below HO.out hb2
      obtain ⟨g, z0, z1, z2, z3, hg, hg1, hg2, _, _, hz0, hz1, hz2, hz3, hf0, hf1, hf2, hf3⟩ := own_red_at ho2 hlt
      obtain rfl : w.heap.size = g := by injection hg with hg; injection hg
      have HO2 := Lib.hid ho2
      have HB2 := Lib.hid (HB.out.trans (hb2.mono HB.out.size))
      clear ho2 hb2 hg HO HB
      go_wp2_with fail
      go_roundw
      case rel =>
        refine ⟨k + 1, by omega, by go_num, ?_, ?_⟩
        · rw [← copy_stepG (0, 0, 0, 0) xs n k (x0, x1, x2, x3) HN.out HX.out hlt]
          exact own_red_set HO2.out hlt x0 x1 x2 x3
        · exact put_below [.int .i64 x0, .int .i64 x1, .int .i64 x2, .int .i64 x3] (k * 4) HB2.out (Nat.le_refl _)
      case measure => simp [intOf] <;> omega
    · obtain rfl : k = n := by omega
      go_wp2
      go_ret
      refine ⟨_, _, _, rfl, ?_, hn, hb⟩
      have hl := HN.out
      simpa [← hl] using ho
theorem eqRedressS_any (A A' : Option Addr) (n c n' c' : Nat) (xs ys : List RedressT) (w : World) (h : Rd w 4 A n (reds xs)) (h' : Rd w 4 A' n' (reds ys)) :
    Calls Try.prog 25 #[.slice A n c, .slice A' n' c'] w fun e w' => e = .returned (.bool (decide (xs = ys))) ∧ Below w.heap.size w w' := by
  have HN := Lib.hid h.len_red
  have HN' := Lib.hid h'.len_red
  have hm := h.le
  by_cases hl : n = n'
  · subst hl
    go_enter Try.func25, Try.ntmps25
    go_wp2
    go_loopw [5] (fun i wr => ∃ k : Nat, k ≤ n ∧ i = .int .i64 k ∧ (xs = ys ↔ xs.drop k = ys.drop k) ∧ Below w.heap.size w wr) (fun i _ => n - (intOf i).toNat)
    case atStart => exact ⟨0, Nat.zero_le _, rfl, by simp, Below.refl _ _⟩
    case round =>
      obtain ⟨k, hk, rfl, hall, hb⟩ := hrel
      have HA := Lib.hid hall; clear hall
      by_cases hlt : k < n
      · obtain ⟨b, o, x0, x1, x2, x3, rfl, hx, hd, hc0, hc1, hc2, hc3⟩ := (h.below hb).red hlt
        obtain ⟨b', o', y0, y1, y2, y3, rfl, hx', hd', hd0, hd1, hd2, hd3⟩ := (h'.below hb).red hlt
        clear hx hx'
        have HD := Lib.hid hd; clear hd
        have HD' := Lib.hid hd'; clear hd'
        have HB := Lib.hid hb; clear hb
        have HE := Lib.hid (eqRedress_any x0 x1 x2 x3 y0 y1 y2 y3)
        by_cases hxx : (x0, x1, x2, x3) = (y0, y1, y2, y3)
        · have hdec : decide ((x0, x1, x2, x3) = (y0, y1, y2, y3)) = true := by simpa using hxx
          rw [hdec] at HE
          rw [hxx] at HD
          clear hxx hdec
          go_wp2_with fail
          go_still_tail 8, (by kernel_rfl)
          go_wp2_with fail
          refine (HE.out _).mono ?_
          rintro e w2 ⟨rfl, hb2⟩
          have HB2 := Lib.hid ((HB.out.trans (((Drawn.refl wr).step 1).below.mono HB.out.size)).trans (hb2.mono HB.out.size))
          clear hb2 HB
          go_wp2_with fail
          go_roundw
          case rel => exact ⟨k + 1, by omega, by go_num, by rw [HA.out, HD.out, HD'.out]; simp, HB2.out⟩
          case measure => simp [intOf] <;> omega
        · have hdec : decide ((x0, x1, x2, x3) = (y0, y1, y2, y3)) = false := by simpa using hxx
          rw [hdec] at HE
          have HX := Lib.hid hxx
          clear hxx hdec
          go_wp2_with fail
          go_still_tail 8, (by kernel_rfl)
          go_wp2_with fail
          refine (HE.out _).mono ?_
          rintro e w2 ⟨rfl, hb2⟩
          have HB2 := Lib.hid ((HB.out.trans (((Drawn.refl wr).step 1).below.mono HB.out.size)).trans (hb2.mono HB.out.size))
          clear hb2 HB
          go_wp2_with fail
          go_ret
          exact ⟨ret_bool (by rw [eq_comm, decide_eq_false_iff_not, HA.out, HD.out, HD'.out]; intro e; injection e with e _; exact HX.out e), HB2.out⟩
      · obtain rfl : k = n := by omega
        go_wp2
        go_ret
        exact ⟨ret_bool (by rw [eq_comm, decide_eq_true_iff, HA.out, List.drop_eq_nil_of_le (by rw [HN.out]; omega), List.drop_eq_nil_of_le (by rw [HN'.out]; omega)]), hb⟩
  · have hne : ((n : Int) != n') = true := by simp; omega
    go_enter Try.func25, Try.ntmps25
    go_wp2
    go_ret
    exact ⟨ret_bool (by rw [eq_comm, decide_eq_false_iff_not]; rintro rfl; exact hl (HN.out.symm.trans HN'.out)), Below.refl _ _⟩
theorem eqRedressS_same (A A' : Option Addr) (n c n' c' : Nat) (xs : List RedressT) (w : World) (h : Rd w 4 A n (reds xs)) (h' : Rd w 4 A' n' (reds xs)) :
    Calls Try.prog 25 #[.slice A n c, .slice A' n' c'] w fun e w' => e = .returned (.bool true) ∧ Below w.heap.size w w' :=
  (eqRedressS_any A A' n c n' c' xs xs w h h').mono fun _ _ ⟨a, b⟩ => ⟨by rw [a, decide_eq_true rfl], b⟩
theorem szRedressS_any (A : Option Addr) (n c : Nat) (left : Int) (w : World) (h0 : 0 ≤ left) (h1 : left ≤ 1048576) (hn : n ≤ 9223372036854775807) :
    Calls Try.prog 18 #[.slice A n c, .int .i64 left] w fun e w' => e = .returned (.int .i64 (if left < n then -1 else left - n)) ∧ w = w' := by
  by_cases h : left < n
  · rw [if_pos h]
    go_enter Try.func18, Try.ntmps18
    go_wp2
    go_ret
    exact ⟨rfl, rfl⟩
  · rw [if_neg h]
    go_enter Try.func18, Try.ntmps18
    go_wp2
    go_ret
    exact ⟨rfl, rfl⟩
end Go.Proofs.Ytmgkoldipchljaa

/- Walks: the range of ranks (chapter 31). -/
import Derived.Test.YtfkllgnenbbccaaMv
import Derived.Test.YtfkllgnenbbccaaWt2
namespace Go.Proofs.Ytfkllgnenbbccaa
open Go.RowKit
set_option linter.unusedVariables false
set_option maxRecDepth 100000

theorem chg_cell {lo hi : Nat} {W W' : World} (h : Chg lo hi W W') {b i : Nat} {v : Value} (hb : b < lo ∨ hi ≤ b) (hc : W.cell? ⟨b, i, none⟩ = some v) : W'.cell? ⟨b, i, none⟩ = some v := by
  have hlt : b < W.heap.size := by
    rcases Nat.lt_or_ge b W.heap.size with h | h
    · exact h
    · exfalso
      unfold World.cell? at hc
      rw [Array.getElem?_eq_none h] at hc
      cases hc
  rw [← hc]
  exact World.cell?_of_block (h.block b hlt (by omega))

/-- The variables of a search for the range of ranks. -/
structure Env where
  n : Nat
  A : Option Addr
  c : Nat
  net : List Int
  factor : Int
  boat : Int
  most : Int
  bBoat : Nat
  bMost : Nat
  bNet : Nat
  bFac : Nat
  bBest : Nat
  bWorst : Nat
  bMany : Nat
  bUse : Nat
  bPl : Nat
  bFn : Nat
  gp : Nat
def Env.use (E : Env) : Value := .func (.func 70) #[] #[.pointer (some ⟨E.bBoat, 0, none⟩), .pointer (some ⟨E.bMost, 0, none⟩), .pointer (some ⟨E.bNet, 0, none⟩), .pointer (some ⟨E.bFac, 0, none⟩), .pointer (some ⟨E.bBest, 0, none⟩), .pointer (some ⟨E.bWorst, 0, none⟩)]
def Env.place (E : Env) : Value := .func (.func 78) #[] #[.pointer (some ⟨E.bMany, 0, none⟩), .pointer (some ⟨E.bUse, 0, none⟩), .pointer (some ⟨E.bPl, 0, none⟩), .pointer (some ⟨E.bFn, 0, none⟩)]

/-- What a use of places needs of memory. -/
structure UI (E : Env) (w0 W : World) (places : List Int) (s : Int × Int) : Prop where
  cBoat : W.cell? ⟨E.bBoat, 0, none⟩ = some (.int .i64 E.boat)
  cMost : W.cell? ⟨E.bMost, 0, none⟩ = some (.int .i64 E.most)
  cNet : W.cell? ⟨E.bNet, 0, none⟩ = some (.slice E.A E.n E.c)
  cFac : W.cell? ⟨E.bFac, 0, none⟩ = some (.int .i64 E.factor)
  cBest : W.cell? ⟨E.bBest, 0, none⟩ = some (.int .i64 s.1)
  cWorst : W.cell? ⟨E.bWorst, 0, none⟩ = some (.int .i64 s.2)
  fBest : W.frozen? ⟨E.bBest, 0, none⟩ = false
  fWorst : W.frozen? ⟨E.bWorst, 0, none⟩ = false
  own : W.ownsRow w0.heap.size 2 1 (.slice (some ⟨E.gp, 0, none⟩) E.n E.n) E.n (ints places)
  bel : Below w0.heap.size w0 W
/-- The blocks differ. -/
structure Apart (E : Env) (w0 : World) : Prop where
  best : w0.heap.size ≤ E.bBest
  worst : w0.heap.size ≤ E.bWorst
  bw : E.bBest < E.bWorst
  b1 : E.bBoat < E.bBest
  b2 : E.bMost < E.bBest
  b3 : E.bNet < E.bBest
  b4 : E.bFac < E.bBest
  p : E.bWorst < E.gp
  rd : Rd w0 1 E.A E.n (ints E.net)

theorem chg_frozen {lo hi : Nat} {W W' : World} (h : Chg lo hi W W') {b i : Nat} {v : Value} (hb : b < lo ∨ hi ≤ b) (hc : W.cell? ⟨b, i, none⟩ = some v) (hf : W.frozen? ⟨b, i, none⟩ = false) : W'.frozen? ⟨b, i, none⟩ = false := by
  have hlt : b < W.heap.size := by
    rcases Nat.lt_or_ge b W.heap.size with h | h
    · exact h
    · exfalso
      unfold World.cell? at hc
      rw [Array.getElem?_eq_none h] at hc
      cases hc
  rw [← hf]
  exact World.frozen?_of_block (h.block b hlt (by omega))
theorem chg_set1 (W : World) (g i : Nat) (v : Value) : Chg g (g + 1) W (W.setCell ⟨g, i, none⟩ v) := chg_sC (Chg.refl _ _ _) (Nat.le_refl _) (Nat.lt_succ_self _) v
theorem cell_set_same {W : World} {g : Nat} {u : Value} (v : Value) (h : W.cell? ⟨g, 0, none⟩ = some u) : (W.setCell ⟨g, 0, none⟩ v).cell? ⟨g, 0, none⟩ = some v := World.cell?_setCell_same _ _ _ h
section
variable {E : Env} {w0 W W' : World} {p : List Int} {s : Int × Int}
theorem UI.same (h : UI E w0 W p s) (k : Below W.heap.size W W') : UI E w0 W' p s := by
  have kc := Keeps.below k
  have hc : Chg W.heap.size W.heap.size W W' := Chg.of_below k
  have hl : ∀ {b : Nat} {v : Value}, W.cell? ⟨b, 0, none⟩ = some v → b < W.heap.size ∨ W.heap.size ≤ b := fun _ => by omega
  exact ⟨kc _ _ h.cBoat, kc _ _ h.cMost, kc _ _ h.cNet, kc _ _ h.cFac, kc _ _ h.cBest, kc _ _ h.cWorst, chg_frozen hc (by omega) h.cBest h.fBest, chg_frozen hc (by omega) h.cWorst h.fWorst, own_below h.own k, h.bel.trans (k.mono h.bel.size)⟩
theorem UI.setBest (h : UI E w0 W p s) (ha : Apart E w0) (x : Int) : UI E w0 (W.setCell ⟨E.bBest, 0, none⟩ (.int .i64 x)) p (x, s.2) := by
  have k := chg_set1 W E.bBest 0 (.int .i64 x)
  have h1 := ha.b1; have h2 := ha.b2; have h3 := ha.b3; have h4 := ha.b4; have h5 := ha.bw; have h6 := ha.p
  exact ⟨chg_cell k (by omega) h.cBoat, chg_cell k (by omega) h.cMost, chg_cell k (by omega) h.cNet, chg_cell k (by omega) h.cFac, cell_set_same _ h.cBest, chg_cell k (by omega) h.cWorst,
    by simp [h.fBest], chg_frozen k (by omega) h.cWorst h.fWorst, own_chg h.own k (fun b hb => by simp [Value.ownBlock] at hb; omega), h.bel.setCell ha.best _⟩
theorem UI.setWorst (h : UI E w0 W p s) (ha : Apart E w0) (x : Int) : UI E w0 (W.setCell ⟨E.bWorst, 0, none⟩ (.int .i64 x)) p (s.1, x) := by
  have k := chg_set1 W E.bWorst 0 (.int .i64 x)
  have h1 := ha.b1; have h2 := ha.b2; have h3 := ha.b3; have h4 := ha.b4; have h5 := ha.bw; have h6 := ha.p
  exact ⟨chg_cell k (by omega) h.cBoat, chg_cell k (by omega) h.cMost, chg_cell k (by omega) h.cNet, chg_cell k (by omega) h.cFac, chg_cell k (by omega) h.cBest, cell_set_same _ h.cWorst,
    chg_frozen k (by omega) h.cBest h.fBest, by simp [h.fWorst], own_chg h.own k (fun b hb => by simp [Value.ownBlock] at hb; omega), h.bel.setCell ha.worst _⟩
theorem UI.setPlace (h : UI E w0 W p s) (ha : Apart E w0) (i : Nat) (x : Int) : UI E w0 (W.setCell ⟨E.gp, i, none⟩ (.int .i64 x)) (p.set i x) s := by
  have k := chg_set1 W E.gp i (.int .i64 x)
  have h1 := ha.b1; have h2 := ha.b2; have h3 := ha.b3; have h4 := ha.b4; have h5 := ha.bw; have h6 := ha.p; have h7 := ha.best
  exact ⟨chg_cell k (by omega) h.cBoat, chg_cell k (by omega) h.cMost, chg_cell k (by omega) h.cNet, chg_cell k (by omega) h.cFac, chg_cell k (by omega) h.cBest, chg_cell k (by omega) h.cWorst,
    chg_frozen k (by omega) h.cBest h.fBest, chg_frozen k (by omega) h.cWorst h.fWorst, own_set (k := i) h.own x, h.bel.setCell (by show w0.heap.size ≤ E.gp; omega) _⟩
end

theorem use_any (E : Env) (w0 W : World) (p : List Int) (s : Int × Int) (ha : Apart E w0) (hv : Valid E.net p E.factor E.n) (hp : isPermB 1 p = true) (hb0 : 0 ≤ E.boat) (hb1 : E.boat < E.n) (h : UI E w0 W p s) :
    Calls Try.prog 70 #[.slice (some ⟨E.gp, 0, none⟩) E.n E.n, .pointer (some ⟨E.bBoat, 0, none⟩), .pointer (some ⟨E.bMost, 0, none⟩), .pointer (some ⟨E.bNet, 0, none⟩), .pointer (some ⟨E.bFac, 0, none⟩), .pointer (some ⟨E.bBest, 0, none⟩), .pointer (some ⟨E.bWorst, 0, none⟩)] W
      fun e W' => e = .returned (.tuple #[]) ∧ UI E w0 W' p (useF E.net E.factor E.boat E.most s p) ∧ Chg E.bBest (E.bWorst + 1) W W' := by
  obtain ⟨bt, hbt⟩ := int_up E.boat hb0
  have hbn : bt < E.n := by omega
  have c1 := h.cBoat; have c2 := h.cMost
  have hrow := (own_rd h.own).int hbn
  obtain ⟨b, o, x, hbo, hx, _, hcx⟩ := hrow
  obtain ⟨rfl, rfl⟩ : E.gp = b ∧ 0 = o := by injection hbo with e; injection e with e1 e2; exact ⟨e1, e2⟩
  have hu : useF E.net E.factor E.boat E.most s p = if x ≤ E.most then (min s.1 (rankF E.factor E.net p E.boat), max s.2 (rankF E.factor E.net p E.boat)) else s := by
    unfold useF
    rw [hbt, Int.toNat_natCast, List.getD_eq_getElem?_getD, hx]; rfl
  rw [hu]
  clear hu hbo
  rw [Nat.zero_add] at hcx
  rw [hbt] at c1
  by_cases hm : x ≤ E.most
  · rw [if_pos hm]
    have hfr := fun W' (hd : Drawn W W') => finalRank_any E.A E.n E.c E.net E.factor (some ⟨E.gp, 0, none⟩) E.n p E.boat hb0 hb1 hp W' hv ((ha.rd.below h.bel).drawn hd) ((own_rd h.own).drawn hd)
    generalize rankF E.factor E.net p E.boat = rk at *
    have HFR := Lib.hid hfr
    have H := Lib.hid h; have HA := Lib.hid ha
    have hmd : decide (x ≤ E.most) = true := by simpa using hm
    have c3 := h.cNet; have c4 := h.cFac
    rw [hbt] at HFR
    clear hfr h ha hv hp hx hm hb0 hb1
    go_enter Try.func70, Try.ntmps70
    go_wp2_with fail
    go_quiet (fail)
    go_wp2_with fail
    refine (HFR.out _ ((Drawn.refl _).step _)).mono ?_
    rintro e W2 ⟨rfl, hb2⟩
    have C2 := Lib.hid (((Chg.refl E.bBest (E.bWorst + 1) W).trans (Chg.of_below ((Drawn.refl W).step _).below)).trans (Chg.of_below hb2))
    have h2 := (H.out.same ((Drawn.refl W).step _).below).same hb2
    have c5 := h2.cBest; have c6 := h2.cWorst; have z5 := h2.fBest; have z6 := h2.fWorst
    have hbw : E.bBest ≠ E.bWorst := by have := HA.out.bw; omega
    have hbw' : E.bWorst ≠ E.bBest := fun e => hbw e.symm
    have H2 := Lib.hid h2
    clear h2 hb2 c1 c2 c3 c4 hcx
    go_wp2_with fail
    go_region
    have e1 : (if rk < s.1 then rk else s.1) = min s.1 rk := by split <;> omega
    have e2 : (if s.2 < rk then rk else s.2) = max s.2 rk := by split <;> omega
    have h3 := (H2.out.setBest HA.out (if rk < s.1 then rk else s.1)).setWorst HA.out (if s.2 < rk then rk else s.2)
    simp only at h3
    rw [e1, e2] at h3
    have H3 := Lib.hid (h3.same (((Drawn.refl _).step 1).below))
    have C3 := Lib.hid (chg_dN (chg_sC (i := 0) (chg_sC (i := 0) C2.out (Nat.le_refl _) (by have := HA.out.bw; omega) (.int .i64 (min s.1 rk))) (by have := HA.out.bw; omega) (Nat.lt_succ_self E.bWorst) (.int .i64 (max s.2 rk))) 1)
    rw [e1, e2]
    clear e1 e2 h3
    go_wp2_with fail
    go_end0
    exact ⟨rfl, H3.out, C3.out⟩
  · rw [if_neg hm]
    have H := Lib.hid h
    have hmd : decide (x ≤ E.most) = false := by simpa using hm
    clear h ha hv hp hx hm hb0 hb1
    go_enter Try.func70, Try.ntmps70
    go_wp2_with fail
    go_quiet (fail)
    go_wp2_with fail
    go_end0
    exact ⟨rfl, H.out.same ((Drawn.refl W).step _).below, chg_dN (Chg.refl _ _ _) _⟩

/-- What the search needs of memory. -/
structure PI (E : Env) (w0 W : World) (places : List Int) (s : Int × Int) : Prop where
  ui : UI E w0 W places s
  cMany : W.cell? ⟨E.bMany, 0, none⟩ = some (.int .i64 (E.n : Int))
  cUse : W.cell? ⟨E.bUse, 0, none⟩ = some E.use
  cPl : W.cell? ⟨E.bPl, 0, none⟩ = some (.slice (some ⟨E.gp, 0, none⟩) E.n E.n)
  cFn : W.cell? ⟨E.bFn, 0, none⟩ = some E.place
/-- The blocks differ, these too. -/
structure Apart2 (E : Env) (w0 : World) : Prop where
  ap : Apart E w0
  m1 : E.bWorst < E.bMany
  m2 : E.bWorst < E.bUse
  m3 : E.bWorst < E.bPl
  m4 : E.bWorst < E.bFn
  g1 : E.gp ≠ E.bMany
  g2 : E.gp ≠ E.bUse
  g3 : E.gp ≠ E.bPl
  g4 : E.gp ≠ E.bFn
theorem PI.same {E : Env} {w0 W W' : World} {p : List Int} {s : Int × Int} (h : PI E w0 W p s) (k : Below W.heap.size W W') : PI E w0 W' p s :=
  ⟨h.ui.same k, Keeps.below k _ _ h.cMany, Keeps.below k _ _ h.cUse, Keeps.below k _ _ h.cPl, Keeps.below k _ _ h.cFn⟩
theorem PI.setPlace {E : Env} {w0 W : World} {p : List Int} {s : Int × Int} (h : PI E w0 W p s) (ha : Apart2 E w0) (i : Nat) (x : Int) : PI E w0 (W.setCell ⟨E.gp, i, none⟩ (.int .i64 x)) (p.set i x) s := by
  have k := chg_set1 W E.gp i (.int .i64 x)
  have h1 := ha.g1; have h2 := ha.g2; have h3 := ha.g3; have h4 := ha.g4
  exact ⟨h.ui.setPlace ha.ap i x, chg_cell k (by omega) h.cMany, chg_cell k (by omega) h.cUse, chg_cell k (by omega) h.cPl, chg_cell k (by omega) h.cFn⟩

def Good (E : Env) (p : List Int) : Prop := Valid E.net p E.factor E.n ∧ isPermB 1 p = true
def Env.sum (E : Env) (s : Int × Int) (l : List (List Int)) : Int × Int := l.foldl (useF E.net E.factor E.boat E.most) s
def Env.branch (E : Env) (m next : Nat) (p : List Int) (i : Nat) : List (List Int) := if p.getD i 0 = 0 then placeL E.n m (next + 1) (p.set i (next : Int)) else []
theorem branch_mem {E : Env} {m next i : Nat} {p q : List Int} (hi : i < E.n) (hq : q ∈ E.branch m next p i) : q ∈ placeL E.n (m + 1) next p := by
  unfold placeL
  rw [List.mem_flatMap]
  exact ⟨i, List.mem_range.2 hi, hq⟩
theorem range_drop {n i : Nat} (h : i < n) : (List.range n).drop i = i :: (List.range n).drop (i + 1) := by
  rw [List.drop_eq_getElem_cons (by simpa using h)]
  simp
theorem set_back {p : List Int} {i : Nat} (x : Int) (h : p[i]? = some 0) : (p.set i x).set i 0 = p := by
  have hi := (List.getElem?_eq_some_iff.1 h).1
  refine List.ext_getElem? (fun k => ?_)
  by_cases hk : k = i
  · subst hk
    rw [List.getElem?_set_self (by simpa using hi), h]
  · rw [List.getElem?_set_ne (fun e => hk e.symm), List.getElem?_set_ne (fun e => hk e.symm)]

theorem place_any (E : Env) (w0 : World) (ha : Apart2 E w0) (hn5 : E.n ≤ 5) (hb0 : 0 ≤ E.boat) (hb1 : E.boat < E.n) :
    ∀ (m next : Nat) (p : List Int) (s : Int × Int) (W : World), next + m = E.n + 1 → 1 ≤ next → (∀ q ∈ placeL E.n m next p, Good E q) → PI E w0 W p s →
      Calls Try.prog 78 #[.int .i64 (next : Int), .pointer (some ⟨E.bMany, 0, none⟩), .pointer (some ⟨E.bUse, 0, none⟩), .pointer (some ⟨E.bPl, 0, none⟩), .pointer (some ⟨E.bFn, 0, none⟩)] W
        fun e W' => e = .returned (.tuple #[]) ∧ PI E w0 W' p (E.sum s (placeL E.n m next p)) := by
  intro m
  induction m with
  | zero =>
    intro next p s W hnm hn1 hg h
    obtain rfl : next = E.n + 1 := by omega
    have hgp := hg p (by simp [placeL])
    have hus := use_any E w0 W p s ha.ap hgp.1 hgp.2 hb0 hb1 h.ui
    have es : E.sum s (placeL E.n 0 (E.n + 1) p) = useF E.net E.factor E.boat E.most s p := rfl
    rw [es]
    have HUS := Lib.hid hus
    have H := Lib.hid h; have HA := Lib.hid ha
    have c1 := h.cMany; have c2 := h.cUse; have c3 := h.cPl
    unfold Env.use at c2
    have hd : decide (E.n < E.n + 1) = true := by simp
    clear hus h ha hg hgp es
    go_enter Try.func78, Try.ntmps78
    go_wp2_with fail
    refine HUS.out.mono ?_
    rintro e W2 ⟨rfl, hu2, hc2⟩
    have P2 : PI E w0 W2 p (useF E.net E.factor E.boat E.most s p) := by
      have h1 := HA.out.m1; have h2 := HA.out.m2; have h3 := HA.out.m3; have h4 := HA.out.m4
      exact ⟨hu2, chg_cell hc2 (by omega) H.out.cMany, chg_cell hc2 (by omega) H.out.cUse, chg_cell hc2 (by omega) H.out.cPl, chg_cell hc2 (by omega) H.out.cFn⟩
    have HP2 := Lib.hid P2
    clear P2 hu2 hc2
    go_wp2_with fail
    refine bodyPost_ret (results_none rfl _ _ _) rfl ?_
    exact ⟨rfl, HP2.out⟩
  | succ m ih =>
    intro next p s W hnm hn1 hg h
    have hsum : E.sum s (placeL E.n (m + 1) next p) = E.sum s (((List.range E.n).drop 0).flatMap (E.branch m next p)) := rfl
    have HG := Lib.hid hg; have HA := Lib.hid ha; have IH := Lib.hid ih
    generalize hres : E.sum s (placeL E.n (m + 1) next p) = res at *
    have HSUM := Lib.hid hsum.symm
    have hpl : p.length = E.n := own_len h.ui.own
    have HPL := Lib.hid hpl
    have c1 := h.cMany; have c3 := h.cPl
    have hd : decide (E.n < next) = false := by simp; omega
    clear hg hsum hres hpl ha ih
    go_enter Try.func78, Try.ntmps78
    go_wp2_with fail
    go_loopw [6, 15] (fun _ i wr => ∃ (k : Nat) (s' : Int × Int), k ≤ E.n ∧ i = .int .i64 k ∧ Hid (E.sum s' (((List.range E.n).drop k).flatMap (E.branch m next p)) = res) ∧ Hid (PI E w0 wr p s')) (fun _ i _ => E.n - (intOf i).toNat)
    case atStart => exact ⟨0, s, Nat.zero_le _, rfl, HSUM.out, h⟩
    case round =>
      clear c1 c3 hd h HSUM
      obtain ⟨k, s', hk, rfl, HR, HP⟩ := hrel
      by_cases hlt : k < E.n
      · obtain ⟨b, o, x, hbo, hx, _, hcx⟩ := (own_rd HP.out.ui.own).int hlt
        obtain ⟨rfl, rfl⟩ : E.gp = b ∧ 0 = o := by injection hbo with e; injection e with e1 e2; exact ⟨e1, e2⟩
        rw [Nat.zero_add] at hcx
        have hfz : wr.frozen? ⟨E.gp, k, none⟩ = false := by
          obtain ⟨g1, _, hg1, _, _, _, _, hf⟩ := own_int_at HP.out.ui.own (k := k) hlt
          injection hg1 with e; injection e with e; subst e; exact hf
        have hdrop : ((List.range E.n).drop k).flatMap (E.branch m next p) = E.branch m next p k ++ ((List.range E.n).drop (k + 1)).flatMap (E.branch m next p) := by rw [range_drop hlt]; rfl
        rw [hdrop] at HR
        have c3 := HP.out.cPl; have c4 := HP.out.cFn
        unfold Env.place at c4
        have HX := Lib.hid hx
        clear hdrop hbo hx
        by_cases hx0 : x = 0
        · subst hx0
          have hbr : E.branch m next p k = placeL E.n m (next + 1) (p.set k (next : Int)) := by
            unfold Env.branch
            rw [if_pos (by rw [List.getD_eq_getElem?_getD, HX.out]; rfl)]
          have hsub : ∀ q ∈ placeL E.n m (next + 1) (p.set k (next : Int)), Good E q := fun q hq => HG.out q (branch_mem hlt (by rw [hbr]; exact hq))
          rw [hbr] at HR
          have P1 := HP.out.setPlace HA.out k (next : Int)
          obtain ⟨w1, hw1⟩ : ∃ w1, w1 = wr.setCell ⟨E.gp, k, none⟩ (.int .i64 (next : Int)) := ⟨_, rfl⟩
          rw [← hw1] at P1
          have hcall := IH.out (next + 1) (p.set k (next : Int)) s' w1 (by omega) (by omega) hsub P1
          have es : E.sum s' (placeL E.n m (next + 1) (p.set k (next : Int)) ++ ((List.range E.n).drop (k + 1)).flatMap (E.branch m next p)) = E.sum (E.sum s' (placeL E.n m (next + 1) (p.set k (next : Int)))) (((List.range E.n).drop (k + 1)).flatMap (E.branch m next p)) := by
            unfold Env.sum; rw [List.foldl_append]
          rw [es] at HR
          generalize E.sum s' (placeL E.n m (next + 1) (p.set k (next : Int))) = s2 at *
          rw [show ((next + 1 : Nat) : Int) = (next : Int) + 1 from by omega] at hcall
          have HCALL := Lib.hid hcall; have HW1 := Lib.hid hw1
          have c31 := P1.cPl; have c41 := P1.cFn
          unfold Env.place at c41
          rw [hw1] at c41
          clear es hcall hw1 hbr hsub P1 c31
          go_wp2_with fail
          rw [show wr.setCell ⟨E.gp, k, none⟩ (.int .i64 (next : Int)) = w1 from HW1.out.symm]
          refine HCALL.out.mono ?_
          rintro e W2 ⟨rfl, hp2⟩
          obtain ⟨g2, y, hg2, _, _, _, hcy, hfy⟩ := own_int_at hp2.ui.own (k := k) hlt
          obtain rfl : E.gp = g2 := by injection hg2 with e; injection e
          have c3' := hp2.cPl
          have P3 := hp2.setPlace HA.out k 0
          rw [set_back (next : Int) HX.out] at P3
          have HP3 := Lib.hid P3
          clear hg2 hp2 P3 c3 c4 c41 hcx hfz
          go_wp2_with fail
          go_roundw
          case rel => exact ⟨k + 1, s2, by omega, by go_num, HR, HP3⟩
          case measure => simp [intOf]; omega
        · have hne : (x == 0) = false := by simpa using hx0
          have hbr : E.branch m next p k = [] := by
            unfold Env.branch
            rw [if_neg (by rw [List.getD_eq_getElem?_getD, HX.out]; simpa using hx0)]
          rw [hbr, List.nil_append] at HR
          clear hbr hx0
          go_wp2_with fail
          go_roundw
          case rel => exact ⟨k + 1, s', by omega, by go_num, HR, HP⟩
          case measure => simp [intOf]; omega
      · obtain rfl : k = E.n := by omega
        have hfin : s' = res := by
          rw [← HR.out, List.drop_eq_nil_of_le (by simp)]; rfl
        have HF := Lib.hid hfin
        clear hfin
        go_wp2_with fail
        go_end0
        exact ⟨rfl, by rw [← HF.out]; exact HP.out⟩
end Go.Proofs.Ytfkllgnenbbccaa

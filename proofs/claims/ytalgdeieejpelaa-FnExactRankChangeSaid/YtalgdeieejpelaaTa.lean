/- Walks: the laws' helpers on tables: size, copy, compare, mark, hold. -/
import Derived.Test.YtalgdeieejpelaaTb
import Derived.Test.YtalgdeieejpelaaBx
namespace Go.Proofs.Ytalgdeieejpelaa
open Go.RowKit
set_option linter.unusedVariables false
set_option maxRecDepth 100000

def szTabF (left : Int) (t : Tb) : Int := if szRowsF left t.pts < 0 then -1 else if szRowsF (szRowsF left t.pts) t.cds < 0 then -1 else szRowsF (szRowsF left t.pts) t.cds
theorem szRowsF_mono {left : Int} {rows : List (List Int)} (h : 0 ≤ szRowsF left rows) : szRowsF left rows ≤ left := by
  unfold szRowsF at h ⊢
  split at h
  · omega
  · rename_i hn
    rw [if_neg hn]
    have := (szGo_le h (by omega)).1
    omega
theorem szTabF_le {left : Int} {t : Tb} (h : 0 ≤ szTabF left t) (h0 : 0 ≤ left) (h1 : left ≤ 1048576) :
    (t.pts.length ≤ 1048576 ∧ ∀ x ∈ t.pts, x.length ≤ 1048576) ∧ (t.cds.length ≤ 1048576 ∧ ∀ x ∈ t.cds, x.length ≤ 1048576) ∧ szTabF left t ≤ 1048576 := by
  unfold szTabF at h ⊢
  split at h
  · omega
  · rename_i hn
    rw [if_neg hn]
    split at h
    · omega
    · rename_i hn2
      rw [if_neg hn2]
      have a := szRowsF_le (by omega : 0 ≤ szRowsF left t.pts) h0
      have m := szRowsF_mono (by omega : 0 ≤ szRowsF left t.pts)
      have b := szRowsF_le h (by omega)
      have m2 := szRowsF_mono h
      exact ⟨⟨by omega, fun x hx => by have := a.2 x hx; omega⟩, ⟨by omega, fun x hx => by have := b.2 x hx; omega⟩, by omega⟩
theorem szTable_any (B : Int) (P : Option Addr) (n c : Nat) (C : Option Addr) (m d : Nat) (t : Tb) (left : Int) (h0 : 0 ≤ left) (h1 : left ≤ 1048576) (w : World) (hr : RdT w P n C m t) :
    Calls Try.prog 4 #[.agg #[.int .i64 B, .slice P n c, .slice C m d], .int .i64 left] w fun e w' => e = .returned (.int .i64 (szTabF left t)) ∧ Below w.heap.size w w' := by
  have HB := Lib.hid (show ∀ o, Below w.heap.size w (w.alloc o) from fun o => (Below.refl _ _).alloc (Nat.le_refl _) o)
  have HP := Lib.hid (fun w' (hb : Below w.heap.size w w') => szInt64SS_any P n c t.pts left h0 h1 w' (hr.pts.below hb))
  have hm := @szRowsF_mono left t.pts
  have HC := Lib.hid (fun (h : 0 ≤ szRowsF left t.pts) w' (hb : Below w.heap.size w w') => szInt64SS_any C m d t.cds (szRowsF left t.pts) h (by have := hm h; omega) w' (hr.cds.below hb))
  unfold szTabF
  generalize szRowsF left t.pts = s1 at *
  clear hr
  by_cases k1 : s1 < 0
  · rw [if_pos k1]
    clear HC hm
    go_enter Try.func4, Try.ntmps4
    go_wp2_with fail
    refine (HP.out _ (HB.out _)).mono ?_
    rintro e w2 ⟨rfl, rfl⟩
    go_wp2_with fail
    go_ret
    exact ⟨rfl, HB.out _⟩
  · rw [if_neg k1]
    have HC2 := Lib.hid (HC.out (by omega))
    generalize szRowsF s1 t.cds = s2 at *
    clear HC hm
    by_cases k2 : s2 < 0
    · rw [if_pos k2]
      go_enter Try.func4, Try.ntmps4
      go_wp2_with fail
      refine (HP.out _ (HB.out _)).mono ?_
      rintro e w2 ⟨rfl, rfl⟩
      go_wp2_with fail
      refine (HC2.out _ (HB.out _)).mono ?_
      rintro e w2 ⟨rfl, rfl⟩
      go_wp2_with fail
      go_ret
      exact ⟨rfl, HB.out _⟩
    · rw [if_neg k2]
      go_enter Try.func4, Try.ntmps4
      go_wp2_with fail
      refine (HP.out _ (HB.out _)).mono ?_
      rintro e w2 ⟨rfl, rfl⟩
      go_wp2_with fail
      refine (HC2.out _ (HB.out _)).mono ?_
      rintro e w2 ⟨rfl, rfl⟩
      go_wp2_with fail
      go_ret
      exact ⟨rfl, HB.out _⟩
theorem set_chg {b i lo hi : Nat} {v : Value} (w : World) (h1 : lo ≤ b) (h2 : b < hi) : Chg lo hi w (w.setCell ⟨b, i, none⟩ v) := put_chg (g := b) [v] i (Chg.refl _ _ _) h1 h2
theorem OwnRows.setU {w : World} {base eo ei n c b i : Nat} {A : Option Addr} {vs : List Value} {rows : List (List Int)} {v : Value} (h : OwnRows w base eo ei A n c vs rows) (hb : b < base) : OwnRows (w.setCell ⟨b, i, none⟩ v) base eo ei A n c vs rows :=
  h.chg (set_chg w (Nat.le_refl b) (Nat.lt_succ_self b)) h.in_ (.inr hb)
theorem OwnT.setU {w : World} {base n c m d b i : Nat} {P C : Option Addr} {vs us : List Value} {t : Tb} {v : Value} (h : OwnT w base P n c vs C m d us t) (hb : b < base) : OwnT (w.setCell ⟨b, i, none⟩ v) base P n c vs C m d us t :=
  ⟨h.pts.setU hb, h.cds.setU hb, h.apO, h.apR⟩
theorem toTable_any (B : Int) (P : Option Addr) (n c : Nat) (C : Option Addr) (m d : Nat) (t : Tb) (w : World) (hB : t.boats = B) (h : RdT w P n C m t) (hn : n ≤ 1048576) (hm : m ≤ 1048576) (hp : ∀ x ∈ t.pts, x.length ≤ 1048576) (hc : ∀ x ∈ t.cds, x.length ≤ 1048576) :
    Calls Try.prog 7 #[.agg #[.int .i64 B, .slice P n c, .slice C m d]] w (RetT w t) := by
  have HB := Lib.hid (show ∀ o1 o2 o3, Below w.heap.size w (((w.alloc o1).alloc o2).alloc o3) from fun o1 o2 o3 => (((Below.refl _ _).alloc (Nat.le_refl _) _).alloc (by simp) _).alloc (by simp; omega) _)
  have HP := Lib.hid (fun w' (hb : Below w.heap.size w w') => toInt64SS_any P n c t.pts w' (h.pts.below hb) hn hp)
  have HC := Lib.hid (fun w' (hb : Below w.heap.size w w') => toInt64SS_any C m d t.cds w' (h.cds.below hb) hm hc)
  subst hB
  have hsz : sumLen t.pts ≤ 1099511627776 ∧ sumLen t.cds ≤ 1099511627776 := by
    have h1 := sumLen_le hp
    have h2 := sumLen_le hc
    have h3 := Nat.mul_le_mul_right 1048576 hn
    have h4 := Nat.mul_le_mul_right 1048576 hm
    rw [h.pts.len] at h1
    rw [h.cds.len] at h2
    omega
  have HSUM := Lib.hid hsz
  clear h hp hc hsz
  go_enter Try.func7, Try.ntmps7
  go_wp2_with fail
  obtain ⟨w1, hw1⟩ : ∃ w1, w1 = (((w.alloc (.cells #[.int .i64 t.boats, .slice P n c, .slice C m d] 24)).alloc (.cells #[.int .i64 0, .slice none 0 0, .slice none 0 0] 31)).alloc (.cells #[.int .i64 t.boats, .slice none 0 0, .slice none 0 0] 31)) := ⟨_, rfl⟩
  rw [← hw1]
  have hb1 : Below w.heap.size w w1 := by rw [hw1]; exact HB.out _ _ _
  have X0 : Box w1 w.heap.size #[.int .i64 t.boats, .slice P n c, .slice C m d] 24 := by rw [hw1]; exact ((Box.new _ _ _).below ((Below.refl _ _).alloc (Nat.le_refl _) _)).below ((Below.refl _ _).alloc (Nat.le_refl _) _)
  have X1 : Box w1 (w.heap.size + 1) #[.int .i64 0, .slice none 0 0, .slice none 0 0] 31 := by
    rw [hw1]
    have := Box.new (w.alloc (.cells #[.int .i64 t.boats, .slice P n c, .slice C m d] 24)) #[.int .i64 0, .slice none 0 0, .slice none 0 0] 31
    rw [World.size_alloc] at this
    exact this.below ((Below.refl _ _).alloc (Nat.le_refl _) _)
  have X2 : Box w1 (w.heap.size + 1 + 1) #[.int .i64 t.boats, .slice none 0 0, .slice none 0 0] 31 := by
    rw [hw1]
    have := Box.new ((w.alloc (.cells #[.int .i64 t.boats, .slice P n c, .slice C m d] 24)).alloc (.cells #[.int .i64 0, .slice none 0 0, .slice none 0 0] 31)) #[.int .i64 t.boats, .slice none 0 0, .slice none 0 0] 31
    rw [World.size_alloc, World.size_alloc] at this
    exact this
  have hs1 : w1.heap.size = w.heap.size + 1 + 1 + 1 := by rw [hw1]; simp
  have HS1 := Lib.hid hs1
  clear hw1 hs1 HB
  refine (HP.out w1 hb1).mono ?_
  rintro e w2 ⟨P', n', c', vs, rfl, ho, hs, hb2⟩
  have Y0 := X0.below hb2
  have Y1 := X1.below hb2
  have Y2 := X2.below hb2
  have HB2 := Lib.hid (hb1.trans (hb2.mono hb1.size))
  have HSZ := Lib.hid hb2.size
  have ho' := ho.setU (b := w.heap.size + 1 + 1) (i := 1) (v := .slice P' n' c') (by have := HS1.out; omega)
  have Z0 := Y0.other (c := w.heap.size + 1 + 1) (i := 1) (by omega) (.slice P' n' c')
  have Z1 := Y1.other (c := w.heap.size + 1 + 1) (i := 1) (by omega) (.slice P' n' c')
  have Z2 := Y2.set 1 (.slice P' n' c')
  have hB3 := HB2.out.setCell (p := ⟨w.heap.size + 1 + 1, 1, none⟩) (by simp <;> omega) (.slice P' n' c')
  have F0 := Y0.f3
  have F2 := Y2.f3
  clear ho X0 X1 X2 Y0 Y1 Y2 hb2 hb1
  go_wp2_with fail
  have HS2 := Lib.hid (show (w2.setCell ⟨w.heap.size + 1 + 1, 1, none⟩ (.slice P' n' c')).heap.size = w2.heap.size from size_set _ _ _)
  generalize w2.setCell ⟨w.heap.size + 1 + 1, 1, none⟩ (.slice P' n' c') = w3 at *
  clear F0 F2
  refine (HC.out w3 hB3).mono ?_
  rintro e w4 ⟨C', m', d', us, rfl, ho4, hs4, hb4⟩
  have Y1 := Z1.below hb4
  have Y2 := Z2.below hb4
  have ho'' := ho'.below hb4
  have HB4 := Lib.hid (hB3.trans (hb4.mono hB3.size))
  have F1 := Y1.f3
  have F2 := Y2.f3
  have HL := Lib.hid (show w.heap.size + 1 + 1 + 1 ≤ w1.heap.size ∧ w1.heap.size ≤ w3.heap.size from ⟨by have := HS1.out; omega, by have := HSZ.out; have := HS2.out; omega⟩)
  go_wp2_with fail
  refine bodyPost_ret (v := .agg #[.int .i64 t.boats, .slice P' n' c', .slice C' m' d']) (by simp [results, Try.results7, go_sem, F1]) rfl ?_
  have hl := HL.out
  have hw0 := HB4.out.size
  have hch := put_chg (g := w.heap.size + 1) [.int .i64 t.boats, .slice P' n' c', .slice C' m' d'] 0 (put_chg (g := w.heap.size + 1 + 1) [.slice C' m' d'] 2 (Chg.refl (w.heap.size + 1) (w.heap.size + 1 + 1 + 1) w4) (by omega) (by omega)) (by omega) (by omega)
  have hj := OwnT.join (base := w1.heap.size) ho'' ho4 hl.2 ho'.in_
  exact ⟨P', n', c', vs, C', m', d', us, rfl, (hj.chg hch hj.in_ (.inr (by omega))).base' (by omega), HSUM.out, below_chg HB4.out hch (by omega) (by omega)⟩
theorem eqTable_any (P : Option Addr) (n c : Nat) (C : Option Addr) (m d : Nat) (P' : Option Addr) (n' c' : Nat) (C' : Option Addr) (m' d' : Nat) (B B' : Int) (t t' : Tb) (w : World) (h : RdT w P n C m t) (h' : RdT w P' n' C' m' t') (hB : B = t.boats) (hB' : B' = t'.boats) (ht : t = t') :
    Calls Try.prog 11 #[.agg #[.int .i64 B, .slice P n c, .slice C m d], .agg #[.int .i64 B', .slice P' n' c', .slice C' m' d']] w fun e w' => e = .returned (.bool true) ∧ Below w.heap.size w w' := by
  subst ht hB hB'
  have HB := Lib.hid (show ∀ o1 o2, Below w.heap.size w ((w.alloc o1).alloc o2) from fun o1 o2 => ((Below.refl _ _).alloc (Nat.le_refl _) _).alloc (by simp) _)
  have HP := Lib.hid (fun w' (hb : Below w.heap.size w w') => eqInt64SS_below P P' n c n' c' t.pts t.pts w' (h.pts.below hb) (h'.pts.below hb))
  have HC := Lib.hid (fun w' (hb : Below w.heap.size w w') => eqInt64SS_below C C' m d m' d' t.cds t.cds w' (h.cds.below hb) (h'.cds.below hb))
  simp only [decide_true] at HP HC
  clear h h'
  go_enter Try.func11, Try.ntmps11
  go_wp2_with fail
  obtain ⟨w1, hw1, X0, X1, hb1, hs1⟩ := two_boxes w #[.int .i64 t.boats, .slice P n c, .slice C m d] #[.int .i64 t.boats, .slice P' n' c', .slice C' m' d'] 31 31
  rw [← hw1]
  clear hw1 hs1 HB
  refine (HP.out w1 hb1).mono ?_
  rintro e w2 ⟨rfl, hb2⟩
  have F0 := (X0.below hb2).f3
  have F1 := (X1.below hb2).f3
  have HB2 := Lib.hid (hb1.trans (hb2.mono hb1.size))
  clear X0 X1 hb1 hb2
  go_wp2_with fail
  refine (HC.out w2 HB2.out).mono ?_
  rintro e w3 ⟨rfl, hb3⟩
  have HB3 := Lib.hid (HB2.out.trans (hb3.mono HB2.out.size))
  clear hb3
  go_wp2_with fail
  go_ret
  exact ⟨rfl, HB3.out⟩
/-- The blocks of a set may have been written; all others of w are as they were. -/
structure ChgS (S : Nat → Prop) (w w' : World) : Prop where
  os : w'.os = w.os
  tape : w'.tape = w.tape
  output : w'.output = w.output
  size : w.heap.size ≤ w'.heap.size
  block : ∀ k, k < w.heap.size → ¬ S k → w'.heap[k]? = w.heap[k]?
theorem ChgS.refl (S : Nat → Prop) (w : World) : ChgS S w w := ⟨rfl, rfl, rfl, Nat.le_refl _, fun _ _ _ => rfl⟩
theorem ChgS.trans {S : Nat → Prop} {a b c : World} (h : ChgS S a b) (k : ChgS S b c) : ChgS S a c :=
  ⟨k.os.trans h.os, k.tape.trans h.tape, k.output.trans h.output, Nat.le_trans h.size k.size, fun i hi hn => (k.block i (Nat.lt_of_lt_of_le hi h.size) hn).trans (h.block i hi hn)⟩
theorem ChgS.mono {S T : Nat → Prop} {a b : World} (h : ChgS S a b) (k : ∀ i, S i → T i) : ChgS T a b :=
  ⟨h.os, h.tape, h.output, h.size, fun i hi hn => h.block i hi (fun hs => hn (k i hs))⟩
theorem ChgS.of_grown {S : Nat → Prop} {w w' : World} {row : Option Nat} (h : w.grownBy w' row) (hr : ∀ k, row = some k → S k) : ChgS S w w' :=
  ⟨h.os, h.tape, h.output, h.size, fun k hk hn => h.block k hk (fun e => hn (hr k e.symm))⟩
theorem ChgS.of_below {S : Nat → Prop} {w w' : World} (h : Below w.heap.size w w') : ChgS S w w' := ⟨h.os, h.tape, h.output, h.size, fun k hk _ => h.block k hk⟩
theorem ChgS.chg {S : Nat → Prop} {lo hi : Nat} {w w' : World} (h : ChgS S w w') (k : ∀ i, S i → lo ≤ i ∧ i < hi) : Chg lo hi w w' :=
  ⟨h.os, h.tape, h.output, h.size, fun i hi' hn => h.block i hi' (fun hs => by have := k i hs; omega)⟩
theorem own_chgS {S : Nat → Prop} {w w' : World} {base e s n : Nat} {v : Value} {xs : List Value} (h : w.ownsRow base e s v n xs) (k : ChgS S w w') (hv : ∀ b, v.ownBlock = some b → ¬ S b) : w'.ownsRow base e s v n xs := by
  refine ⟨h.1, ?_⟩
  rcases h.2 with hn | ⟨g, cap, cur, rfl, hb, hgg, rest⟩
  · exact .inl hn
  · exact .inr ⟨g, cap, cur, rfl, hb, (k.block g (Array.getElem?_eq_some_iff.1 hgg).1 (hv g rfl)).trans hgg, rest⟩
theorem OwnRows.chgS {S : Nat → Prop} {w w' : World} {base eo ei n c : Nat} {A : Option Addr} {vs : List Value} {rows : List (List Int)} (h : OwnRows w base eo ei A n c vs rows) (k : ChgS S w w')
    (h1 : ∀ b, (Value.slice A n c).ownBlock = some b → ¬ S b) (h2 : ∀ v ∈ vs, ∀ b, v.ownBlock = some b → ¬ S b) : OwnRows w' base eo ei A n c vs rows :=
  ⟨own_chgS h.outer k h1, h.len, fun i v xs e1 e2 => by obtain ⟨A', c', e, ho⟩ := h.row i v xs e1 e2; exact ⟨A', c', e, own_chgS ho k (h2 v (List.mem_of_getElem? e1))⟩, h.apart⟩
theorem Box.chgS {S : Nat → Prop} {w w' : World} {b : Nat} {vs : Array Value} {t : TypeId} (h : Box w b vs t) (k : ChgS S w w') (hb : ¬ S b) : Box w' b vs t := (k.block b h.lt hb).trans h
/-- The outer block of slices of slices is none of any rows. -/
theorem OwnRows.outer_ne {w : World} {base eo ei base' eo' n c n' c' : Nat} {A A' : Option Addr} {vs vs' : List Value} {rows rows' : List (List Int)} (h : OwnRows w base eo ei A n c vs rows) (h' : OwnRows w base' eo' ei A' n' c' vs' rows') (hne : eo ≠ ei) :
    ∀ b, (Value.slice A n c).ownBlock = some b → ¬ ∃ v ∈ vs', v.ownBlock = some b := by
  rintro b hb ⟨v, hv, hvb⟩
  obtain ⟨k, hk⟩ := List.mem_iff_getElem?.1 hv
  have hkn : k < n' := by have := (List.getElem?_eq_some_iff.1 hk).1; rw [h'.vlen] at this; exact this
  obtain ⟨u, A2, c2, xs, h1, h2, _, e, ho⟩ := h'.get hkn
  obtain rfl : v = u := by rw [hk] at h1; injection h1
  rw [e] at hvb
  exact own_type_ne h.outer ho hne b hb hvb
end Go.Proofs.Ytalgdeieejpelaa

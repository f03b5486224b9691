/- Walks: the laws' helpers on tables: size, copy, compare, mark, hold. -/
import Derived.Test.YtgkflaeaiijhjaaTb
import Derived.Test.YtgkflaeaiijhjaaZma
namespace Go.Proofs.Ytgkflaeaiijhjaa
open Go.RowKit
set_option linter.unusedVariables false
set_option maxRecDepth 100000

def szTabF (left : Int) (t : Tb) : Int := if szRowsF left t.pts < 0 then -1 else if szRowsF (szRowsF left t.pts) t.cds < 0 then -1 else szRowsF (szRowsF left t.pts) t.cds
theorem szRowsF_mono {left : Int} {rows : List (List Int)} (h : 0 ≤ szRowsF left rows) : szRowsF left rows ≤ left := by
  unfold szRowsF at h ⊢
  split at h
  · omega
  · rename_i hn
    rw [if_neg hn]
    have := (szGo_le h (by omega)).1
    omega
theorem szTabF_le {left : Int} {t : Tb} (h : 0 ≤ szTabF left t) (h0 : 0 ≤ left) (h1 : left ≤ 1048576) :
    (t.pts.length ≤ 1048576 ∧ ∀ x ∈ t.pts, x.length ≤ 1048576) ∧ (t.cds.length ≤ 1048576 ∧ ∀ x ∈ t.cds, x.length ≤ 1048576) ∧ szTabF left t ≤ 1048576 := by
  unfold szTabF at h ⊢
  split at h
  · omega
  · rename_i hn
    rw [if_neg hn]
    split at h
    · omega
    · rename_i hn2
      rw [if_neg hn2]
      have a := szRowsF_le (by omega : 0 ≤ szRowsF left t.pts) h0
      have m := szRowsF_mono (by omega : 0 ≤ szRowsF left t.pts)
      have b := szRowsF_le h (by omega)
      have m2 := szRowsF_mono h
      exact ⟨⟨by omega, fun x hx => by have := a.2 x hx; omega⟩, ⟨by omega, fun x hx => by have := b.2 x hx; omega⟩, by omega⟩
theorem set_chg {b i lo hi : Nat} {v : Value} (w : World) (h1 : lo ≤ b) (h2 : b < hi) : Chg lo hi w (w.setCell ⟨b, i, none⟩ v) := put_chg (g := b) [v] i (Chg.refl _ _ _) h1 h2
theorem OwnRows.setU {w : World} {base eo ei n c b i : Nat} {A : Option Addr} {vs : List Value} {rows : List (List Int)} {v : Value} (h : OwnRows w base eo ei A n c vs rows) (hb : b < base) : OwnRows (w.setCell ⟨b, i, none⟩ v) base eo ei A n c vs rows :=
  h.chg (set_chg w (Nat.le_refl b) (Nat.lt_succ_self b)) h.in_ (.inr hb)
theorem OwnT.setU {w : World} {base n c m d b i : Nat} {P C : Option Addr} {vs us : List Value} {t : Tb} {v : Value} (h : OwnT w base P n c vs C m d us t) (hb : b < base) : OwnT (w.setCell ⟨b, i, none⟩ v) base P n c vs C m d us t :=
  ⟨h.pts.setU hb, h.cds.setU hb, h.apO, h.apR⟩
theorem eqTable_any (P : Option Addr) (n c : Nat) (C : Option Addr) (m d : Nat) (P' : Option Addr) (n' c' : Nat) (C' : Option Addr) (m' d' : Nat) (B B' : Int) (t t' : Tb) (w : World) (h : RdT w P n C m t) (h' : RdT w P' n' C' m' t') (hB : B = t.boats) (hB' : B' = t'.boats) (ht : t = t') :
    Calls Try.prog 8 #[.agg #[.int .i64 B, .slice P n c, .slice C m d], .agg #[.int .i64 B', .slice P' n' c', .slice C' m' d']] w fun e w' => e = .returned (.bool true) ∧ Below w.heap.size w w' := by
  subst ht hB hB'
  have HB := Lib.hid (show ∀ o1 o2, Below w.heap.size w ((w.alloc o1).alloc o2) from fun o1 o2 => ((Below.refl _ _).alloc (Nat.le_refl _) _).alloc (by simp) _)
  have HP := Lib.hid (fun w' (hb : Below w.heap.size w w') => eqInt64SS_below P P' n c n' c' t.pts t.pts w' (h.pts.below hb) (h'.pts.below hb))
  have HC := Lib.hid (fun w' (hb : Below w.heap.size w w') => eqInt64SS_below C C' m d m' d' t.cds t.cds w' (h.cds.below hb) (h'.cds.below hb))
  simp only [decide_true] at HP HC
  clear h h'
  go_enter Try.func8, Try.ntmps8
  go_wp2_with fail
  obtain ⟨w1, hw1, X0, X1, hb1, hs1⟩ := two_boxes w #[.int .i64 t.boats, .slice P n c, .slice C m d] #[.int .i64 t.boats, .slice P' n' c', .slice C' m' d'] 28 28
  rw [← hw1]
  clear hw1 hs1 HB
  refine (HP.out w1 hb1).mono ?_
  rintro e w2 ⟨rfl, hb2⟩
  have F0 := (X0.below hb2).f3
  have F1 := (X1.below hb2).f3
  have HB2 := Lib.hid (hb1.trans (hb2.mono hb1.size))
  clear X0 X1 hb1 hb2
  go_wp2_with fail
  refine (HC.out w2 HB2.out).mono ?_
  rintro e w3 ⟨rfl, hb3⟩
  have HB3 := Lib.hid (HB2.out.trans (hb3.mono HB2.out.size))
  clear hb3
  go_wp2_with fail
  go_ret
  exact ⟨rfl, HB3.out⟩
/-- The blocks of a set may have been written; all others of w are as they were. -/
structure ChgS (S : Nat → Prop) (w w' : World) : Prop where
  os : w'.os = w.os
  tape : w'.tape = w.tape
  output : w'.output = w.output
  size : w.heap.size ≤ w'.heap.size
  block : ∀ k, k < w.heap.size → ¬ S k → w'.heap[k]? = w.heap[k]?
theorem ChgS.refl (S : Nat → Prop) (w : World) : ChgS S w w := ⟨rfl, rfl, rfl, Nat.le_refl _, fun _ _ _ => rfl⟩
theorem ChgS.trans {S : Nat → Prop} {a b c : World} (h : ChgS S a b) (k : ChgS S b c) : ChgS S a c :=
  ⟨k.os.trans h.os, k.tape.trans h.tape, k.output.trans h.output, Nat.le_trans h.size k.size, fun i hi hn => (k.block i (Nat.lt_of_lt_of_le hi h.size) hn).trans (h.block i hi hn)⟩
theorem ChgS.mono {S T : Nat → Prop} {a b : World} (h : ChgS S a b) (k : ∀ i, S i → T i) : ChgS T a b :=
  ⟨h.os, h.tape, h.output, h.size, fun i hi hn => h.block i hi (fun hs => hn (k i hs))⟩
theorem ChgS.of_grown {S : Nat → Prop} {w w' : World} {row : Option Nat} (h : w.grownBy w' row) (hr : ∀ k, row = some k → S k) : ChgS S w w' :=
  ⟨h.os, h.tape, h.output, h.size, fun k hk hn => h.block k hk (fun e => hn (hr k e.symm))⟩
theorem ChgS.of_below {S : Nat → Prop} {w w' : World} (h : Below w.heap.size w w') : ChgS S w w' := ⟨h.os, h.tape, h.output, h.size, fun k hk _ => h.block k hk⟩
theorem ChgS.chg {S : Nat → Prop} {lo hi : Nat} {w w' : World} (h : ChgS S w w') (k : ∀ i, S i → lo ≤ i ∧ i < hi) : Chg lo hi w w' :=
  ⟨h.os, h.tape, h.output, h.size, fun i hi' hn => h.block i hi' (fun hs => by have := k i hs; omega)⟩
theorem own_chgS {S : Nat → Prop} {w w' : World} {base e s n : Nat} {v : Value} {xs : List Value} (h : w.ownsRow base e s v n xs) (k : ChgS S w w') (hv : ∀ b, v.ownBlock = some b → ¬ S b) : w'.ownsRow base e s v n xs := by
  refine ⟨h.1, ?_⟩
  rcases h.2 with hn | ⟨g, cap, cur, rfl, hb, hgg, rest⟩
  · exact .inl hn
  · exact .inr ⟨g, cap, cur, rfl, hb, (k.block g (Array.getElem?_eq_some_iff.1 hgg).1 (hv g rfl)).trans hgg, rest⟩
theorem OwnRows.chgS {S : Nat → Prop} {w w' : World} {base eo ei n c : Nat} {A : Option Addr} {vs : List Value} {rows : List (List Int)} (h : OwnRows w base eo ei A n c vs rows) (k : ChgS S w w')
    (h1 : ∀ b, (Value.slice A n c).ownBlock = some b → ¬ S b) (h2 : ∀ v ∈ vs, ∀ b, v.ownBlock = some b → ¬ S b) : OwnRows w' base eo ei A n c vs rows :=
  ⟨own_chgS h.outer k h1, h.len, fun i v xs e1 e2 => by obtain ⟨A', c', e, ho⟩ := h.row i v xs e1 e2; exact ⟨A', c', e, own_chgS ho k (h2 v (List.mem_of_getElem? e1))⟩, h.apart⟩
theorem Box.chgS {S : Nat → Prop} {w w' : World} {b : Nat} {vs : Array Value} {t : TypeId} (h : Box w b vs t) (k : ChgS S w w') (hb : ¬ S b) : Box w' b vs t := (k.block b h.lt hb).trans h
/-- The outer block of slices of slices is none of any rows. -/
theorem OwnRows.outer_ne {w : World} {base eo ei base' eo' n c n' c' : Nat} {A A' : Option Addr} {vs vs' : List Value} {rows rows' : List (List Int)} (h : OwnRows w base eo ei A n c vs rows) (h' : OwnRows w base' eo' ei A' n' c' vs' rows') (hne : eo ≠ ei) :
    ∀ b, (Value.slice A n c).ownBlock = some b → ¬ ∃ v ∈ vs', v.ownBlock = some b := by
  rintro b hb ⟨v, hv, hvb⟩
  obtain ⟨k, hk⟩ := List.mem_iff_getElem?.1 hv
  have hkn : k < n' := by have := (List.getElem?_eq_some_iff.1 hk).1; rw [h'.vlen] at this; exact this
  obtain ⟨u, A2, c2, xs, h1, h2, _, e, ho⟩ := h'.get hkn
  obtain rfl : v = u := by rw [hk] at h1; injection h1
  rw [e] at hvb
  exact own_type_ne h.outer ho hne b hb hvb
theorem markSS_set (S : Nat → Prop) (base : Nat) (A : Option Addr) (n c : Nat) (vs : List Value) (rows : List (List Int)) (k : Int) (w : World) (h : OwnRows w base 79 2 A n c vs rows) (hv : ∀ v ∈ vs, ∀ b, v.ownBlock = some b → S b)
    (hk0 : 0 ≤ k) (hk1 : k ≤ 576460752303423488) (hs : sumLen rows ≤ 576460752303423488) :
    Calls Try.prog 22 #[.slice A n c, .int .i64 k] w fun e' w' => e' = .returned (.int .i64 (k + sumLen rows)) ∧ OwnRows w' base 79 2 A n c vs (seqRows k rows) ∧ ChgS S w w' := by
  have HN := Lib.hid h.len
  have hnle := h.nle
  have HV := Lib.hid hv; clear hv
  go_enter Try.func22, Try.ntmps22
  go_wp2
  go_loopw [1, 5] (fun t i wr => ∃ j : Nat, j ≤ n ∧ i = .int .i64 j ∧ t = .int .i64 (k + (sumLen (rows.take j) : Nat)) ∧ OwnRows wr base 79 2 A n c vs ((seqRows k rows).take j ++ rows.drop j) ∧ ChgS S w wr) (fun _ i _ => n - (intOf i).toNat)
  case atStart => exact ⟨0, Nat.zero_le _, rfl, by simp [sumLen], by simpa using h, ChgS.refl _ _⟩
  case round =>
    obtain ⟨j, hj, rfl, rfl, ho, hg⟩ := hrel
    clear h
    by_cases hlt : j < n
    · obtain ⟨v, A', c', x, hv1, hx1, hd1, he, hox⟩ := ho.get hlt
      obtain ⟨g, u, hA, _, _, hu, hcy, _⟩ := own_at ho.outer hlt
      obtain rfl : v = u := by rw [hv1] at hu; injection hu
      have hxr : rows[j]? = some x := by rw [← mix_get (seqRows k rows) rows j (seqRows_length _ _) (by rw [HN.out]; exact hlt)]; exact hx1
      have hvin := HV.out v (List.mem_of_getElem? hv1)
      have hst := sumLen_take_le rows j
      have hst1 : sumLen (rows.take j) + x.length ≤ sumLen rows := by rw [← sumLen_snoc, ← take_snoc_get hxr]; exact sumLen_take_le _ _
      subst hA
      subst he
      have HX := Lib.hid hxr; have HV1 := Lib.hid hv1; have HX1 := Lib.hid hx1; have HVIN := Lib.hid hvin
      clear hu hxr hv1 hx1 hd1 hvin
      go_wp2_with fail
      refine (markInt64S_any _ _ _ _ _ _ _ _ hox (by omega) (by omega) (by omega)).mono ?_
      rintro e w1 ⟨rfl, ho1, hg1, _⟩
      have ho2 := ho.upd (by decide) HV1.out HX1.out (seqFrom_length (k + (sumLen (rows.take j) : Nat)) x.length) hg1 (by rw [seqFrom_length]; exact ho1)
      rw [mix_set _ rows j _ (seqRows_length _ _) (seqRows_get k rows j x HX.out)] at ho2
      have hg2 := hg.trans (ChgS.of_grown hg1 HVIN.out)
      go_wp2_with fail
      go_roundw
      case rel => exact ⟨j + 1, by omega, by go_num, by rw [take_snoc_get HX.out, sumLen_snoc, Int.natCast_add, Int.add_assoc], ho2, hg2⟩
      case measure => simp [intOf]; omega
    · obtain rfl : j = n := by omega
      go_wp2
      go_ret
      refine ⟨ret_int (by rw [List.take_of_length_le (by rw [HN.out]; omega)]), ?_, hg⟩
      rw [List.take_of_length_le (by rw [seqRows_length, HN.out]; omega), List.drop_eq_nil_of_le (by rw [HN.out]; omega), List.append_nil] at ho
      exact ho

theorem markTable_any (base lo hi : Nat) (P : Option Addr) (n c : Nat) (vs : List Value) (C : Option Addr) (m d : Nat) (us : List Value) (t : Tb) (k B : Int) (w : World) (h : OwnT w base P n c vs C m d us t) (hv : TIn lo hi P n c vs C m d us)
    (hk0 : 0 ≤ k) (hk1 : k ≤ 1099511627776) (hs : sumLen t.pts ≤ 1099511627776 ∧ sumLen t.cds ≤ 1099511627776) :
    Calls Try.prog 11 #[.agg #[.int .i64 B, .slice P n c, .slice C m d], .int .i64 k] w fun e' w' => e' = .returned (.int .i64 (k + sumLen t.pts + sumLen t.cds)) ∧
      OwnT w' base P n c vs C m d us ⟨t.boats, seqRows k t.pts, seqRows (k + sumLen t.pts) t.cds⟩ ∧ Chg lo hi w w' := by
  have hd1 := h.pts.outer_ne h.cds (by decide)
  have hd2 := h.cds.outer_ne h.pts (by decide)
  have hin : ∀ (v : Value), (∃ b, v.ownBlock = some b) → (v ∈ vs ∨ v ∈ us) → ∀ b, v.ownBlock = some b → lo ≤ b ∧ b < hi := fun v _ hm b hb => by
    rcases hm with hm | hm
    · exact hv.1.2 v hm b hb
    · exact hv.2.2 v hm b hb
  have HP := Lib.hid (fun w' (hb : Below w.heap.size w w') => markSS_set (fun b => ∃ v ∈ vs, v.ownBlock = some b) base P n c vs t.pts k w' (h.pts.below hb) (fun v hv b hb => ⟨v, hv, hb⟩) hk0 (by omega) (by omega))
  have hkm : 0 ≤ k + sumLen t.pts := by omega
  have HC := Lib.hid (fun w' (hb : OwnRows w' base 79 2 C m d us t.cds) => markSS_set (fun b => ∃ v ∈ us, v.ownBlock = some b) base C m d us t.cds (k + sumLen t.pts) w' hb (fun v hv b hb => ⟨v, hv, hb⟩) hkm (by omega) (by omega))
  have HD1 := Lib.hid hd1; have HD2 := Lib.hid hd2; have HAP := Lib.hid h.apR; have HAO := Lib.hid h.apO
  have HI1 := Lib.hid (show ∀ i, (∃ v ∈ vs, v.ownBlock = some i) → lo ≤ i ∧ i < hi from fun i ⟨v, hm, hb⟩ => hv.1.2 v hm i hb)
  have HI2 := Lib.hid (show ∀ i, (∃ v ∈ us, v.ownBlock = some i) → lo ≤ i ∧ i < hi from fun i ⟨v, hm, hb⟩ => hv.2.2 v hm i hb)
  have HT := Lib.hid h
  clear hd1 hd2 hin hv
  go_enter Try.func11, Try.ntmps11
  go_wp2_with fail
  obtain ⟨w1, hw1, X0, hb1, hs1⟩ := one_box w #[.int .i64 B, .slice P n c, .slice C m d] 28
  rw [← hw1]
  clear hw1 hs1
  have hb : w.heap.size < w1.heap.size := X0.lt
  refine (HP.out w1 hb1).mono ?_
  rintro e w2 ⟨rfl, ho2, hc2⟩
  have X2 := X0.chgS hc2 (by rintro ⟨v, hv, hb'⟩; have := (HT.out.pts.in_).2 v hv _ hb'; omega)
  have F0 := X2.f3
  have hcds := (HT.out.cds.below hb1).chgS hc2 HD2.out (fun u hu b hb => fun ⟨v, hv, hb'⟩ => HAP.out v hv u hu b hb' hb)
  have HC2 := Lib.hid ((Chg.of_below (lo := lo) (hi := hi) hb1).trans (hc2.chg HI1.out))
  clear X0 X2 hc2 hb1 h
  go_wp2_with fail
  refine (HC.out w2 hcds).mono ?_
  rintro e w3 ⟨rfl, ho3, hc3⟩
  have HC3 := Lib.hid (HC2.out.trans (hc3.chg HI2.out))
  have hpts := ho2.chgS hc3 HD1.out (fun u hu b hb => fun ⟨v, hv, hb'⟩ => HAP.out u hu v hv b hb hb')
  clear hc3
  go_wp2_with fail
  go_ret
  exact ⟨rfl, ⟨hpts, ho3, HAO.out, HAP.out⟩, HC3.out⟩
theorem heldTable_any (P : Option Addr) (n c : Nat) (C : Option Addr) (m d : Nat) (pts cds : List (List Int)) (k B : Int) (w : World) (h : RdT w P n C m ⟨B, seqRows k pts, seqRows (k + sumLen pts) cds⟩)
    (hk0 : 0 ≤ k) (hk1 : k ≤ 1099511627776) (hs : sumLen pts ≤ 1099511627776 ∧ sumLen cds ≤ 1099511627776) :
    Calls Try.prog 12 #[.agg #[.int .i64 B, .slice P n c, .slice C m d], .int .i64 k] w fun e' w' => e' = .returned (.int .i64 (k + sumLen pts + sumLen cds)) ∧ Below w.heap.size w w' := by
  have HP := Lib.hid (fun w' (hb : Below w.heap.size w w') => heldSS_any P n c pts k w' (h.pts.below hb) hk0 (by omega) (by omega))
  have hkm : 0 ≤ k + sumLen pts := by omega
  have HC := Lib.hid (fun w' (hb : Below w.heap.size w w') => heldSS_any C m d cds (k + sumLen pts) w' (h.cds.below hb) hkm (by omega) (by omega))
  clear h
  obtain ⟨w1, hw1, X0, hb1, hs1⟩ := one_box w #[.int .i64 B, .slice P n c, .slice C m d] 28
  go_enter Try.func12, Try.ntmps12
  go_wp2_with fail
  rw [← hw1]
  clear hw1 hs1
  have F0 := X0.f3
  refine (HP.out w1 hb1).mono ?_
  rintro e w2 ⟨rfl, rfl⟩
  have HB1 := Lib.hid hb1
  clear X0 hb1
  go_wp2_with fail
  refine (HC.out _ HB1.out).mono ?_
  rintro e w2 ⟨rfl, rfl⟩
  go_wp2_with fail
  go_ret
  exact ⟨rfl, HB1.out⟩
end Go.Proofs.Ytgkflaeaiijhjaa

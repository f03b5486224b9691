/- General and plain lemmas, and light walks (merged): Js Mgv. -/
import Derived.Test.YtalgdeieejpelaaGreatJp
import Derived.Test.YtalgdeieejpelaaGreatZmh
import Derived.Test.YtalgdeieejpelaaGreatZml
/- Walks: RegisterSeries (chapter 33), both sides. -/
namespace Go.Proofs.YtalgdeieejpelaaGreat
open Go.RowKit Go.Sort Go.Lib
set_option linter.unusedVariables false
set_option maxRecDepth 100000

def serB (b s : Int) (xs : List EntryT) : Int := if serC b s xs = 0 then b else 0
def serS (b s : Int) (xs : List EntryT) : Int := if serC b s xs = 0 then s else 0
def serO (b s : Int) (xs : List EntryT) : List (List FinishT) := if serC b s xs = 0 then serF b xs else []
set_option maxHeartbeats 2000000 in
theorem specRegSeries_any (b s : Int) (A : Option Addr) (n c : Nat) (xs : List EntryT) (w : World) (hr : RegRd w A n c xs) :
    Calls Tryz.prog 24 #[.agg #[.int .i64 b, .int .i64 s, .slice A n c]] w (RetSer w (serB b s xs) (serS b s xs) (serO b s xs) (serC b s xs)) := by
  have HN := Lib.hid hr.1.len_ent
  obtain ⟨w1, hw1, X0, X1, hb1, hs1⟩ := two_boxes w #[.int .i64 b, .int .i64 s, .slice A n c] #[.int .i64 0, .int .i64 0, .slice none 0 0] 31 58
  have HB1 := Lib.hid hb1
  have HI := Lib.hid (fun w' (hb : Below w.heap.size w w') => specIsRegister_any b s A n c xs w' (hr.below hb))
  have HR := Lib.hid (fun w' (hb : Below w.heap.size w w') => hr.below hb)
  have HX0 := Lib.hid X0; have HX1 := Lib.hid X1
  have F0 := X0.f3; have F1 := X1.f3
  clear hb1 X0 X1 hr
  cases hg : regB b s xs with
  | false =>
    rw [hg] at HI
    have hC : serC b s xs = 1 := by unfold serC; rw [hg]; rfl
    rw [hC, show serB b s xs = 0 from by unfold serB; rw [hC]; rfl, show serS b s xs = 0 from by unfold serS; rw [hC]; rfl, show serO b s xs = [] from by unfold serO; rw [hC]; rfl]
    clear hC hg
    go_enter Tryz.func24, Tryz.ntmps24
    go_wp2_with fail
    rw [← hw1]
    clear hw1
    refine (HI.out _ HB1.out).mono ?_
    rintro e w2 ⟨rfl, hb2⟩
    have HB2 := Lib.hid (HB1.out.trans (hb2.mono HB1.out.size))
    have HX2 := Lib.hid (HX1.out.below hb2)
    clear F0 F1
    have F0 := (HX0.out.below hb2).f3
    have F1 := HX2.out.f3
    have hs2 := hb2.size
    clear hb2
    go_wp2_with fail
    refine bodyPost_ret (v := .tuple #[.agg #[.int .i64 0, .int .i64 0, .slice none 0 0], .int .i64 1]) (by simp [results, Tryz.results24, go_sem, F1]) rfl ?_
    have hch := put_chg (g := w.heap.size + 1) [.int .i64 0, .int .i64 0, .slice none 0 0] 0 (Chg.refl (w.heap.size + 1) (w.heap.size + 1 + 1) w2) (by omega) (by omega)
    exact ⟨none, 0, 0, [], rfl, OwnRaces.nil _ _ _ _, by simp [raceSum], below_chg HB2.out hch (by omega) (by omega)⟩
  | true =>
    rw [hg] at HI
    have hC : serC b s xs = 0 := by unfold serC; rw [hg]; rfl
    rw [hC, show serB b s xs = b from by unfold serB; rw [hC]; rfl, show serS b s xs = s from by unfold serS; rw [hC]; rfl, show serO b s xs = serF b xs from by unfold serO; rw [hC]; rfl]
    have hOK := regB_ok hg
    have hlen : n ≤ 400 := by have := hOK.len; rw [HN.out] at this; exact this
    have HSE := Lib.hid (fun w' (hb : Below w.heap.size w w') => specSeries_any b s A n c xs w' (HR.out w' hb) hlen hOK.okE hOK.key hOK.b1 hOK.b2)
    clear hC hg hOK
    go_enter Tryz.func24, Tryz.ntmps24
    go_wp2_with fail
    rw [← hw1]
    clear hw1
    refine (HI.out _ HB1.out).mono ?_
    rintro e w2 ⟨rfl, hb2⟩
    have HB2 := Lib.hid (HB1.out.trans (hb2.mono HB1.out.size))
    have HX2 := Lib.hid (HX1.out.below hb2)
    clear F0 F1
    have F0 := (HX0.out.below hb2).f3
    have F1 := HX2.out.f3
    have hs2 := hb2.size
    clear hb2
    go_wp2_with fail
    refine (HSE.out _ HB2.out).mono ?_
    rintro e w3 ⟨A3, n3, c3, vs, rfl, ho3, hs3, hb3⟩
    have HB3 := Lib.hid (HB2.out.trans (hb3.mono HB2.out.size))
    have HO3 := Lib.hid ho3
    have hz3 := hb3.size
    clear F1
    have F1 := (HX2.out.below hb3).f3
    clear ho3 hb3
    go_wp2_with fail
    refine bodyPost_ret (v := .tuple #[.agg #[.int .i64 b, .int .i64 s, .slice A3 n3 c3], .int .i64 0]) (by simp [results, Tryz.results24, go_sem, F1]) rfl ?_
    have hch := put_chg (g := w.heap.size + 1) [.int .i64 b, .int .i64 s, .slice A3 n3 c3] 0 (Chg.refl (w.heap.size + 1) (w.heap.size + 1 + 1) w3) (by omega) (by omega)
    exact ⟨A3, n3, c3, vs, rfl, (HO3.out.chg hch HO3.out.in_ (by omega)).base' (by omega), hs3, below_chg HB3.out hch (by omega) (by omega)⟩
set_option maxHeartbeats 2000000 in
theorem implRegSeries_any (b s : Int) (A : Option Addr) (n c : Nat) (xs : List EntryT) (w : World) (hr : RegRd w A n c xs) :
    Calls Tryz.prog 23 #[.agg #[.int .i64 b, .int .i64 s, .slice A n c]] w (RetSer w (serB b s xs) (serS b s xs) (serO b s xs) (serC b s xs)) := by
  have HN := Lib.hid hr.1.len_ent
  obtain ⟨w1, hw1, X0, X1, hb1, hs1⟩ := two_boxes w #[.int .i64 b, .int .i64 s, .slice A n c] #[.int .i64 0, .int .i64 0, .slice none 0 0] 31 58
  have HB1 := Lib.hid hb1
  have HI := Lib.hid (fun w' (hb : Below w.heap.size w w') => implIsRegister_any b s A n c xs w' (hr.below hb))
  have HR := Lib.hid (fun w' (hb : Below w.heap.size w w') => hr.below hb)
  have HX0 := Lib.hid X0; have HX1 := Lib.hid X1
  have F0 := X0.f3; have F1 := X1.f3
  clear hb1 X0 X1 hr
  cases hg : regB b s xs with
  | false =>
    rw [hg] at HI
    have hC : serC b s xs = 1 := by unfold serC; rw [hg]; rfl
    rw [hC, show serB b s xs = 0 from by unfold serB; rw [hC]; rfl, show serS b s xs = 0 from by unfold serS; rw [hC]; rfl, show serO b s xs = [] from by unfold serO; rw [hC]; rfl]
    clear hC hg
    go_enter Tryz.func23, Tryz.ntmps23
    go_wp2_with fail
    rw [← hw1]
    clear hw1
    refine (HI.out _ HB1.out).mono ?_
    rintro e w2 ⟨rfl, hb2⟩
    have HB2 := Lib.hid (HB1.out.trans (hb2.mono HB1.out.size))
    have HX2 := Lib.hid (HX1.out.below hb2)
    clear F0 F1
    have F0 := (HX0.out.below hb2).f3
    have F1 := HX2.out.f3
    have hs2 := hb2.size
    clear hb2
    go_wp2_with fail
    refine bodyPost_ret (v := .tuple #[.agg #[.int .i64 0, .int .i64 0, .slice none 0 0], .int .i64 1]) (by simp [results, Tryz.results23, go_sem, F1]) rfl ?_
    have hch := put_chg (g := w.heap.size + 1) [.int .i64 0, .int .i64 0, .slice none 0 0] 0 (Chg.refl (w.heap.size + 1) (w.heap.size + 1 + 1) w2) (by omega) (by omega)
    exact ⟨none, 0, 0, [], rfl, OwnRaces.nil _ _ _ _, by simp [raceSum], below_chg HB2.out hch (by omega) (by omega)⟩
  | true =>
    rw [hg] at HI
    have hC : serC b s xs = 0 := by unfold serC; rw [hg]; rfl
    rw [hC, show serB b s xs = b from by unfold serB; rw [hC]; rfl, show serS b s xs = s from by unfold serS; rw [hC]; rfl, show serO b s xs = serF b xs from by unfold serO; rw [hC]; rfl]
    have hOK := regB_ok hg
    have hlen : n ≤ 400 := by have := hOK.len; rw [HN.out] at this; exact this
    have HSE := Lib.hid (fun w' (hb : Below w.heap.size w w') => implSeries_any b s A n c xs w' (HR.out w' hb) hlen hOK.okE hOK.key hOK.b1 hOK.b2)
    clear hC hg hOK
    go_enter Tryz.func23, Tryz.ntmps23
    go_wp2_with fail
    rw [← hw1]
    clear hw1
    refine (HI.out _ HB1.out).mono ?_
    rintro e w2 ⟨rfl, hb2⟩
    have HB2 := Lib.hid (HB1.out.trans (hb2.mono HB1.out.size))
    have HX2 := Lib.hid (HX1.out.below hb2)
    clear F0 F1
    have F0 := (HX0.out.below hb2).f3
    have F1 := HX2.out.f3
    have hs2 := hb2.size
    clear hb2
    go_wp2_with fail
    refine (HSE.out _ HB2.out).mono ?_
    rintro e w3 ⟨A3, n3, c3, vs, rfl, ho3, hs3, hb3⟩
    have HB3 := Lib.hid (HB2.out.trans (hb3.mono HB2.out.size))
    have HO3 := Lib.hid ho3
    have hz3 := hb3.size
    clear F1
    have F1 := (HX2.out.below hb3).f3
    clear ho3 hb3
    go_wp2_with fail
    refine bodyPost_ret (v := .tuple #[.agg #[.int .i64 b, .int .i64 s, .slice A3 n3 c3], .int .i64 0]) (by simp [results, Tryz.results23, go_sem, F1]) rfl ?_
    have hch := put_chg (g := w.heap.size + 1) [.int .i64 b, .int .i64 s, .slice A3 n3 c3] 0 (Chg.refl (w.heap.size + 1) (w.heap.size + 1 + 1) w3) (by omega) (by omega)
    exact ⟨A3, n3, c3, vs, rfl, (HO3.out.chg hch HO3.out.in_ (by omega)).base' (by omega), hs3, below_chg HB3.out hch (by omega) (by omega)⟩
end Go.Proofs.YtalgdeieejpelaaGreat

/- Plain: two registers are drawn; merging in both orders. -/
namespace Go.Proofs.YtalgdeieejpelaaGreat
open Go.RowKit
set_option linter.unusedVariables false

/-- The entry's revision is raised. -/
def upR (q : Int) (x : EntryT) : EntryT := (E.race x, E.boat x, E.rev x + 3 * q, E.code x, E.time x, E.kind x, E.points x)
/-- More entries are drawn for the second register. -/
def moreD (code : List Int) (b : Int) (rl : List EntryT) : Nat → List EntryT → St → List EntryT × St
  | 0, out, s => (out, s)
  | m + 1, out, s =>
    if hasB out (upR (nextF code (entX code b s).2 2).1 (entX code b s).1) = true then moreD code b rl m out (nextF code (entX code b s).2 2).2
    else if hasB rl (upR (nextF code (entX code b s).2 2).1 (entX code b s).1) = true then
      moreD code b rl m (if (nextF code (nextF code (entX code b s).2 2).2 12).1 = 0 then out ++ [upR (nextF code (entX code b s).2 2).1 (entX code b s).1] else out) (nextF code (nextF code (entX code b s).2 2).2 12).2
    else moreD code b rl m (out ++ [upR (nextF code (entX code b s).2 2).1 (entX code b s).1]) (nextF code (entX code b s).2 2).2
theorem moreD_len (code : List Int) (b : Int) (rl : List EntryT) : ∀ (m : Nat) (out : List EntryT) (s : St), (moreD code b rl m out s).1.length ≤ out.length + m := by
  intro m
  induction m with
  | zero => intro out s; exact Nat.le_refl _
  | succ m ih =>
    intro out s
    unfold moreD
    split
    · have := ih out (nextF code (entX code b s).2 2).2; omega
    · split
      · refine Nat.le_trans (ih _ _) ?_
        split <;> simp <;> omega
      · refine Nat.le_trans (ih _ _) ?_
        simp; omega
/-- Entries of the first register are taken over. -/
def moreO (code : List Int) : List EntryT → List EntryT → St → List EntryT × St
  | [], out, s => (out, s)
  | x :: r, out, s => if (nextF code s 3).1 = 0 then (if hasB out x = true then moreO code r out (nextF code s 3).2 else moreO code r (out ++ [x]) (nextF code s 3).2) else moreO code r out (nextF code s 3).2
theorem moreO_len (code : List Int) : ∀ (l out : List EntryT) (s : St), (moreO code l out s).1.length ≤ out.length + l.length := by
  intro l
  induction l with
  | nil => intro out s; exact Nat.le_refl _
  | cons x r ih =>
    intro out s
    unfold moreO
    split
    · split
      · have := ih out (nextF code s 3).2; simp; omega
      · have := ih (out ++ [x]) (nextF code s 3).2; simp at this ⊢; omega
    · have := ih out (nextF code s 3).2; simp; omega
def mgD1 (code : List Int) : List EntryT × St := moreD code (regD code (fromF code)).1.1 (regD code (fromF code)).1.2.2 (nextF code (regD code (fromF code)).2 12).1.toNat [] (nextF code (regD code (fromF code)).2 12).2
def mgD2 (code : List Int) : List EntryT × St := moreO code (regD code (fromF code)).1.2.2 (mgD1 code).1 (mgD1 code).2
def mgDS (code : List Int) : Int := if (nextF code (mgD2 code).2 24).1 = 0 then 1 - (regD code (fromF code)).1.2.1 else (regD code (fromF code)).1.2.1
def mgD (code : List Int) : RegT × RegT := ((regD code (fromF code)).1, ((regD code (fromF code)).1.1, mgDS code, (mgD2 code).1))
theorem mgD_len (code : List Int) : (mgD code).2.2.2.length ≤ 31 ∧ (mgD code).1.2.2.length ≤ 20 := by
  have h := nextF_bd code (regD code (fromF code)).2 12 (by omega)
  have h1 := moreD_len code (regD code (fromF code)).1.1 (regD code (fromF code)).1.2.2 (nextF code (regD code (fromF code)).2 12).1.toNat [] (nextF code (regD code (fromF code)).2 12).2
  have h2 := moreO_len code (regD code (fromF code)).1.2.2 (mgD1 code).1 (mgD1 code).2
  have h3 := regD_len code (fromF code)
  unfold mgD mgD2
  unfold mgD1 at *
  simp only [List.length_nil] at h1 ⊢
  omega

/-! ### Merging in both orders -/
theorem sameB_sym {x y : EntryT} (h : sameB x y = true) : sameB y x = true := by
  obtain ⟨a, b, c⟩ := sameB_iff.1 h
  exact sameB_iff.2 ⟨a.symm, b.symm, c.symm⟩
theorem mrg_ok {a s b t : Int} {xs ys : List EntryT} (h : mrgC a s xs b t ys = 0) : a = b ∧ s = t ∧ RegOk a s xs ∧ RegOk a s ys ∧ (∀ y ∈ ys, hasB xs y = true → y ∈ xs) ∧ xs.length + (newE xs ys).length ≤ 400 := by
  unfold mrgC at h
  by_cases h1 : (regB a s xs && regB b t ys) = true
  · rw [if_pos h1] at h
    by_cases h2 : a = b ∧ s = t
    · rw [if_pos h2] at h
      by_cases h3 : clashB xs ys = true
      · rw [if_pos h3] at h; cases h
      · rw [if_neg h3] at h
        by_cases h4 : 400 < xs.length + (newE xs ys).length
        · rw [if_pos h4] at h; cases h
        · rw [Bool.and_eq_true] at h1
          obtain ⟨rfl, rfl⟩ := h2
          refine ⟨rfl, rfl, regB_ok h1.1, regB_ok h1.2, fun y hy hh => ?_, by omega⟩
          false_or_by_contra
          rename_i hn
          apply h3
          unfold clashB
          rw [List.any_eq_true]
          exact ⟨y, hy, by rw [hh, decide_eq_false hn]; rfl⟩
    · rw [if_neg h2] at h; cases h
  · rw [if_neg h1] at h; cases h
theorem mrg_ok_of {a s : Int} {xs ys : List EntryT} (h1 : RegOk a s xs) (h2 : RegOk a s ys) (h3 : ∀ y ∈ ys, hasB xs y = true → y ∈ xs) (h4 : xs.length + (newE xs ys).length ≤ 400) : mrgC a s xs a s ys = 0 := by
  unfold mrgC
  rw [if_pos (by rw [h1.regB, h2.regB]; rfl), if_pos ⟨rfl, rfl⟩, if_neg (by rw [clashB_none h3]; decide), if_neg (by omega)]
theorem key_nodup {xs : List EntryT} (h : xs.Pairwise fun x y => sameB x y = false) : xs.Nodup :=
  h.imp fun {x y} hxy e => by subst e; rw [sameB_self] at hxy; cases hxy
theorem mem_newE {xs ys : List EntryT} {z : EntryT} : z ∈ newE xs ys ↔ z ∈ ys ∧ hasB xs z = false := by
  unfold newE; simp [List.mem_filter]
theorem mrg_key {a s : Int} {xs ys : List EntryT} (h1 : RegOk a s xs) (h2 : RegOk a s ys) : (xs ++ newE xs ys).Pairwise fun x y => sameB x y = false := by
  rw [List.pairwise_append]
  refine ⟨h1.key, h2.key.filter _, fun x hx y hy => ?_⟩
  have := (mem_newE.1 hy).2
  unfold hasB at this
  rw [List.any_eq_false] at this
  simpa using this x hx
theorem mrg_reg {a s : Int} {xs ys : List EntryT} (h1 : RegOk a s xs) (h2 : RegOk a s ys) (h4 : xs.length + (newE xs ys).length ≤ 400) : RegOk a s (xs ++ newE xs ys) :=
  ⟨h1.b1, h1.b2, h1.s0, h1.s1, by rw [List.length_append]; exact h4, fun y hy => by
    rcases List.mem_append.1 hy with hy | hy
    · exact h1.ent y hy
    · exact h2.ent y (mem_newE.1 hy).1, mrg_key h1 h2⟩
theorem mrg_mem {xs ys : List EntryT} (h3 : ∀ y ∈ ys, hasB xs y = true → y ∈ xs) (z : EntryT) : z ∈ xs ++ newE xs ys ↔ z ∈ xs ∨ z ∈ ys := by
  rw [List.mem_append, mem_newE]
  constructor
  · rintro (h | ⟨h, _⟩)
    · exact .inl h
    · exact .inr h
  · rintro (h | h)
    · exact .inl h
    · cases hh : hasB xs z with
      | false => exact .inr ⟨h, rfl⟩
      | true => exact .inl (h3 z h hh)
theorem mrg_back {a s : Int} {xs ys : List EntryT} (h1 : RegOk a s xs) (h2 : RegOk a s ys) (h3 : ∀ y ∈ ys, hasB xs y = true → y ∈ xs) : ∀ x ∈ xs, hasB ys x = true → x ∈ ys := by
  intro x hx hh
  unfold hasB at hh
  rw [List.any_eq_true] at hh
  obtain ⟨y, hy, e⟩ := hh
  have hm : y ∈ xs := h3 y hy (by unfold hasB; rw [List.any_eq_true]; exact ⟨x, hx, sameB_sym e⟩)
  rw [← sameB_eq h1.key hm hx e]; exact hy
theorem mrg_perm {a s : Int} {xs ys : List EntryT} (h1 : RegOk a s xs) (h2 : RegOk a s ys) (h3 : ∀ y ∈ ys, hasB xs y = true → y ∈ xs) : (xs ++ newE xs ys).Perm (ys ++ newE ys xs) :=
  (List.perm_ext_iff_of_nodup (key_nodup (mrg_key h1 h2)) (key_nodup (mrg_key h2 h1))).2 fun z => by
    rw [mrg_mem h3, mrg_mem (mrg_back h1 h2 h3), or_comm]
/-- The second order merges as well. -/
theorem mrg_swap {a s b t : Int} {xs ys : List EntryT} (h : mrgC a s xs b t ys = 0) : mrgC b t ys a s xs = 0 := by
  obtain ⟨rfl, rfl, h1, h2, h3, h4⟩ := mrg_ok h
  refine mrg_ok_of h2 h1 (mrg_back h1 h2 h3) ?_
  have := (mrg_perm h1 h2 h3).length_eq
  rw [List.length_append, List.length_append] at this
  omega
theorem mrg_valid {a s b t : Int} {xs ys : List EntryT} (h : mrgC a s xs b t ys = 0) : RegOk a s (xs ++ newE xs ys) := by
  obtain ⟨rfl, rfl, h1, h2, h3, h4⟩ := mrg_ok h
  exact mrg_reg h1 h2 h4
/-- Histories, current entries and series do not depend on the order of entries. -/
theorem hist_order {xs ys : List EntryT} (hk : xs.Pairwise fun x y => sameB x y = false) (hp : xs.Perm ys) (race boat : Int) : histF xs race boat = histF ys race boat := by
  have hk' : ys.Pairwise fun x y => sameB x y = false := hp.pairwise hk (fun {x y} h => by
    cases e : sameB y x with
    | false => rfl
    | true => rw [sameB_sym e] at h; cases h)
  refine sorted_uniq (((hist_perm xs race boat).trans (hp.filter _)).trans (hist_perm ys race boat).symm) (hist_sorted hk race boat) (hist_sorted hk' race boat)
theorem currF_order {xs ys : List EntryT} (hk : xs.Pairwise fun x y => sameB x y = false) (hp : xs.Perm ys) (b : Int) : currF b xs = currF b ys := by
  have e : histF xs = histF ys := funext fun r => funext fun q => hist_order hk hp r q
  unfold currF currC rowC
  rw [e]
theorem serF_order {xs ys : List EntryT} (hk : xs.Pairwise fun x y => sameB x y = false) (hp : xs.Perm ys) (b : Int) : serF b xs = serF b ys := by
  unfold serF; rw [currF_order hk hp b]
theorem ser_good {b s : Int} {xs : List EntryT} (h : RegOk b s xs) : serC b s xs = 0 ∧ serB b s xs = b ∧ serS b s xs = s ∧ serO b s xs = serF b xs := by
  have e : serC b s xs = 0 := by unfold serC; rw [if_pos h.regB]
  unfold serB serS serO
  exact ⟨e, if_pos e, if_pos e, if_pos e⟩
/-- Both orders lead to one series. -/
theorem mrg_series {a s b t : Int} {xs ys : List EntryT} (h : mrgC a s xs b t ys = 0) : serF a (ys ++ newE ys xs) = serF a (xs ++ newE xs ys) := by
  obtain ⟨rfl, rfl, h1, h2, h3, h4⟩ := mrg_ok h
  exact (serF_order (mrg_key h1 h2) (mrg_perm h1 h2 h3) a).symm
/-- Merging once more adds nothing. -/
theorem mrg_again {a s b t : Int} {xs ys : List EntryT} (h : mrgC a s xs b t ys = 0) : mrgC a s (xs ++ newE xs ys) b t ys = 0 ∧ newE (xs ++ newE xs ys) ys = [] := by
  obtain ⟨rfl, rfl, h1, h2, h3, h4⟩ := mrg_ok h
  have hm : ∀ y ∈ ys, y ∈ xs ++ newE xs ys := fun y hy => (mrg_mem h3 y).2 (.inr hy)
  have hn : newE (xs ++ newE xs ys) ys = [] := by
    unfold newE
    rw [List.filter_eq_nil_iff]
    intro y hy
    rw [hasB_mem (by exact hm y hy)]
    decide
  refine ⟨mrg_ok_of (mrg_reg h1 h2 h4) h2 (fun y hy _ => hm y hy) ?_, hn⟩
  rw [hn, List.length_append]
  simpa using h4
end Go.Proofs.YtalgdeieejpelaaGreat

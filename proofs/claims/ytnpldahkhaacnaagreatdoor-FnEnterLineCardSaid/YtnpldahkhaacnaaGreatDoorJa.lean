/- Walks: histories (chapter 33), the program. -/
import Derived.Test.YtnpldahkhaacnaaGreatDoorRj
import Derived.Maps.AppendAt
namespace Go.Proofs.YtnpldahkhaacnaaGreatDoor
open Go.RowKit Go.Sort
set_option linter.unusedVariables false
set_option maxRecDepth 100000

theorem box_new2 (w : World) (o : Obj) (vs : Array Value) (t : TypeId) : Box ((w.alloc o).alloc (.cells vs t)) (w.heap.size + 1) vs t := by
  have := Box.new (w.alloc o) vs t
  rwa [World.size_alloc] at this
theorem own_emptyE (w : World) (base e s : Nat) (hb : base ≤ w.heap.size) : (w.alloc (.cells #[] e)).ownsRow base e s (.slice (some ⟨w.heap.size, 0, none⟩) 0 0) 0 [] := by
  have := World.ownsRow_lit (base := base) (e := e) (size := s) w #[] 0 hb (by unfold maxLen; omega) (by simp)
  simpa using this
theorem ents_one (ys : List EntryT) : ∀ u ∈ ents ys, u.oneCell' = true := by
  intro u hu
  unfold ents at hu
  obtain ⟨y, _, hy⟩ := List.mem_flatMap.1 hu
  unfold entC at hy
  simp only [List.mem_cons, List.not_mem_nil, or_false] at hy
  rcases hy with rfl | rfl | rfl | rfl | rfl | rfl | rfl <;> rfl
theorem ents_news {w : World} {b o m : Nat} {ys : List EntryT} (h : Rd w 7 (some ⟨b, o, none⟩) m (ents ys)) : ∀ (j : Nat) (u : Value), (ents ys)[j]? = some u → w.cell? ((⟨b, o, none⟩ : Addr).add j) = some u := by
  intro j u hu
  have hl := h.len
  have hj := (List.getElem?_eq_some_iff.1 hu).1
  obtain ⟨b', o', e, hc⟩ := h.pos (by omega)
  injection e with e
  injection e with e1 e2
  subst e1 e2
  have hadd : (⟨b, o, none⟩ : Addr).add j = ⟨b, o + j, none⟩ := by unfold Addr.add; split <;> simp_all
  rw [hadd]
  exact hc j u hu
section
variable {ops : Array Oper} {rest : List Oper} {o : Oper} {a : Act} {K : Act → World → Prop} {Q : Exit → Act → World → Prop} {E : Prop}
/-- append of a slice of entries to an own row. -/
theorem apps_ent (w : World) (hgd : o.guard = none) (s x : Operand)
    (ho : o.op = .call { callee := .builtin .append, args := #[s, x], argTypes := #[30, 30] }) {base n c g : Nat} {xs : List EntryT}
    (hs : a.eval s = .slice (some ⟨g, 0, none⟩) n c) (hown : w.ownsRow base 25 7 (.slice (some ⟨g, 0, none⟩) n c) n (ents xs)) {b f m d : Nat} {ys : List EntryT} (hx : a.eval x = .slice (some ⟨b, f, none⟩) m d)
    (hr : Rd w 7 (some ⟨b, f, none⟩) m (ents ys)) (hn : n + m ≤ 1048576) (hbase : base ≤ w.heap.size)
    (h : ∀ g' c' w', w'.ownsRow base 25 7 (.slice (some ⟨g', 0, none⟩) (n + m) c') (n + m) (ents (xs ++ ys)) → w.grownBy w' (some g) → wpList Tryz.prog ops Q rest (a.put o.dst (.slice (some ⟨g', 0, none⟩) (n + m) c')) w') :
    wpList Tryz.prog ops Q (o :: rest) a w := by
  obtain ⟨i, hi, hz, hs1, hb1⟩ := info_parts Tryz.info_ent
  have hl : (ents ys).length = m * 7 := hr.len
  refine wpList_append_own_at w hgd s x 30 ho base 25 i (.agg #[.int .i64 0, .int .i64 0, .int .i64 0, .int .i64 0, .int .i64 0, .int .i64 0, .int .i64 0]) 7 56 Tryz.underlying30 hi hz hs1 hb1 rfl (by decide) (.slice (some ⟨g, 0, none⟩) n c) n (ents xs) hs hown ⟨b, f, none⟩ m d (ents ys) hx hl (ents_news hr) (ents_one ys) (by unfold maxLen; omega) (by omega) hbase ?_
  intro v' w' h1 h2 h3 h4
  have e : ents xs ++ ents ys = ents (xs ++ ys) := by unfold ents; rw [List.flatMap_append]
  rw [e] at h1
  rcases h1.2 with ⟨hv, _⟩ | ⟨g', c', cur, hv, _⟩
  · have := (h3.1 hv).1
    injection this with this
    cases this
  · subst hv
    exact h g' c' w' h1 h2
end
set_option maxHeartbeats 4000000 in
theorem implHistory_any (b s race boat : Int) (A : Option Addr) (n c : Nat) (xs : List EntryT) (w : World) (hr : RegRd w A n c xs) (hlen : n ≤ 400) (hok : ∀ x ∈ xs, okE x) (hkey : xs.Pairwise fun x y => sameB x y = false) :
    Calls Tryz.prog 125 #[.agg #[.int .i64 b, .int .i64 s, .slice A n c], .int .i64 race, .int .i64 boat] w (RetEntryS w (histF xs race boat)) := by
  obtain ⟨h, hcp⟩ := hr
  have HN := Lib.hid h.len_ent
  obtain ⟨w1, hw1, X0, hb1, hs1⟩ := one_box w #[.int .i64 b, .int .i64 s, .slice A n c] 32
  have HB1 := Lib.hid hb1
  have HX1 := Lib.hid X0
  have HRD := Lib.hid (fun w' (hb : Below w1.heap.size w1 w') => (h.below hb1).below hb)
  have HOK := Lib.hid hok
  have HKEY := Lib.hid hkey
  clear h hb1 X0 hok hkey
  have hoe : (w1.alloc (.cells #[] 25)).ownsRow w1.heap.size 25 7 (.slice (some ⟨w1.heap.size, 0, none⟩) 0 0) 0 (ents (ofKey race boat (xs.take 0))) := own_emptyE w1 w1.heap.size 25 7 (Nat.le_refl _)
  have hbe : Below w1.heap.size w1 (w1.alloc (.cells #[] 25)) := (Below.refl _ _).alloc (Nat.le_refl _) _
  go_enter Tryz.func125, Tryz.ntmps125
  have F0 := HX1.out.f3
  go_wp2_with fail
  rw [← hw1]
  clear hw1
  go_wp2_with fail
  go_loopw [7, 14] (fun s i wr => ∃ (k m c' : Nat) (A' : Option Addr), k ≤ n ∧ m ≤ k ∧ i = .int .i64 k ∧ s = .slice A' m c' ∧ Hid (wr.ownsRow w1.heap.size 25 7 (.slice A' m c') m (ents (ofKey race boat (xs.take k)))) ∧ Hid (Below w1.heap.size w1 wr)) (fun _ i _ => n - (intOf i).toNat)
  case atStart => exact ⟨0, 0, _, _, Nat.zero_le _, Nat.zero_le _, rfl, rfl, Lib.hid (by simpa only [hs1] using hoe), Lib.hid hbe⟩
  case round =>
    clear hoe hbe F0
    obtain ⟨k, m, c', A', hk, hmk, rfl, rfl, HO, HB⟩ := hrel
    obtain ⟨wo, hwo⟩ : ∃ wo : World, wo = wr := ⟨_, rfl⟩
    subst hwo
    have F0 := (HX1.out.below HB.out).f3
    have hsw := HB.out.size
    by_cases hlt : k < n
    · obtain ⟨b1, o1, y0, y1, y2, y3, y4, y5, y6, rfl, hx, hd, hc0, hc1, hc2, hc3, hc4, hc5, hc6⟩ := (HRD.out _ HB.out).ent hlt
      have HT := Lib.hid (show ofKey race boat (xs.take (k + 1)) = ofKey race boat (xs.take k) ++ (if (y0 == race && y1 == boat) = true then [(y0, y1, y2, y3, y4, y5, y6)] else []) from by rw [take_snoc hx]; exact ofKey_snoc race boat (xs.take k) (y0, y1, y2, y3, y4, y5, y6))
      clear hx hd
      by_cases e0 : y0 = race
      · have h0 : (y0 == race) = true := by simp [e0]
        by_cases e1 : y1 = boat
        · have h1 : (y1 == boat) = true := by simp [e1]
          have HTS := Lib.hid (show ofKey race boat (xs.take (k + 1)) = ofKey race boat (xs.take k) ++ [(y0, y1, y2, y3, y4, y5, y6)] from by rw [HT.out, h0, h1]; simp)
          clear e0 e1
          go_wp2_with (at_builtin; refine app_ent (x0 := y0) (x1 := y1) (x2 := y2) (x3 := y3) (x4 := y4) (x5 := y5) (x6 := y6) _ rfl _ _ rfl rfl (own_below (own_below HO.out ((Below.refl _ _).alloc (Nat.le_refl _) _)) ((Below.refl _ _).alloc (Nat.le_refl _) _)) rfl ?cC (by omega) ?cB ?_; rotate_left 2; intro g1 c1 wn hown1 hgr1 hg1 hgl1)
          · have HON := Lib.hid hown1
            have HBN := Lib.hid (show Below w1.heap.size w1 wn from ((HB.out.alloc hsw _).alloc (by simp; omega) _).grown hgr1 (by simp; omega) (fun k hk => (HO.out.lt k hk).1))
            clear hown1 hgr1 hg1
            go_roundw
            case rel => exact ⟨k + 1, m + 1, _, _, by omega, by omega, by go_num, rfl, Lib.hid (by rw [HTS.out]; exact HON.out), HBN⟩
            case measure => simp [intOf] <;> omega
          · exact box_new2 _ _ _ _
          · simp; omega
        · have h1 : (y1 == boat) = false := by simp [e1]
          clear e0 e1
          have HTS := Lib.hid (show ofKey race boat (xs.take (k + 1)) = ofKey race boat (xs.take k) from by rw [HT.out, h0, h1]; simp)
          go_wp2_with fail
          go_roundw
          case rel => exact ⟨k + 1, m, _, _, by omega, by omega, by go_num, rfl, Lib.hid (by rw [HTS.out]; exact own_below HO.out ((Below.refl _ _).alloc (Nat.le_refl _) _)), Lib.hid (HB.out.alloc hsw _)⟩
          case measure => simp [intOf] <;> omega
      · have h0 : (y0 == race) = false := by simp [e0]
        clear e0
        have HTS := Lib.hid (show ofKey race boat (xs.take (k + 1)) = ofKey race boat (xs.take k) from by rw [HT.out, h0]; simp)
        go_wp2_with fail
        go_roundw
        case rel => exact ⟨k + 1, m, _, _, by omega, by omega, by go_num, rfl, Lib.hid (by rw [HTS.out]; exact own_below HO.out ((Below.refl _ _).alloc (Nat.le_refl _) _)), Lib.hid (HB.out.alloc hsw _)⟩
        case measure => simp [intOf] <;> omega
    · obtain rfl : k = n := by omega
      have ht : xs.take k = xs := List.take_of_length_le (by rw [HN.out]; exact Nat.le_refl _)
      rw [ht] at HO
      have HS := Lib.hid (sortEnts_any _ A' m c' (ofKey race boat xs) (fun x hx => HOK.out x (ofKey_mem.1 hx).1) (by omega) wo HO.out)
      clear ht
      go_wp2_with fail
      refine HS.out.mono ?_
      rintro e w3 ⟨rfl, ys, hp, hs, ho3, hg3⟩
      have hy : ys = histF xs race boat := hist_sort HKEY.out hp hs
      subst hy
      have HO3 := Lib.hid ho3
      have HB3 := Lib.hid (HB.out.grown hg3 hsw (fun k hk => (HO.out.lt k hk).1))
      clear hp hs ho3 hg3 HS F0
      go_wp2_with fail
      go_ret
      exact ⟨_, _, _, rfl, own_base HO3.out HB1.out.size, by omega, HB1.out.trans (HB3.out.mono HB1.out.size)⟩
/-- What HistoryOf answers. -/
def histC (b s : Int) (xs : List EntryT) (race boat : Int) : Int := if regB b s xs = true then (if (withinB race 0 11 && withinB boat 0 (b - 1)) = true then 0 else 2) else 1
def histL (b s : Int) (xs : List EntryT) (race boat : Int) : List EntryT := if histC b s xs race boat = 0 then histF xs race boat else []
def RetHist (w : World) (l : List EntryT) (code : Int) (e : Ending) (w' : World) : Prop :=
  ∃ A n c, e = .returned (.tuple #[.slice A n c, .int .i64 code]) ∧ w'.ownsRow w.heap.size 25 7 (.slice A n c) n (ents l) ∧ n ≤ 1048576 ∧ Below w.heap.size w w'
set_option maxHeartbeats 4000000 in
theorem implHistoryOf_any (b s race boat : Int) (A : Option Addr) (n c : Nat) (xs : List EntryT) (w : World) (hr : RegRd w A n c xs) :
    Calls Tryz.prog 153 #[.agg #[.int .i64 b, .int .i64 s, .slice A n c], .int .i64 race, .int .i64 boat] w (RetHist w (histL b s xs race boat) (histC b s xs race boat)) := by
  have HI := Lib.hid (fun w' (hb : Below w.heap.size w w') => implIsRegister_any b s A n c xs w' (hr.below hb))
  have HN := Lib.hid hr.1.len_ent
  have HR := Lib.hid hr
  obtain ⟨w1, hw1, X0, hb1, hs1⟩ := one_box w #[.int .i64 b, .int .i64 s, .slice A n c] 32
  have HB1 := Lib.hid hb1
  have HX1 := Lib.hid X0
  clear hb1 X0 hr
  have F0 := HX1.out.f3
  cases hg : regB b s xs with
  | false =>
    rw [hg] at HI
    have hL : histL b s xs race boat = [] := by unfold histL histC; rw [hg]; rfl
    have hC : histC b s xs race boat = 1 := by unfold histC; rw [hg]; rfl
    rw [hL, hC]
    clear hL hC hg
    go_enter Tryz.func153, Tryz.ntmps153
    go_wp2_with fail
    rw [← hw1]
    clear hw1
    refine (HI.out _ HB1.out).mono ?_
    rintro e w2 ⟨rfl, hb2⟩
    have HB2 := Lib.hid (HB1.out.trans (hb2.mono HB1.out.size))
    have F0 := (HX1.out.below hb2).f3
    clear hb2 HX1 HB1
    go_wp2_with fail
    go_ret2
    exact ⟨none, 0, 0, rfl, World.ownsRow_nil _ _ _ _, by omega, HB2.out⟩
  | true =>
    rw [hg] at HI
    have hOK := regB_ok hg
    have hb16 : 1 ≤ b ∧ b ≤ 16 := ⟨hOK.b1, hOK.b2⟩
    cases ha : withinB race 0 11 with
    | false =>
      have HA := Lib.hid (fun w => within_lit ha w)
      have HC := HA
      have hL : histL b s xs race boat = [] := by unfold histL histC; rw [hg, ha]; rfl
      have hC : histC b s xs race boat = 2 := by unfold histC; rw [hg, ha]; rfl
      rw [hL, hC]
      clear hL hC hg ha hOK
      go_enter Tryz.func153, Tryz.ntmps153
      go_wp2_with fail
      rw [← hw1]
      clear hw1
      refine (HI.out _ HB1.out).mono ?_
      rintro e w2 ⟨rfl, hb2⟩
      have HB2 := Lib.hid (HB1.out.trans (hb2.mono HB1.out.size))
      have F0 := (HX1.out.below hb2).f3
      clear hb2 HX1 HB1
      go_wp2_with (first | (go_at_call 30; (with_reducible refine (HA.out _).mono ?_); rintro e w' ⟨rfl, rfl⟩) | (go_at_call 30; (with_reducible refine (HC.out _).mono ?_); rintro e w' ⟨rfl, rfl⟩))
      go_ret2
      exact ⟨none, 0, 0, rfl, World.ownsRow_nil _ _ _ _, by omega, HB2.out⟩
    | true =>
      have HA := Lib.hid (fun w => within_lit ha w)
      cases hc : withinB boat 0 (b - 1) with
      | false =>
        have HC := Lib.hid (fun w => within_lit hc w)
        have hL : histL b s xs race boat = [] := by unfold histL histC; rw [hg, ha, hc]; rfl
        have hC : histC b s xs race boat = 2 := by unfold histC; rw [hg, ha, hc]; rfl
        rw [hL, hC]
        clear hL hC hg ha hc hOK
        go_enter Tryz.func153, Tryz.ntmps153
        go_wp2_with fail
        rw [← hw1]
        clear hw1
        refine (HI.out _ HB1.out).mono ?_
        rintro e w2 ⟨rfl, hb2⟩
        have HB2 := Lib.hid (HB1.out.trans (hb2.mono HB1.out.size))
        have F0 := (HX1.out.below hb2).f3
        clear hb2 HX1 HB1
        go_wp2_with (first | (go_at_call 30; (with_reducible refine (HA.out _).mono ?_); rintro e w' ⟨rfl, rfl⟩) | (go_at_call 30; (with_reducible refine (HC.out _).mono ?_); rintro e w' ⟨rfl, rfl⟩))
        go_ret2
        exact ⟨none, 0, 0, rfl, World.ownsRow_nil _ _ _ _, by omega, HB2.out⟩
      | true =>
        have HC := Lib.hid (fun w => within_lit hc w)
        have hL : histL b s xs race boat = histF xs race boat := by unfold histL histC; rw [hg, ha, hc]; rfl
        have hC : histC b s xs race boat = 0 := by unfold histC; rw [hg, ha, hc]; rfl
        rw [hL, hC]
        have HH := Lib.hid (fun w' (hb : Below w.heap.size w w') => implHistory_any b s race boat A n c xs w' (HR.out.below hb) (by have := hOK.len; rw [HN.out] at this; exact this) hOK.okE hOK.key)
        clear hL hC hg ha hc hOK
        go_enter Tryz.func153, Tryz.ntmps153
        go_wp2_with fail
        rw [← hw1]
        clear hw1
        refine (HI.out _ HB1.out).mono ?_
        rintro e w2 ⟨rfl, hb2⟩
        have HB2 := Lib.hid (HB1.out.trans (hb2.mono HB1.out.size))
        have F0 := (HX1.out.below hb2).f3
        clear hb2 HX1 HB1
        go_wp2_with (first | (go_at_call 30; (with_reducible refine (HA.out _).mono ?_); rintro e w' ⟨rfl, rfl⟩) | (go_at_call 30; (with_reducible refine (HC.out _).mono ?_); rintro e w' ⟨rfl, rfl⟩))
        refine (HH.out _ HB2.out).mono ?_
        rintro e w3 ⟨A3, n3, c3, rfl, ho3, hn3, hb3⟩
        have HO3 := Lib.hid ho3
        have HB3 := Lib.hid (HB2.out.trans (hb3.mono HB2.out.size))
        have HS2 := Lib.hid HB2.out.size
        clear ho3 hb3 F0
        go_wp2_with fail
        go_ret2
        exact ⟨_, _, _, rfl, own_base HO3.out HS2.out, hn3, HB3.out⟩
end Go.Proofs.YtnpldahkhaacnaaGreatDoor

/- Walks: what FnSure draws (chapter 31). -/
import Derived.Test.YtfkllgnenbbccaaWx2
import Derived.Laws.AppendOwnNone
namespace Go.Proofs.Ytfkllgnenbbccaa
open Go.RowKit
set_option linter.unusedVariables false
set_option maxRecDepth 100000

theorem Try.info_u8 : (Try.prog.info? 5).map (fun i => (i.zero, i.size, i.bytes)) = some (some (.int .u8 0), 1, 1) := by kernel_rfl
/-- A byte and the code behind it. -/
theorem app_code {ops : Array Oper} {rest : List Oper} {o : Oper} {a : Act} {Q : Exit → Act → World → Prop} (w : World) (hgd : o.guard = none) (s x : Operand)
    (ho : o.op = .call { callee := .builtin .append, args := #[s, x], argTypes := #[42, 42] }) {base b c : Nat} {v : Int}
    (hs : a.eval s = .slice (some ⟨b, 0, none⟩) 1 c) (hown : w.ownsRow base 5 1 (.slice (some ⟨b, 0, none⟩) 1 c) 1 (u8s [v])) {A : Option Addr} {n cap : Nat} {code : List Int} (hx : a.eval x = .slice A n cap)
    (hA : (A = none ∧ n = 0 ∧ cap = 0) ∨ ∃ ad, A = some ad) (hr : Rd w 1 A n (u8s code)) (hn : n ≤ 4096) (hbase : base ≤ w.heap.size)
    (h : ∀ g1 c' w', w'.ownsRow base 5 1 (.slice (some ⟨g1, 0, none⟩) (1 + n) c') (1 + n) (u8s (v :: code)) → w.grownBy w' (some b) → wpList Try.prog ops Q rest (a.put o.dst (.slice (some ⟨g1, 0, none⟩) (1 + n) c')) w') :
    wpList Try.prog ops Q (o :: rest) a w := by
  obtain ⟨i, hi, hz, hs1, hb1⟩ := info_parts Try.info_u8
  have hlen := hr.len
  rcases hA with ⟨rfl, rfl, rfl⟩ | ⟨ad, rfl⟩
  · obtain rfl : code = [] := by
      rw [u8s_length] at hlen
      exact List.eq_nil_of_length_eq_zero (by omega)
    refine wpList_append_own_none hgd s x 42 ho base 5 i 1 Try.underlying42 hi (.slice (some ⟨b, 0, none⟩) 1 c) 1 (u8s [v]) hs hown hx ?_
    exact h b c w hown ⟨rfl, rfl, rfl, Nat.le_refl _, fun _ _ _ => rfl⟩
  · refine wpList_append_own w hgd s x 42 ho base 5 i (.int .u8 0) 1 1 Try.underlying42 hi hz hs1 hb1 rfl (by decide) (.slice (some ⟨b, 0, none⟩) 1 c) 1 (u8s [v]) hs hown ad n cap (u8s code) hx hlen ?_ ?_ (by unfold maxLen; omega) (by omega) hbase ?_
    · intro j u hu
      have hj : j < n := by
        rcases Nat.lt_or_ge j n with g | g
        · exact g
        · rw [List.getElem?_eq_none (by omega)] at hu; cases hu
      obtain ⟨b', o', e, hc⟩ := hr.pos (by omega)
      injection e with e
      subst e
      have hadd : (⟨b', o', none⟩ : Addr).add j = ⟨b', o' + j, none⟩ := by unfold Addr.add; split <;> simp_all
      rw [hadd]; exact hc j u hu
    · intro u hu
      unfold u8s at hu
      rw [List.mem_map] at hu
      obtain ⟨y, _, rfl⟩ := hu
      rfl
    · intro v' w' h1 h2 h3
      rcases h1.2 with ⟨rfl, h0⟩ | ⟨g, cap', cur, rfl, _⟩
      · have := (h3.1 rfl).1; cases this
      · exact h _ _ w' h1 h2
/-- The code with a byte ahead, as new memory. -/
theorem code_of {w : World} {base g1 n c : Nat} {code : List Int} {v : Int} (h : w.ownsRow base 5 1 (.slice (some ⟨g1, 0, none⟩) (1 + n) c) (1 + n) (u8s (v :: code))) (hn : n ≤ 4096) (hv : 0 ≤ v ∧ v ≤ 255) (hc : ∀ x ∈ code, 0 ≤ x ∧ x ≤ 255) : Code0 w (some ⟨g1, 0, none⟩) (1 + n) (v :: code) :=
  ⟨own_rd h, by omega, fun x hx => by
    rcases List.mem_cons.1 hx with rfl | hx
    · exact hv
    · exact hc x hx⟩
def rankD (code : List Int) (m : Nat) : Int := (nextF (1 :: code) (fromF (1 :: code)) ((m : Int) + 1)).1 + (nextF (1 :: code) (nextF (1 :: code) (fromF (1 :: code)) ((m : Int) + 1)).2 8).1 / 7
def RetM5 (w : World) (D : List Int × Int × List Int × Int) (r : Int) (e : Ending) (w' : World) : Prop :=
  ∃ A1 n1 c1, e = .returned (.tuple #[.slice A1 n1 c1, .int .i64 D.2.1, .int .i64 D.2.2.2, .int .i64 r]) ∧ w'.ownsRow w.heap.size 2 1 (.slice A1 n1 c1) n1 (ints D.1) ∧ n1 ≤ 6 ∧ Below w.heap.size w w'
set_option maxHeartbeats 4000000 in
theorem drawSure_any (A : Option Addr) (n cap : Nat) (code : List Int) (w0 : World) (hcode : Code0 w0 A n code) (hn : n ≤ 4096) (hA : (A = none ∧ n = 0 ∧ cap = 0) ∨ ∃ ad, A = some ad) (w : World) (hb : Below w0.heap.size w0 w) :
    Calls Try.prog 38 #[.slice A n cap] w (RetM5 w (medalD code) (rankD code (medalD code).1.length)) := by
  have HD := Lib.hid (draw31_any A n cap code w0 hcode w hb)
  have hrd := hcode.rd.below hb
  have hby := hcode.byte
  have HF := Lib.hid (fun w1 A' n' c' (h : Code0 w1 A' n' (1 :: code)) => from_any w1 A' n' c' (1 :: code) h w1 (Below.refl _ _))
  have HN := Lib.hid (fun w1 A' n' c' g s k hk w' (h : Code0 w1 A' n' (1 :: code)) hs => next_any w1 A' n' c' (1 :: code) h g s k hk w' hs)
  have er : ∀ m : Nat, rankD code m = (nextF (1 :: code) (fromF (1 :: code)) ((m : Int) + 1)).1 + (nextF (1 :: code) (nextF (1 :: code) (fromF (1 :: code)) ((m : Int) + 1)).2 8).1 / 7 := fun m => rfl
  have hdl : (medalD code).1.length ≤ 6 := netD_len code (fromF code)
  generalize medalD code = D at *
  obtain ⟨net, fc, pls, boat⟩ := D
  simp only at hdl
  simp only
  have er1 := er net.length
  generalize rankD code net.length = RK at *
  generalize fromF (1 :: code) = s0 at *
  have hb1 := nextF_bd (1 :: code) s0 ((net.length : Int) + 1) (by omega)
  have HN1 := Lib.hid (fun w1 A' n' c' g w' h hs => HN.out w1 A' n' c' g s0 ((net.length : Int) + 1) (by omega) w' h hs)
  generalize nextF (1 :: code) s0 ((net.length : Int) + 1) = R1 at *
  obtain ⟨v1, s1⟩ := R1
  simp only at er1 hb1
  have hb2 := nextF_bd (1 :: code) s1 8 (by omega)
  have HN2 := Lib.hid (fun w1 A' n' c' g w' h hs => HN.out w1 A' n' c' g s1 8 (by omega) w' h hs)
  generalize nextF (1 :: code) s1 8 = R2 at *
  obtain ⟨v2, s2⟩ := R2
  simp only at er1 hb2
  obtain ⟨v10, v11⟩ := hb1
  obtain ⟨v20, v21⟩ := hb2
  have HER := Lib.hid er1
  have HRD := Lib.hid hrd
  have HBY := Lib.hid hby
  have HA := Lib.hid hA
  have hsz0 := hb.size
  clear er er1 hrd hby hA hb HN hcode
  go_enter Try.func38, Try.ntmps38
  go_wp2_with fail
  refine HD.out.mono ?_
  rintro e w1 ⟨A1, n1, c1, A2, n2, c2, rfl, o1, o2, hn1, hn2, hb1⟩
  simp only at o1
  simp only
  have hl1 := own_len o1
  obtain rfl : net.length = n1 := hl1
  have HO1 := Lib.hid o1
  have HB1 := Lib.hid hb1
  have hz1 := hb1.size
  clear o1 o2 hb1 HD
  have hlit := World.ownsRow_lit (base := w1.heap.size) (e := 5) (size := 1) w1 #[.int .u8 1] 1 (Nat.le_refl _) (by unfold maxLen; omega) (by simp)
  have HLIT := Lib.hid hlit
  clear hlit
  go_wp2_with (at_builtin; refine app_code (base := w1.heap.size) _ rfl _ _ rfl rfl HLIT.out rfl HA.out ((HRD.out.below HB1.out).below ((Below.refl _ _).alloc (Nat.le_refl _) _)) hn (by simp) ?_; intro g1 c3 w2 ho2 hgr2)
  have hb2 : Below w1.heap.size w1 w2 := ((Below.refl _ _).alloc (Nat.le_refl _) _).grown hgr2 (by simp) (fun k hk => by injection hk with hk; omega)
  have hcode2 : Code0 w2 (some ⟨g1, 0, none⟩) (1 + n) (1 :: code) := code_of ho2 hn (by omega) HBY.out
  have HCD := Lib.hid hcode2
  have HLT := Lib.hid (fun b hv => (HO1.out.lt b hv).2)
  have HO2 := Lib.hid (own_below HO1.out hb2)
  have HB2 := Lib.hid (HB1.out.trans (hb2.mono hz1))
  have hz2 := hb2.size
  clear hb2 hcode2 ho2 hgr2 HLIT HRD HO1 HB1
  refine (HF.out w2 _ _ _ HCD.out).mono ?_
  rintro e w3 ⟨g, rfl, hs3, hg3, hb3⟩
  have HO3 := Lib.hid (own_below HO2.out hb3)
  have HB3 := Lib.hid (HB2.out.trans (hb3.mono HB2.out.size))
  have HS3 := Lib.hid hs3
  clear hs3 hb3 HO2 HB2 HF
  go_wp2_with fail
  refine (HN1.out w2 _ _ _ g _ HCD.out HS3.out).mono ?_
  rintro e w4 ⟨rfl, hs4, hc4⟩
  simp only at hs4
  simp only
  have HO4 := Lib.hid (own_chg HO3.out hc4 (fun b hv => .inl (by have := HLT.out b hv; omega)))
  have HB4 := Lib.hid (below_chg HB3.out hc4 (by omega) HB3.out.size)
  have HS4 := Lib.hid hs4
  clear hs4 hc4 HO3 HB3 HS3 HN1
  go_wp2_with fail
  refine (HN2.out w2 _ _ _ g _ HCD.out HS4.out).mono ?_
  rintro e w5 ⟨rfl, hs5, hc5⟩
  simp only
  have HO5 := Lib.hid (own_chg HO4.out hc5 (fun b hv => .inl (by have := HLT.out b hv; omega)))
  have HB5 := Lib.hid (below_chg HB4.out hc5 (by omega) HB4.out.size)
  have htd : v2.tdiv 7 = v2 / 7 := Int.tdiv_eq_ediv_of_nonneg v20
  clear hs5 hc5 HO4 HB4 HS4 HN2
  go_wp2_with fail
  refine bodyPost_ret (results_tmp4 rfl _ _ _) rfl ?_
  rw [HER.out]
  exact ⟨_, _, _, rfl, HO5.out, hdl, HB5.out⟩
end Go.Proofs.Ytfkllgnenbbccaa

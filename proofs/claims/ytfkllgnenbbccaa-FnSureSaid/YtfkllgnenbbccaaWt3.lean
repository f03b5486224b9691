/- Walks: the final order and rank as the laws say them (chapter 31). -/
import Derived.Test.YtfkllgnenbbccaaWt2
namespace Go.Proofs.Ytfkllgnenbbccaa
open Go.RowKit
set_option linter.unusedVariables false
set_option maxRecDepth 100000

theorem run_make_i64' (n : Nat) (h : n ≤ 1048576) (w : World) :
    (Instr.makeSlice 22 (.int .i64 (n : Int)) (.int .i64 (n : Int))).run Try.prog w = .ok (.slice (some ⟨w.heap.size, 0, none⟩) n n) (w.alloc (.cells (madeCells #[.int .i64 0] n) 2)) := by
  obtain ⟨i, hi, hz, hs, hb⟩ := info_parts Try.info_i64
  have hr := run_make (P := Try.prog) w 22 2 i (.int .i64 0) Try.underlying22 hi hz .i64 .i64 n n (by omega) (by omega) (by rw [hb]; omega) (by omega)
  rw [hs, Nat.mul_one, Int.toNat_natCast] at hr
  exact hr

theorem drawn_trans {a b c : World} (h : Drawn a b) (k : Drawn b c) : Drawn a c := by obtain ⟨q, rfl⟩ := h; obtain ⟨r, rfl⟩ := k; exact ⟨_, World.drewN_drewN _ _ _⟩
theorem ptsF_none (factor : Int) (net places : List Int) (n : Nat) (hv : Valid net places factor n) (i : Nat) (hi : i < n) : ∃ x p, net[i]? = some x ∧ places[i]? = some p ∧ (ptsF factor net places).getD i 0 = x + 10 * factor * p ∧ places.getD i 0 = p := by
  have h1 : net[i]? = some (net[i]'(by rw [hv.nl]; exact hi)) := List.getElem?_eq_getElem _
  have h2 : places[i]? = some (places[i]'(by rw [hv.pl]; exact hi)) := List.getElem?_eq_getElem _
  refine ⟨_, _, h1, h2, ?_, ?_⟩
  · rw [List.getD_eq_getElem?_getD, ptsF_get h1 h2]; rfl
  · rw [List.getD_eq_getElem?_getD, h2]; rfl
theorem ordL_iff (pts pls : List Int) (x y : Int) : ordL pts pls x y = true ↔ pts.getD x.toNat 0 < pts.getD y.toNat 0 ∨ (pts.getD x.toNat 0 = pts.getD y.toNat 0 ∧ pls.getD x.toNat 0 < pls.getD y.toNat 0) := by
  unfold ordL ordC
  rw [decide_eq_true_eq]
  split <;> omega
theorem l31Rank_any (A : Option Addr) (n c : Nat) (net : List Int) (factor : Int) (A' : Option Addr) (c' : Nat) (places : List Int) (k : Nat) (hk : k < n) (w : World) (hv : Valid net places factor n) (h : Rd w 1 A n (ints net)) (h' : Rd w 1 A' n (ints places)) :
    Calls Try.prog 47 #[.slice A n c, .int .i64 factor, .slice A' n c', .int .i64 (k : Int)] w fun e w' => e = .returned (.int .i64 (rankF factor net places (k : Int))) ∧ Drawn w w' := by
  have hn5 := hv.n5
  obtain ⟨xk, pk, hxk, hpk, hdk, hek⟩ := ptsF_none factor net places n hv k hk
  have hrk : rankF factor net places (k : Int) = (((idx n).countP fun z => ordL (ptsF factor net places) places z (k : Int) : Nat) : Int) + 1 := by unfold rankF before; rw [hv.nl]
  rw [hrk]; clear hrk
  have HLP := Lib.hid (fun (i : Nat) (hi : i < n) (x p : Int) (hx : net[i]? = some x) (hp : places[i]? = some p) W hq => l31Points_any A n c net factor A' c' places i hi x p hx hp W hv (h.drawn hq) (h'.drawn hq))
  have HK := Lib.hid (fun W hq => HLP.out k hk xk pk hxk hpk W hq)
  have hlt : ∀ i : Nat, i < n → ∃ x p, net[i]? = some x ∧ places[i]? = some p ∧ (ordL (ptsF factor net places) places (i : Int) (k : Int) = true ↔ (x + 10 * factor * p < xk + 10 * factor * pk ∨ (x + 10 * factor * p = xk + 10 * factor * pk ∧ p < pk))) := by
    intro i hi
    obtain ⟨x, p, h1, h2, h3, h4⟩ := ptsF_none factor net places n hv i hi
    refine ⟨x, p, h1, h2, ?_⟩
    rw [ordL_iff]
    simp only [Int.toNat_natCast]
    rw [h3, h4, hdk, hek]
  have HORD := Lib.hid hlt
  clear hlt hdk hek
  generalize xk + 10 * factor * pk = mine at *
  generalize hL : (fun z => ordL (ptsF factor net places) places z (k : Int)) = L at *
  have HL := Lib.hid hL
  have HPK := Lib.hid hpk
  clear hL hxk hpk
  have HV := Lib.hid hv
  clear hv
  go_enter Try.func47, Try.ntmps47
  go_wp2_with fail
  refine (HK.out _ (Drawn.refl _)).mono ?_
  rintro e w1 ⟨rfl, hq1⟩
  go_wp2_with fail
  go_loopw [9, 11, 12] (fun r i _ wr => ∃ q : Nat, q ≤ n ∧ i = .int .i64 q ∧ r = .int .i64 ((((idx n).take q).countP L : Nat) + 1) ∧ Drawn w wr) (fun _ i _ _ => n - (intOf i).toNat)
  case atStart => exact ⟨0, Nat.zero_le _, rfl, by simp, hq1⟩
  case round =>
    clear hq1
    obtain ⟨q, hqn, rfl, rfl, hd⟩ := hrel
    have hcnt : ((idx n).take q).countP L ≤ 5 := by
      have h1 := List.countP_le_length (p := L) (l := (idx n).take q)
      rw [List.length_take] at h1
      omega
    by_cases hlt : q < n
    · obtain ⟨x, p, hx, hp, hiff⟩ := HORD.out q hlt
      have hpt := fun W hq => HLP.out q hlt x p hx hp W hq
      have hLq : L (q : Int) = true ↔ (x + 10 * factor * p < mine ∨ (x + 10 * factor * p = mine ∧ p < pk)) := by rw [← HL.out]; exact hiff
      have htk : ((idx n).take (q + 1)).countP L = ((idx n).take q).countP L + if L (q : Int) then 1 else 0 := by
        rw [take_snoc_get (idx_get hlt), List.countP_append]
        simp [List.countP_cons]
      generalize x + 10 * factor * p = xp at *
      generalize ((idx n).take q).countP L = cnt at *
      have HPT := Lib.hid hpt; have HTK := Lib.hid htk; have HX := Lib.hid hp
      clear hpt htk hp hx hiff
      go_wp2_with fail
      refine (HPT.out _ hd).mono ?_
      rintro e w2 ⟨rfl, hq2⟩
      have hd2 : Drawn w w2 := drawn_trans hd hq2
      obtain ⟨b, o, p', rfl, hp', _, hcp⟩ := (h'.drawn hd2).int hlt
      obtain ⟨b', o', pk', hA, hpk', _, hcpk⟩ := (h'.drawn hd2).int hk
      obtain ⟨rfl, rfl⟩ : b = b' ∧ o = o' := by injection hA with hA; injection hA with e1 e2; exact ⟨e1, e2⟩
      obtain rfl : p' = p := by rw [HX.out] at hp'; injection hp' with e; exact e.symm
      obtain rfl : pk' = pk := by rw [HPK.out] at hpk'; injection hpk' with e; exact e.symm
      have HD2 := Lib.hid hd2
      clear hp' hpk' hA hd hq2 hd2
      by_cases hlm : xp < mine
      · have hL1 : L (q : Int) = true := hLq.2 (.inl hlm)
        rw [hL1, if_pos rfl] at HTK
        clear hLq
        go_wp2_with fail
        go_quiet (fail)
        go_wp2_with fail
        go_roundw
        case rel => exact ⟨q + 1, by omega, by go_num, by rw [HTK.out]; go_num, HD2.out.step _⟩
        case measure => simp [intOf]; omega
      · by_cases hem : xp = mine
        · subst hem
          by_cases hpp : p' < pk'
          · have hL1 : L (q : Int) = true := hLq.2 (.inr ⟨rfl, hpp⟩)
            rw [hL1, if_pos rfl] at HTK
            have hd1 : decide (xp < xp) = false := by simp
            clear hLq hlm
            go_wp2_with fail
            go_quiet (fail)
            go_wp2_with fail
            go_roundw
            case rel => exact ⟨q + 1, by omega, by go_num, by rw [HTK.out]; go_num, HD2.out.step _⟩
            case measure => simp [intOf]; omega
          · have hL0 : L (q : Int) = false := by
              cases hh : L (q : Int) with
              | false => rfl
              | true => have := hLq.1 hh; omega
            rw [hL0] at HTK
            have hd1 : decide (xp < xp) = false := by simp
            have hd2 : decide (p' < pk') = false := by simpa using hpp
            clear hLq hlm hpp
            go_wp2_with fail
            go_quiet (fail)
            go_wp2_with fail
            go_roundw
            case rel => exact ⟨q + 1, by omega, by go_num, by rw [HTK.out]; simp, HD2.out.step _⟩
            case measure => simp [intOf]; omega
        · have hL0 : L (q : Int) = false := by
            cases hh : L (q : Int) with
            | false => rfl
            | true => have := hLq.1 hh; omega
          rw [hL0] at HTK
          have hd1 : decide (xp < mine) = false := by simpa using hlm
          have hd2 : (xp == mine) = false := by simpa using hem
          clear hLq hlm hem
          go_wp2_with fail
          go_quiet (fail)
          go_wp2_with fail
          go_roundw
          case rel => exact ⟨q + 1, by omega, by go_num, by rw [HTK.out]; simp, HD2.out.step _⟩
          case measure => simp [intOf]; omega
    · obtain rfl : q = n := by omega
      go_wp2_with fail
      go_ret
      rw [List.take_of_length_le (by rw [idx_length]; omega)]
      exact ⟨rfl, hd⟩

theorem l31Order_any (A : Option Addr) (n c : Nat) (net : List Int) (factor : Int) (A' : Option Addr) (c' : Nat) (places : List Int) (hp : isPermB 1 places = true) (w : World) (hv : Valid net places factor n) (h : Rd w 1 A n (ints net)) (h' : Rd w 1 A' n (ints places)) :
    Calls Try.prog 49 #[.slice A n c, .int .i64 factor, .slice A' n c'] w (RetCopy w (orderF factor net places)) := by
  have hn5 := hv.n5
  have hnl := hv.nl
  have hos := order_sets (factor := factor) (hv.pl.trans hnl.symm) hp
  have hbl : ∀ i : Nat, i < n → before (ptsF factor net places) places net.length (i : Int) < n := by
    intro i hi
    have := before_lt (pts := ptsF factor net places) (pls := places) (n := net.length) (b := (i : Int)) (by omega) (by omega)
    omega
  rw [hos]
  rw [hnl]
  rw [hnl] at hbl
  have hrank : ∀ i : Nat, rankF factor net places (i : Int) = ((before (ptsF factor net places) places n (i : Int) : Nat) : Int) + 1 := by intro i; unfold rankF; rw [hnl]
  have HRK := Lib.hid (fun (i : Nat) (hi : i < n) W h1 h2 => l31Rank_any A n c net factor A' c' places i hi W hv h1 h2)
  simp only [hrank] at HRK
  clear hos hrank hnl
  generalize hr : (fun i : Nat => before (ptsF factor net places) places n (i : Int)) = r at *
  have hr' : ∀ i : Nat, before (ptsF factor net places) places n (i : Int) = r i := fun i => congrFun hr i
  simp only [hr'] at HRK hbl
  have HBL := Lib.hid hbl
  clear hr hr' hbl hv hp
  have hmk := run_make_i64' n (by omega)
  have hom := own_made w w.heap.size 2 n (.int .i64 0) (Nat.le_refl _) (by omega)
  rw [← ints_replicate] at hom
  go_enter Try.func49, Try.ntmps49
  go_wp2_with fail
  generalize hso : setsF r n 0 (List.replicate n 0) = so
  have HSO := Lib.hid hso
  have HSO2 := Lib.hid hso
  clear hso
  go_loopw [8, 9] (fun i _ wr => ∃ (q : Nat) (out : List Int), q ≤ n ∧ i = .int .i64 q ∧ setsF r (n - q) q out = so ∧ wr.ownsRow w.heap.size 2 1 (.slice (some ⟨w.heap.size, 0, none⟩) n n) n (ints out) ∧ Below w.heap.size w wr) (fun i _ _ => n - (intOf i).toNat)
  case atStart => exact ⟨0, _, Nat.zero_le _, rfl, HSO.out, hom, (Below.refl _ _).alloc (Nat.le_refl _) _⟩
  case round =>
    clear hom hmk HSO
    obtain ⟨q, out, hqn, rfl, hs, ho, hb⟩ := hrel
    have HS := Lib.hid hs
    clear hs
    by_cases hlt : q < n
    · have e : n - q = (n - (q + 1)) + 1 := by omega
      rw [e, setsF] at HS
      clear e
      have hrq := HBL.out q hlt
      have HC := Lib.hid (HRK.out q hlt wr (h.below hb) (h'.below hb))
      generalize r q = rq at *
      go_wp2_with fail
      refine HC.out.mono ?_
      rintro e w1 ⟨rfl, hq1⟩
      have ho1 := hq1.own ho
      obtain ⟨g1, x, hg1, _, _, hx, hcx, hfx⟩ := own_int_at ho1 (k := rq) hrq
      obtain rfl : w.heap.size = g1 := by injection hg1 with e; injection e
      have hw1 : IntKind.i64.wrap ((rq : Int) + 1 - 1) = (rq : Int) := by rw [IntWalk.i64_in _ (by omega)]; omega
      have O2 := Lib.hid (own_set (k := rq) ho1 (q : Int))
      have B2 := Lib.hid (((hb.trans (hq1.below.mono hb.size))).setCell (p := ⟨w.heap.size, rq, none⟩) (Nat.le_refl _) (.int .i64 (q : Int)))
      clear hg1 ho ho1 hb hx HC
      go_wp2_with fail
      go_roundw
      case rel => exact ⟨q + 1, _, by omega, by go_num, HS.out, O2.out, B2.out⟩
      case measure => simp [intOf]; omega
    · obtain rfl : q = n := by omega
      rw [Nat.sub_self, setsF] at HS
      go_wp2_with fail
      go_ret
      exact ⟨_, _, _, rfl, by rw [HSO2.out, ← HS.out]; exact ho, by omega, hb⟩

theorem specFinalOrder_any (A : Option Addr) (n c : Nat) (net : List Int) (factor : Int) (A' : Option Addr) (n' c' : Nat) (places : List Int) (w : World) (h : Rd w 1 A n (ints net)) (h' : Rd w 1 A' n' (ints places)) :
    Calls Try.prog 24 #[.slice A n c, .int .i64 factor, .slice A' n' c'] w (RetI w (finalOrderF net factor places)) := by
  have HN := Lib.hid h.len_int
  have HN' := Lib.hid h'.len_int
  have HB := Lib.hid (l31PlacesCode_any A n c net factor A' n' c' places 0 w h h')
  unfold finalOrderF
  by_cases hz : placesCodeF net factor places 0 = 0
  · have hv := valid_of hz
    obtain ⟨h1, _, hp⟩ := placesCode_ok hz
    rw [if_pos hz]
    rw [HN.out] at hv
    have hnn : n' = n := HN'.out.symm.trans hv.pl
    subst hnn
    rw [hz] at HB
    clear hz
    go_enter Try.func24, Try.ntmps24
    go_wp2_with fail
    refine HB.out.mono ?_
    rintro e w1 ⟨rfl, hb1⟩
    go_wp2_with fail
    refine (l31Order_any _ _ _ _ _ _ _ _ hp _ hv (h.below hb1) (h'.below hb1)).mono ?_
    rintro e w2 ⟨A2, n2, c2, rfl, ho2, hn2, hb2⟩
    go_wp2_with fail
    go_ret2
    exact ⟨_, _, _, rfl, own_base ho2 hb1.size, hn2, hb1.trans (hb2.mono hb1.size)⟩
  · rw [if_neg hz]
    generalize placesCodeF net factor places 0 = code at *
    have hne : (code != 0) = true := by simp [hz]
    clear hz
    go_enter Try.func24, Try.ntmps24
    go_wp2_with fail
    refine HB.out.mono ?_
    rintro e w1 ⟨rfl, hb1⟩
    go_wp2_with fail
    go_ret2
    exact RetI.nil _ _ _ hb1

theorem specFinalRank_any (A : Option Addr) (n c : Nat) (net : List Int) (factor : Int) (A' : Option Addr) (n' c' : Nat) (places : List Int) (boat : Int) (w : World) (h : Rd w 1 A n (ints net)) (h' : Rd w 1 A' n' (ints places)) :
    Calls Try.prog 22 #[.slice A n c, .int .i64 factor, .slice A' n' c', .int .i64 boat] w (Ret2 w (finalRankF net factor places boat)) := by
  have HN := Lib.hid h.len_int
  have HN' := Lib.hid h'.len_int
  have HB := Lib.hid (l31PlacesCode_any A n c net factor A' n' c' places boat w h h')
  unfold finalRankF
  by_cases hz : placesCodeF net factor places boat = 0
  · have hv := valid_of hz
    obtain ⟨h1, _, hp⟩ := placesCode_ok hz
    obtain ⟨_, _, _, g4, g5⟩ := medalCode_ok h1
    rw [if_pos hz]
    rw [HN.out] at hv
    have hnn : n' = n := HN'.out.symm.trans hv.pl
    subst hnn
    have g5' : boat < (n' : Int) := by have := HN.out; omega
    obtain ⟨bt, rfl⟩ := int_up boat g4
    have HFR := Lib.hid (fun W h1 h2 => l31Rank_any A n' c net factor A' c' places bt (by omega) W hv h1 h2)
    rw [hz] at HB
    clear hz hv hp h1
    generalize rankF factor net places (bt : Int) = rk at *
    go_enter Try.func22, Try.ntmps22
    go_wp2_with fail
    refine HB.out.mono ?_
    rintro e w1 ⟨rfl, hb1⟩
    go_wp2_with fail
    refine (HFR.out _ (h.below hb1) (h'.below hb1)).mono ?_
    rintro e w2 ⟨rfl, hq2⟩
    go_wp2_with fail
    go_ret2
    exact ⟨rfl, hb1.trans (hq2.below.mono hb1.size)⟩
  · rw [if_neg hz]
    generalize placesCodeF net factor places boat = code at *
    have hne : (code != 0) = true := by simp [hz]
    clear hz
    go_enter Try.func22, Try.ntmps22
    go_wp2_with fail
    refine HB.out.mono ?_
    rintro e w1 ⟨rfl, hb1⟩
    go_wp2_with fail
    go_ret2
    exact ⟨rfl, hb1⟩
end Go.Proofs.Ytfkllgnenbbccaa

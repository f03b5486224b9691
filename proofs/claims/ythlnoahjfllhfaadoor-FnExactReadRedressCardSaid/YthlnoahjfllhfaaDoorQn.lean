/- Walks: a word read as a number (the reference). -/
import Derived.Test.YthlnoahjfllhfaaDoorQm
import Derived.Test.YthlnoahjfllhfaaDoorQk
namespace Go.Proofs.YthlnoahjfllhfaaDoor
open Go.RowKit Go.Sort
set_option linter.unusedVariables false
set_option maxRecDepth 100000

theorem valL_snoc (n : Nat) (l : List UInt8) (c : UInt8) : valL n (l ++ [c]) = stepV (valL n l) c := by rw [valL_app, valL_cons, valL_nil]
set_option maxHeartbeats 2000000 in
theorem read26_any (s : ByteArray) (hs : s.size ≤ 2097152) (w : World) :
    Calls Tryd.prog 20 #[.string s] w fun e w' => e = .returned (.int .i64 (rdF s.data.toList)) ∧ Below w.heap.size w w' := by
  have hlen := (Lib.size_eq s).symm
  obtain ⟨L, hL⟩ : ∃ L, L = s.data.toList := ⟨_, rfl⟩
  rw [← hL] at hlen ⊢
  by_cases hnil : L = []
  · have hse : s = ⟨#[]⟩ := by
      apply WideShapes.bytes_inj
      rw [← hL, hnil]
    have hn : rdF L = -1 := by unfold rdF; rw [if_pos (.inl hnil)]
    rw [hn]
    subst hse
    clear hlen hL hnil hn
    go_enter Tryd.func20, Tryd.ntmps20
    go_wp2_with fail
    go_ret
    exact ⟨rfl, Below.refl _ _⟩
  have hne : s.toList.isEmpty = false := by rw [ByteArray.toList_eq, ← hL]; simp [hnil]
  have hne2 : (s.toList = []) = False := by rw [ByteArray.toList_eq, ← hL]; simp [hnil]
  by_cases h12 : 12 < s.size
  · have hn : rdF L = -1 := by unfold rdF; rw [if_pos (.inr (by omega))]
    rw [hn]
    have hlb : decide ((12 : Int) < (s.size : Int)) = true := by simp; omega
    clear hlen hL hnil hn
    go_enter Tryd.func20, Tryd.ntmps20
    go_wp2_with fail
    go_ret
    exact ⟨rfl, Below.refl _ _⟩
  have hlb : decide ((12 : Int) < (s.size : Int)) = false := by simp; omega
  have HL := Lib.hid hL
  have HLN := Lib.hid hlen
  have HNIL := Lib.hid hnil
  have hsz12 : s.size ≤ 12 := by omega
  clear hL hlen hnil h12
  go_enter Tryd.func20, Tryd.ntmps20
  go_wp2_with fail
  go_loop [3, 4] (fun n i => ∃ (k x : Nat), k ≤ s.size ∧ x < 1000000000000 ∧ i = .int .i64 k ∧ n = .int .i64 x ∧ Hid (x = valL 0 (L.take k) ∧ ∀ c ∈ L.take k, dgB c = true)) (fun _ i => s.size - (intOf i).toNat)
  case atStart => exact ⟨0, 0, Nat.zero_le _, by omega, rfl, rfl, Lib.hid ⟨by rw [List.take_zero, valL_nil], by simp⟩⟩
  case round =>
    obtain ⟨k, x, hk, hx, rfl, rfl, HI⟩ := hrel
    by_cases hlt : k < s.size
    · have hkd : decide ((k : Int) < (s.size : Int)) = true := by simpa using hlt
      have hkL : k < L.length := by have := HLN.out; omega
      have hgs : s[k] = L[k] := by
        have h1 := HL.out
        subst h1
        rfl
      have htk : L.take (k + 1) = L.take k ++ [L[k]] := by rw [List.take_add_one, List.getElem?_eq_getElem hkL]; rfl
      obtain ⟨cn, hcn⟩ : ∃ cn, cn = (s[k]).toNat := ⟨_, rfl⟩
      by_cases hd : dgB L[k] = true
      · have hd0 := hd
        unfold dgB at hd0
        simp only [Bool.and_eq_true, decide_eq_true_eq] at hd0
        rw [← hgs, ← hcn] at hd0
        have hall : ∀ c ∈ L.take (k + 1), dgB c = true := by
          rw [htk]
          intro c hc
          rcases List.mem_append.1 hc with hc | hc
          · exact HI.out.2 c hc
          · rw [List.mem_singleton.1 hc]; exact hd
        have hval : valL 0 (L.take (k + 1)) = 10 * x + (cn - 48) := by
          rw [htk, valL_snoc, ← HI.out.1, ← hgs]
          unfold stepV
          rw [← hcn]
        have hlt2 := valL_lt (L.take (k + 1)) 0 hall
        have hpow : 10 ^ (L.take (k + 1)).length ≤ 10 ^ 12 := Nat.pow_le_pow_right (by decide) (by rw [List.length_take]; omega)
        rw [hval] at hlt2
        have hx2 : 10 * x + (cn - 48) < 1000000000000 := by
          have e : (10 : Nat) ^ 12 = 1000000000000 := by decide
          rw [e] at hpow
          omega
        have HI2 := Lib.hid (show 10 * x + (cn - 48) = valL 0 (L.take (k + 1)) ∧ ∀ c ∈ L.take (k + 1), dgB c = true from ⟨hval.symm, hall⟩)
        obtain ⟨hd1, hd2⟩ := hd0
        have hcn2 : (s[k]).toNat = cn := hcn.symm
        have ht1 : decide ((cn : Int) < 48) = false := by simp; omega
        have ht2 : decide ((57 : Int) < (cn : Int)) = false := by simp; omega
        clear hd hall hval hlt2 hpow htk hgs HI hcn
        go_wp2_with fail
        go_round
        case rel => exact ⟨k + 1, 10 * x + (cn - 48), by omega, hx2, by go_num, by go_num, HI2⟩
        case measure => simp [intOf] <;> omega
      · have hn : rdF L = -1 := by
          unfold rdF
          rw [if_neg (by have := HLN.out; have := HNIL.out; rintro (e | e); contradiction; omega), if_neg]
          intro hall
          exact hd (List.all_eq_true.1 hall _ (List.getElem_mem hkL))
        have HNQ := Lib.hid hn
        have hcn2 : (s[k]).toNat = cn := hcn.symm
        have hor : cn < 48 ∨ (¬ cn < 48 ∧ 57 < cn) := by
          unfold dgB at hd
          simp only [Bool.and_eq_true, decide_eq_true_eq] at hd
          rw [← hgs, ← hcn] at hd
          omega
        clear hd hn htk hgs HI hcn
        rcases hor with h1 | ⟨h1, h2⟩
        · have ht1 : decide ((cn : Int) < 48) = true := by simp; omega
          clear h1
          go_wp2_with fail
          go_ret
          exact ⟨by rw [HNQ.out]; rfl, Below.refl _ _⟩
        · have ht1 : decide ((cn : Int) < 48) = false := by simp; omega
          have ht2 : decide ((57 : Int) < (cn : Int)) = true := by simp; omega
          clear h1 h2
          go_wp2_with fail
          go_ret
          exact ⟨by rw [HNQ.out]; rfl, Below.refl _ _⟩
    · obtain rfl : k = s.size := by omega
      have hkd : decide ((s.size : Int) < (s.size : Int)) = false := by simp
      have hi := HI.out
      rw [List.take_of_length_le (by have := HLN.out; omega)] at hi
      have HN := Lib.hid (number26_any x (by omega) w)
      have hb12 : ¬ (L = [] ∨ 12 < L.length) := by have := HLN.out; have := HNIL.out; rintro (e | e); contradiction; omega
      have hall : L.all dgB = true := List.all_eq_true.2 hi.2
      by_cases hq : dec x = L
      · have hn : rdF L = (x : Int) := by unfold rdF; rw [if_neg hb12, if_pos hall, ← hi.1, if_pos hq]
        have HNQ := Lib.hid hn
        have hst : str (dec x) = s := by rw [hq, HL.out, str_data]
        rw [hst] at HN
        clear hi hall hq hn hst HI hb12
        go_wp2_with fail
        refine HN.out.mono ?_
        rintro e w1 ⟨rfl, hb⟩
        have HB1 := Lib.hid hb
        clear hb
        go_wp2_with fail
        go_ret
        exact ⟨by rw [HNQ.out]; rfl, HB1.out⟩
      · have hn : rdF L = -1 := by unfold rdF; rw [if_neg hb12, if_pos hall, ← hi.1, if_neg hq]
        have HNQ := Lib.hid hn
        have hst : str (dec x) ≠ s := fun e => hq (by rw [HL.out, ← e, str_list])
        have hnl := ne_list hst
        generalize str (dec x) = Z at *
        clear hi hall hq hn hst HI hb12
        go_wp2_with fail
        refine HN.out.mono ?_
        rintro e w1 ⟨rfl, hb⟩
        have HB1 := Lib.hid hb
        clear hb
        go_wp2_with fail
        go_ret
        exact ⟨by rw [HNQ.out]; rfl, HB1.out⟩
end Go.Proofs.YthlnoahjfllhfaaDoor

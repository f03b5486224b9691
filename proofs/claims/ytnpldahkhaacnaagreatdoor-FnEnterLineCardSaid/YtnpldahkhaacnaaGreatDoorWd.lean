/- Walks: the source of numbers of the drawn laws. -/
import Derived.Test.YtnpldahkhaacnaaGreatDoorZmb
import Derived.Test.YtnpldahkhaacnaaGreatDoorZma
namespace Go.Proofs.YtnpldahkhaacnaaGreatDoor
open Go.RowKit
set_option linter.unusedVariables false
set_option maxRecDepth 100000

/-- The code that came in: it reads as the bytes code, at the world w0 in which the law began. -/
structure Code0 (w0 : World) (A : Option Addr) (n : Nat) (code : List Int) : Prop where
  rd : Rd w0 1 A n (u8s code)
  n4 : n ≤ 8192
  byte : ∀ c ∈ code, 0 ≤ c ∧ c ≤ 255
theorem Code0.len {w0 : World} {A : Option Addr} {n : Nat} {code : List Int} (h : Code0 w0 A n code) : code.length = n := by
  have := h.rd.len
  rwa [u8s_length, Nat.mul_one] at this
theorem Code0.at_ {w0 w : World} {A : Option Addr} {n k : Nat} {code : List Int} (h : Code0 w0 A n code) (hb : Below w0.heap.size w0 w) (hk : k < n) :
    ∃ b o c, A = some ⟨b, o, none⟩ ∧ code[k]? = some c ∧ 0 ≤ c ∧ c ≤ 255 ∧ w.cell? ⟨b, o + k, none⟩ = some (.int .u8 c) := by
  obtain ⟨b, o, e, hc⟩ := h.rd.pos (by omega)
  obtain ⟨c, h1, _⟩ := drop_cons (xs := code) (k := k) (by rw [h.len]; exact hk)
  have hbd := h.byte c (List.mem_of_getElem? h1)
  exact ⟨b, o, c, e, h1, hbd.1, hbd.2, Keeps.below hb _ _ (hc k _ (u8s_get h1))⟩

/-- The source in memory: block g. -/
structure Src (w0 w : World) (A : Option Addr) (n cap : Nat) (code : List Int) (g : Nat) (s : St) : Prop where
  blk : w.heap[g]? = some (.cells #[.slice A n cap, .int .i64 (s.1 : Int), .int .i64 s.2] 88 (0, 0))
  old : w0.heap.size ≤ g
  bel : Below w0.heap.size w0 w
  ok : StOk code s
theorem Src.lt {w0 w : World} {A : Option Addr} {n cap : Nat} {code : List Int} {g : Nat} {s : St} (h : Src w0 w A n cap code g s) : g < w.heap.size := (Array.getElem?_eq_some_iff.1 h.blk).1
theorem Src.c0 {w0 w : World} {A : Option Addr} {n cap : Nat} {code : List Int} {g : Nat} {s : St} (h : Src w0 w A n cap code g s) : w.cell? ⟨g, 0, none⟩ = some (.slice A n cap) := by simp [World.cell?, h.blk]
theorem Src.c1 {w0 w : World} {A : Option Addr} {n cap : Nat} {code : List Int} {g : Nat} {s : St} (h : Src w0 w A n cap code g s) : w.cell? ⟨g, 1, none⟩ = some (.int .i64 (s.1 : Int)) := by simp [World.cell?, h.blk]
theorem Src.c2 {w0 w : World} {A : Option Addr} {n cap : Nat} {code : List Int} {g : Nat} {s : St} (h : Src w0 w A n cap code g s) : w.cell? ⟨g, 2, none⟩ = some (.int .i64 s.2) := by simp [World.cell?, h.blk]
theorem Src.fz {w0 w : World} {A : Option Addr} {n cap : Nat} {code : List Int} {g : Nat} {s : St} (h : Src w0 w A n cap code g s) (i : Nat) : w.frozen? ⟨g, i, none⟩ = false := by simp [World.frozen?, h.blk]
theorem Src.drewN {w0 w : World} {A : Option Addr} {n cap : Nat} {code : List Int} {g : Nat} {s : St} (h : Src w0 w A n cap code g s) (q : Nat) : Src w0 (w.drewN q) A n cap code g s := ⟨h.blk, h.old, below_drewN h.bel q, h.ok⟩
theorem Src.seed {w0 w : World} {A : Option Addr} {n cap : Nat} {code : List Int} {g : Nat} {s : St} (h : Src w0 w A n cap code g s) (x : Int) (h0 : 0 ≤ x) (h1 : x < 2147483647) :
    Src w0 (w.setCell ⟨g, 2, none⟩ (.int .i64 x)) A n cap code g (s.1, x) :=
  ⟨by simp [World.setCell, Array.getElem?_modify, h.blk], h.old, h.bel.setCell h.old _, h.ok.1, h0, h1⟩
theorem Src.at1 {w0 w : World} {A : Option Addr} {n cap : Nat} {code : List Int} {g : Nat} {s : St} (h : Src w0 w A n cap code g s) (k : Nat) (hk : k ≤ code.length) :
    Src w0 (w.setCell ⟨g, 1, none⟩ (.int .i64 (k : Int))) A n cap code g (k, s.2) :=
  ⟨by simp [World.setCell, Array.getElem?_modify, h.blk], h.old, h.bel.setCell h.old _, hk, h.ok.2⟩
theorem Src.below {w0 w w' : World} {A : Option Addr} {n cap : Nat} {code : List Int} {g : Nat} {s : St} (h : Src w0 w A n cap code g s) (k : Below w.heap.size w w') : Src w0 w' A n cap code g s :=
  ⟨(k.block g h.lt).trans h.blk, h.old, h.bel.trans (k.mono h.bel.size), h.ok⟩
theorem Src.chg {w0 w w' : World} {A : Option Addr} {n cap : Nat} {code : List Int} {g lo hi : Nat} {s : St} (h : Src w0 w A n cap code g s) (k : Chg lo hi w w') (hl : g < lo) : Src w0 w' A n cap code g s :=
  ⟨(k.block g h.lt (.inl hl)).trans h.blk, h.old, below_chg h.bel k (by have := h.old; omega) h.bel.size, h.ok⟩
theorem chg_set {lo hi : Nat} {w w' : World} (h : Chg lo hi w w') {g i : Nat} (h1 : lo ≤ g) (h2 : g < hi) (v : Value) : Chg lo hi w (w'.setCell ⟨g, i, none⟩ v) :=
  h.trans ⟨rfl, rfl, rfl, by simp [World.setCell], fun k hk hn => Below.heap_setCell _ _ _ _ (by simp; omega)⟩
theorem chg_drewN {lo hi : Nat} {w w' : World} (h : Chg lo hi w w') (q : Nat) : Chg lo hi w (w'.drewN q) := ⟨h.os, h.tape, h.output, h.size, h.block⟩

/-- What a draw leaves: the number, the source behind it; nothing else has turned. -/
def RetN (w0 w : World) (A : Option Addr) (n cap : Nat) (code : List Int) (g : Nat) (r : Int × St) (e : Ending) (w' : World) : Prop :=
  e = .returned (.int .i64 r.1) ∧ Src w0 w' A n cap code g r.2 ∧ Chg g (g + 1) w w'

theorem next_any (w0 : World) (A : Option Addr) (n cap : Nat) (code : List Int) (hcode : Code0 w0 A n code) (g : Nat) (s : St) (k : Int) (hk : k ≤ 1099511627776) (w : World) (h : Src w0 w A n cap code g s) :
    Calls Tryz.prog 29 #[.pointer (some ⟨g, 0, none⟩), .int .i64 k] w (RetN w0 w A n cap code g (nextF code s k)) := by
  have HL := Lib.hid hcode.len
  have hn4 := hcode.n4
  obtain ⟨at_, seed⟩ := s
  by_cases hk1 : k ≤ 1
  · have e1 : nextF code (at_, seed) k = (0, (at_, seed)) := by unfold nextF; rw [if_pos hk1]
    rw [e1]; clear e1
    go_enter Tryz.func29, Tryz.ntmps29
    go_wp2_with fail
    go_ret
    exact ⟨rfl, h, Chg.refl _ _ _⟩
  · obtain ⟨hat, hs0, hs1⟩ := h.ok
    simp only at hat hs0 hs1
    obtain ⟨hh0, hh1⟩ := stepH_bd seed
    have h2 := h.seed (stepH seed) hh0 hh1
    have hc2 : Chg g (g + 1) w (w.setCell ⟨g, 2, none⟩ (.int .i64 (stepH seed))) := chg_set (Chg.refl _ _ _) (Nat.le_refl _) (by omega) _
    have HST := Lib.hid (show stepH seed = (seed * 48271 + 23) % 2147483647 from rfl)
    have f0 := h.c0; have f1 := h.c1; have f2 := h.c2; have z2 := h.fz 2
    simp only at f0 f1 f2
    rw [HST.out] at h2 hc2 hh0 hh1
    have H2 := Lib.hid h2; have HC2 := Lib.hid hc2
    clear h2 hc2
    go_enter Tryz.func29, Tryz.ntmps29
    go_wp2_with fail
    obtain ⟨hz, hzv⟩ : ∃ z, z = (seed * 48271 + 23) % 2147483647 := ⟨_, rfl⟩
    rw [← hzv] at H2 HC2 hh0 hh1 HST
    rw [← hzv]
    obtain ⟨w1, hw1⟩ : ∃ x, x = w.setCell ⟨g, 2, none⟩ (.int .i64 hz) := ⟨_, rfl⟩
    rw [← hw1] at H2 HC2
    rw [← hw1]
    clear hzv hw1 f0 f1 f2 z2
    have f0 := H2.out.c0; have f1 := H2.out.c1; have z1 := H2.out.fz 1
    simp only at f0 f1
    have hk2 : 2 ≤ k := by omega
    have hz17 : 0 ≤ hz / 17 ∧ hz / 17 ≤ 126322567 := by omega
    obtain ⟨hz1, hz2⟩ := hz17
    have hko := HL.out
    rw [hko] at hat
    clear hko
    by_cases hlt : at_ < n
    · have hd : decide ((at_ : Int) < n) = true := by simpa using hlt
      obtain ⟨b, o, cc, rfl, hcc, hc0, hc1, hcell⟩ := hcode.at_ H2.out.bel hlt
      have HCC := Lib.hid hcc; clear hcc
      go_quiet (fail)
      obtain ⟨wq, hwq⟩ : ∃ x, x = w1.drewN nq := ⟨_, rfl⟩
      replace H2 := Lib.hid (H2.out.drewN nq); replace HC2 := Lib.hid (chg_drewN HC2.out nq)
      rw [← hwq] at H2 HC2
      rw [← hwq]
      clear hwq f0 f1 z1 hcell nq w1
      obtain ⟨w1, rfl⟩ : ∃ x, x = wq := ⟨_, rfl⟩
      have f0 := H2.out.c0; have f1 := H2.out.c1; have z1 := H2.out.fz 1
      simp only at f0 f1
      obtain ⟨b', o', c2, hb', hc2, _, _, hcell⟩ := hcode.at_ H2.out.bel hlt
      obtain ⟨rfl, rfl⟩ : b = b' ∧ o = o' := by injection hb' with hb'; injection hb' with e1 e2; exact ⟨e1, e2⟩
      obtain rfl : cc = c2 := by rw [HCC.out] at hc2; injection hc2
      clear hb' hc2
      go_wp2_with fail
      have HS := Lib.hid (show IntKind.i64.wrap (hz / 17 + cc) = hz / 17 + cc from IntWalk.i64_in _ (by omega))
      have hs := HS.out
      go_quiet (fail)
      clear hs
      obtain ⟨w2, hw2⟩ : ∃ x, x = w1.drewN nq := ⟨_, rfl⟩
      have H3 := Lib.hid (H2.out.drewN nq); have HC3 := Lib.hid (chg_drewN HC2.out nq)
      rw [← hw2] at H3 HC3
      rw [← hw2]
      clear hw2 f0 f1 z1 hcell
      have f0 := H3.out.c0; have f1 := H3.out.c1; have z1 := H3.out.fz 1
      simp only at f0 f1
      have H4 := Lib.hid (H3.out.at1 (at_ + 1) (by rw [HL.out]; omega))
      have HC4 := Lib.hid (chg_set (i := 1) HC3.out (Nat.le_refl _) (by omega) (.int .i64 ((at_ + 1 : Nat) : Int)))
      simp only [Int.natCast_add, Int.cast_ofNat_Int] at H4 HC4
      by_cases h256 : k ≤ 256
      · by_cases hpar : ((at_ : Int) + 1) % 2 = 0
        · have hb1 : (((at_ : Int) + 1) % 2 == 0) = true := by simpa using hpar
          go_wp2_with fail
          obtain ⟨w3, hw3⟩ : ∃ x, x = w2.setCell ⟨g, 1, none⟩ (.int .i64 ((at_ : Int) + 1)) := ⟨_, rfl⟩
          rw [← hw3] at H4 HC4
          rw [← hw3]
          clear hw3 f0 f1 z1
          have f0 := H4.out.c0; have f1 := H4.out.c1
          simp only [Int.natCast_add, Int.cast_ofNat_Int] at f0 f1
          obtain ⟨b', o', c2, hb', hc2, _, _, hcell⟩ := hcode.at_ H4.out.bel hlt
          obtain ⟨rfl, rfl⟩ : b = b' ∧ o = o' := by injection hb' with hb'; injection hb' with e1 e2; exact ⟨e1, e2⟩
          obtain rfl : cc = c2 := by rw [HCC.out] at hc2; injection hc2
          clear hb' hc2
          have HS2 := Lib.hid (show IntKind.i64.wrap ((at_ : Int) + 1 - 1) = (at_ : Int) by rw [IntWalk.i64_in _ (by omega)]; omega)
          have hs := HS2.out
          go_quiet (fail)
          clear hs
          go_wp2_with fail
          go_ret
          have e1 : nextF code (at_, seed) k = (cc % k, (at_ + 1, hz)) := by
            unfold nextF
            rw [if_neg (by omega), if_pos (by rw [HL.out]; exact hlt), if_pos ⟨h256, by simp only; omega⟩, HST.out]
            simp only [List.getD_eq_getElem?_getD]
            rw [HCC.out]; rfl
          rw [e1]
          exact ⟨rfl, H4.out.drewN _, chg_drewN HC4.out _⟩
        · have hb1 : (((at_ : Int) + 1) % 2 == 0) = false := by simpa using hpar
          go_wp2_with fail
          go_ret
          have e1 : nextF code (at_, seed) k = ((hz / 17 + cc) % k, (at_ + 1, hz)) := by
            unfold nextF
            rw [if_neg (by omega), if_pos (by rw [HL.out]; exact hlt), if_neg (by simp only; omega), HST.out]
            simp only [List.getD_eq_getElem?_getD]
            rw [HCC.out]; rfl
          rw [e1]
          exact ⟨rfl, H4.out, HC4.out⟩
      · go_wp2_with fail
        go_ret
        have e1 : nextF code (at_, seed) k = ((hz / 17 + cc) % k, (at_ + 1, hz)) := by
          unfold nextF
          rw [if_neg (by omega), if_pos (by rw [HL.out]; exact hlt), if_neg (by omega), HST.out]
          simp only [List.getD_eq_getElem?_getD]
          rw [HCC.out]; rfl
        rw [e1]
        exact ⟨rfl, H4.out, HC4.out⟩
    · have hd : decide ((at_ : Int) < n) = false := by simpa using hlt
      go_quiet (fail)
      go_wp2_with fail
      go_ret
      have e1 : nextF code (at_, seed) k = (hz / 17 % k, (at_, hz)) := by
        unfold nextF
        rw [if_neg (by omega), if_neg (by rw [HL.out]; exact hlt), HST.out]
      rw [e1]
      exact ⟨rfl, H2.out.drewN _, chg_drewN HC2.out _⟩

/-- A new source. -/
def RetSrc (w0 w : World) (A : Option Addr) (n cap : Nat) (code : List Int) (s : St) (e : Ending) (w' : World) : Prop :=
  ∃ g, e = .returned (.pointer (some ⟨g, 0, none⟩)) ∧ Src w0 w' A n cap code g s ∧ w.heap.size ≤ g ∧ Below w.heap.size w w'
theorem from_any (w0 : World) (A : Option Addr) (n cap : Nat) (code : List Int) (hcode : Code0 w0 A n code) (w : World) (hb : Below w0.heap.size w0 w) :
    Calls Tryz.prog 27 #[.slice A n cap] w (RetSrc w0 w A n cap code (fromF code)) := by
  have HL := Lib.hid hcode.len
  have hn4 := hcode.n4
  have hs0 : Src w0 (w.alloc (.cells #[.slice A n cap, .int .i64 0, .int .i64 61657] 88)) A n cap code w.heap.size (0, 61657) :=
    ⟨heap_alloc_new w _, hb.size, hb.alloc hb.size _, Nat.zero_le _, by decide, by decide⟩
  have hb0 : Below w.heap.size w (w.alloc (.cells #[.slice A n cap, .int .i64 0, .int .i64 61657] 88)) := (Below.refl _ _).alloc (Nat.le_refl _) _
  have HS0 := Lib.hid hs0; have HB0 := Lib.hid hb0
  clear hs0 hb0
  go_enter Tryz.func27, Tryz.ntmps27
  go_wp2_with fail
  go_loopw [4] (fun i wr => ∃ (k : Nat) (seed : Int), k ≤ n ∧ k ≤ 64 ∧ i = .int .i64 k ∧ Src w0 wr A n cap code w.heap.size (0, seed) ∧ fromGo ((code.take 64).drop k) seed = fromGo (code.take 64) 61657 ∧ Below w.heap.size w wr) (fun i _ => n - (intOf i).toNat)
  case atStart => exact ⟨0, 61657, Nat.zero_le _, by omega, rfl, HS0.out, rfl, HB0.out⟩
  case round =>
    clear HS0 HB0
    obtain ⟨k, seed, hk, hk64, rfl, hs, hr, hbl⟩ := hrel
    have HR := Lib.hid hr; clear hr
    obtain ⟨_, hsd0, hsd1⟩ := hs.ok
    simp only at hsd0 hsd1
    have hfin : ¬ (k < n ∧ k < 64) → seed = fromGo (code.take 64) 61657 := by
      intro hn
      rw [← HR.out, List.drop_eq_nil_of_le (by rw [List.length_take, HL.out]; omega)]; rfl
    have HFIN := Lib.hid hfin; clear hfin
    by_cases hlt : k < n
    · by_cases hlt64 : k < 64
      · obtain ⟨b, o, c, rfl, hcc, hc0, hc1, hcell⟩ := hcode.at_ hs.bel hlt
        have hd : (code.take 64).drop k = c :: (code.take 64).drop (k + 1) := by
          obtain ⟨x, h1, h2⟩ := drop_cons (xs := code.take 64) (k := k) (by rw [List.length_take, HL.out]; omega)
          rw [List.getElem?_take, if_pos hlt64, hcc] at h1
          injection h1 with h1
          rw [h2, h1]
        have HD := Lib.hid hd; clear hd hcc
        have f2 := hs.c2; have z2 := hs.fz 2
        simp only at f2
        have h2 := hs.seed ((seed * 53 + c) % 2147483647) (by omega) (by omega)
        have hb2 := hbl.setCell (p := ⟨w.heap.size, 2, none⟩) (Nat.le_refl _) (.int .i64 ((seed * 53 + c) % 2147483647))
        have H2 := Lib.hid h2; have HB2 := Lib.hid hb2
        clear h2 hb2
        go_wp2_with fail
        go_region
        go_wp2_with fail
        go_roundw
        case rel => exact ⟨k + 1, _, by omega, by omega, by go_num, H2.out.drewN 1, by rw [← HR.out, HD.out, fromGo], HB2.out.drew⟩
        case measure => simp [intOf]; omega
      · go_wp2_with fail
        go_ret
        exact ⟨_, rfl, by rw [fromF, ← HFIN.out (by omega)]; exact hs, Nat.le_refl _, hbl⟩
    · go_wp2_with fail
      go_ret
      exact ⟨_, rfl, by rw [fromF, ← HFIN.out (by omega)]; exact hs, Nat.le_refl _, hbl⟩
end Go.Proofs.YtnpldahkhaacnaaGreatDoor

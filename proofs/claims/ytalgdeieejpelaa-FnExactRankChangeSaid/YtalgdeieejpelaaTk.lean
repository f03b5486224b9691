/- Plain memory: a row is appended to both columns of a table of one's own. -/
import Derived.Test.YtalgdeieejpelaaTa
import Derived.Test.YtalgdeieejpelaaAp
namespace Go.Proofs.Ytalgdeieejpelaa
open Go.RowKit
set_option linter.unusedVariables false

theorem OwnRows.grown {w w' : World} {base eo ei n c : Nat} {A : Option Addr} {vs : List Value} {rows : List (List Int)} {r : Option Nat} (h : OwnRows w base eo ei A n c vs rows) (hg : w.grownBy w' r)
    (h1 : ∀ b, (Value.slice A n c).ownBlock = some b → r ≠ some b) (h2 : ∀ v ∈ vs, ∀ b, v.ownBlock = some b → r ≠ some b) : OwnRows w' base eo ei A n c vs rows := by
  have key : ∀ (u : Value) (e m : Nat) (zs : List Value), w.ownsRow base e 1 u m zs → (∀ b, u.ownBlock = some b → r ≠ some b) → w'.ownsRow base e 1 u m zs := by
    intro u e m zs hu hr
    refine hu.kept hg ?_
    rcases hb : u.ownBlock with _ | b
    · exact .inl rfl
    · exact .inr (fun he => hr b hb he.symm)
  exact ⟨key _ _ _ _ h.outer h1, h.len, fun i v xs e1 e2 => by
    obtain ⟨A', c', e, ho⟩ := h.row i v xs e1 e2
    exact ⟨A', c', e, key _ _ _ _ ho (h2 v (List.mem_of_getElem? e1))⟩, h.apart⟩
theorem OwnRows.row_ty {w : World} {base eo ei n c : Nat} {A : Option Addr} {vs : List Value} {rows : List (List Int)} (h : OwnRows w base eo ei A n c vs rows) {v : Value} (hv : v ∈ vs) : ∃ m zs, w.ownsRow base ei 1 v m zs := by
  obtain ⟨k, hk⟩ := List.mem_iff_getElem?.1 hv
  have hkn : k < n := by have := (List.getElem?_eq_some_iff.1 hk).1; rw [h.vlen] at this; exact this
  obtain ⟨u, A2, c2, xs, h1, h2, _, e, ho⟩ := h.get hkn
  obtain rfl : v = u := by rw [hk] at h1; injection h1
  exact ⟨_, _, by rw [e]; exact ho⟩
/-- A row is appended to own rows: where all lies. -/
structure Pushed (wr w' : World) (base : Nat) (A : Option Addr) (n c : Nat) (vs : List Value) (rows : List (List Int)) (ga ca g1 c1 : Nat) (p : List Int) : Prop where
  own : OwnRows w' base 26 2 (some ⟨ga, 0, none⟩) (n + 1) ca (vs ++ [.slice (some ⟨g1, 0, none⟩) p.length c1]) (rows ++ [p])
  lies : (Value.slice A n c).ownBlock = some ga ∨ wr.heap.size ≤ ga
  new : wr.heap.size ≤ g1 ∧ g1 < w'.heap.size
  ltA : ga < w'.heap.size
  size : wr.heap.size ≤ w'.heap.size
  keep : ∀ b, b < wr.heap.size → (Value.slice A n c).ownBlock ≠ some b → w'.heap[b]? = wr.heap[b]?
  frame : w'.os = wr.os ∧ w'.tape = wr.tape ∧ w'.output = wr.output
theorem push_row {wr wq w5 : World} {base b1 n c ga ca g1 c1 : Nat} {A : Option Addr} {vs : List Value} {rows : List (List Int)} {p : List Int} {o1 : Obj} (h : OwnRows wr base 26 2 A n c vs rows) (hbs : base ≤ wr.heap.size)
    (hb : Below wr.heap.size wr wq) (og : wq.ownsRow b1 2 1 (.slice (some ⟨g1, 0, none⟩) p.length c1) p.length (ints p)) (hg1 : wr.heap.size ≤ g1) (hb1 : base ≤ b1)
    (hga : (wq.alloc o1).grownBy w5 (Value.slice A n c).ownBlock) (ho : w5.ownsRow base 26 1 (.slice (some ⟨ga, 0, none⟩) (n + 1) ca) (n + 1) (vs ++ [.slice (some ⟨g1, 0, none⟩) p.length c1]))
    (hla : (Value.slice A n c).ownBlock = some ga ∨ ga = (wq.alloc o1).heap.size) : Pushed wr w5 base A n c vs rows ga ca g1 c1 p := by
  have hin := h.in_
  have hs := hb.size
  have hs5 := hga.size
  simp only [World.size_alloc] at hs5
  have hlt := (og.lt g1 rfl).2
  refine ⟨OwnRows.append (h.below hb) (by decide) (own_base og hb1) (fun u hu b hb' hub => ?_) o1 hga ho, ?_, ⟨hg1, by omega⟩, (ho.lt ga rfl).2, by omega, fun b hbl hne => ?_, ⟨hga.os.trans hb.os, hga.tape.trans hb.tape, hga.output.trans hb.output⟩⟩
  · have e : b = g1 := by simp [Value.ownBlock] at hb'; exact hb'.symm
    have := hin.2 u hu b hub
    omega
  · rcases hla with hla | hla
    · exact .inl hla
    · right; rw [hla]; simp; omega
  · have h2 := hga.block b (by simp; omega) (fun e => hne e.symm)
    rw [h2, ((Below.refl _ wq).alloc (Nat.le_refl _) o1).block b (by omega)]
    exact hb.block b hbl
/-- .. the world ahead of the append however it came about. -/
theorem push_row0 {wr wd w5 : World} {base b1 n c ga ca g1 c1 : Nat} {A : Option Addr} {vs : List Value} {rows : List (List Int)} {p : List Int} (h : OwnRows wr base 26 2 A n c vs rows) (hbs : base ≤ wr.heap.size)
    (hb : Below wr.heap.size wr wd) (og : wd.ownsRow b1 2 1 (.slice (some ⟨g1, 0, none⟩) p.length c1) p.length (ints p)) (hg1 : wr.heap.size ≤ g1) (hb1 : base ≤ b1)
    (hga : wd.grownBy w5 (Value.slice A n c).ownBlock) (ho : w5.ownsRow base 26 1 (.slice (some ⟨ga, 0, none⟩) (n + 1) ca) (n + 1) (vs ++ [.slice (some ⟨g1, 0, none⟩) p.length c1]))
    (hla : (Value.slice A n c).ownBlock = some ga ∨ ga = wd.heap.size) : Pushed wr w5 base A n c vs rows ga ca g1 c1 p := by
  have hin := h.in_
  have hs := hb.size
  have hs5 := hga.size
  have hlt := (og.lt g1 rfl).2
  have hW := h.below hb
  have og0 := own_base og hb1
  refine ⟨⟨ho, by simp [h.len], ?_, ?_⟩, ?_, ⟨hg1, by omega⟩, (ho.lt ga rfl).2, by omega, fun b hbl hne => ?_, ⟨hga.os.trans hb.os, hga.tape.trans hb.tape, hga.output.trans hb.output⟩⟩
  · have keep : ∀ (u : Value) (m : Nat) (zs : List Value), wd.ownsRow base 2 1 u m zs → w5.ownsRow base 2 1 u m zs := by
      intro u m zs hu
      refine hu.kept hga ?_
      rcases hb : u.ownBlock with _ | b
      · exact .inl rfl
      · exact .inr (fun he => own_type_ne hW.outer hu (by decide) b he.symm hb)
    intro i u zs h1 h2
    by_cases hi : i < n
    · rw [List.getElem?_append_left (by rw [h.vlen]; exact hi)] at h1
      rw [List.getElem?_append_left (by rw [h.len]; exact hi)] at h2
      obtain ⟨A'', c'', e, hr⟩ := hW.row i u zs h1 h2
      exact ⟨A'', c'', e, keep _ _ _ hr⟩
    · rw [List.getElem?_append_right (by rw [h.vlen]; omega), h.vlen] at h1
      rw [List.getElem?_append_right (by rw [h.len]; omega), h.len] at h2
      have h0 : i - n = 0 := by
        rcases Nat.eq_zero_or_pos (i - n) with h | h
        · exact h
        · rw [List.getElem?_eq_none (by simp; omega)] at h1; cases h1
      rw [h0] at h1 h2
      simp at h1 h2
      subst h1; subst h2
      exact ⟨_, c1, rfl, keep _ _ _ og0⟩
  · intro i j u v hij h1 h2 b hb hb'
    have split : ∀ (q : Nat) (x : Value), (vs ++ [Value.slice (some ⟨g1, 0, none⟩) p.length c1])[q]? = some x → (q < n ∧ vs[q]? = some x) ∨ (q = n ∧ x = .slice (some ⟨g1, 0, none⟩) p.length c1) := by
      intro q x hx
      by_cases hq : q < n
      · rw [List.getElem?_append_left (by rw [h.vlen]; exact hq)] at hx; exact .inl ⟨hq, hx⟩
      · rw [List.getElem?_append_right (by rw [h.vlen]; omega), h.vlen] at hx
        have h0 : q - n = 0 := by
          rcases Nat.eq_zero_or_pos (q - n) with h | h
          · exact h
          · rw [List.getElem?_eq_none (by simp; omega)] at hx; cases hx
        rw [h0] at hx
        simp at hx
        exact .inr ⟨by omega, hx.symm⟩
    have isg : ∀ b, (Value.slice (some ⟨g1, 0, none⟩) p.length c1).ownBlock = some b → b = g1 := fun b e => by simp [Value.ownBlock] at e; exact e.symm
    rcases split i u h1 with ⟨hi, hu⟩ | ⟨hi, rfl⟩ <;> rcases split j v h2 with ⟨hj, hv⟩ | ⟨hj, rfl⟩
    · exact h.apart i j u v hij hu hv b hb hb'
    · have := (hin.2 u (List.mem_of_getElem? hu) b hb).2; have := isg b hb'; omega
    · have := (hin.2 v (List.mem_of_getElem? hv) b hb').2; have := isg b hb; omega
    · omega
  · rcases hla with hla | hla
    · exact .inl hla
    · right; omega
  · have h2 := hga.block b (by omega) (fun e => hne e.symm)
    rw [h2]
    exact hb.block b hbl
/-- Both columns, one behind the other. -/
theorem push_two {wr w5 w9 : World} {base n c d ga ca gb cb g1 c1 g2 c2 : Nat} {A C : Option Addr} {vs us : List Value} {pts cds : List (List Int)} {B : Int} {p q : List Int}
    (h : OwnT wr base A n c vs C n d us ⟨B, pts, cds⟩) (hbs : base ≤ wr.heap.size)
    (h1 : Pushed wr w5 base A n c vs pts ga ca g1 c1 p)
    (h2 : OwnRows w5 base 26 2 C n d us cds → Pushed w5 w9 base C n d us cds gb cb g2 c2 q) :
    OwnT w9 base (some ⟨ga, 0, none⟩) (n + 1) ca (vs ++ [.slice (some ⟨g1, 0, none⟩) p.length c1]) (some ⟨gb, 0, none⟩) (n + 1) cb (us ++ [.slice (some ⟨g2, 0, none⟩) q.length c2]) ⟨B, pts ++ [p], cds ++ [q]⟩ := by
  have hpi := h.pts.in_
  have hci := h.cds.in_
  have hg5 : wr.grownBy w5 (Value.slice A n c).ownBlock := ⟨h1.frame.1, h1.frame.2.1, h1.frame.2.2, h1.size, fun k hk hn => h1.keep k hk (fun e => hn e.symm)⟩
  have hcd5 : OwnRows w5 base 26 2 C n d us cds := h.cds.grown hg5 (fun b hb e => h.apO b e hb) (fun v hv b hb e => by
    obtain ⟨m, zs, ho⟩ := h.cds.row_ty hv
    exact own_type_ne h.pts.outer ho (by decide) b e hb)
  have h2 := h2 hcd5
  have hg9 : w5.grownBy w9 (Value.slice C n d).ownBlock := ⟨h2.frame.1, h2.frame.2.1, h2.frame.2.2, h2.size, fun k hk hn => h2.keep k hk (fun e => hn e.symm)⟩
  have hne : ∀ b, (Value.slice C n d).ownBlock = some b → ga ≠ b := by
    rintro b hb rfl
    rcases h1.lies with e | e
    · exact h.apO ga e hb
    · have := (hci.1 ga hb).2; omega
  refine ⟨h1.own.grown hg9 (fun b hb e => ?_) (fun v hv b hb e => ?_), h2.own, ?_, ?_⟩
  · have e2 : ga = b := by simp [Value.ownBlock] at hb; exact hb
    exact hne b e e2
  · obtain ⟨m, zs, ho⟩ := h1.own.row_ty hv
    exact own_type_ne hcd5.outer ho (by decide) b e hb
  · intro g hg hg'
    have e1 : ga = g := by simpa [Value.ownBlock] using hg
    have e2 : gb = g := by simpa [Value.ownBlock] using hg'
    rcases h2.lies with e | e
    · exact hne gb e (by omega)
    · have := h1.ltA; omega
  · intro v hv u hu g hg hg'
    have hgl : g < w5.heap.size := by
      obtain ⟨m, zs, ho⟩ := h1.own.row_ty hv
      exact (ho.lt g hg).2
    rcases List.mem_append.1 hu with hu | hu
    · rcases List.mem_append.1 hv with hv | hv
      · exact h.apR v hv u hu g hg hg'
      · simp at hv; subst hv
        have e1 : g1 = g := by simpa [Value.ownBlock] using hg
        have := (hci.2 u hu g hg').2
        have := h1.new.1
        omega
    · simp at hu; subst hu
      have e1 : g2 = g := by simpa [Value.ownBlock] using hg'
      have := h2.new.1
      omega
theorem Pushed.below {wr w' : World} {base n c ga ca g1 c1 : Nat} {A : Option Addr} {vs : List Value} {rows : List (List Int)} {p : List Int} (h : Pushed wr w' base A n c vs rows ga ca g1 c1 p) (ho : OwnRows wr base 26 2 A n c vs rows) (hb : base ≤ wr.heap.size) : Below base wr w' :=
  ⟨h.frame.1, h.frame.2.1, h.frame.2.2, h.size, fun k hk => h.keep k (by omega) (fun e => by have := (ho.in_.1 k e).1; omega)⟩
end Go.Proofs.Ytalgdeieejpelaa

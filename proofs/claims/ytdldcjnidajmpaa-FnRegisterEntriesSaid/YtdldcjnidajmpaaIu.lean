/- Walks: the library's Collect and SortedFunc over the entries of a slice. -/
import Derived.Test.YtdldcjnidajmpaaIt
import Derived.Test.YtdldcjnidajmpaaSe
namespace Go.Proofs.Ytdldcjnidajmpaa
open Go.RowKit Go.Shelf Go.Sort
set_option linter.unusedVariables false
set_option maxRecDepth 100000
attribute [local go_sem] Oper.semAt_some

theorem box_boxed {W : World} {B : Nat} {t : TypeId} {v : Value} (h : Boxed W B t v) : Box W B #[v] t := h
/-- What a round finds of its variable. -/
def AxE (s0 : Nat) (fv : Value) (x : EntryT) (a' : Act) (W : World) : Prop :=
  ∃ Bx, s0 < Bx ∧ Box W Bx (entC x).toArray 66 ∧ a' = { tmps := #[.slice none 0 0, fv, .pointer (some ⟨s0, 0, none⟩), undef, .slice none 0 0, .pointer (some ⟨Bx, 0, none⟩), fv, .agg (entC x).toArray, undef, undef, undef, undef, undef], defers := [] }
set_option maxHeartbeats 4000000 in
theorem appendSeq_in (F : Fence) (n : Nat) (hF : F.fn 137) (hro : F.round = none) (hn : 3 ≤ n) (g : Nat) (lb : Array Value) (hFg : F.fn g) (eg : ∀ args w, (callFunc g args).run Try.prog w = .ok (.enter g args) w)
    (Sp : List EntryT → Prop) (N : Nat) (hN : N ≤ 1048576) (xs : List EntryT) (w : World) (hseq : SeqStopsK F (n - 1) Try.prog g lb aggE (Below w.heap.size) (fun ys => ys = xs) Sp N w) :
    CallsIn F n Try.prog 137 #[.slice none 0 0, .func (.func g) #[] lb] w fun e W' => ∃ v, e = .returned v ∧ W'.ownsRow w.heap.size 66 7 v xs.length (ents xs) ∧ Below w.heap.size w W' := by
  have h1 : 1 ≤ n := by omega
  obtain ⟨i0, hi, hz0, hz1, hz2⟩ := info_parts Try.info_ent
  refine callsIn_of_wp_marks Try.func137 rfl hF ?_ hro
  simp only [Try.ntmps137, List.size_toArray, List.length_cons, List.length_nil, Nat.reduceAdd, Nat.reduceSub, Array.replicate_succ, Array.replicate_zero, List.push_toArray, List.append_toArray, List.nil_append, List.cons_append]
  gi_wp2
  have bO := Boxed.new w 49 (.slice none 0 0)
  have hB0 : Below w.heap.size w (w.alloc (.cells #[.slice none 0 0] 49)) := (Below.refl _ w).alloc (Nat.le_refl _) _
  refine wpIn_rangeFunc_ownH hro h1 (gf := g) (lb := lb) rfl hFg eg hseq belowK_t (belowK_b (by simp)) hB0 (fun _ => rfl)
    (fun pre W => (∃ v, Boxed W w.heap.size 49 v ∧ W.ownsRow w.heap.size 66 7 v pre.length (ents pre) ∧ True) ∧ Below w.heap.size w W)
    (fun _ _ _ => False)
    (OwnFrom.and (Own.from (holdsRow_own w.heap.size w.heap.size 49 66 7 (fun pre => pre.length) (fun pre => ents pre) (fun _ _ => True)) _) (ownFrom_below (Nat.le_refl _) (by simp)))
    (fun _ _ _ _ _ hs _ _ => hs)
    ⟨⟨_, bO, World.ownsRow_nil _ _ _ _, trivial⟩, hB0⟩
    (fun x a' W => AxE w.heap.size (.func (.func g) #[] lb) x a' W)
    (by
      rintro x a' s X Y row ⟨Bx, h1, hb, ha⟩ hg hr
      exact ⟨Bx, h1, (hg.block Bx hb.lt (fun e => by obtain ⟨_, o, ho, hc⟩ := hr Bx e.symm; rw [show X.heap[Bx]? = _ from hb] at ho; cases ho; cases hc)).trans hb, ha⟩) ?assign ?body ?done ?stop
  case assign =>
    rintro l pre ⟨x0, x1, x2, x3, x4, x5, x6⟩ W K ⟨⟨v, hv, hrow, _⟩, hB⟩ hK
    simp only [aggE, entC]
    gi_wp2
    exact hK _ _ ((KeepsOthers.alloc _ _).from _) ((Below.refl _ W).alloc hB.size _) ⟨⟨v, hv.alloc _, hrow.alloc _, trivial⟩, hB.alloc hB.size _⟩ ⟨W.heap.size, hv.lt, Box.new _ _ _, rfl⟩
  case body =>
    rintro l pre ⟨x0, x1, x2, x3, x4, x5, x6⟩ a' W hl hr ⟨⟨v, hv, hrow, _⟩, hB⟩ ⟨Bx, hBx, hbx, rfl⟩ hlt
    have hc := hv.cell
    have hbx' : Box W Bx #[.int .i64 x0, .int .i64 x1, .int .i64 x2, .int .i64 x3, .int .i64 x4, .int .i64 x5, .int .i64 x6] 66 := hbx
    obtain ⟨e0, e1, e2, e3, e4, e5, e6, _⟩ := hbx'.f7
    simp only [entC]
    gi_wp2_with (gi_at_builtin; refine wpListIn_append_own _ rfl _ _ 49 rfl w.heap.size 66 i0 (.agg #[.int .i64 0, .int .i64 0, .int .i64 0, .int .i64 0, .int .i64 0, .int .i64 0, .int .i64 0]) 7 56 Try.underlying49 hi hz0 hz1 hz2 rfl (by decide) _ _ _ rfl (hrow.alloc _) ⟨W.heap.size, 0, none⟩ 1 1 [.int .i64 x0, .int .i64 x1, .int .i64 x2, .int .i64 x3, .int .i64 x4, .int .i64 x5, .int .i64 x6] rfl rfl (World.news_of_block (cs := #[.int .i64 x0, .int .i64 x1, .int .i64 x2, .int .i64 x3, .int .i64 x4, .int .i64 x5, .int .i64 x6]) (heap_alloc_new _ _)) (by intro u hu; simp at hu; rcases hu with rfl | rfl | rfl | rfl | rfl | rfl | rfl <;> rfl) (by unfold maxLen; omega) (by omega) (by have := hB.size; simp; omega) ?_; intro v' w1 hown' hgrow _; obtain ⟨g', cap', rfl⟩ := ownsRow_succ hown'; obtain ⟨hv1, hv2, hr2, hk2, hb2⟩ := hv.appended (by decide) hrow hB.size (Nat.le_refl _) hown' hgrow; have hc1 := hv1.cell; have hf1 := hv1.frozen)
    have ee : ents (pre ++ [(x0, x1, x2, x3, x4, x5, x6)]) = ents pre ++ [.int .i64 x0, .int .i64 x1, .int .i64 x2, .int .i64 x3, .int .i64 x4, .int .i64 x5, .int .i64 x6] := by unfold ents; rw [List.flatMap_append]; rfl
    exact ⟨hk2.from _, hb2, ⟨_, hv2, by rw [ee, List.length_append]; exact hr2, trivial⟩, hB.trans hb2⟩
  case done =>
    rintro D ys W hD rfl ⟨⟨v, hv, hrow, _⟩, hB⟩ hK
    have hc := hv.cell
    gi_wp2
    refine ⟨by simp, .inl ⟨_, _, rfl, run_takeDeferred hK, ?_⟩⟩
    exact ⟨_, results_tmp rfl _ _ _, v, rfl, ownsRow_putObj hrow _ hK rfl, hB.trans (belowK_b (w := w) (Nat.le_refl _) W D _ _ (by simp at hD; omega) hK rfl rfl)⟩
  case stop =>
    rintro D c pre W _ _ h _
    exact h.elim
set_option maxHeartbeats 1000000 in
theorem collect_in (F : Fence) (n : Nat) (hC : F.fn 129) (hF : F.fn 137) (hro : F.round = none) (hn : 4 ≤ n) (g : Nat) (lb : Array Value) (hFg : F.fn g) (eg : ∀ args w, (callFunc g args).run Try.prog w = .ok (.enter g args) w)
    (Sp : List EntryT → Prop) (N : Nat) (hN : N ≤ 1048576) (xs : List EntryT) (w : World) (hseq : SeqStopsK F (n - 1 - 1) Try.prog g lb aggE (Below w.heap.size) (fun ys => ys = xs) Sp N w) :
    CallsIn F n Try.prog 129 #[.func (.func g) #[] lb] w fun e W' => ∃ v, e = .returned v ∧ W'.ownsRow w.heap.size 66 7 v xs.length (ents xs) ∧ Below w.heap.size w W' := by
  have h1 : 1 ≤ n := by omega
  refine callsIn_of_wp Try.func129 rfl hC ?_ hro
  simp only [Try.ntmps129, List.size_toArray, List.length_cons, List.length_nil, Nat.reduceAdd, Nat.reduceSub, Array.replicate_succ, Array.replicate_zero, List.push_toArray, List.append_toArray, List.nil_append, List.cons_append]
  gi_wp2_with (gi_at_call 137; refine (appendSeq_in F (n - 1) hF hro (by omega) g lb hFg eg Sp N hN xs _ hseq).mono ?_; rintro e w' ⟨v, rfl, hrow, hb⟩)
  go_ret
  exact ⟨v, rfl, hrow, hb⟩
/-- slices.Collect of the iterator over a slice: a copy. -/
theorem collect_any (A : Option Addr) (len cap : Nat) (xs : List EntryT) (hlen : len ≤ 1048576) (Bs : Nat) (w : World) (hc : w.cell? ⟨Bs, 0, none⟩ = some (.slice A len cap)) (hr : Rd w 7 A len (ents xs)) :
    Calls Try.prog 129 #[.func (.func 131) #[] #[.pointer (some ⟨Bs, 0, none⟩)]] w fun e W' => ∃ v, e = .returned v ∧ W'.ownsRow w.heap.size 66 7 v len (ents xs) ∧ Below w.heap.size w W' := by
  have hbs : Bs < w.heap.size := cell_lt hc
  have hl := hr.len_ent
  have h := collect_in Fence.wide 9 trivial trivial rfl (by omega) 131 #[.pointer (some ⟨Bs, 0, none⟩)] trivial (enters_of Try.func131 (by kernel_rfl) rfl) (fun pre => pre <+: xs) len hlen xs w
    (values_stops Fence.wide 7 trivial rfl (by omega) Bs w.heap.size A len cap xs w hbs (Nat.le_refl _) hc hr (fun h0 b o e => by
      obtain ⟨b', o', x0, x1, x2, x3, x4, x5, x6, e', _, _, c0, _⟩ := hr.ent (k := 0) h0
      rw [e] at e'
      injection e' with e'
      injection e' with e' _
      subst e'
      exact cell_lt c0))
  rw [hl] at h
  exact callsIn_wide.1 h
/-- slices.SortedFunc over a slice's iterator: a sorted copy. -/
def RetSorted (w : World) (xs : List EntryT) (e : Ending) (w' : World) : Prop :=
  ∃ A n c ys, e = .returned (.slice A n c) ∧ ys.Perm xs ∧ (ys.Pairwise fun x y => keyE x ≤ keyE y) ∧ w'.ownsRow w.heap.size 66 7 (.slice A n c) n (ents ys) ∧ Below w.heap.size w w'
theorem own_is_slice {w : World} {base e s n : Nat} {v : Value} {xs : List Value} (h : w.ownsRow base e s v n xs) : ∃ A c, v = .slice A n c := by
  rcases h.2 with ⟨rfl, rfl⟩ | ⟨g, cap, cur, rfl, _⟩
  · exact ⟨none, 0, rfl⟩
  · exact ⟨some ⟨g, 0, none⟩, cap, rfl⟩
theorem sortedFunc_any (A : Option Addr) (len cap : Nat) (xs : List EntryT) (hok : ∀ x ∈ xs, okE x) (hlen : len ≤ 1048576) (Bs : Nat) (w : World) (hc : w.cell? ⟨Bs, 0, none⟩ = some (.slice A len cap)) (hr : Rd w 7 A len (ents xs)) :
    Calls Try.prog 92 #[.func (.func 131) #[] #[.pointer (some ⟨Bs, 0, none⟩)], .func (.func 94) #[] #[]] w (RetSorted w xs) := by
  have HC := Lib.hid (collect_any A len cap xs hlen Bs w hc hr)
  clear hc hr
  go_enter Try.func92, Try.ntmps92
  go_wp2_with fail
  refine HC.out.mono ?_
  rintro e w1 ⟨v, rfl, ho, hb⟩
  obtain ⟨A1, c1, rfl⟩ := own_is_slice ho
  have HS := Lib.hid (sortEnts_any _ A1 len c1 xs hok hlen w1 ho)
  have HB := Lib.hid hb
  have HO := Lib.hid ho
  clear ho hb HC
  go_wp2_with fail
  refine HS.out.mono ?_
  rintro e w2 ⟨rfl, ys, hp, hs, ho2, hg2⟩
  have HO2 := Lib.hid ho2
  have HB2 := Lib.hid (HB.out.grown hg2 HB.out.size (fun k hk => (HO.out.lt k hk).1))
  clear ho2 hg2 HS
  go_wp2_with fail
  go_ret
  exact ⟨_, _, _, ys, rfl, hp, hs, HO2.out, HB2.out⟩
end Go.Proofs.Ytdldcjnidajmpaa

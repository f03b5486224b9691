/- Walks: a drawn region inside a round of a range over a function, by the region theorem Rt. No Go function in sight. -/
import Derived.Test.YtalgdeieejpelaaRt
import Derived.OrdersIn
import Derived.OwnWalkIn
namespace Go.Proofs.Ytalgdeieejpelaa
open Go.RowKit
set_option linter.unusedVariables false

section
variable {P : Program} {ops : Array Oper} {Q : Exit → Act → World → Prop} {md : Region.Mode}

theorem rowsIn_round {l n : Nat} {row : String} {args : Array Value} {w : World} {R : Value → World → Prop} (h : Rows P row args w R) : Go.RowsIn (Fence.wide.inRound l) n P row args w R :=
  fun c cs _ => let ⟨v, w', r, s⟩ := h c cs; ⟨v, w', r, stepsIn_wide.2 s⟩
theorem callsIn_round {l n : Nat} {f : FuncId} {args : Array Value} {w : World} {R : Ending → World → Prop} (h : Calls P f args w R) : CallsIn (Fence.wide.inRound l) n P f args w R :=
  (callsIn_wide (n := n)).2 h
theorem wideRound_depth (l n : Nat) : (Fence.wide.inRound l).depth.isSome = true → 1 ≤ n := fun h => by simp [Fence.wide] at h
theorem Oper.wp_round {l n : Nat} {o : Oper} {a : Act} {w : World} {K : Act → World → Prop} (hnd : ∀ c, o.op ≠ .defer c) (h : o.wp P a w K Q) : o.wpIn (Fence.wide.inRound l) n P a w K Q := by
  unfold Go.Oper.wp at h
  unfold Go.Oper.wpIn
  refine ⟨fun _ _ => trivial, ?_⟩
  rw [Oper.semAt_eq _ _ _ hnd]
  generalize (execOp a.eval o).run P w = r at *
  cases r with
  | ok x w' =>
    cases x <;> simp only [Oper.upon, Oper.uponIn] at h ⊢ <;>
      first
        | exact h
        | exact ⟨wideRound_depth l n, callsIn_round h⟩
        | exact ⟨wideRound_depth l n, rowsIn_round h⟩
        | exact h.elim
  | halt x w' => cases x <;> simp only [Oper.upon, Oper.uponIn] at h ⊢ <;> exact h
theorem wpOp_round {l n i : Nat} {a : Act} {w : World} {K : Act → World → Prop} (hQ : ¬ LetsOut Q) (hnd : ∀ o, ops[i]? = some o → ∀ c, o.op ≠ .defer c) (h : wpOp P ops Q i K a w) :
    wpOpIn (Fence.wide.inRound l) n P ops Q i K a w := by
  unfold wpOp at h
  unfold wpOpIn
  cases ho : ops[i]? with
  | none => simpa [ho] using h
  | some o =>
    simp only [ho] at h ⊢
    by_cases hw : Region.wanted o (yielded ops a.tmps) = true
    · rw [if_pos hw] at h
      rw [if_pos hw]
      rcases h with h | h
      · exact Oper.wp_round (hnd o ho) h
      · exact absurd h.2 hQ
    · rw [if_neg hw] at h
      rw [if_neg hw]
      exact ⟨fun _ _ => trivial, h⟩
theorem wpAny_round {l n : Nat} (hQ : ¬ LetsOut Q) (hnd : ∀ (i : Nat) o, ops[i]? = some o → ∀ c, o.op ≠ .defer c) : ∀ (fuel : Nat) (listed : Array Bool) (a : Act) (w : World),
    wpAny P md ops Q fuel listed a w → wpAnyIn (Fence.wide.inRound l) n P md ops Q fuel listed a w
  | 0, _, _, _, h => h
  | fuel + 1, listed, a, w, h => ⟨h.1, fun i hi => wpOpIn_mono (fun a' w' h' => wpAny_round hQ hnd fuel _ a' w' h') (wpOp_round hQ (hnd i) (h.2 i hi))⟩
/-- No operation is a defer. -/
def ndB (ops : Array Oper) : Bool := ops.all fun o => match o.op with | .defer _ => false | _ => true
theorem ndB_spec (h : ndB ops = true) : ∀ (i : Nat) o, ops[i]? = some o → ∀ c, o.op ≠ .defer c := by
  intro i o ho c hc
  unfold ndB at h
  have h1 := (Array.all_eq_true'.1 h) o (Array.mem_of_getElem? ho)
  rw [hc] at h1
  cases h1
/-- The region goes on in its normal way alone. -/
def NormQ (Q : Exit → Act → World → Prop) : Exit → Act → World → Prop := fun e a w => match e with | .normal => Q .normal a w | _ => False
theorem wp_norm {c : Code} {a : Act} {w : World} (h : c.wp P (NormQ Q) a w) : c.wp P Q a w :=
  Code.wp_mono (fun e a w hq => by cases e <;> first | exact hq | exact hq.elim) h
theorem normQ_not : ¬ LetsOut (NormQ Q) := fun ⟨_, _, h⟩ => h
theorem wpIn_round_T2 (S : World → Prop) (late : Nat → Bool) {l m n : Nat} {id : Nat} {a : Act} {w : World} (hm : P.follows .mixedOrders = true) (hn : ops.size = n) (hnd : ndB ops = true)
    (h : ∀ ops', Hid (ops' = ops) → wpAnyT P .any ops' (NormQ Q) S late n (Array.replicate n false) a w.drew) : (Code.region id ops true).wpIn (Fence.wide.inRound l) m P Q a w := by
  subst hn
  exact Go.wpIn_mono (wpIn_region_any hm (wpAny_round normQ_not (ndB_spec hnd) _ _ _ _ (wpAny_of_T _ _ _ _ (h ops (Lib.hid rfl)))))
    (fun e a w hq => by cases e <;> first | exact hq | exact hq.elim)
/-- What holds with a condition holds without one: an operation that reads no memory may be taken ahead of it. -/
theorem wpAnyT_weaken {S : World → Prop} {late : Nat → Bool} : ∀ (fuel : Nat) (listed : Array Bool) (a : Act) (w : World), wpAnyT P md ops Q S late fuel listed a w → wpAnyT P md ops Q (fun _ => True) (fun _ => false) fuel listed a w
  | 0, _, _, _, h => h
  | fuel + 1, _, _, _, h => ⟨h.1, fun i hi => wpOp_mono (fun a' w' h' => ⟨.inr trivial, wpAnyT_weaken fuel _ a' w' h'.2⟩) (h.2 i hi)⟩
end
end Go.Proofs.Ytalgdeieejpelaa

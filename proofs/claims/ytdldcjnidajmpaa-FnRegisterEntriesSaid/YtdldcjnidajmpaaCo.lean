/- The code of a drawn law, as it came in. -/
import Derived.Test.YtdldcjnidajmpaaWd
namespace Go.Proofs.Ytdldcjnidajmpaa
open Go.RowKit
set_option linter.unusedVariables false

theorem IsRow.u8 {w : World} {a : Option Addr} {len cap : Nat} {zs : List Int} (h : IsRow .u8 w a len cap zs) : Rd w 1 a len (u8s (zs.take len)) ∧ ∀ c ∈ zs.take len, 0 ≤ c ∧ c ≤ 255 := by
  rcases h with ⟨rfl, rfl, rfl, rfl⟩ | ⟨x, rfl, h1, h2, h3, h4, h5⟩
  · exact ⟨⟨rfl, by omega, fun h => by omega⟩, fun c hc => by simp at hc⟩
  · unfold maxLen at h2
    refine ⟨⟨by simp [u8s]; omega, by omega, fun hn => ?_⟩, ?_⟩
    · have h0 := h4 0 (by omega)
      have hadd0 : x.add 0 = x := by simp [Addr.add]
      rw [hadd0] at h0
      obtain ⟨b, o, sp⟩ := x
      obtain rfl : sp = none := spot_none h0
      refine ⟨b, o, rfl, fun i u hu => ?_⟩
      have hlen : i < (u8s (zs.take len)).length := by
        rcases Nat.lt_or_ge i (u8s (zs.take len)).length with h | h
        · exact h
        · rw [List.getElem?_eq_none h] at hu; cases hu
      have hi : i < len := by simp [u8s] at hlen; omega
      have hc := h4 i (by omega)
      have hadd : (⟨b, o, none⟩ : Addr).add i = ⟨b, o + i, none⟩ := by unfold Addr.add; split <;> simp_all
      rw [hadd] at hc
      rw [hc, ← hu]
      simp [u8s, hi, List.getElem?_eq_getElem (show i < zs.length by omega)]
    · intro c hc
      have hw := h5 c (List.mem_of_mem_take hc)
      simp [Lit.wf, IntKind.min, IntKind.max, IntKind.signed, IntKind.bits] at hw
      omega
theorem code0_of {w : World} {a : Option Addr} {len cap : Nat} {zs : List Int} (h : IsRow .u8 w a len cap zs) (hl : len ≤ 4096) : Code0 w a len (zs.take len) := ⟨h.u8.1, by omega, h.u8.2⟩
theorem IsRow.addr {k : IntKind} {w : World} {a : Option Addr} {len cap : Nat} {zs : List Int} (h : IsRow k w a len cap zs) : (a = none ∧ len = 0 ∧ cap = 0) ∨ ∃ ad, a = some ad := by
  rcases h with ⟨rfl, rfl, rfl, rfl⟩ | ⟨x, rfl, _⟩
  · exact .inl ⟨rfl, rfl, rfl⟩
  · exact .inr ⟨x, rfl⟩
theorem IsRow.lenle {k : IntKind} {w : World} {a : Option Addr} {len cap : Nat} {zs : List Int} (h : IsRow k w a len cap zs) : len ≤ 9223372036854775807 := by
  rcases h with ⟨rfl, rfl, rfl, rfl⟩ | ⟨x, rfl, h1, h2, _⟩
  · omega
  · unfold maxLen at h2; omega
theorem big_any (A : Option Addr) (n c : Nat) (hn : n ≤ 9223372036854775807) (w : World) :
    Calls Try.prog 25 #[.slice A n c] w fun e w' => e = .returned (.bool (decide (4096 < n))) ∧ w = w' := by
  go_enter Try.func25, Try.ntmps25
  go_wp2_with fail
  go_ret
  refine ⟨?_, rfl⟩
  refine ret_bool ?_
  rw [Bool.eq_iff_iff]
  simp only [decide_eq_true_eq]
  omega
end Go.Proofs.Ytdldcjnidajmpaa

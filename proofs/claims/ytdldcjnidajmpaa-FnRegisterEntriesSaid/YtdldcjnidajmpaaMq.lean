/- Plain functions: drawn entries and registers: no Go in sight. -/
import Derived.Test.YtdldcjnidajmpaaMe
import Derived.Test.YtdldcjnidajmpaaRp
namespace Go.Proofs.Ytdldcjnidajmpaa
open Go.RowKit
set_option linter.unusedVariables false

/-- One entry is drawn. -/
def entX (code : List Int) (b : Int) (s : St) : EntryT × St :=
  if (nextF code (nextF code (nextF code (nextF code (nextF code s 4).2 (max 1 b)).2 3).2 12).2 5).1 = 0 then (((nextF code s 4).1, (nextF code (nextF code s 4).2 (max 1 b)).1, 1 + (nextF code (nextF code (nextF code s 4).2 (max 1 b)).2 3).1, 1 + (nextF code (nextF code (nextF code (nextF code (nextF code (nextF code s 4).2 (max 1 b)).2 3).2 12).2 5).2 8).1, 0, 0, 0), (nextF code (nextF code (nextF code (nextF code (nextF code (nextF code s 4).2 (max 1 b)).2 3).2 12).2 5).2 8).2) else if (nextF code (nextF code (nextF code (nextF code (nextF code s 4).2 (max 1 b)).2 3).2 12).2 5).1 = 1 then (if (nextF code (nextF code (nextF code (nextF code (nextF code (nextF code s 4).2 (max 1 b)).2 3).2 12).2 5).2 4).1 = 3 then (((nextF code s 4).1, (nextF code (nextF code s 4).2 (max 1 b)).1, 1 + (nextF code (nextF code (nextF code s 4).2 (max 1 b)).2 3).1, 9, 0, (nextF code (nextF code (nextF code (nextF code (nextF code (nextF code s 4).2 (max 1 b)).2 3).2 12).2 5).2 4).1, 5 * (nextF code (nextF code (nextF code (nextF code (nextF code (nextF code (nextF code s 4).2 (max 1 b)).2 3).2 12).2 5).2 4).2 20).1), (nextF code (nextF code (nextF code (nextF code (nextF code (nextF code (nextF code s 4).2 (max 1 b)).2 3).2 12).2 5).2 4).2 20).2) else (((nextF code s 4).1, (nextF code (nextF code s 4).2 (max 1 b)).1, 1 + (nextF code (nextF code (nextF code s 4).2 (max 1 b)).2 3).1, 9, 0, (nextF code (nextF code (nextF code (nextF code (nextF code (nextF code s 4).2 (max 1 b)).2 3).2 12).2 5).2 4).1, 0), (nextF code (nextF code (nextF code (nextF code (nextF code (nextF code s 4).2 (max 1 b)).2 3).2 12).2 5).2 4).2)) else (((nextF code s 4).1, (nextF code (nextF code s 4).2 (max 1 b)).1, 1 + (nextF code (nextF code (nextF code s 4).2 (max 1 b)).2 3).1, 0, 1 + (nextF code (nextF code (nextF code (nextF code s 4).2 (max 1 b)).2 3).2 12).1, 0, 0), (nextF code (nextF code (nextF code (nextF code (nextF code s 4).2 (max 1 b)).2 3).2 12).2 5).2)
theorem entX_bd (code : List Int) (b : Int) (s : St) : StOk code s → StOk code (entX code b s).2 := by
  intro h
  unfold entX
  split
  · exact nextF_ok _ _ _ (nextF_ok _ _ _ (nextF_ok _ _ _ (nextF_ok _ _ _ (nextF_ok _ _ _ (nextF_ok _ _ _ h)))))
  · split
    · split
      · exact nextF_ok _ _ _ (nextF_ok _ _ _ (nextF_ok _ _ _ (nextF_ok _ _ _ (nextF_ok _ _ _ (nextF_ok _ _ _ (nextF_ok _ _ _ h))))))
      · exact nextF_ok _ _ _ (nextF_ok _ _ _ (nextF_ok _ _ _ (nextF_ok _ _ _ (nextF_ok _ _ _ (nextF_ok _ _ _ h)))))
    · exact nextF_ok _ _ _ (nextF_ok _ _ _ (nextF_ok _ _ _ (nextF_ok _ _ _ (nextF_ok _ _ _ h))))
/-- Entries are drawn; one whose key is there already is rarely kept. -/
def entsD (code : List Int) (b : Int) : Nat → List EntryT → St → List EntryT × St
  | 0, out, s => (out, s)
  | m + 1, out, s =>
    if hasB out (entX code b s).1 = true then
      entsD code b m (if (nextF code (entX code b s).2 60).1 = 0 then out ++ [(entX code b s).1] else out) (nextF code (entX code b s).2 60).2
    else entsD code b m (out ++ [(entX code b s).1]) (entX code b s).2
theorem entsD_len (code : List Int) (b : Int) : ∀ (m : Nat) (out : List EntryT) (s : St), (entsD code b m out s).1.length ≤ out.length + m := by
  intro m
  induction m with
  | zero => intro out s; exact Nat.le_refl _
  | succ m ih =>
    intro out s
    unfold entsD
    split
    · split
      · have := ih (out ++ [(entX code b s).1]) (nextF code (entX code b s).2 60).2; simp at this ⊢; omega
      · have := ih out (nextF code (entX code b s).2 60).2; omega
    · have := ih (out ++ [(entX code b s).1]) (entX code b s).2; simp at this ⊢; omega
/-- A register: boats, scheme, entries. -/
abbrev RegT := Int × Int × List EntryT
def spoilE (t v b : Int) (x : EntryT) : EntryT :=
  if t = 0 then (E.race x, b, E.rev x, E.code x, E.time x, E.kind x, E.points x)
  else if t = 1 then (E.race x, E.boat x, E.rev x, E.code x, -1, E.kind x, E.points x)
  else if t = 2 then (E.race x, E.boat x, E.rev x, E.code x, E.time x, 4, E.points x)
  else (E.race x, E.boat x, 1001 * v, E.code x, E.time x, E.kind x, E.points x)
/-- One entry of a register is rarely spoiled. -/
def spoilR (code : List Int) (b : Int) (r : List EntryT × St) : List EntryT × St :=
  if r.1.length = 0 then r
  else if (nextF code r.2 16).1 = 0 then (r.1.set (nextF code (nextF code r.2 16).2 (r.1.length : Int)).1.toNat (spoilE (nextF code (nextF code (nextF code r.2 16).2 (r.1.length : Int)).2 4).1 (nextF code (nextF code (nextF code (nextF code r.2 16).2 (r.1.length : Int)).2 4).2 2).1 b (r.1.getD (nextF code (nextF code r.2 16).2 (r.1.length : Int)).1.toNat (0, 0, 0, 0, 0, 0, 0))), if (nextF code (nextF code (nextF code r.2 16).2 (r.1.length : Int)).2 4).1 = 3 then (nextF code (nextF code (nextF code (nextF code r.2 16).2 (r.1.length : Int)).2 4).2 2).2 else (nextF code (nextF code (nextF code r.2 16).2 (r.1.length : Int)).2 4).2) else (r.1, (nextF code r.2 16).2)
def regD (code : List Int) (s : St) : RegT × St :=
  (((boatsD code s).1, (nextF code (boatsD code s).2 2).1, (spoilR code (boatsD code s).1 (entsD code (boatsD code s).1 (nextF code (nextF code (boatsD code s).2 2).2 20).1.toNat [] (nextF code (nextF code (boatsD code s).2 2).2 20).2)).1), (spoilR code (boatsD code s).1 (entsD code (boatsD code s).1 (nextF code (nextF code (boatsD code s).2 2).2 20).1.toNat [] (nextF code (nextF code (boatsD code s).2 2).2 20).2)).2)
theorem entX_eq (code : List Int) (b : Int) (s : St) : entX code b s = if (nextF code (nextF code (nextF code (nextF code (nextF code s 4).2 (max 1 b)).2 3).2 12).2 5).1 = 0 then (((nextF code s 4).1, (nextF code (nextF code s 4).2 (max 1 b)).1, 1 + (nextF code (nextF code (nextF code s 4).2 (max 1 b)).2 3).1, 1 + (nextF code (nextF code (nextF code (nextF code (nextF code (nextF code s 4).2 (max 1 b)).2 3).2 12).2 5).2 8).1, 0, 0, 0), (nextF code (nextF code (nextF code (nextF code (nextF code (nextF code s 4).2 (max 1 b)).2 3).2 12).2 5).2 8).2) else if (nextF code (nextF code (nextF code (nextF code (nextF code s 4).2 (max 1 b)).2 3).2 12).2 5).1 = 1 then (if (nextF code (nextF code (nextF code (nextF code (nextF code (nextF code s 4).2 (max 1 b)).2 3).2 12).2 5).2 4).1 = 3 then (((nextF code s 4).1, (nextF code (nextF code s 4).2 (max 1 b)).1, 1 + (nextF code (nextF code (nextF code s 4).2 (max 1 b)).2 3).1, 9, 0, (nextF code (nextF code (nextF code (nextF code (nextF code (nextF code s 4).2 (max 1 b)).2 3).2 12).2 5).2 4).1, 5 * (nextF code (nextF code (nextF code (nextF code (nextF code (nextF code (nextF code s 4).2 (max 1 b)).2 3).2 12).2 5).2 4).2 20).1), (nextF code (nextF code (nextF code (nextF code (nextF code (nextF code (nextF code s 4).2 (max 1 b)).2 3).2 12).2 5).2 4).2 20).2) else (((nextF code s 4).1, (nextF code (nextF code s 4).2 (max 1 b)).1, 1 + (nextF code (nextF code (nextF code s 4).2 (max 1 b)).2 3).1, 9, 0, (nextF code (nextF code (nextF code (nextF code (nextF code (nextF code s 4).2 (max 1 b)).2 3).2 12).2 5).2 4).1, 0), (nextF code (nextF code (nextF code (nextF code (nextF code (nextF code s 4).2 (max 1 b)).2 3).2 12).2 5).2 4).2)) else (((nextF code s 4).1, (nextF code (nextF code s 4).2 (max 1 b)).1, 1 + (nextF code (nextF code (nextF code s 4).2 (max 1 b)).2 3).1, 0, 1 + (nextF code (nextF code (nextF code (nextF code s 4).2 (max 1 b)).2 3).2 12).1, 0, 0), (nextF code (nextF code (nextF code (nextF code (nextF code s 4).2 (max 1 b)).2 3).2 12).2 5).2) := rfl
theorem spoilR_eq (code : List Int) (b : Int) (r : List EntryT × St) (h : ¬ r.1.length = 0) : spoilR code b r = if (nextF code r.2 16).1 = 0 then (r.1.set (nextF code (nextF code r.2 16).2 (r.1.length : Int)).1.toNat (spoilE (nextF code (nextF code (nextF code r.2 16).2 (r.1.length : Int)).2 4).1 (nextF code (nextF code (nextF code (nextF code r.2 16).2 (r.1.length : Int)).2 4).2 2).1 b (r.1.getD (nextF code (nextF code r.2 16).2 (r.1.length : Int)).1.toNat (0, 0, 0, 0, 0, 0, 0))), if (nextF code (nextF code (nextF code r.2 16).2 (r.1.length : Int)).2 4).1 = 3 then (nextF code (nextF code (nextF code (nextF code r.2 16).2 (r.1.length : Int)).2 4).2 2).2 else (nextF code (nextF code (nextF code r.2 16).2 (r.1.length : Int)).2 4).2) else (r.1, (nextF code r.2 16).2) := by
  unfold spoilR; rw [if_neg h]
theorem regD_eq (code : List Int) (s : St) : regD code s = (((boatsD code s).1, (nextF code (boatsD code s).2 2).1, (spoilR code (boatsD code s).1 (entsD code (boatsD code s).1 (nextF code (nextF code (boatsD code s).2 2).2 20).1.toNat [] (nextF code (nextF code (boatsD code s).2 2).2 20).2)).1), (spoilR code (boatsD code s).1 (entsD code (boatsD code s).1 (nextF code (nextF code (boatsD code s).2 2).2 20).1.toNat [] (nextF code (nextF code (boatsD code s).2 2).2 20).2)).2) := rfl
theorem spoilR_len (code : List Int) (b : Int) (r : List EntryT × St) : (spoilR code b r).1.length = r.1.length := by
  unfold spoilR
  split
  · rfl
  · split
    · split <;> simp
    · rfl
theorem regD_len (code : List Int) (s : St) : (regD code s).1.2.2.length ≤ 20 := by
  rw [regD_eq]
  simp only
  rw [spoilR_len]
  have h := nextF_bd code (nextF code (boatsD code s).2 2).2 20 (by omega)
  have h2 := entsD_len code (boatsD code s).1 (nextF code (nextF code (boatsD code s).2 2).2 20).1.toNat [] (nextF code (nextF code (boatsD code s).2 2).2 20).2
  simp only [List.length_nil] at h2
  omega
end Go.Proofs.Ytdldcjnidajmpaa

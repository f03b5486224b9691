/- Plain: valid tables, averages, redress. -/
import Derived.Test.YtalgdeieejpelaaMf
import Derived.Test.YtalgdeieejpelaaTb
namespace Go.Proofs.Ytalgdeieejpelaa
open Go.RowKit
set_option linter.unusedVariables false

/-- Two columns of rows are valid for a number of boats. -/
def zipB (b : Int) : List (List Int) → List (List Int) → Bool
  | p :: ps, c :: cs => rowB p b 10000 && rowB c b 9 && zipB b ps cs
  | _, _ => true
theorem zipB_nil (b : Int) (cs : List (List Int)) : zipB b [] cs = true := by cases cs <;> rfl
def tableB (t : Tb) : Bool := withinB t.boats 1 16 && decide (t.pts.length ≤ 12) && decide (t.pts.length = t.cds.length) && zipB t.boats t.pts t.cds
/-- Two rows of equal length, side by side. -/
def pairB : List Int → List Int → Bool
  | p :: ps, c :: cs => withinB p 0 10000 && withinB c 0 9 && pairB ps cs
  | _, _ => true
theorem pairB_nil (q : List Int) : pairB [] q = true := by cases q <;> rfl
theorem pairB_eq (b : Int) : ∀ (p c : List Int), (p.length : Int) = b → (c.length : Int) = b → (rowB p b 10000 && rowB c b 9) = pairB p c := by
  intro p c h1 h2
  have hl : p.length = c.length := by omega
  have key : ∀ (p c : List Int), p.length = c.length → (p.all (fun x => withinB x 0 10000) && c.all (fun x => withinB x 0 9)) = pairB p c := by
    intro p
    induction p with
    | nil => intro c h; cases c <;> simp_all [pairB]
    | cons x p ih =>
      intro c h
      cases c with
      | nil => simp at h
      | cons y c =>
        have := ih c (by simpa using h)
        simp only [List.all_cons, pairB, ← this]
        cases withinB x 0 10000 <;> cases withinB y 0 9 <;> simp [Bool.and_comm]
  rw [← key p c hl]
  unfold rowB
  have e1 : ((p.length : Int) == b) = true := by simp [h1]
  have e2 : ((c.length : Int) == b) = true := by simp [h2]
  rw [e1, e2]
  simp
theorem rowB_false {xs : List Int} {b most : Int} (h : (xs.length : Int) ≠ b) : rowB xs b most = false := by
  unfold rowB
  have : ((xs.length : Int) == b) = false := by simpa using h
  rw [this, Bool.and_false]
theorem rowB_ok {xs : List Int} {b most : Int} (h : rowB xs b most = true) : (xs.length : Int) = b ∧ ∀ x ∈ xs, 0 ≤ x ∧ x ≤ most := by
  unfold rowB at h
  simp only [Bool.and_eq_true, List.all_eq_true, beq_iff_eq] at h
  exact ⟨h.2, fun x hx => withinB_iff.1 (h.1 x hx)⟩
theorem zipB_at {b : Int} : ∀ {ps cs : List (List Int)}, zipB b ps cs = true → ∀ (k : Nat) (p c : List Int), ps[k]? = some p → cs[k]? = some c → rowB p b 10000 = true ∧ rowB c b 9 = true := by
  intro ps
  induction ps with
  | nil => intro cs h k p c hp; simp at hp
  | cons p0 ps ih =>
    intro cs h k p c hp hc
    cases cs with
    | nil => simp at hc
    | cons c0 cs =>
      simp only [zipB, Bool.and_eq_true] at h
      cases k with
      | zero => simp at hp hc; subst hp; subst hc; exact h.1
      | succ k => exact ih h.2 k p c (by simpa using hp) (by simpa using hc)
/-- What a valid table is. -/
structure TabOk (t : Tb) : Prop where
  b1 : 1 ≤ t.boats
  b2 : t.boats ≤ 16
  many : t.pts.length ≤ 12
  same : t.pts.length = t.cds.length
  row : ∀ (k : Nat) (p c : List Int), t.pts[k]? = some p → t.cds[k]? = some c → ((p.length : Int) = t.boats ∧ ∀ x ∈ p, 0 ≤ x ∧ x ≤ 10000) ∧ ((c.length : Int) = t.boats ∧ ∀ x ∈ c, 0 ≤ x ∧ x ≤ 9)
theorem tableB_ok {t : Tb} (h : tableB t = true) : TabOk t := by
  unfold tableB at h
  simp only [Bool.and_eq_true, decide_eq_true_eq] at h
  obtain ⟨⟨⟨h1, h2⟩, h3⟩, h4⟩ := h
  have hb := withinB_iff.1 h1
  exact ⟨hb.1, hb.2, h2, h3, fun k p c hp hc => ⟨rowB_ok (zipB_at h4 k p c hp hc).1, rowB_ok (zipB_at h4 k p c hp hc).2⟩⟩
theorem TabOk.tableB {t : Tb} (h : TabOk t) : tableB t = true := by
  have hz : ∀ (ps cs : List (List Int)), (∀ (k : Nat) (p c : List Int), ps[k]? = some p → cs[k]? = some c → ((p.length : Int) = t.boats ∧ ∀ x ∈ p, 0 ≤ x ∧ x ≤ 10000) ∧ ((c.length : Int) = t.boats ∧ ∀ x ∈ c, 0 ≤ x ∧ x ≤ 9)) → zipB t.boats ps cs = true := by
    intro ps
    induction ps with
    | nil => intro cs _; simp [zipB]
    | cons p ps ih =>
      intro cs h
      cases cs with
      | nil => simp [zipB]
      | cons c cs =>
        obtain ⟨⟨h1, h2⟩, h3, h4⟩ := h 0 p c rfl rfl
        have := ih cs (fun k p c hp hc => h (k + 1) p c (by simpa using hp) (by simpa using hc))
        simp only [zipB, this, Bool.and_true, Bool.and_eq_true, rowB, List.all_eq_true, beq_iff_eq]
        exact ⟨⟨fun x hx => withinB_iff.2 (h2 x hx), h1⟩, fun x hx => withinB_iff.2 (h4 x hx), h3⟩
  unfold Go.Proofs.Ytalgdeieejpelaa.tableB
  rw [hz _ _ h.row, withinB_iff.2 ⟨h.b1, h.b2⟩]
  rw [decide_eq_true h.many, decide_eq_true h.same]
  rfl

/-- Whether race k counts for an average. -/
def otherB (race kind : Int) (k : Nat) : Bool := !((k : Int) == race) && !(kind == 2 && decide (race < (k : Int)))
theorem otherB_all {race kind : Int} (k : Nat) (h : kind = 1 ∨ kind = 2) : otherB race kind k = (decide ((k : Int) < race) || (decide ((k : Int) > race) && (kind == 1))) := by
  unfold otherB
  rcases h with rfl | rfl
  · by_cases h1 : (k : Int) < race
    · simp [h1]; omega
    · by_cases h2 : (k : Int) > race <;> simp [h1, h2] <;> omega
  · by_cases h1 : (k : Int) < race
    · simp [h1]; omega
    · by_cases h2 : (k : Int) > race <;> simp [h1, h2] <;> omega
def avgGo (race kind : Int) (b : Nat) : Nat → List (List Int) → List (List Int) → Int → Int → Int × Int
  | k, p :: ps, c :: cs, s, m => if (otherB race kind k && !(c.getD b 0 == 9)) = true then avgGo race kind b (k + 1) ps cs (s + p.getD b 0) (m + 1) else avgGo race kind b (k + 1) ps cs s m
  | _, _, _, s, m => (s, m)
theorem avgGo_nil (race kind : Int) (b k : Nat) (cs : List (List Int)) (s m : Int) : avgGo race kind b k [] cs s m = (s, m) := by cases cs <;> rfl
def avgOf (r : Int × Int) : Int × Bool := if r.2 = 0 then (0, false) else ((2 * r.1 + r.2) / (2 * r.2), true)
def avgF (t : Tb) (race boat kind : Int) : Int × Bool := avgOf (avgGo race kind boat.toNat 0 t.pts t.cds 0 0)
def avgPointsF (t : Tb) (race boat kind : Int) : Int × Int :=
  if tableB t = true then (if withinB race 0 ((t.pts.length : Int) - 1) = true ∧ withinB boat 0 (t.boats - 1) = true ∧ withinB kind 1 2 = true then (if (avgF t race boat kind).2 = true then ((avgF t race boat kind).1, 0) else (0, 4)) else (0, 2)) else (0, 1)

/-! ### Redress -/
abbrev RedT := Int × Int × Int × Int
def isRedBT (kind points : Int) : Bool := if kind = 3 then withinB points 0 10000 else withinB kind 1 2 && (points == 0)
def codeAt (t : Tb) (race boat : Int) : Int := (t.cds.getD race.toNat []).getD boat.toNat 0
def redB (t : Tb) (x : RedT) : Bool :=
  withinB x.1 0 ((t.pts.length : Int) - 1) && withinB x.2.1 0 (t.boats - 1) && isRedBT x.2.2.1 x.2.2.2 && (codeAt t x.1 x.2.1 == 9) && (x.2.2.1 == 3 || (avgF t x.1 x.2.1 x.2.2.1).2)
def ltRB (y x : RedT) : Bool := decide (y.1 < x.1) || ((y.1 == x.1) && decide (y.2.1 < x.2.1))
def redsGo (t : Tb) : Option RedT → List RedT → Bool
  | _, [] => true
  | none, x :: r => redB t x && redsGo t (some x) r
  | some y, x :: r => redB t x && ltRB y x && redsGo t (some x) r
def redsB (t : Tb) (xs : List RedT) : Bool := redsGo t none xs
def redCodeF (t : Tb) (xs : List RedT) : Int := if tableB t = true then (if redsB t xs = true then 0 else 2) else 1
def redVal (t : Tb) (x : RedT) : Int := if x.2.2.1 = 3 then x.2.2.2 else (avgF t x.1 x.2.1 x.2.2.1).1
def setRC (rows : List (List Int)) (r b : Nat) (v : Int) : List (List Int) := rows.set r ((rows.getD r []).set b v)
def applyGo (t : Tb) : List RedT → List (List Int) → List (List Int)
  | [], rows => rows
  | x :: r, rows => applyGo t r (setRC rows x.1.toNat x.2.1.toNat (redVal t x))
def applyF (t : Tb) (xs : List RedT) : Tb := ⟨t.boats, applyGo t xs t.pts, t.cds⟩
def namedB (xs : List RedT) (k b : Int) : Bool := xs.any fun x => x.1 == k && x.2.1 == b
def openRow (xs : List RedT) (k : Nat) : Nat → List Int → List (List Int)
  | _, [] => []
  | b, c :: cs => (if (c == 9 && !namedB xs k b) = true then [[(k : Int), (b : Int)]] else []) ++ openRow xs k (b + 1) cs
def openGo (xs : List RedT) : Nat → List (List Int) → List (List Int)
  | _, [] => []
  | k, r :: rs => openRow xs k 0 r ++ openGo xs (k + 1) rs
def openF (t : Tb) (xs : List RedT) : List (List Int) × Int := if redCodeF t xs = 0 then (openGo xs 0 t.cds, 0) else ([], redCodeF t xs)
def applyCF (t : Tb) (xs : List RedT) : Tb × Int := if redCodeF t xs = 0 then (applyF t xs, 0) else (noT, redCodeF t xs)
end Go.Proofs.Ytalgdeieejpelaa

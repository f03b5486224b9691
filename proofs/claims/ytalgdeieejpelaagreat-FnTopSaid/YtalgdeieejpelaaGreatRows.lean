/-
  No cell of these rows narrows 'for every input' (looked for: loops, veiled, ifaces, maps, wideKeys, modest, calm, conditions, laid).
  DERIVED. THE GIVEN ROWS OF THIS SEAT. 3 by the template 'for every input the law returns true; each argument reads behind the call as it read before'; 0 by the template 'total and deterministic' (their statements: YtalgdeieejpelaaGreatTotals.lean).
  GIVEN WITH THE SEED: the statements are not yours to turn. If you find one false, say at which input.
  Laid BY PROGRAM, IN A SANDBOX (cutbox-rows.mjs): the forced cells as the released guide's own fill.sh prints them over the translation 448255b2bf111e13… (all of the seat's roots in one cut). By AI agents, Wed Nov 11 2026. No macro, syntax, notation, axiom, sorry.
-/
import Derived.Test.YtalgdeieejpelaaGreatChecked
import GoSem.Claim
import GoSem.ClaimJoined
import GoSem.ClaimMapViews
import Derived.JoinedTies
import Derived.KernelRfl
namespace Go.Proofs.YtalgdeieejpelaaGreat
/- THE CELL 'sum', in the pinned program and in every row, IS THE sha256 OF THE DUMP (.gsa) THAT YtalgdeieejpelaaGreatProg.lean LOADS. Nothing in Lean hashes anything: it is a label: what it is worth is what the hold of that sum in a sandbox is worth. -/
noncomputable def Tryz.pinned : Pinned := { name := "ytalgdeieejpelaagreat", sum := "448255b2bf111e133cd9457d3a5054fe012277701ff9f803a4f4c7398b878a29", checked := Tryz.checked }
namespace Rows
def none {H : Type} : Left H := { results := [], args := [] }

/-- 'laws.FnExactRegisterStanding': WHATEVER THE INPUT: true; the input reads as it did. -/
def fnExactRegisterStandingSpec : ChangeSpec := { name := "fnExactRegisterStanding", fn := fun _ => fun
  | [d1, d2] => { results := [.lit (.bool true)], args := [d1, d2] }
  | _ => none }
def fnExactRegisterStandingRow : OpenClaim := { program := "ytalgdeieejpelaagreat", sum := "448255b2bf111e133cd9457d3a5054fe012277701ff9f803a4f4c7398b878a29", func := "loop.example/g00887/laws.FnExactRegisterStanding", spec := "fnExactRegisterStanding", unfollowed := true, recurses := true, apart := false }
def FnExactRegisterStandingSaid : Prop := fnExactRegisterStandingRow.holds Tryz.pinned (OpenSpec.ofChange fnExactRegisterStandingSpec)

/-- ITS FALSE NEIGHBOUR: 'it returns false'. Refute it at one input. -/
def fnExactRegisterStandingWrong : ChangeSpec := { name := "fnExactRegisterStanding", fn := fun _ => fun
  | [d1, d2] => { results := [.lit (.bool false)], args := [d1, d2] }
  | _ => none }
def FnExactRegisterStandingWrongFalsely : Prop := fnExactRegisterStandingRow.holds Tryz.pinned (OpenSpec.ofChange fnExactRegisterStandingWrong)

/-- 'laws.FnRegister': WHATEVER THE INPUT: true; the input reads as it did. -/
def fnRegisterSpec : ChangeSpec := { name := "fnRegister", fn := fun _ => fun
  | [d] => { results := [.lit (.bool true)], args := [d] }
  | _ => none }
def fnRegisterRow : OpenClaim := { program := "ytalgdeieejpelaagreat", sum := "448255b2bf111e133cd9457d3a5054fe012277701ff9f803a4f4c7398b878a29", func := "loop.example/g00887/laws.FnRegister", spec := "fnRegister", unfollowed := true, recurses := true, apart := false }
def FnRegisterSaid : Prop := fnRegisterRow.holds Tryz.pinned (OpenSpec.ofChange fnRegisterSpec)

/-- ITS FALSE NEIGHBOUR: 'it returns false'. Refute it at one input. -/
def fnRegisterWrong : ChangeSpec := { name := "fnRegister", fn := fun _ => fun
  | [d] => { results := [.lit (.bool false)], args := [d] }
  | _ => none }
def FnRegisterWrongFalsely : Prop := fnRegisterRow.holds Tryz.pinned (OpenSpec.ofChange fnRegisterWrong)

/-- 'laws.FnTop': WHATEVER THE INPUT: true; the input reads as it did. -/
def fnTopSpec : ChangeSpec := { name := "fnTop", fn := fun _ => fun
  | [d] => { results := [.lit (.bool true)], args := [d] }
  | _ => none }
def fnTopRow : OpenClaim := { program := "ytalgdeieejpelaagreat", sum := "448255b2bf111e133cd9457d3a5054fe012277701ff9f803a4f4c7398b878a29", func := "loop.example/g00887/laws.FnTop", spec := "fnTop", unfollowed := true, recurses := true, apart := false }
def FnTopSaid : Prop := fnTopRow.holds Tryz.pinned (OpenSpec.ofChange fnTopSpec)

/-- ITS FALSE NEIGHBOUR: 'it returns false'. Refute it at one input. -/
def fnTopWrong : ChangeSpec := { name := "fnTop", fn := fun _ => fun
  | [d] => { results := [.lit (.bool false)], args := [d] }
  | _ => none }
def FnTopWrongFalsely : Prop := fnTopRow.holds Tryz.pinned (OpenSpec.ofChange fnTopWrong)

/- THE SECOND FORM. 'bulk': how many values and letters a reading holds, each counted each time it is reached (what is shared counts as often as it is met; a slice's spare places count too). A statement '..UptoSaid' is the law's where the arguments, and the package variables that the reading takes, are together of bulk at most 1048576: NARROWER than '..Said'. Prove '..Said' where nothing that the law and all that it calls make is longer than what came in: it says more and counts as full. Else prove '..UptoSaid'. A law counts once. -/
mutual
def uptoBulk {H : Type} : DataW H → Nat
  | .lit (.string bytes) => bytes.length + 1
  | .lit _ => 1
  | .nil => 1
  | .ptr d => uptoBulk d + 1
  | .slice elems spare => uptoBulkAll elems + uptoBulkAll spare + 1
  | .agg parts => uptoBulkAll parts + 1
  | .iface _ d => uptoBulk d + 1
  | .map entries => uptoBulkEntries entries + 1
  | .held _ => 1
def uptoBulkAll {H : Type} : List (DataW H) → Nat
  | [] => 0
  | d :: r => uptoBulk d + uptoBulkAll r
def uptoBulkEntries {H : Type} : List (Lit × DataW H) → Nat
  | [] => 0
  | x :: r => uptoBulkEntry x + uptoBulkEntries r
def uptoBulkEntry {H : Type} : Lit × DataW H → Nat
  | (.string bytes, d) => bytes.length + uptoBulk d + 1
  | (_, d) => uptoBulk d + 1
 end
def uptoSmall : (H : Type) → List (DataW H) → Bool := fun _ ds => decide (uptoBulkAll ds ≤ 1048576)
def OpenSpec.upto (s : _root_.Go.ChangeSpec) : _root_.Go.OpenSpec := { _root_.Go.OpenSpec.ofChange s with cond := some uptoSmall }

/-- 'laws.FnExactRegisterStanding', WHERE WHAT IT READS IS OF BULK AT MOST 1048576: true; the input reads as it did. -/
def fnExactRegisterStandingUptoRow : OpenClaim := { program := "ytalgdeieejpelaagreat", sum := "448255b2bf111e133cd9457d3a5054fe012277701ff9f803a4f4c7398b878a29", func := "loop.example/g00887/laws.FnExactRegisterStanding", spec := "fnExactRegisterStanding", unfollowed := true, recurses := true, apart := false, narrowed := true }
def FnExactRegisterStandingUptoSaid : Prop := fnExactRegisterStandingUptoRow.holds Tryz.pinned (OpenSpec.upto fnExactRegisterStandingSpec)

/-- 'laws.FnRegister', WHERE WHAT IT READS IS OF BULK AT MOST 1048576: true; the input reads as it did. -/
def fnRegisterUptoRow : OpenClaim := { program := "ytalgdeieejpelaagreat", sum := "448255b2bf111e133cd9457d3a5054fe012277701ff9f803a4f4c7398b878a29", func := "loop.example/g00887/laws.FnRegister", spec := "fnRegister", unfollowed := true, recurses := true, apart := false, narrowed := true }
def FnRegisterUptoSaid : Prop := fnRegisterUptoRow.holds Tryz.pinned (OpenSpec.upto fnRegisterSpec)

/-- 'laws.FnTop', WHERE WHAT IT READS IS OF BULK AT MOST 1048576: true; the input reads as it did. -/
def fnTopUptoRow : OpenClaim := { program := "ytalgdeieejpelaagreat", sum := "448255b2bf111e133cd9457d3a5054fe012277701ff9f803a4f4c7398b878a29", func := "loop.example/g00887/laws.FnTop", spec := "fnTop", unfollowed := true, recurses := true, apart := false, narrowed := true }
def FnTopUptoSaid : Prop := fnTopUptoRow.holds Tryz.pinned (OpenSpec.upto fnTopSpec)

end Rows
end Go.Proofs.YtalgdeieejpelaaGreat

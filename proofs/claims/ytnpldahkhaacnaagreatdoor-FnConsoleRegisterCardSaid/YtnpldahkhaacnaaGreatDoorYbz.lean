/- Texts of the walk: LOut_D. -/
import Derived.Test.YtnpldahkhaacnaaGreatDoorYby
import Derived.Test.YtnpldahkhaacnaaGreatDoorYbs
set_option linter.unusedVariables false
set_option linter.unusedSimpArgs false
set_option maxRecDepth 100000
set_option maxHeartbeats 32000000
namespace Go.Proofs.YtnpldahkhaacnaaGreatDoor
open Go.RowKit Go.Sort Go.Proofs.Tryz
theorem oA {w:World}{u e n:Nat}{v:Value}{h:List LB}(B:w.ownsRow u e 1 v n (strs h)):h.length=n:=by{
 have F:=B.1;rwa [gi,Nat.mul_one] at F}
theorem oG {h:LB}(u:dF h=0):dU h=true:=by{
 cases B:dU h with
 | true=>rfl
 | false=>rw[(km B).1] at u;cases u}
theorem ux {h:LB}(B:h≠[]):∃x c,h=x++[c]:=by{
 rcases zz h with u|u
 {exact absurd u B}
 {exact u}}
theorem zJ {x:LB}{c:UInt8}{i:Nat}(hi:i=x.length)(h:i<(ag (x++[c])).size):(ag (x++[c]))[i]'h=c:=by{
 subst hi;have h2:x.length<(x++[c]).length:=by simp
 have e:(ag (x++[c]))[x.length]'h=(x++[c])[x.length]'h2:=rfl;rw[e];simp}
end Go.Proofs.YtnpldahkhaacnaaGreatDoor

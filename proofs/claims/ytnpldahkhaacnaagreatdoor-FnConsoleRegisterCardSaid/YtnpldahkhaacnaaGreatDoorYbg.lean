/- Texts of the walk: Nj. -/
import Derived.Shelf.Strings.OnBuilder
import Derived.Test.YtnpldahkhaacnaaGreatDoorYai
set_option linter.unusedVariables false
set_option linter.unusedSimpArgs false
set_option maxRecDepth 100000
set_option maxHeartbeats 32000000
namespace Go.Proofs.YtnpldahkhaacnaaGreatDoor
open Go.RowKit Go.Sort Go.Proofs.Tryz
section
open Go.Shelf
def ri:Go.Shelf.Ren:=⟨fun|156=>222|165=>199|166=>200|169=>202|240=>262|241=>263|276=>303|277=>304|n=>n,fun|31=>35|9=>9|3=>3|4=>4|0=>0|20=>20|72=>228|76=>128|70=>226|37=>22|75=>127|127=>267|164=>297|5=>5|80=>231|n=>n,fun|n=>n⟩
theorem Cd : Go.Proofs.Lays.n156 prog ri := {
 mixed := by kernel_rfl
 f156 := func222.trans (congrArg some (by kernel_rfl))
 f165 := func199.trans (congrArg some (by kernel_rfl))
 f166 := func200.trans (congrArg some (by kernel_rfl))
 f169 := func202.trans (congrArg some (by kernel_rfl))
 f240 := func262.trans (congrArg some (by kernel_rfl))
 f241 := func263.trans (congrArg some (by kernel_rfl))
 f276 := func303.trans (congrArg some (by kernel_rfl))
 f277 := func304.trans (congrArg some (by kernel_rfl))
 t0 := underlying0
 a0 := isAgg0
 z0 := sizeOf0
 v0 := zeroValue0
 t3 := underlying3
 a3 := isAgg3
 z3 := sizeOf3
 v3 := zeroValue3
 t4 := underlying4
 a4 := isAgg4
 z4 := sizeOf4
 v4 := zeroValue4
 t9 := underlying9
 a9 := isAgg9
 z9 := sizeOf9
 v9 := zeroValue9
 t20 := underlying20
 a20 := isAgg20
 z20 := sizeOf20
 v20 := zeroValue20
 t31 := underlying35
 a31 := isAgg35
 z31 := sizeOf35
 v31 := zeroValue35
 t37 := underlying22
 a37 := isAgg22
 z37 := sizeOf22
 v37 := zeroValue22
 t70 := underlying226
 a70 := isAgg226
 z70 := sizeOf226
 v70 := zeroValue226
 t72 := underlying228
 a72 := isAgg228
 z72 := sizeOf228
 v72 := zeroValue228
 t75 := underlying127
 a75 := isAgg127
 z75 := sizeOf127
 v75 := zeroValue127
 t76 := underlying128
 a76 := isAgg128
 z76 := sizeOf128
 v76 := zeroValue128
 t127 := underlying267
 a127 := isAgg267
 z127 := sizeOf267
 v127 := zeroValue267
 t164 := underlying297
 a164 := isAgg297
 z164 := sizeOf297
 v164 := zeroValue297 }
theorem jv : Builder.Extra prog ri := {
 sizeBuilder := by kernel_rfl
 liesBuilder := by kernel_rfl
 t5 := underlying5
 a5 := isAgg5
 z5 := sizeOf5
 v5 := zeroValue5
 infoByte := by kernel_rfl
 cellsByte := by kernel_rfl
 sizeByte := by kernel_rfl
 neB5 := by decide }
open Go.RowKit in
theorem oM (a:OA)(c:Nat)(h:ByteArray)(w:World):Calls prog 222 #[.slice a 0 c,.string h] w λe u=>e=.returned (.string ⟨#[]⟩)∧u=w:=Any.strings_Join_none Cd jv a c h w
open Go.RowKit in
theorem wL (u o c:Nat)(h:List ByteArray)(B:ByteArray)(w:World)(I:∀(j:Nat) x,h[j]?=some x→w.cell? ⟨u,o+j,none⟩=some (.string x))(G:u<w.heap.size)(F:h.length≤140737488355328)(H:h.length≤c)(J:(Lib.join (h.map (·.data.toList)) B.data.toList).length≤140737488355328):Calls prog 222 #[.slice (some ⟨u,o,none⟩) h.length c,.string B] w λe L=>e=.returned (.string ⟨(Lib.join (h.map (·.data.toList)) B.data.toList).toArray⟩)∧BL w L:=Any.strings_Join Cd jv u o c h B w I G F H J
theorem CG (h:List LB):(h.map ag).map (·.data.toList)=h:=by{
 rw[List.map_map];conv=>rhs;rw[←List.map_id h]
 refine List.map_congr_left λx _=>?_
 exact aw x}
theorem yt (A:OA)(n c:Nat)(h:List LB)(w:World)(I:Rd w 1 A n (strs h))(hc:n≤c)(T:n≤1048576)(R:(bJ h).length≤4194304):Calls prog 222 #[.slice A n c,.string ⟨#[32]⟩] w λe N=>e=.returned (.string (ag (bJ h)))∧BL w N:=by{
 have B:=I.len_str;rcases Nat.eq_zero_or_pos n with F|F
 {
 subst F;obtain rfl:h=[]:=List.eq_nil_of_length_eq_zero B;refine(oM A c ⟨#[32]⟩ w).mono ?_;rintro e N⟨rfl,rfl⟩;exact⟨rfl,qB _ _⟩}
 {
 obtain⟨b,o,rfl,J⟩:=I.pos F;have O:b<w.heap.size:=by{
 cases M:h with
 | nil=>rw[M] at B;simp at B;omega
 | cons x r=>exact au (J 0 (.string (ag x)) (by rw[M];rfl))}
 have L:Lib.join ((h.map ag).map (·.data.toList)) (ByteArray.mk #[32]).data.toList=bJ h:=by rw[CG];exact GD h
 have H:=wL b o c (h.map ag) ⟨#[32]⟩ w (λj x u=>by{
 rw[qZ] at u
 cases G:h[j]? with
 | none=>rw[G] at u;simp at u
 | some y=>{
 rw[G] at u;obtain rfl:ag y=x:=by simpa using u
 exact J j _ (xY G)}}) O (by rw[qV];omega) (by rw[qV];omega) (by rw[L];omega)
 rw[L,qV,B] at H;exact H}}
end
end Go.Proofs.YtnpldahkhaacnaaGreatDoor

/- Texts of the walk: LRun_R. -/
import Derived.Test.YtnpldahkhaacnaaGreatDoorYbs
import Derived.Test.YtnpldahkhaacnaaGreatDoorYbt
set_option linter.unusedVariables false
set_option linter.unusedSimpArgs false
set_option maxRecDepth 100000
set_option maxHeartbeats 32000000
namespace Go.Proofs.YtnpldahkhaacnaaGreatDoor
open Go.RowKit Go.Sort Go.Proofs.Tryz
theorem DE (h:LB):(eG h).length≤150:=by{
 cases u:dU h with
 | true=>{
 obtain⟨-,e,-,B⟩:=fi u;rw[e,BX];exact B}
 | false=>rw[(km u).2.1];simp}
theorem yh {w:World}{u e n:Nat}{v:Value}{h:List LB}(B:w.ownsRow u e 1 v n (strs h)):h.length=n:=by{
 have F:=B.1;rwa [gi,Nat.mul_one] at F}
theorem fnExactRunConsole_walk (s:ByteArray)(w:World)(h:∀G,BL w G→gu G):Calls prog 4 #[.string s] w λe G=>e=.returned (.bool true)∧BL w G:=by{
 by_cases B:1048576<s.size
 {
 have J:decide ((1048576:Int)<(s.size:Int))=true:=by simp;omega
 go_enter func4,ntmps4;go_wp2_with fail
 go_ret;exact⟨rfl,qB _ _⟩}
 have J:decide ((1048576:Int)<(s.size:Int))=false:=by simp;omega
 obtain⟨F,u⟩:∃F,F=s.data.toList:=⟨_,rfl⟩;obtain rfl:s=ag F:=by rw[u,fw]
 have H:(ag F).size=F.length:=aj F;clear u;have V:=hI (λG=>oZ F (by omega) G);have L:=hI (λG (J:BL w G)=>ku F (by omega) G (λO u=>h O (J.trans (u.mono J.size))));unfold kQ at V L;have a2:=DE F;generalize eG F=N at *;generalize dF F=W at *;generalize ag F=s at *;have a1:(W !=W)=false:=by simp
 clear H;clear h B;go_enter func4,ntmps4;go_wp2_with fail
 refine(V _).mono ?_;rintro e w1⟨_,I,_,rfl,u,h⟩;have R:=hI h;have s1:=h.size;have B:=hI u;have V1:=hI u.lt;have a':=yh u;clear u h;go_wp2_with fail
 refine(L _ R).mono ?_;rintro e O⟨_,n2,_,rfl,u,H⟩;have h:=hI u;have V2:=hI u.lt;obtain rfl:I=n2:=by have:=yh u;omega
 clear u;have Z:=zb R H;have s2:=H.size;replace B:=hI (aa B H);clear H;go_wp2_with fail
 refine(lE _ _ _ _ _ _ N _ (az h) (az B)).mono ?_;rintro e w3⟨rfl,H⟩;have T:=zb Z H;have s3:=H.size;replace B:=hI (aa B H);replace h:=hI (aa h H);clear H;have a6:(0:Int)≤((1+I:Nat):Int):=by omega
 have a7:decide (((1+I:Nat):Int)<0)=false:=by simp;omega
 have a8:(((1+I:Nat):Int) !=((1+I:Nat):Int))=false:=by simp
 go_wp2_with fail
 refine(rx _ w1.heap.size O.heap.size _ _ _ _ N 1 _ h (λq M=>V2 q M) (by omega) (by omega) (by omega)).mono ?_;rintro e w4⟨rfl,U,H⟩;clear h;have h:=hI U;clear U;have s4:=H.size;have ad:=hI (ao T H (by omega) T.size);replace B:=hI (aE B H (λq M=>by have:=V1 q M;omega));clear H;go_wp2_with fail
 refine(lc _ _ _ 1 _ (az h) (by omega) (by omega) (by omega)).mono ?_;rintro e w5⟨rfl,H⟩;have U:=zb ad H;have s5:=H.size;replace B:=hI (aa B H);replace h:=hI (aa h H);clear H;go_wp2_with fail
 refine(L _ U).mono ?_;rintro e w6⟨_,_,_,rfl,u,H⟩;have Y:=hI u;have V3:=hI u.lt;clear u;have ar:=zb U H;have s6:=H.size;replace B:=hI (aa B H);replace h:=hI (aa h H);clear H;go_wp2_with fail
 refine(lE _ _ _ _ _ _ N _ (az Y) (az B)).mono ?_;rintro e w7⟨rfl,u⟩;have H:=zb ar u;have s7:=u.size;replace h:=hI (aa h u);clear u;go_wp2_with fail
 refine(lc _ _ _ 1 _ (az h) (by omega) (by omega) (by omega)).mono ?_;rintro e w8⟨rfl,u⟩;have av:=zb H u;have s8:=u.size;clear u;go_wp2_with fail
 go_ret;exact⟨rfl,av⟩}
end Go.Proofs.YtnpldahkhaacnaaGreatDoor

/- Texts of the walk: LCR_K. -/
import Derived.Test.YtnpldahkhaacnaaGreatDoorYbs
import Derived.Test.YtnpldahkhaacnaaGreatDoorYae
set_option linter.unusedVariables false
set_option linter.unusedSimpArgs false
set_option maxRecDepth 100000
set_option maxHeartbeats 32000000
namespace Go.Proofs.YtnpldahkhaacnaaGreatDoor
open Go.RowKit Go.Sort Go.Proofs.Tryz
theorem Df (h:LB):(dl h).xs.length≤1048576:=by{
 have u:=oy h
 cases B:(dl h).op with
 | true=>exact qM (u.reg B).len (by omega)
 | false=>rw[u.shut B];simp[Dk.zero]}
theorem fnExactConsoleRegister_walk (s:ByteArray)(w:World)(h:∀I,BL w I→gu I):Calls prog 5 #[.string s] w λe I=>e=.returned (.bool true)∧BL w I:=by{
 by_cases B:1048576<s.size
 {
 have W:decide ((1048576:Int)<(s.size:Int))=true:=by simp;omega
 go_enter func5,ntmps5;go_wp2_with fail
 go_ret;exact⟨rfl,qB _ _⟩}
 have W:decide ((1048576:Int)<(s.size:Int))=false:=by simp;omega
 obtain⟨H,u⟩:∃H,H=s.data.toList:=⟨_,rfl⟩;obtain rfl:s=ag H:=by rw[u,fw]
 have F:(ag H).size=H.length:=aj H;clear u;have HS:=hI (λI=>sA H (by omega) I);have HI:=hI (λI (W:BL w I)=>sc H (by omega) I (λY u=>h Y (W.trans (u.mono W.size))));unfold ts at HS HI;have bN:=Df H;generalize dl H=d at *;generalize Hh H=cc at *;generalize ag H=s at *;have bv:(cc !=cc)=false:=by simp
 clear F;clear h B;go_enter func5,ntmps5;go_wp2_with fail
 refine(HS _).mono ?_;rintro e w1⟨A1,V,c1,rfl,G,h⟩;have bb:=hI h;have s1:=h.size;have B:=hI G;have V1:=hI G.lt;have bO:=aN bw (by decide) G;clear G h;obtain⟨Y,F,X,u,J⟩:=ae w1 #[d.b,d.s,.slice A1 V c1] 32;have h:=hI X;have bW:w1.heap.size<Y.heap.size:=by omega
 have N:=hI F;have a7:=zb bb u;have s2:=u.size;replace B:=hI (aa B u);clear u;clear X F J;go_wp2_with fail
 rw[←N.out];clear N;refine(HI _ a7).mono ?_;rintro e w3⟨A2,n2,c2,rfl,G,u⟩;have F:=hI G;have V2:=hI G.lt;obtain rfl:V=n2:=by have:=aN bw (by decide) G;omega
 clear G;have bk:=zb a7 u;have s3:=u.size;replace B:=hI (aa B u);replace h:=hI (h.below u);clear u;obtain⟨w4,O,X,J,bs⟩:=ae w3 #[d.b,d.s,.slice A2 V c2] 32;have u:=hI X;have bP:w3.heap.size<w4.heap.size:=by omega
 have N:=hI O;have Z:=h.cell (i:=0) rfl;have ad:=h.cell (i:=1) rfl;have ar:=h.cell (i:=2) rfl;have bn:=zb bk J;have s4:=J.size;replace B:=hI (aa B J);replace F:=hI (aa F J);replace h:=hI (h.below J);clear J;have R:=h.cell (i:=0) rfl;have T:=h.cell (i:=1) rfl;have U:=h.cell (i:=2) rfl;have J:=u.cell (i:=0) rfl;have L:=u.cell (i:=1) rfl;have M:=u.cell (i:=2) rfl;rw[O] at R T U J L M;clear X O bs;go_wp2_with fail
 rw[←N.out];clear N Z ad ar;refine(lv _ _ _ _ _ _ _ _ _ _ (az F) (az B)).mono ?_;rintro e w5⟨rfl,O⟩;clear R T U J L M;have a8:=zb bn O;have s5:=O.size;replace B:=hI (aa B O);replace F:=hI (aa F O);replace h:=hI (h.below O);replace u:=hI (u.below O);clear O;have J:=u.cell (i:=0) rfl;have L:=u.cell (i:=1) rfl;have M:=u.cell (i:=2) rfl;go_wp2_with fail
 refine(pS _ Y.heap.size w3.heap.size _ _ _ _ _ _ _ _ _ F (λq hq=>V2 q hq) (by omega) (by omega) (by omega)).mono ?_;rintro e w6⟨rfl,ba,O⟩;clear F J L M;have F:=hI ba;clear ba;have s6:=O.size;have bo:=hI (ao a8 O (by omega) a8.size);replace B:=hI (aE B O (λq hq=>by have:=V1 q hq;omega));replace h:=hI (h.chg O (by omega));replace u:=hI (u.chg O (by omega));clear O;have J:=u.cell (i:=0) rfl;have L:=u.cell (i:=1) rfl;have M:=u.cell (i:=2) rfl;go_wp2_with fail
 refine(jU _ _ _ _ _ _ _ (az F) (by omega) (by omega) (by omega)).mono ?_;rintro e w7⟨rfl,O⟩;clear J L M;have a':=zb bo O;have s7:=O.size;replace B:=hI (aa B O);replace F:=hI (aa F O);replace h:=hI (h.below O);replace u:=hI (u.below O);clear O;go_wp2_with fail
 refine(HI _ a').mono ?_;rintro e w8⟨A3,n3,c3,rfl,G,O⟩;have H3:=hI G;have V3:=hI G.lt;obtain rfl:V=n3:=by have:=aN bw (by decide) G;omega
 clear G;have bp:=zb a' O;have s8:=O.size;replace B:=hI (aa B O);replace F:=hI (aa F O);replace h:=hI (h.below O);replace u:=hI (u.below O);clear O;obtain⟨w9,av,X,G,bt⟩:=ae w8 #[d.b,d.s,.slice A3 V c3] 32;have O:=hI X;have bR:w8.heap.size<w9.heap.size:=by omega
 have N:=hI av;have Z:=h.cell (i:=0) rfl;have ad:=h.cell (i:=1) rfl;have ar:=h.cell (i:=2) rfl;have bq:=zb bp G;have s9:=G.size;replace B:=hI (aa B G);replace F:=hI (aa F G);replace H3:=hI (aa H3 G);replace h:=hI (h.below G);replace u:=hI (u.below G);clear G;have R:=h.cell (i:=0) rfl;have T:=h.cell (i:=1) rfl;have U:=h.cell (i:=2) rfl;have a1:=O.cell (i:=0) rfl;have a2:=O.cell (i:=1) rfl;have a6:=O.cell (i:=2) rfl;rw[av] at R T U a1 a2 a6;clear X av bt;go_wp2_with fail
 rw[←N.out];clear N Z ad ar;refine(lv _ _ _ _ _ _ _ _ _ _ (az H3) (az B)).mono ?_;rintro e Z⟨rfl,G⟩;clear R T U a1 a2 a6;have N:=zb bq G;have R:=G.size;replace F:=hI (aa F G);replace u:=hI (u.below G);clear G;have J:=u.cell (i:=0) rfl;have L:=u.cell (i:=1) rfl;have M:=u.cell (i:=2) rfl;go_wp2_with fail
 refine(jU _ _ _ _ _ _ _ (az F) (by omega) (by omega) (by omega)).mono ?_;rintro e T⟨rfl,G⟩;clear J L M;have J:=zb N G;have L:=G.size;clear G;go_wp2_with fail
 go_ret;exact⟨rfl,J⟩}
end Go.Proofs.YtnpldahkhaacnaaGreatDoor

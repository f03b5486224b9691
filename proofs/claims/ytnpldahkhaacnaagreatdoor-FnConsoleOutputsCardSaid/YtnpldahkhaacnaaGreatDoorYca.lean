/- Texts of the walk: Ud_O LOut_O. -/
import Derived.Test.YtnpldahkhaacnaaGreatDoorYbz
set_option linter.unusedVariables false
set_option linter.unusedSimpArgs false
set_option maxRecDepth 100000
set_option maxHeartbeats 32000000
namespace Go.Proofs.YtnpldahkhaacnaaGreatDoor
open Go.RowKit Go.Sort Go.Proofs.Tryz
theorem Bk (u:World)(A:OA)(n F:Nat)(code:LI)(M:hU u A n code)(w:World)(I:BL u w):Calls prog 23 #[.slice A n F] w λe h=>∃B:LB,e=.returned (.string (ag B))∧B.length≤8000∧BL w h:=by{
 have G:=hI (λh H=>xz u A n F code M h H);have J:=hI (λg h H=>sk u A n F code M g h H);have O:=hI I;unfold AE at G;unfold vz at J;clear I;go_enter func23,ntmps23;go_wp2_with fail
 refine(G _ O).mono ?_;rintro e U⟨g,rfl,N,T,L⟩;have R:=hI (show SD u U A n F code g from⟨_,N⟩);have I:=hI L;have V:=T;clear N L G;go_wp2_with fail
 refine(J _ _ R).mono ?_;rintro e W⟨B,rfl,N,-,G⟩;have L:=hI (ao I G (by omega) I.size);clear G;go_wp2_with fail
 go_ret;exact⟨B,rfl,N,L⟩}
theorem Gc (h:LB):(eG h).length≤150:=by{
 cases u:dU h with
 | true=>{
 obtain⟨-,e,-,B⟩:=fi u;rw[e,BX];exact B}
 | false=>rw[(km u).2.1];simp}
theorem CU {x l:LB}(B:∀c∈l,c≠10)(h:dF (x++[10])=0)(u:dF ((x++[10])++(l++[10]))=0):∃y,eG ((x++[10])++(l++[10]))=eG (x++[10])++[y]:=by{
 rw[(fi (oG h)).2.1,(fi (oG u)).2.1,lH x l B,xE];exact⟨_,rfl⟩}
theorem fnConsoleOutputs_walk (a0:OA)(F M:Nat)(z0:LI)(w:World)(h:∀B,BL w B→gu B)(v0:IsRow .u8 w a0 F M z0):Calls prog 6 #[.slice a0 F M] w λe B=>e=.returned (.bool true)∧BL w B:=by{
 have a':=v0.lenle;have J:=hI h;clear h;by_cases a8:4096<F
 {
 have h:decide (4096<F)=true:=by simpa using a8
 have u:=hI (rU a0 F M a' w);rw[h] at u;clear h v0;go_enter func6,ntmps6;go_wp2_with fail
 refine u.mono ?_;rintro e B⟨rfl,rfl⟩;go_wp2_with fail
 go_ret;exact⟨rfl,qB _ _⟩}
 have h:decide (4096<F)=false:=by simpa using a8
 have u:=hI (rU a0 F M a' w);rw[h] at u;clear h;have G:=yg v0 (by omega);generalize z0.take F=code at G;clear v0;have I:=hI (λh T=>Bk w a0 F M code G h T);have Z:=hI (λh (R:h.length≤2097152) B=>oZ h R B);have N:=hI (λh (R:h.length≤2097152) B (T:BL w B)=>ku h R B (λw2 H=>J w2 (T.trans (H.mono T.size))));unfold kQ at Z N;clear G J;go_enter func6,ntmps6;go_wp2_with fail
 refine u.mono ?_;rintro e B⟨rfl,rfl⟩;go_wp2_with fail
 refine(I _ (qB _ _)).mono ?_;rintro e w0⟨h,rfl,R,G⟩;have a1:=hI G;have s0:=G.size;clear G u I;go_wp2_with fail
 refine(N h (by omega) _ a1).mono ?_;rintro e w1⟨_,G,_,rfl,u,I⟩;have W:=hI u;have bt:=oA u;have bR:=Gc h;clear u;have bb:=zb a1 I;have s1:=I.size;clear I;go_wp2_with fail
 refine(Z h (by omega) _).mono ?_;rintro e w2⟨_,n2,_,rfl,u,I⟩;have H2:=hI u;obtain rfl:G=n2:=by have:=oA u;omega
 clear u;have a2:=zb bb I;have s2:=I.size;replace W:=hI (aa W I);clear I;obtain⟨I,J⟩:∃I,I=dF h:=⟨_,rfl⟩;have bk:=hI J;rw[←J];clear J;have b0:(I !=I)=false:=by simp
 have b3:((G:Int) !=(G:Int))=false:=by simp
 go_wp2_with fail
 go_loopw [8] (λi wr=>∃k:Nat,k≤G∧i=.int .i64 (k:Int)∧Hid (BL w2 wr)) (λi _=>G-(intOf i).toNat)
 case atStart=>exact⟨0,qH _,rfl,hI (qB _ _)⟩
 case round=>(
 obtain⟨k,_,rfl,L⟩:=hrel;obtain⟨V,bN⟩:∃V:World,V=wr:=⟨_,rfl⟩;subst bN;have O:=hI (aa W L);have a6:=hI (aa H2 L);by_cases ar:k<G
 {
 have bs:decide ((k:Int)<(G:Int))=true:=by simpa using ar
 obtain⟨b,o,x,rfl,hx,-,hc⟩:=(az O).str ar;obtain⟨b',o',x',rfl,av,-,bo⟩:=(az a6).str ar;obtain rfl:x=x':=by rw[hx] at av;injection av
 clear hx av;generalize ag x=s at *;have bv:(s.toList==s.toList)=true:=by simp
 go_wp2_with fail
 go_quiet (fail)
 go_wp2_with fail
 go_roundw
 case rel=>exact⟨k+1,by omega,by go_num,hI (L.trans ((ac _ _ _).mono L.size))⟩
 case measure=>simp[intOf]<;>omega}
 {
 obtain rfl:k=G:=by omega
 have bs:decide ((k:Int)<(k:Int))=false:=by simp
 have J:=hI (a2.trans (L.mono a2.size));by_cases h0:I=0
 rotate_left
 {
 have b1:(I !=0)=true:=by simp[h0]
 clear h0;go_wp2_with fail
 go_ret;exact⟨rfl,J⟩}
 subst h0;by_cases a7:h=[]
 {
 subst a7;go_wp2_with fail
 go_ret;exact⟨rfl,J⟩}
 obtain⟨x,c,rfl⟩:=ux a7;have ba:(ag (x++[c])).size=x.length+1:=by rw[aj];simp
 have bW:(x++[c]).length=x.length+1:=by simp
 have b4:(ag (x++[c])).size≤8000:=by rw[aj];omega
 have b5:x.length≤8000:=by have:=ba;omega
 go_wp2_with fail
 {
 go_ret;exact⟨rfl,J⟩}
 {
 have bp:c=10:=by{
 obtain⟨-,U⟩:=(‹((x.length:Int)+1==0)=false∧_›);have Y:=zJ (x:=x) (c:=c) (i:=x.length) rfl (by rw[ba];omega);rw[Y] at U;have bP:(c.toNat:Int)=10:=by simpa using U
 exact UInt8.toNat_inj.1 (show c.toNat=(10:UInt8).toNat from by show c.toNat=10;omega)}
 subst bp;rw[show ag (x++[10])++(⟨#[115,116,97,110,100,105,110,103,10]⟩:ByteArray)=ag ((x++[10])++(aq++[10])) from by rw[←aA];rfl];refine(N ((x++[10])++(aq++[10])) (by rw[qJ];have:(aq++[10]).length=9:=rfl;omega) _ J).mono ?_;rintro e w3⟨_,n3,_,rfl,u,ad⟩;have H3:=hI u;have U:=oA u;have Y:=zb J ad;have O:=hI (aa O ad);clear u ad a6 N Z;have u:=hI (sE ((x++[10])++(aq++[10])));by_cases H:dF ((x++[10])++(aq++[10]))=0
 rotate_left
 {
 have Z:dF ((x++[10])++(aq++[10]))=3:=by{
 rcases u.out with N|N
 {exact absurd N H}
 {exact N.1}}
 rw[Z];clear H Z U u;go_wp2_with fail
 go_ret;exact⟨rfl,Y⟩}
 obtain⟨y,N⟩:=CU (x:=x) (l:=aq) (by decide) bk.symm H;rw[H];have HY:=hI N;obtain rfl:n3=k+1:=by rw[N,qJ,bt] at U;simp at U;omega
 clear H U N u;have b2:decide (((k+1:Nat):Int)<(k:Int))=false:=by simp;omega
 go_wp2_with fail
 go_loopw [11] (λi wr=>∃j:Nat,j≤k∧i=.int .i64 (j:Int)∧Hid (BL w3 wr)) (λi _=>k-(intOf i).toNat)
 case atStart=>exact⟨0,qH _,rfl,hI (qB _ _)⟩
 case round=>(
 obtain⟨j,_,rfl,u⟩:=hrel;obtain⟨_,bO⟩:∃V:World,V=wr:=⟨_,rfl⟩;subst bO;have Z:=hI (aa O u);have bn:=hI (aa H3 u);by_cases N:j<k
 {
 have bq:decide ((j:Int)<(k:Int))=true:=by simpa using N
 obtain⟨b,o,z,rfl,U,-,hc⟩:=(az Z).str N;obtain⟨b',o',z',rfl,H,-,bo⟩:=(az bn).str (k:=j) (by omega);obtain rfl:z=z':=by{
 rw[HY.out,qU (by omega),U] at H;injection H}
 clear U H;generalize ag z=s at *;have bv:(s.toList==s.toList)=true:=by simp
 go_wp2_with fail
 go_quiet (fail)
 go_wp2_with fail
 go_roundw
 case rel=>exact⟨j+1,by omega,by go_num,hI (u.trans ((ac _ _ _).mono u.size))⟩
 case measure=>simp[intOf]<;>omega}
 {
 obtain rfl:j=k:=by omega
 have bq:decide ((j:Int)<(j:Int))=false:=by simp
 go_wp2_with fail
 go_ret;exact⟨rfl,Y.trans (u.mono Y.size)⟩})}})}
end Go.Proofs.YtnpldahkhaacnaaGreatDoor

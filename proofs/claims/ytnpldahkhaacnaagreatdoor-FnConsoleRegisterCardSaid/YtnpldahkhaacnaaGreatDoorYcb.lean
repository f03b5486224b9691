/- Texts of the walk: Zn_G Ud_G LCg_G. -/
import Derived.Test.YtnpldahkhaacnaaGreatDoorYbz
set_option linter.unusedVariables false
set_option linter.unusedSimpArgs false
set_option maxRecDepth 100000
set_option maxHeartbeats 32000000
namespace Go.Proofs.YtnpldahkhaacnaaGreatDoor
open Go.RowKit Go.Sort Go.Proofs.Tryz
theorem pZ (b s:Int)(A:OA)(n c:Nat)(u:List EntryT)(W:OA)(l cl:Nat)(G:LI)(w:World)(V:bA w A n c u)(U:Rd w 1 W l (ints G)):Calls prog 25 #[.agg #[b,s,.slice A n c],.slice W l cl] w (mS w (dp b s u G)):=by{
 obtain⟨_,H,B,F,J⟩:=ae w #[b,s,.slice A n c] 32;have M:=hI H;have L:=hI F;have av:=hI B;have O:=B.f3;have T:=hI (λh (I:BL w h)=>cJ b s A n c u h (V.below I));have R:=hI (λh (I:BL w h)=>kD W l cl G h (U.below I));clear H F B J
 cases F:dC b s u with
 | false=>{
 rw[F] at T;rw[show dp b s u G=([],1) from by unfold dp;rw[F];rfl];clear F R V U;go_enter func25,ntmps25;go_wp2_with fail
 rw[←M.out];clear M;refine(T _ L).mono ?_;rintro e w2⟨rfl,B⟩;have H:=zb L B;clear O B;go_wp2_with fail
 go_ret2;exact mS.nil _ _ _ H}
 | true=>{
 rw[F] at T
 cases J:bC G with
 | false=>{
 rw[J] at R;rw[show dp b s u G=([],2) from by unfold dp;rw[F,J];rfl];clear F J V U;go_enter func25,ntmps25;go_wp2_with fail
 rw[←M.out];clear M;refine(T _ L).mono ?_;rintro e w2⟨rfl,B⟩;have H:=zb L B;clear O B;go_wp2_with fail
 refine(R _ H).mono ?_;rintro e w3⟨rfl,N⟩;have Y:=zb H N;clear N;go_wp2_with fail
 go_ret2;exact mS.nil _ _ _ Y}
 | true=>{
 rw[J] at R;rw[show dp b s u G=(standT (tabR b s u) G,0) from by unfold dp;rw[F,J];rfl];have ad:=fA F;have ok:=dJ ad;have ar:=el J;have HT:=hI (λh (I:BL w h)=>cQ b s A n c u ad h (V.below I));have HS:=hI (λP n3 c3 C Z d3 h (I:BL w h) (ho:RdT h P n3 C Z (tabR b s u))=>gG P n3 c3 C Z d3 (tabR b s u) ok W l cl G ar h ho (U.below I));generalize tabR b s u=a2 at *;clear F J V U ad ok ar;go_enter func25,ntmps25;go_wp2_with fail
 rw[←M.out];clear M;refine(T _ L).mono ?_;rintro e w2⟨rfl,B⟩;have H:=zb L B;have V:=hI (av.below B);clear O B;go_wp2_with fail
 refine(R _ H).mono ?_;rintro e w3⟨rfl,N⟩;have Y:=zb H N;have O:=(V.below N).f3;clear N;go_wp2_with fail
 refine(HT _ Y).mono ?_;rintro e w4⟨P,n3,c3,_,C,Z,d3,_,rfl,J,-,F⟩;have B:=zb Y F;have U:=hI J.rd;clear J F O;go_wp2_with fail
 refine(HS P n3 c3 C Z d3 _ B U).mono ?_;rintro e w5⟨M,n5,c5,rfl,J,a1,F⟩;have O:=hI (an J B.size);have N:=zb B F;clear J F;go_wp2_with fail
 go_ret2;exact⟨M,n5,c5,rfl,O,a1,N⟩}}}
theorem AY (u:World)(A:OA)(n F:Nat)(code:LI)(M:hU u A n code)(w:World)(I:BL u w):Calls prog 24 #[.slice A n F] w λe h=>∃B:LB,e=.returned (.string (ag B))∧B.length≤8000∧BL w h:=by{
 have G:=hI (λh H=>xz u A n F code M h H);have J:=hI (λg h H=>sk u A n F code M g h H);have O:=hI I;unfold AE at G;unfold vz at J;clear I;go_enter func24,ntmps24;go_wp2_with fail
 refine(G _ O).mono ?_;rintro e U⟨g,rfl,N,T,L⟩;have R:=hI (show SD u U A n F code g from⟨_,N⟩);have I:=hI L;have V:=T;clear N L G;go_wp2_with fail
 refine(J _ _ R).mono ?_;rintro e W⟨B,rfl,N,-,G⟩;have L:=hI (ao I G (by omega) I.size);clear G;go_wp2_with fail
 go_ret;exact⟨B,rfl,N,L⟩}
theorem Jr {x b:Int}(h:b≤16)(u:x<b):x<16:=by omega
theorem Ae {x:LB}(I:dF (x++[10])=0)(F:(dl (x++[10])).op=true)(N:dF ((x++[10])++((dr++[10])++(aq++[10])))=0):eG ((x++[10])++((dr++[10])++(aq++[10])))=eG (x++[10])++[uT,dy (standT (tabR (dl (x++[10])).b (dl (x++[10])).s (dl (x++[10])).xs) [])]:=by{
 have L:=lH x dr (by decide);have G:=lH ((x++[10])++dr) aq (by decide);have M:(x++[10])++((dr++[10])++(aq++[10]))=(((x++[10])++dr)++[10])++(aq++[10]):=by simp
 have H:((x++[10])++dr)++[10]=(x++[10])++(dr++[10]):=by simp
 rw[H] at G;rw[(fi (oG I)).2.1,(fi (oG N)).2.1,M,H,G,L,qb,Cl];rw[(fi (oG I)).2.2.1] at F ⊢;generalize (di Dk.zero (bE (x++[10]))).1=d at *;obtain⟨_,b,s,u,J⟩:=d;simp only at F ⊢;subst F;have h:wordsL dr=[dr]:=jq (by decide);have B:wordsL aq=[aq]:=jq (by decide);have U:dh (wordsL dr)=((1:Nat):Int):=vy (by rw[h];rfl) (by rw[h];rfl) (by rw[h];decide);have V:dh (wordsL aq)=((2:Nat):Int):=by{
 obtain⟨k,T,_,O,R,_⟩:=BT (ws:=wordsL aq) (X:=aq) (len:=0) (by rw[B];rfl) (by decide) (by rw[B];rfl) (by rw[B];rfl) (by decide);rw[R,mi T (j:=2) (by omega) (show cW.getD k []=cW.getD 2 [] from O.symm)]}
 have O:aZ ⟨true,b,s,u,J⟩ dr=(⟨true,b,s,u,[]⟩,uT):=by{
 unfold aZ;rw[if_neg (by rw[h];decide),if_neg (by rw[h];decide),if_neg (by rw[h];decide),U,show bu (wordsL dr)=[] from by rw[h];rfl];rfl}
 have R:aZ ⟨true,b,s,u,[]⟩ aq=(⟨true,b,s,u,[]⟩,dy (standT (tabR b s u) [])):=by{
 unfold aZ;rw[if_neg (by rw[B];decide),if_neg (by rw[B];decide),if_neg (by rw[B];decide),V];rfl}
 show _++(di ⟨true,b,s,u,J⟩ [dr,aq]).2=_;rw[di,O];show _++uT::(di ⟨true,b,s,u,[]⟩ [aq]).2=_;rw[di,R];rfl}
def kJ:LI→LB|[]=>[]|[x]=>[dgt x.toNat]|x::y::r=>dgt x.toNat::32::kJ (y::r)
theorem Ds:∀{h:LI},(∀x∈h,0≤x∧x<10)→dy h=kJ h:=by{
 intro h
 induction h with
 | nil=>intro _;rfl
 | cons x r u=>{
 intro B;have G:=B x List.mem_cons_self;have u:=u (λy F=>B y (List.mem_cons_of_mem _ F))
 cases r with
 | nil=>show aP x.toNat=_;rw[bZ (by omega)];rfl
 | cons y r=>{
 show bJ (aP x.toNat::aP y.toNat::_)=_;rw[eX,bZ (show x.toNat<10 by omega)];show dgt x.toNat::32::dy (y::r)=_;rw[u];rfl}}}
theorem DP:∀(h:LI) (y:Int),kJ (h++[y])=if h=[] then [dgt y.toNat] else kJ h++[32]++[dgt y.toNat]:=by{
 intro h
 induction h with
 | nil=>intro y;rfl
 | cons x r B=>{
 intro y;rw[if_neg (by simp)]
 cases r with
 | nil=>rfl
 | cons z r=>{
 have u:=B y;rw[if_neg (by simp)] at u;show dgt x.toNat::32::kJ (z::r++[y])=dgt x.toNat::32::kJ (z::r)++[32]++[dgt y.toNat];rw[u];simp}}}
theorem GN:∀(h:LI),(kJ h).length≤2*h.length:=by{
 intro h
 induction h with
 | nil=>simp[kJ]
 | cons x r u=>{
 cases r with
 | nil=>simp[kJ]
 | cons y r=>simp only[kJ,qO] at *;omega}}
theorem xw {u:LB}(h:Hh u=0):dF u=0∧(dl u).op=true:=by{
 unfold Hh at h;split at h
 {
 rename_i B;refine⟨B,?_⟩
 cases F:(dl u).op with
 | true=>rfl
 | false=>rw[F,if_neg Bool.false_ne_true] at h;cases h}
 {cases h}}
theorem Hj {h:LB}(u:Hh h=0):h≠[]:=by{
 intro e;subst e;have:=(xw u).2
 cases this}
theorem fnConsoleRegister_walk (a0:OA)(U a6:Nat)(z0:LI)(w:World)(h:∀u,BL w u→gu u)(v0:IsRow .u8 w a0 U a6 z0):Calls prog 7 #[.slice a0 U a6] w λe u=>e=.returned (.bool true)∧BL w u:=by{
 have ch:=v0.lenle;have H:=hI h;clear h;by_cases cf:4096<U
 {
 have h:decide (4096<U)=true:=by simpa using cf
 have B:=hI (rU a0 U a6 ch w);rw[h] at B;clear h v0;go_enter func7,ntmps7;go_wp2_with fail
 refine B.mono ?_;rintro e u⟨rfl,rfl⟩;go_wp2_with fail
 go_ret;exact⟨rfl,qB _ _⟩}
 have h:decide (4096<U)=false:=by simpa using cf
 have B:=hI (rU a0 U a6 ch w);rw[h] at B;clear h;have L:=yg v0 (by omega);generalize z0.take U=code at L;clear v0;have M:=hI (λF J=>AY w a0 U a6 code L F J);have I:=hI (λG (hL:G.length≤2097152) u=>sA G hL u);have F:=hI (λG (hL:G.length≤2097152) u (J:BL w u)=>sc G hL u (λw2 T=>H w2 (J.trans (T.mono J.size))));have ba:=hI (λG (hL:G.length≤2097152) u (J:BL w u)=>ku G hL u (λw2 T=>H w2 (J.trans (T.mono J.size))));unfold kQ at ba;unfold ts at I F;clear L H;go_enter func7,ntmps7;go_wp2_with fail
 refine B.mono ?_;rintro e u⟨rfl,rfl⟩;go_wp2_with fail
 refine(M _ (qB _ _)).mono ?_;rintro e w0⟨G,rfl,hL,H⟩;have b0:=hI H;have s0:=H.size;clear H B M;have B:=F G (by omega);have H:=I G (by omega);obtain⟨d,h⟩:∃d,d=dl G:=⟨_,rfl⟩;obtain⟨cc,L⟩:∃cc,cc=Hh G:=⟨_,rfl⟩;rw[←h,←L] at B H;have cw:=hI B;have a2:=hI H;have b6:=hI h;have b5:=hI L;clear B H h L F I;go_wp2_with fail
 refine(cw _ b0).mono ?_;rintro e w1⟨A1,L,c1,rfl,F,bk⟩;have R:=hI F;have V1:=hI F.lt;have em:=aN bw (by decide) F;clear F;have cp:=zb b0 bk;have s1:=bk.size;clear bk;obtain⟨w2,h,X,a7,cn⟩:=ae w1 #[.int .i64 d.b,.int .i64 d.s,.slice A1 L c1] 32;have B:=hI X;have eH:w1.heap.size<w2.heap.size:=by omega
 have I:=hI h;have cq:=zb cp a7;have s2:=a7.size;replace R:=hI (aa R a7);clear a7;clear X h cn;go_wp2_with fail
 rw[←I.out];clear I;refine(a2 _).mono ?_;rintro e w3⟨A2,n2,c2,rfl,F,h⟩;have H2:=hI F;obtain rfl:L=n2:=by have:=aN bw (by decide) F;omega
 clear F;have d':(cc !=cc)=false:=by simp
 have eC:((L:Int) !=(L:Int))=false:=by simp
 have d9:(d.b !=d.b)=false:=by simp
 have b3:=zb cq h;have s3:=h.size;replace R:=hI (aa R h);replace B:=hI (B.below h);clear h;by_cases h0:cc=0
 rotate_left
 {
 have ee:(cc !=0)=true:=by simp[h0]
 clear h0;obtain⟨w4,M,X,h,bP⟩:=ae w3 #[.int .i64 d.b,.int .i64 d.s,.slice A2 L c2] 32;have V:=hI X;have d5:w3.heap.size<w4.heap.size:=by omega
 have I:=hI M;have Z:=B.cell (i:=0) rfl;have bp:=B.cell (i:=1) rfl;have bq:=B.cell (i:=2) rfl;have a8:=zb b3 h;have s4:=h.size;replace R:=hI (aa R h);replace H2:=hI (aa H2 h);replace B:=hI (B.below h);clear h;have H:=B.cell (i:=0) rfl;have N:=B.cell (i:=1) rfl;have O:=B.cell (i:=2) rfl;have W:=V.cell (i:=0) rfl;have Y:=V.cell (i:=1) rfl;have ar:=V.cell (i:=2) rfl;rw[M] at H N O W Y ar;clear X M bP;go_wp2_with fail
 rw[←I.out];clear I Z bp bq;go_ret;exact⟨rfl,a8⟩}
 subst h0;obtain⟨w4,M,X,h,bP⟩:=ae w3 #[.int .i64 d.b,.int .i64 d.s,.slice A2 L c2] 32;have V:=hI X;have d5:w3.heap.size<w4.heap.size:=by omega
 have I:=hI M;have Z:=B.cell (i:=0) rfl;have bp:=B.cell (i:=1) rfl;have bq:=B.cell (i:=2) rfl;have a8:=zb b3 h;have s4:=h.size;replace R:=hI (aa R h);replace H2:=hI (aa H2 h);replace B:=hI (B.below h);clear h;have H:=B.cell (i:=0) rfl;have N:=B.cell (i:=1) rfl;have O:=B.cell (i:=2) rfl;have W:=V.cell (i:=0) rfl;have Y:=V.cell (i:=1) rfl;have ar:=V.cell (i:=2) rfl;rw[M] at H N O W Y ar;clear X M bP;go_wp2_with fail
 rw[←I.out];clear I Z bp bq;clear H N O W Y ar;obtain⟨I,h⟩:=xw b5.symm;have cL:=Hj b5.symm;have M:cE d.b d.s d.xs:=by{
 have Z:=(oy G).reg h;rw[←b6.out] at Z;exact Z}
 have bb:=hI M;have cv:=hI I;have cx:=hI h;clear I h M;go_loopw [8] (λi wr=>∃k:Nat,k≤L∧i=.int .i64 (k:Int)∧Hid (BL w4 wr)) (λi _=>L-(intOf i).toNat)
 case atStart=>exact⟨0,qH _,rfl,hI (qB _ _)⟩
 case round=>(
 obtain⟨k,_,rfl,Y⟩:=hrel;obtain⟨wo,d1⟩:∃wo:World,wo=wr:=⟨_,rfl⟩;subst d1;have a1:=hI (aa R Y);have cB:=hI (aa H2 Y);have ek:=(az a1).le;have Yr:=hI (B.below Y);have Ym:=hI (V.below Y);have H:=Yr.cell (i:=0) rfl;have N:=Yr.cell (i:=1) rfl;have O:=Yr.cell (i:=2) rfl;have ar:=Ym.cell (i:=2) rfl;by_cases bO:k<L
 {
 have dq:decide ((k:Int)<(L:Int))=true:=by simpa using bO
 obtain⟨b,o,_,_,_,_,_,_,_,rfl,hx,-,_,c1,c2,c3,c4,_,_⟩:=(az a1).ent bO;obtain⟨_,_,_,_,_,_,_,_,_,rfl,h,-,_,e1,e2,_,_,_,_⟩:=(az cB).ent bO;rw[hx] at h;injection h with h;injection h with q0 h;injection h with q1 h;injection h with q2 h;injection h with q3 h;injection h with q4 h;injection h with q5 q6;subst q0 q1 q2 q3 q4 q5 q6;clear hx;go_wp2_with fail
 go_quiet (fail)
 go_wp2_with fail
 go_roundw
 case rel=>exact⟨k+1,by omega,by go_num,hI (Y.trans ((ac _ _ _).mono Y.size))⟩
 case measure=>simp[intOf]<;>omega}
 {
 obtain rfl:k=L:=by omega
 have dq:decide ((k:Int)<(k:Int))=false:=by simp
 have cs:=hI (a8.trans (Y.mono a8.size));have M:=hI (pZ d.b d.s A1 k c1 d.xs none 0 0 [] wo ⟨az a1,iP a1⟩ ⟨rfl,by omega,λZ=>by omega⟩);unfold mS at M;rw[show dp d.b d.s d.xs []=(standT (tabR d.b d.s d.xs) [],0) from by unfold dp;rw[if_pos bb.out.regB,if_pos (by rfl)]] at M;go_wp2_with fail
 refine M.mono ?_;rintro e w5⟨_,W,c3,rfl,F,-,bn⟩;have H3:=hI F;have cm:=eU F;have cr:=zb cs bn;have b9:=hI (aa a1 bn);have I:=hI (Yr.below bn);have bk:=bb.b1;have a7:=bb.b2;have bR:(tabR d.b d.s d.xs).boats=d.b:=rfl;rw[eQ,bR] at cm;have en:((W:Int) !=d.b)=false:=by simp;omega
 have er:((W:Int)==d.b)=true:=by simp;omega
 have a':=hI (λu (J:BL w5 u)=>cJ d.b d.s A1 k c1 d.xs u ⟨az (aa b9 J),iP b9⟩);rw[bb.out.regB] at a';clear F bn M H N O ar;have H:=I.cell (i:=0) rfl;have N:=I.cell (i:=1) rfl;have O:=I.cell (i:=2) rfl;have c8:G≠[]:=cL;obtain⟨x,c,rfl⟩:=ux c8;have d0:(ag (x++[c])).size=x.length+1:=by rw[aj];simp
 have d8:(x++[c]).length=x.length+1:=by simp
 have eD:(ag (x++[c])).size≤8000:=by rw[aj];omega
 have eE:x.length≤8000:=by omega
 go_wp2_with fail
 refine(a' _ (qB _ _)).mono ?_;rintro e w6⟨rfl,M⟩;have bs:=zb cr M;have b7:=hI (λu (J:BL w6 u)=>a' u (M.trans (J.mono M.size)));have cy:=hI (aa H3 M);have I:=hI (I.below M);clear M a' H N O;have H:=I.cell (i:=0) rfl;have N:=I.cell (i:=1) rfl;have O:=I.cell (i:=2) rfl;go_wp2_with fail
 {
 clear ba;refine(b7 _ (qB _ _)).mono ?_;rintro e w7⟨rfl,ad⟩;have av:=zb bs ad;clear ad;go_wp2_with fail
 go_ret;exact⟨rfl,av⟩}
 {
 have cR:c=10:=by{
 obtain⟨-,M⟩:=(‹((x.length:Int)+1==0)=false∧_›);have hg:=zJ (x:=x) (c:=c) (i:=x.length) rfl (by rw[d0];omega);rw[hg] at M;have d6:(c.toNat:Int)=10:=by simpa using M
 exact UInt8.toNat_inj.1 (show c.toNat=(10:UInt8).toNat from by show c.toNat=10;omega)}
 subst cR;rw[show ag (x++[10])++(⟨#[114,117,108,101,10,115,116,97,110,100,105,110,103,10]⟩:ByteArray)=ag ((x++[10])++((dr++[10])++(aq++[10]))) from by rw[←aA];rfl];refine(ba ((x++[10])++((dr++[10])++(aq++[10]))) (by rw[qJ];have:((dr++[10])++(aq++[10])).length=14:=rfl;omega) _ bs).mono ?_;rintro e w7⟨_,M,c4,rfl,F,ad⟩;have H4:=hI F;have bo:=oA F;have av:=zb bs ad;have ca:=hI (aa cy ad);have I:=hI (I.below ad);clear F ad ba b7 H N O;have F:=hI (sE ((x++[10])++((dr++[10])++(aq++[10]))));by_cases T:dF ((x++[10])++((dr++[10])++(aq++[10])))=0
 rotate_left
 {
 have N:dF ((x++[10])++((dr++[10])++(aq++[10])))=3:=by{
 rcases F.out with Z|Z
 {exact absurd Z T}
 {exact Z.1}}
 rw[N];clear T N bo F;go_wp2_with fail
 go_ret;exact⟨rfl,av⟩}
 have h:=Ae (x:=x) cv cx T;rw[←b6.out] at h;rw[T];rw[h,qJ] at bo;have dA:M=(eG (x++[10])).length+2:=by simp at bo;omega
 have eg:=(az H4).le;have HY:=hI (show(eG ((x++[10])++((dr++[10])++(aq++[10]))))[M-1]?=some (dy (standT (tabR d.b d.s d.xs) [])) from by rw[h,qR (by omega),show M-1-(eG (x++[10])).length=1 from by omega];rfl);have O:=hI (λ(y:Int) (h:y∈standT (tabR d.b d.s d.xs) [])=>(kG (t:=tabR d.b d.s d.xs) (rule:=[])).1 h);have cb:(standT (tabR d.b d.s d.xs) []).length=W:=by rw[eQ,bR];exact cm
 have a2:=hI cb;have eA:2≤M:=by omega
 rw[bR] at O;obtain⟨S,N⟩:∃S,S=standT (tabR d.b d.s d.xs) []:=⟨_,rfl⟩;rw[←N] at HY O ca a2;clear T bo h F N cb dA;go_wp2_with fail
 go_loopw [13,14] (λt i wr=>∃j:Nat,j≤W∧i=.int .i64 (j:Int)∧t=.string (ag (kJ (S.take j)))∧Hid (BL w7 wr)) (λ_ i _=>W-(intOf i).toNat)
 case atStart=>exact⟨0,qH _,rfl,rfl,hI (qB _ _)⟩
 case round=>(
 obtain⟨j,_,rfl,rfl,F⟩:=hrel;obtain⟨wv,d2⟩:∃wo:World,wo=wr:=⟨_,rfl⟩;subst d2;have bv:=GN (S.take j);have d3:(ag (kJ (S.take j))).size≤32:=by rw[aj];rw[qS] at bv;omega
 by_cases ck:j<W
 {
 have dc:decide ((j:Int)<(W:Int))=true:=by simpa using ck
 obtain⟨b,o,y,rfl,h,-,hc⟩:=(az (aa ca F)).int ck;have bW:=O y (qF h);obtain⟨N,rfl⟩:=aC y bW.1;have c7:=iG wv (48+(N:Int)%10);have d4:(ag [UInt8.ofNat (48+(N:Int)%10).toNat]).size≤1:=by rw[aj];exact qA _
 rw[wW] at c7 d4;have T:=hI (show kJ (S.take (j+1))=if S.take j=[] then [dgt N] else kJ (S.take j)++[32]++[dgt N] from by rw[List.take_add_one,h];exact DP _ _);by_cases c9:j=0
 {
 subst c9;obtain⟨l0,bN⟩:∃l0,l0=kJ (S.take 0):=⟨_,rfl⟩;have bt:=hI (show kJ (S.take (0+1))=l0++[dgt N] from by rw[T.out,bN];rfl);rw[←bN] at d3 ⊢;clear T h bW bv bN;simp only[qW] at hc;have c':decide ((0:Int)<((0:Nat):Int))=false:=by decide
 go_wp2_with fail
 go_roundw
 case rel=>exact⟨0+1,by omega,by go_num,by rw[bt.out,aA],hI (F.alloc F.size _)⟩
 case measure=>simp[intOf]<;>omega}
 {
 have c':decide ((0:Int)<(j:Int))=true:=by simp;omega
 have bt:=hI (show kJ (S.take (j+1))=kJ (S.take j)++[32]++[dgt N] from by{
 rw[T.out,if_neg];intro e;have h9:=congrArg List.length e;rw[qS,a2.out] at h9;simp at h9;omega})
 clear T h bW bv;go_wp2_with fail
 go_roundw
 case rel=>exact⟨j+1,by omega,by go_num,by rw[bt.out,←aA,←aA];rfl,hI (F.alloc F.size _)⟩
 case measure=>simp[intOf]<;>omega}}
 {
 obtain rfl:j=W:=by omega
 have dc:decide ((j:Int)<(j:Int))=false:=by simp
 have b4:=hI (av.trans (F.mono av.size));have Zv:=hI (I.below F);have H:=Zv.cell (i:=0) rfl;have cC:=hI (aa H4 F);have co:S.take j=S:=qI (by rw[a2.out];omega);have d7:decide ((2:Int)≤(M:Int))=true:=by simp;omega
 by_cases cd:10<d.b
 {
 have cN:decide ((10:Int)<d.b)=true:=by simpa using cd
 go_wp2_with fail
 go_ret;exact⟨rfl,b4⟩}
 {
 have cN:decide ((10:Int)<d.b)=false:=by simpa using cd
 obtain⟨b,o,y,rfl,h,-,hc⟩:=(az cC).str (k:=M-1) (by omega);rw[HY.out] at h;injection h with h;rw[Ds (λv hv=>by have:=O.out v hv;omega)] at h;subst h;rw[co];have e1:IntKind.i64.wrap ((M:Int)-1)=((M-1:Nat):Int):=by rw[IntWalk.i64_in _ (by omega)];omega
 have e2:(M-1:Nat)<M:=by omega
 obtain⟨mm,cl⟩:∃mm,mm=M-1:=⟨_,rfl⟩;rw[←cl] at e1 e2 hc;clear cl co;generalize ag (kJ S)=s at *;have cn:(s.toList==s.toList)=true:=by simp
 go_wp2_with fail
 go_ret;exact⟨rfl,b4⟩}})}})}
end Go.Proofs.YtnpldahkhaacnaaGreatDoor

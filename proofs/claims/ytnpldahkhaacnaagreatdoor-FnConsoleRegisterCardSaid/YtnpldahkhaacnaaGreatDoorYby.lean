/- Texts of the walk: Uc_D Ud_D. -/
import Derived.Test.YtnpldahkhaacnaaGreatDoorYbx
set_option linter.unusedVariables false
set_option linter.unusedSimpArgs false
set_option maxRecDepth 100000
set_option maxHeartbeats 32000000
namespace Go.Proofs.YtnpldahkhaacnaaGreatDoor
open Go.RowKit Go.Sort Go.Proofs.Tryz
theorem um (t:Nat)(M:t≤1000000001)(w:World):Calls prog 65 #[t] w λe u=>e=.returned (.string (ag (aX t)))∧BL w u:=by{
 have B:=hI (λu=>cu (t/60000) (t/60000) (qA _) (by omega) u);have F:=hI (λu=>gj (t/1000%60) 2 (by omega) (by omega) u);have G:=hI (λu=>gj t 3 (by omega) (by omega) u);have L:=hI (show ag (aX t)=ag (aP (t/60000))++ag [58]++ag (aG 2 (t/1000%60) [])++ag [46]++ag (aG 3 t []) from by rw[zY];rfl);have h:=bd 9 (t/60000) (by omega);have T:(ag (aP (t/60000))).size≤10:=by rw[aj];exact h
 have U:(ag (aG 2 (t/1000%60) [])).size≤2:=by rw[aj,bV];exact qA _
 have z3:(ag (aG 3 t [])).size≤3:=by rw[aj,bV];exact qA _
 generalize aP (t/60000)=a at *;generalize aG 2 (t/1000%60) []=b at *;generalize aG 3 t []=c at *;clear h;go_enter func65,ntmps65;go_wp2_with fail
 refine(B _).mono ?_;rintro e N⟨rfl,h⟩;have H:=hI h;clear h;go_wp2_with fail
 refine(F _).mono ?_;rintro e O⟨rfl,h⟩;have I:=zb H h;clear h;go_wp2_with fail
 refine(G _).mono ?_;rintro e R⟨rfl,h⟩;have J:=zb I h;clear h;go_wp2_with fail
 go_ret;exact⟨by rw[L.out];rfl,J⟩}
theorem DJ {t:Nat}(h:t≤1000000001):(aX t).length≤20:=by{
 unfold aX;have u:=bd 9 (t/60000) (by omega);have B:=bV 2 (t/1000%60) [];have F:=bV 3 t [];simp only[qJ,List.length_singleton,qT] at *;omega}
theorem Fj {h:List du}{k:Nat}(F:h.length=k)(B:∀x∈h,dR x=true):(eY h).length≤20*k:=by{
 unfold eY;split
 {
 have:=pG (m:=19) (h:=h.map gw) (λp G=>by{
 obtain⟨x,H,rfl⟩:=List.mem_map.1 G;obtain⟨_,_⟩:=x;have u:=cV.1 (B _ H);exact zE u.1 u.2})
 rw[qV,F] at this;omega}
 {simp}}
theorem yU (O:World)(A:OA)(n R:Nat)(code:LI)(av:hU O A n code)(g:Nat)(b:Int)(bq:0≤b)(bs:b≤100)(w:World)(B:SD O w A n R code g):Calls prog 75 #[.pointer (some ⟨g,0,none⟩),b] w (vz 400 O w A n R code g):=by{
 have I:=hI (λk h hk M B=>iC O A n R code av g k h hk M B);have Y:=hI (λM B=>Ab O A n R code av g M B);have V:=hI (λM B=>AK O A n R code av g M B);have W:=hI (λM B=>xt O A n R code av g M B);have U:=hI (λM (B:SD O M A n R code g)=>B.elim (λs B=>xG O A n R code av g s b (by omega) M B));have L:=hI (λ(k:Nat) (hk:k≤1000000) M=>cu k k (qA _) (by omega) M);have J:=hI (λ(k:Nat) (hk:k≤1000000)=>bd 6 k (by omega));unfold FH at Y V;unfold EI at W;unfold Ik at U;have bO:IntKind.i64.wrap (b+1)=b+1:=IntWalk.i64_in _ (by omega);have h:=hI B;have u:=hI (aK.refl g (g+1) w);have bv:=B.lt;clear B;go_enter func75,ntmps75;go_wp2_with fail
 refine(I 16 (by omega) (by omega) _ h).mono ?_;rintro e w1⟨v,rfl,v0,_,F,B⟩;have h:=hI F;have u:=hI (u.trans B);have z1:=B.size;clear F B;by_cases c0:v=0
 {
 subst c0;clear I Y V W U L J;go_wp2_with fail
 go_ret;exact⟨[115,116,97,110,100,105,110,103],rfl,by decide,h,u⟩}
 by_cases c1:v=1
 {
 subst c1;clear I Y V W U L J;go_wp2_with fail
 go_ret;exact⟨[114,97,110,107,115],rfl,by decide,h,u⟩}
 by_cases c2:v=2
 {
 subst c2;go_wp2_with fail
 refine(I (b+1) (by omega) (by omega) _ h).mono ?_;rintro e N⟨x,rfl,Z,xp,F,B⟩;have h:=hI F;have u:=hI (u.trans B);have z2:=B.size;clear F B;obtain⟨H,rfl⟩:=aC x Z;have ar:=J H (by omega);have a7:(ag (aP H)).size≤7:=by rw[aj];exact ar
 go_wp2_with fail
 refine(L H (by omega) _).mono ?_;rintro e w3⟨rfl,G⟩;have h:=hI (h.below G);have u:=hI (u.trans (aK.of_below G));clear G;go_wp2_with fail
 go_ret;exact⟨[110,101,116,32]++aP H,by rw[←aA];rfl,by simp only[qJ,qO,qT];omega,h,u⟩}
 by_cases c3:v=3
 {
 subst c3;go_wp2_with fail
 refine(I (5) (by omega) (by omega) _ h).mono ?_;rintro e N⟨x,rfl,Z,xp,F,B⟩;have h:=hI F;have u:=hI (u.trans B);have z2:=B.size;clear F B;obtain⟨H,rfl⟩:=aC x Z;have ar:=J H (by omega);have a7:(ag (aP H)).size≤7:=by rw[aj];exact ar
 go_wp2_with fail
 refine(L H (by omega) _).mono ?_;rintro e w3⟨rfl,G⟩;have h:=hI (h.below G);have u:=hI (u.trans (aK.of_below G));clear G;go_wp2_with fail
 go_ret;exact⟨[112,111,105,110,116,115,32]++aP H,by rw[←aA];rfl,by simp only[qJ,qO,qT];omega,h,u⟩}
 by_cases c4:v=4
 {
 subst c4;go_wp2_with fail
 refine(I (5) (by omega) (by omega) _ h).mono ?_;rintro e N⟨x,rfl,Z,xp,F,B⟩;have h:=hI F;have u:=hI (u.trans B);have z2:=B.size;clear F B;obtain⟨H,rfl⟩:=aC x Z;have ar:=J H (by omega);have a7:(ag (aP H)).size≤7:=by rw[aj];exact ar
 go_wp2_with fail
 refine(L H (by omega) _).mono ?_;rintro e w3⟨rfl,G⟩;have h:=hI (h.below G);have u:=hI (u.trans (aK.of_below G));clear G;go_wp2_with fail
 go_ret;exact⟨[114,97,99,101,32]++aP H,by rw[←aA];rfl,by simp only[qJ,qO,qT];omega,h,u⟩}
 by_cases c5:v=5
 {
 subst c5;go_wp2_with fail
 refine(I (4) (by omega) (by omega) _ h).mono ?_;rintro e N⟨x,rfl,Z,xp,F,B⟩;have h:=hI F;have u:=hI (u.trans B);have z2:=B.size;clear F B;obtain⟨H,rfl⟩:=aC x Z;have ar:=J H (by omega);have a7:(ag (aP H)).size≤7:=by rw[aj];exact ar
 go_wp2_with fail
 refine(L H (by omega) _).mono ?_;rintro e w3⟨rfl,G⟩;have h:=hI (h.below G);have u:=hI (u.trans (aK.of_below G));clear G;go_wp2_with fail
 refine(I (b+1) (by omega) (by omega) _ h).mono ?_;rintro e w4⟨y,rfl,yq,yp,F,B⟩;have h:=hI F;have u:=hI (u.trans B);have z4:=B.size;clear F B;obtain⟨T,rfl⟩:=aC y yq;have a2:=J T (by omega);have bp:(ag (aP T)).size≤7:=by rw[aj];exact a2
 go_wp2_with fail
 refine(L T (by omega) _).mono ?_;rintro e w5⟨rfl,ad⟩;have h:=hI (h.below ad);have u:=hI (u.trans (aK.of_below ad));clear ad;go_wp2_with fail
 go_ret;exact⟨[104,105,115,116,111,114,121,32]++aP H++[32]++aP T,by rw[←aA,←aA,←aA];rfl,by simp only[qJ,qO,qT];omega,h,u⟩}
 by_cases c6:v=6
 {
 subst c6;clear I Y V W U L J;go_wp2_with fail
 go_ret;exact⟨[108,101,97,100],rfl,by decide,h,u⟩}
 by_cases c7:v=7
 {
 subst c7;obtain⟨wx,bb,X,a1,_⟩:=ae w1 #[.string (ag []),.string (ag [32,50]),.string (ag [32,50,32,52]),.string (ag [32,52,32,50]),.string (ag [32,49,51])] 9;have HX:=hI X;have HW:=hI bb;have bt:=h.lt;have h:=hI (h.below a1);have u:=hI (u.trans (aK.of_below a1));clear X bb a1;go_wp2_with fail
 rw[show w1.alloc (.cells #[.string ⟨#[]⟩,.string ⟨#[32,50]⟩,.string ⟨#[32,50,32,52]⟩,.string ⟨#[32,52,32,50]⟩,.string ⟨#[32,49,51]⟩] 9)=wx from HW.out.symm];clear HW;refine(I 5 (by omega) (by omega) _ h).mono ?_;rintro e N⟨x,rfl,Z,xp,F,B⟩;have HX:=hI (HX.chg B (.inr (by omega)));have h:=hI F;have u:=hI (u.trans B);clear F B;have FX:=HX.f5;clear I Y V W U L J;have bn:x=0∨x=1∨x=2∨x=3∨x=4:=by omega
 rcases bn with rfl|rfl|rfl|rfl|rfl
 {
 go_wp2_with fail
 go_ret;exact⟨[114,117,108,101]++[],by rw[←aA];rfl,by decide,h,u⟩}
 {
 go_wp2_with fail
 go_ret;exact⟨[114,117,108,101]++[32,50],by rw[←aA];rfl,by decide,h,u⟩}
 {
 go_wp2_with fail
 go_ret;exact⟨[114,117,108,101]++[32,50,32,52],by rw[←aA];rfl,by decide,h,u⟩}
 {
 go_wp2_with fail
 go_ret;exact⟨[114,117,108,101]++[32,52,32,50],by rw[←aA];rfl,by decide,h,u⟩}
 {
 go_wp2_with fail
 go_ret;exact⟨[114,117,108,101]++[32,49,51],by rw[←aA];rfl,by decide,h,u⟩}}
 by_cases c8:v=8
 {
 subst c8;go_wp2_with fail
 refine(W _ h).mono ?_;rintro e N⟨Bl,kl,cl,xs,rfl,a6,hk,bk,F,B⟩;have h:=hI F;have u:=hI (u.trans B);have bN:=Fj (az a6).len_wind bk;have a':=hI (qz Bl kl cl xs N (az a6));have hz:(ag (eY xs)).size≤240:=by rw[aj];omega
 generalize eY xs=SX at *;clear a6 bk F B I Y V W U L J;go_wp2_with fail
 refine a'.mono ?_;rintro e w3⟨rfl,G⟩;have h:=hI (h.below G);have u:=hI (u.trans (aK.of_below G));clear G a';go_wp2_with fail
 go_ret;exact⟨[115,116,97,114,116,32]++SX,by rw[←aA];rfl,by simp only[qJ,qO,qT];omega,h,u⟩}
 by_cases c9:v=9
 {
 subst c9;go_wp2_with fail
 refine(Y _ h).mono ?_;rintro e N⟨t,rfl,t0,_,F,B⟩;have h:=hI F;have u:=hI (u.trans B);clear F B;obtain⟨tN,rfl⟩:=aC t t0;have bo:=DJ (t:=tN) (by omega);have bP:(ag (aX tN)).size≤20:=by rw[aj];exact bo
 have ba:=hI (um tN (by omega) N);go_wp2_with fail
 refine ba.mono ?_;rintro e w3⟨rfl,G⟩;have h:=hI (h.below G);have u:=hI (u.trans (aK.of_below G));clear G ba;go_wp2_with fail
 refine(V _ h).mono ?_;rintro e w4⟨y,rfl,yq,yp,F,B⟩;have h:=hI F;have u:=hI (u.trans B);clear F B;obtain⟨T,rfl⟩:=aC y yq;have a2:=J T (by omega);have bp:(ag (aP T)).size≤7:=by rw[aj];exact a2
 go_wp2_with fail
 refine(L T (by omega) _).mono ?_;rintro e w5⟨rfl,ad⟩;have h:=hI (h.below ad);have u:=hI (u.trans (aK.of_below ad));clear ad;go_wp2_with fail
 go_ret;exact⟨[99,111,114,114,101,99,116,32]++aX tN++[32]++aP T,by rw[←aA,←aA,←aA];rfl,by simp only[qJ,qO,qT];omega,h,u⟩}
 have b0:(v==0)=false:=by simp[c0]
 have b1:(v==1)=false:=by simp[c1]
 have b2:(v==2)=false:=by simp[c2]
 have b3:(v==3)=false:=by simp[c3]
 have b4:(v==4)=false:=by simp[c4]
 have b5:(v==5)=false:=by simp[c5]
 have b6:(v==6)=false:=by simp[c6]
 have b7:(v==7)=false:=by simp[c7]
 have b8:(v==8)=false:=by simp[c8]
 have b9:(v==9)=false:=by simp[c9]
 go_wp2_with fail
 refine(U _ h).mono ?_;rintro e N⟨x0,x1,x2,x3,x4,x5,x6,s',rfl,F,B⟩;have h:=hI (show SD O N A n R code g from⟨s',F⟩);have u:=hI (u.trans B);have a8:=hI (tU x0 x1 x2 x3 x4 x5 x6 N);have hl:=CF (r:=x0) (b:=x1) (c:=x3) (t:=x4);clear F B I Y V W U L J;go_wp2_with fail
 refine a8.mono ?_;rintro e w3⟨rfl,G⟩;have h:=hI (h.below G);have u:=hI (u.trans (aK.of_below G));clear G a8;go_wp2_with fail
 go_ret;exact⟨_,rfl,by omega,h,u⟩}
theorem sk (N:World)(A:OA)(n O:Nat)(code:LI)(ad:hU N A n code)(g:Nat)(w:World)(B:SD N w A n O code g):Calls prog 48 #[.pointer (some ⟨g,0,none⟩)] w (vz 8000 N w A n O code g):=by{
 have H:=hI (λk h1 hk I B=>iC N A n O code ad g k h1 hk I B);have J:=hI (λb h h1 I B=>yU N A n O code ad g b h h1 I B);have L:=hI (λ(G:LB) (hL:G.length≤400) I B=>BE N A n O code ad g 400 (by omega) G hL I B);unfold vz at J L;have M:=hI (λ(k:Nat) (hk:k≤1000000) I=>cu k k (qA _) (by omega) I);have u:=hI B;have h:=hI (aK.refl g (g+1) w);have bk:=B.lt;clear B;go_enter func48,ntmps48;go_wp2_with fail
 refine(H (5) (by omega) (by omega) _ u).mono ?_;rintro e w1⟨b,rfl,_,_,F,B⟩;have u:=hI F;have h:=hI (h.trans B);clear F B;have bt:IntKind.i64.wrap (1+b)=1+b:=IntWalk.i64_in _ (by omega);obtain⟨T,R⟩:=aC (1+b) (by omega);have bb:1≤T∧T≤5:=by omega
 have a2:=hI (show ∀I,Calls prog 36 #[.int .i64 (1+b)] I λe w2=>e=.returned (.string (ag (aP T)))∧BL I w2 from λI=>by rw[R];exact M T (by omega) I);clear R;go_wp2_with fail
 refine(H (10) (by omega) (by omega) _ u).mono ?_;rintro e w2⟨y,rfl,yq,yp,F,B⟩;have u:=hI F;have h:=hI (h.trans B);clear F B;go_upto_if 13 with fail
 go_cut [4] from 8 to 24 (λt Z=>∃G:LB,t=.string (ag G)∧G.length≤20∧Hid (SD N Z A n O code g)∧Hid (aK g (g+1) w Z))
 case first=>(
 by_cases Y:0<y
 {
 have ba:decide (0<y)=true:=by simpa using Y
 have hl:=bd 1 T (by omega);have hz:(ag (aP T)).size≤2:=by rw[aj];exact hl
 go_wp2_with fail
 refine(a2 _).mono ?_;rintro e w3⟨rfl,U⟩;have u:=hI (u.below U);have h:=hI (h.trans (aK.of_below U));clear U;go_wp2_with fail
 refine(H (2) (by omega) (by omega) _ u).mono ?_;rintro e w4⟨x,rfl,xq,_,F,B⟩;have u:=hI F;have h:=hI (h.trans B);clear F B;obtain⟨xN,rfl⟩:=aC x xq;have a7:=bd 1 xN (by omega);have bO:(ag (aP xN)).size≤2:=by rw[aj];exact a7
 go_wp2_with fail
 refine(M xN (by omega) _).mono ?_;rintro e w5⟨rfl,U⟩;have u:=hI (u.below U);have h:=hI (h.trans (aK.of_below U));clear U;clear H J L M;go_wp2_with fail
 go_meet;exact⟨[111,112,101,110,32]++aP T++[32]++aP xN++[10],by rw[←aA,←aA,←aA,←aA];rfl,by simp only[qJ,qO,qT];omega,u,h⟩}
 {
 have ba:decide (0<y)=false:=by simpa using Y
 clear H J L M;go_wp2_with fail
 go_meet;exact⟨[],rfl,by simp,u,h⟩})
 case rest=>(
 obtain⟨L0,rfl,_,W,V⟩:=hcut;clear u h;have u:=W;have h:=V;clear W V;go_wp2_with fail
 refine(H (16) (by omega) (by omega) _ u).mono ?_;rintro e w6⟨m,rfl,mq,_,F,B⟩;have u:=hI F;have h:=hI (h.trans B);clear F B;obtain⟨mN,rfl⟩:=aC m mq;go_wp2_with fail
 go_loopw [4,5] (λt i wr=>∃(R:Nat) (G:LB),R≤15∧t=.string (ag G)∧i=.int .i64 (R:Int)∧G.length≤20+402*(15-R)∧Hid (SD N wr A n O code g)∧Hid (aK g (g+1) w wr)) (λ_ i _=>(intOf i).toNat)
 case atStart=>exact⟨mN,L0,by omega,rfl,rfl,by omega,u,h⟩
 case round=>(
 clear u h;obtain⟨R,G,_,rfl,rfl,hL,u,h⟩:=hrel;obtain⟨wo,a8⟩:∃wo:World,wo=wr:=⟨_,rfl⟩;subst a8;have bR:(ag G).size≤6100:=by rw[aj];omega
 by_cases bs:0<R
 {
 have a6:decide ((0:Int)<(R:Int))=true:=by simp;omega
 obtain⟨jN,ar⟩:∃jN,R=jN+1:=⟨R-1,by omega⟩;have a1:=hI ar;clear ar;go_wp2_with fail
 refine(J _ (by omega) (by omega) _ u).mono ?_;rintro e wa⟨K,rfl,hK,F,B⟩;have u:=hI F;have h:=hI (h.trans B);clear F B;go_wp2_with fail
 refine(H (16) (by omega) (by omega) _ u).mono ?_;rintro e wb⟨y,rfl,yq,yp,F,B⟩;have u:=hI F;have h:=hI (h.trans B);clear F B;go_upto_if 34 with fail
 go_cut [6] from 25 to 41 (λt Z=>∃G:LB,t=.string (ag G)∧G.length≤401∧Hid (SD N Z A n O code g)∧Hid (aK g (g+1) w Z))
 case first=>(
 by_cases Y:y=0
 {
 subst Y;go_wp2_with fail
 refine(L K hK _ u).mono ?_;rintro e wd⟨K2,rfl,av,F,B⟩;have u:=hI F;have h:=hI (h.trans B);clear F B H J L M;go_wp2_with fail
 go_meet;exact⟨K2,rfl,av,u,h⟩}
 {
 have bv:(y==0)=false:=by simp[Y]
 clear H J L M;go_wp2_with fail
 go_meet;exact⟨K,rfl,by omega,u,h⟩})
 case rest=>(
 obtain⟨K2,rfl,av,W,V⟩:=hcut;clear u h;have u:=W;have h:=V;have bP:(ag K2).size≤401:=by rw[aj];omega
 have ar:=a1.out;clear W V H J L M;go_wp2_with fail
 go_roundw
 case rel=>exact⟨jN,G++K2++[10],by omega,by rw[←aA,←aA];rfl,by first|rfl|(congr 1;omega),by simp only[qJ,qO,qT];omega,u,h⟩
 case measure=>simp[intOf]<;>omega)}
 {
 obtain rfl:R=0:=by omega
 have a6:decide ((0:Int)<((0:Nat):Int))=false:=by decide
 go_wp2_with fail
 refine(H (40) (by omega) (by omega) _ u).mono ?_;rintro e wc⟨y,rfl,yq,yp,F,B⟩;have u:=hI F;have h:=hI (h.trans B);clear F B;by_cases V:y=1
 {
 subst V;clear H J L M;go_wp2_with fail
 go_ret;exact⟨G++[115,116,97,110,100,105,110,103],by rw[←aA];rfl,by simp only[qJ,qO,qT];omega,u,h⟩}
 by_cases W:y=2
 {
 subst W;clear H J L M;go_wp2_with fail
 go_ret;exact⟨G++[111,112,101,110,32,48,32,48,10,111,112,101,110,32,49,55,32,49,10,111,112,101,110,32,49,32,50,10],by rw[←aA];rfl,by simp only[qJ,qO,qT];omega,u,h⟩}
 by_cases F:y=0
 {
 subst F;clear H J L M;go_wp2_with fail
 go_loopw [4,7] (λt i wr=>∃(k:Nat) (B:LB),k≤150∧t=.string (ag B)∧i=.int .i64 (k:Int)∧B.length≤6100+5*k∧Hid (SD N wr A n O code g)∧Hid (aK g (g+1) w wr)) (λ_ i _=>150-(intOf i).toNat)
 case atStart=>exact⟨0,G,by omega,rfl,rfl,by omega,u,h⟩
 case round=>(
 clear u h;obtain⟨k,B,hk,rfl,rfl,_,u,h⟩:=hrel;obtain⟨_,a'⟩:∃wo:World,wo=wr:=⟨_,rfl⟩;subst a';have bW:(ag B).size≤7000:=by rw[aj];omega
 by_cases bn:k<150
 {
 have bo:decide ((k:Int)<150)=true:=by simp;omega
 go_wp2_with fail
 go_roundw
 case rel=>exact⟨k+1,B++[108,101,97,100,10],by omega,by rw[←aA];rfl,by go_num,by simp only[qJ,qO,qT];omega,u,h⟩
 case measure=>simp[intOf]<;>omega}
 {
 obtain rfl:k=150:=by omega
 go_wp2_with fail
 go_ret;exact⟨B,rfl,by omega,u,h⟩})}
 have B:(y==0)=false:=by simp[F]
 have b1:(y==1)=false:=by simp[V]
 have b2:(y==2)=false:=by simp[W]
 clear H J L M;go_wp2_with fail
 go_ret;exact⟨G,rfl,by omega,u,h⟩}))}
end Go.Proofs.YtnpldahkhaacnaaGreatDoor

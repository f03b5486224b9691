/- Texts of the walk: Vl_D Qzb_D Vc_D Ua_D. -/
import Derived.Test.YtnpldahkhaacnaaGreatDoorYal
import Derived.Test.YtnpldahkhaacnaaGreatDoorYak
set_option linter.unusedVariables false
set_option linter.unusedSimpArgs false
set_option maxRecDepth 100000
set_option maxHeartbeats 32000000
namespace Go.Proofs.YtnpldahkhaacnaaGreatDoor
open Go.RowKit Go.Sort Go.Proofs.Tryz
theorem CF {r b c t:Int}:(ir r b c t).length≤60:=by{
 unfold ir;split
 {
 rename_i h;have u:=ye h.2;have B:=bd 1 r.toNat (by have:=ai.1 h.1;omega);simp only[qJ,qO,qT];omega}
 {simp}}
def FQ (r b c t:Int):Prop:=af r 0 11=true∧uf b c t=true
def XL (h:LB) (r b c t:Int) (u:Bool):Prop:=(u=true→FQ r b c t∧h=ir r b c t)∧(u=false→(r=0∧b=0∧c=0∧t=0)∧∀r b c t,FQ r b c t→h≠ir r b c t)
theorem oT {B w I:World}{A:OA}{n F:Nat}{code:LI}{g u G:Nat}{s:St}(h:kY B w A n F code g s)(k:aK u G w I)(H:(g<u∨G≤g)∧B.heap.size≤u):kY B I A n F code g s:=⟨(k.block g h.lt H.1).trans h.blk,h.old,ao h.bel k H.2 h.bel.size,h.ok⟩
def Ik (F w:World) (A:OA) (n u:Nat) (code:LI) (g:Nat) (e:Ending) (h:World):Prop:=∃G H I J L M N B,e=.returned (.agg #[.int .i64 G,.int .i64 H,.int .i64 I,.int .i64 J,.int .i64 L,.int .i64 M,.int .i64 N])∧kY F h A n u code g B∧aK g (g+1) w h
theorem kg {G u H I:Nat}{w B F:World}(h:aK G u w B)(k:aK H I B F)(L:w.heap.size≤H):aK G u w F:=⟨k.os.trans h.os,k.tape.trans h.tape,k.output.trans h.output,qM h.size k.size,λi u J=>(k.block i (qe u h.size) (.inl (by omega))).trans (h.block i u J)⟩
theorem xG (Z:World)(A:OA)(n ar:Nat)(code:LI)(bk:hU Z A n code)(g:Nat)(s:St)(b:Int)(hb:b≤1000000)(w:World)(I:kY Z w A n ar code g s):Calls prog 28 #[.pointer (some ⟨g,0,none⟩),b] w (Ik Z w A n ar code g):=by{
 have bn:=I.lt;have bo:=I.bel.size;have T:=hI (λs k h u I=>xJ Z A n ar code bk g s k h u I);obtain⟨wa,H,G,h,J⟩:=ae w #[(0:Int),(0:Int),(0:Int),(0:Int),(0:Int),(0:Int),(0:Int)] 25;have u:=hI G;have F:=hI (I.below h);have B:=hI (show aK g (g+1) w wa from aK.of_below h);have bO:w.heap.size<wa.heap.size:=by omega
 clear I G h J;go_enter func28,ntmps28;go_wp2_with fail
 rw[←H];clear H;(try go_wp2_with fail);have G:=T s 4 (by omega) _ F;generalize gB code s 4=r at G;obtain⟨L,s1⟩:=r;refine G.mono ?_;rintro e w1⟨rfl,J,h⟩;have F:=hI J;have bq:=h.size;have u:=hI (u.chg h (.inr (by omega)));have B:=hI (B.trans h);clear J h G;have G:=T s1 b (by omega) _ F;generalize gB code s1 b=r at G;obtain⟨v2,s2⟩:=r;go_wp2_with fail
 refine G.mono ?_;rintro e w2⟨rfl,J,h⟩;have F:=hI J;have bs:=h.size;have u:=hI (u.chg h (.inr (by omega)));have B:=hI (B.trans h);clear J h G;have q3:=sO code s2 90000 (by omega);have G:=T s2 90000 (by omega) _ F;generalize gB code s2 90000=r at G q3;obtain⟨v3,s3⟩:=r;simp only at q3;go_wp2_with fail
 refine G.mono ?_;rintro e H⟨rfl,J,h⟩;have F:=hI J;have bt:=h.size;have u:=hI (u.chg h (.inr (by omega)));have B:=hI (B.trans h);clear J h G;obtain⟨_,U,R,N,_⟩:=ae H #[L,v2,(0:Int),(0:Int),.int .i64 (1+v3),(0:Int),(0:Int)] 25;have O:=hI U;have M:=hI R;have u:=hI (u.below N);have F:=hI (F.below N);have B:=hI (B.trans (aK.of_below N));clear R N U;go_wp2_with fail
 rw[←O.out];clear O;have G:=T s3 3 (by omega) _ F;generalize gB code s3 3=r at G;obtain⟨v5,s5⟩:=r;refine G.mono ?_;rintro e w5⟨rfl,J,h⟩;have F:=hI J;have bv:=h.size;have u:=hI (u.chg h (.inr (by omega)));have M:=hI (M.chg h (.inr (by omega)));have B:=hI (B.trans h);clear J h G;by_cases h:v5=0
 rotate_left
 {
 have bb:(v5==0)=false:=by simp[h]
 clear h;have FX:=u.f7;have FZ:=u.z7;have FY:=M.f7;go_wp2_with fail
 refine bodyPost_ret (v:=.agg #[L,v2,(0:Int),(0:Int),.int .i64 (1+v3),(0:Int),(0:Int)]) (by simp[results,results28,go_sem,FX]) rfl ?_;have V:=aQ (g:=w.heap.size) [.int .i64 L,.int .i64 v2,.int .i64 0,.int .i64 0,.int .i64 (1+v3),.int .i64 0,.int .i64 0] 0 (aK.refl w.heap.size (w.heap.size+1) w5) (qA _) (by omega);exact⟨_,_,_,_,_,_,_,_,rfl,oT F V (by omega),kg B V (qA _)⟩}
 have bb:(v5==0)=true:=by simp[h]
 clear h;go_wp2_with fail
 obtain⟨S,h,G⟩:∃S:World→Prop,(∀J,S J→(J.cell? ⟨H.heap.size,0,none⟩=some (.int .i64 L)∧J.cell? ⟨H.heap.size,1,none⟩=some (.int .i64 v2)))∧(∀J,aO J H.heap.size #[L,v2,(0:Int),(0:Int),.int .i64 (1+v3),(0:Int),(0:Int)] 25→S J):=⟨λJ=>aO J H.heap.size #[L,v2,(0:Int),(0:Int),.int .i64 (1+v3),(0:Int),(0:Int)] 25,λ_ I=>⟨I.cell (i:=0) rfl,I.cell (i:=1) rfl⟩,λ_ I=>I⟩;have a6:=hI h;have ad:=hI G;clear h G;refine bz (n:=9) S (λj=>decide (8≤j)) (by kernel_rfl) rfl ?_;intro bW h;obtain⟨wd,N,G⟩:∃wd:World,wd=w5.drew∧BL w5 wd:=⟨_,rfl,ac _ w5 1⟩;have u:=hI (u.below G);have M:=hI (M.below G);have F:=hI (F.below G);have B:=hI (B.trans (aK.of_below G));have bP:=G.size;rw[←N];clear N G;have G:=ad _ M;have W:=T s5 9 (by omega) _ F;have q6:=sO code s5 9 (by omega);generalize gB code s5 9=r at W q6;obtain⟨N,_⟩:=r;simp only at q6;have W:=hI W;refine zN h 0 G ?_;go_simp;refine zS h a6 1 G ?_;go_simp;refine zN h 2 G ?_;go_simp;refine zS h a6 3 G ?_;go_simp;refine zN h 4 G ?_;go_simp;refine zo h 5 λK' R=>?_
 go_simp;go_at_call 29;refine W.mono ?_;rintro e wq⟨rfl,Y,U⟩;have a8:=hI (u.chg U (.inr (by omega)));have O:=hI (M.chg U (.inr (by omega)));have a2:=hI Y;have av:=hI (B.trans U);have bN:=U.size;clear Y U;simp only;have bp:IntKind.i64.wrap (1+N)=1+N:=IntWalk.i64_in _ (by omega);refine R _ _ (.inr (ad _ O)) ?_;clear R;have G:=ad _ O;go_simp;refine zN h 6 G ?_;go_simp;refine zN h 7 G ?_;go_simp;have FY:=O.f7;have U:=O.z7;refine zo h 8 λK' R=>?_
 go_simp;refine R _ _ (.inl (by decide)) ?_;clear R;go_simp;refine zd h ?_;clear FY U;obtain⟨U,Y⟩:∃U:World,U=(((((((wq.setCell ⟨H.heap.size,0,none⟩ (.int .i64 L)).setCell ⟨H.heap.size,1,none⟩ (.int .i64 v2)).setCell ⟨H.heap.size,2,none⟩ (.int .i64 0)).setCell ⟨H.heap.size,3,none⟩ (.int .i64 (1+N))).setCell ⟨H.heap.size,4,none⟩ (.int .i64 0)).setCell ⟨H.heap.size,5,none⟩ (.int .i64 0)).setCell ⟨H.heap.size,6,none⟩ (.int .i64 0)):=⟨_,rfl⟩;have R:aK H.heap.size (H.heap.size+1) wq U:=by rw[Y];(repeat refine bD ?_ (qA _) (by omega) _);exact aK.refl _ _ _
 have ba:=hI (show aO U H.heap.size #[L,v2,(0:Int),.int .i64 (1+N),(0:Int),(0:Int),(0:Int)] 25 from by rw[Y];have:=((((((O.set 0 (.int .i64 L)).set 1 (.int .i64 v2)).set 2 (.int .i64 0)).set 3 (.int .i64 (1+N))).set 4 (.int .i64 0)).set 5 (.int .i64 0)).set 6 (.int .i64 0);simpa using this);have a':=hI (a8.chg R (.inl (by omega)));have a7:=hI (oT a2 R (by omega));have a1:=hI (kg av R (by omega));have bR:=R.size;rw[←Y];clear Y R u M F B a8 O a2 av;have u:=a';have M:=ba;have F:=a7;have B:=a1;clear a' ba a7 a1;have FX:=u.f7;have FZ:=u.z7;have FY:=M.f7;go_wp2_with fail
 refine bodyPost_ret (v:=.agg #[L,v2,(0:Int),.int .i64 (1+N),(0:Int),(0:Int),(0:Int)]) (by simp[results,results28,go_sem,FX]) rfl ?_;have V:=aQ (g:=w.heap.size) [.int .i64 L,.int .i64 v2,.int .i64 0,.int .i64 (1+N),.int .i64 0,.int .i64 0,.int .i64 0] 0 (aK.refl w.heap.size (w.heap.size+1) U) (qA _) (by omega);exact⟨_,_,_,_,_,_,_,_,rfl,oT F V (by omega),kg B V (qA _)⟩}
def SD (u w:World) (A:OA) (n h:Nat) (code:LI) (g:Nat):Prop:=∃s,kY u w A n h code g s
theorem SD.lt {B w:World}{A:OA}{n u:Nat}{code:LI}{g:Nat}(h:SD B w A n u code g):g<w.heap.size:=by obtain⟨s,h⟩:=h;exact h.lt
theorem SD.old {u w:World}{A:OA}{n B:Nat}{code:LI}{g:Nat}(h:SD u w A n B code g):u.heap.size≤g:=by obtain⟨s,h⟩:=h;exact h.old
theorem SD.bel {u w:World}{A:OA}{n B:Nat}{code:LI}{g:Nat}(h:SD u w A n B code g):BL u w:=by obtain⟨s,h⟩:=h;exact h.bel
theorem SD.below {B w w':World}{A:OA}{n u:Nat}{code:LI}{g:Nat}(h:SD B w A n u code g)(k:BL w w'):SD B w' A n u code g:=by obtain⟨s,h⟩:=h;exact⟨s,h.below k⟩
theorem SD.turn {B w H:World}{A:OA}{n F:Nat}{code:LI}{g u G:Nat}(h:SD B w A n F code g)(k:aK u G w H)(I:(g<u∨G≤g)∧B.heap.size≤u):SD B H A n F code g:=by obtain⟨s,h⟩:=h;exact⟨s,oT h k I⟩
theorem iC (h:World)(A:OA)(n u:Nat)(code:LI)(J:hU h A n code)(g:Nat)(k:Int)(G:1≤k)(L:k≤1099511627776)(w:World)(B:SD h w A n u code g):Calls prog 29 #[.pointer (some ⟨g,0,none⟩),k] w λe F=>∃v,e=.returned (.int .i64 v)∧0≤v∧v<k∧SD h F A n u code g∧aK g (g+1) w F:=by{
 obtain⟨s,B⟩:=B;refine(xJ h A n u code J g s k L w B).mono ?_;rintro e F⟨rfl,H,I⟩;have:=sO code s k G;exact⟨_,rfl,this.1,this.2,⟨_,H⟩,I⟩}
def FH (F B:Int) (G w:World) (A:OA) (n u:Nat) (code:LI) (g:Nat) (e:Ending) (h:World):Prop:=∃t:Int,e=.returned (.int .i64 t)∧F≤t∧t≤B∧SD G h A n u code g∧aK g (g+1) w h
def vz (m:Nat) (F w:World) (A:OA) (n B:Nat) (code:LI) (g:Nat) (e:Ending) (u:World):Prop:=∃h:LB,e=.returned (.string (ag h))∧h.length≤m∧SD F u A n B code g∧aK g (g+1) w u
theorem Ab (H:World)(A:OA)(n L:Nat)(code:LI)(V:hU H A n code)(g:Nat)(w:World)(h:SD H w A n L code g):Calls prog 117 #[.pointer (some ⟨g,0,none⟩)] w (FH (0) 1000000001 H w A n L code g):=by{
 have I:=hI (λk u B F h=>iC H A n L code V g k u B F h);have B:=hI h;have u:=hI (aK.refl g (g+1) w);have ad:=h.lt;clear h;go_enter func117,ntmps117;go_wp2_with fail
 refine(I 20 (by omega) (by omega) _ B).mono ?_;rintro e Z⟨N,rfl,_,_,F,h⟩;have B:=hI F;have u:=hI (u.trans h);have z1:=h.size;clear F h;by_cases G:N=0
 {
 have T:(N==0)=true:=by simp[G]
 obtain⟨_,R,X,M,_⟩:=ae Z #[(0:Int),(1:Int),(1000000000:Int),(1000000001:Int)] 2;have J:=hI X;have O:=hI R;have B:=hI (B.below M);have u:=hI (u.trans (aK.of_below M));clear X R M G;go_wp2_with fail
 rw[←O.out];clear O;refine(I 4 (by omega) (by omega) _ B).mono ?_;rintro e w3⟨v3,rfl,Y,W,F,h⟩;have J:=hI (J.chg h (.inr (by omega)));have B:=hI F;have u:=hI (u.trans h);have z3:=h.size;clear F h;have FX:=J.f4;have U:v3=0∨v3=1∨v3=2∨v3=3:=by omega
 rcases U with rfl|rfl|rfl|rfl<;>{
 go_wp2_with fail
 go_ret;exact⟨_,rfl,by omega,by omega,B,u⟩}}
 have T:(N==0)=false:=by simp[G]
 clear G;go_wp2_with fail
 refine(I 80000 (by omega) (by omega) _ B).mono ?_;rintro e w3⟨v3,rfl,Y,W,F,h⟩;have B:=hI F;have u:=hI (u.trans h);have z3:=h.size;clear F h;have h:IntKind.i64.wrap (1+v3)=1+v3:=IntWalk.i64_in _ (by omega);go_wp2_with fail
 go_ret;exact⟨_,rfl,by omega,by omega,B,u⟩}
theorem AK (H:World)(A:OA)(n L:Nat)(code:LI)(V:hU H A n code)(g:Nat)(w:World)(h:SD H w A n L code g):Calls prog 118 #[.pointer (some ⟨g,0,none⟩)] w (FH (0) 3001 H w A n L code g):=by{
 have I:=hI (λk u B F h=>iC H A n L code V g k u B F h);have B:=hI h;have u:=hI (aK.refl g (g+1) w);have ad:=h.lt;clear h;go_enter func118,ntmps118;go_wp2_with fail
 refine(I 24 (by omega) (by omega) _ B).mono ?_;rintro e Z⟨N,rfl,_,_,F,h⟩;have B:=hI F;have u:=hI (u.trans h);have z1:=h.size;clear F h;by_cases G:N=0
 {
 have T:(N==0)=true:=by simp[G]
 obtain⟨_,R,X,M,_⟩:=ae Z #[(0:Int),(1:Int),(3000:Int),(3001:Int)] 2;have J:=hI X;have O:=hI R;have B:=hI (B.below M);have u:=hI (u.trans (aK.of_below M));clear X R M G;go_wp2_with fail
 rw[←O.out];clear O;refine(I 4 (by omega) (by omega) _ B).mono ?_;rintro e w3⟨v3,rfl,Y,W,F,h⟩;have J:=hI (J.chg h (.inr (by omega)));have B:=hI F;have u:=hI (u.trans h);have z3:=h.size;clear F h;have FX:=J.f4;have U:v3=0∨v3=1∨v3=2∨v3=3:=by omega
 rcases U with rfl|rfl|rfl|rfl<;>{
 go_wp2_with fail
 go_ret;exact⟨_,rfl,by omega,by omega,B,u⟩}}
 have T:(N==0)=false:=by simp[G]
 clear G;go_wp2_with fail
 refine(I 700 (by omega) (by omega) _ B).mono ?_;rintro e w3⟨v3,rfl,Y,W,F,h⟩;have B:=hI F;have u:=hI (u.trans h);have z3:=h.size;clear F h;have h:IntKind.i64.wrap (700+v3)=700+v3:=IntWalk.i64_in _ (by omega);go_wp2_with fail
 go_ret;exact⟨_,rfl,by omega,by omega,B,u⟩}
theorem Id (h:LB)(k:Nat)(u:k≤h.length):(ag h).extract 0 k=ag (h.take k):=by{rw[bQ _ _ _ (by rw[aj];exact u),aw];simp}
theorem Hb (h:LB)(k:Nat):(ag h).extract k (ag h).size=ag (h.drop k):=by{
 rw[bQ _ _ _ (qA _),aw,aj];congr 1;exact qI (by rw[qX];exact qA _)}
theorem BE (Z:World)(A:OA)(n ar:Nat)(code:LI)(a8:hU Z A n code)(g:Nat)(ad:Nat)(hM:ad≤1000000)(h:LB)(hL:h.length≤ad)(w:World)(u:SD Z w A n ar code g):Calls prog 76 #[.pointer (some ⟨g,0,none⟩),.string (ag h)] w (vz (ad+1) Z w A n ar code g):=by{
 have Y:=hI (λk B V F u=>iC Z A n ar code a8 g k B V F u);have F:=hI u;have G:=hI (aK.refl g (g+1) w);have bs:=u.lt;clear u;have av:(ag h).size=h.length:=aj h;have bO:IntKind.i64.wrap (((ag h).size:Int)+1)=(h.length:Int)+1:=by rw[av];exact IntWalk.i64_in _ (by omega)
 have u:=λk V=>Id h k V
 have B:=λk=>Hb h k
 have a6:=hI u;have a1:=hI B;clear u B;go_enter func76,ntmps76;go_wp2_with fail
 refine(Y ((h.length:Int)+1) (by omega) (by omega) _ F).mono ?_;rintro e M⟨v1,rfl,q1,_,O,L⟩;have F:=hI O;have G:=hI (G.trans L);have z1:=L.size;clear O L;obtain⟨k,rfl⟩:=aC v1 q1;have V:k≤h.length:=by omega
 have bt:k≤(ag h).size:=by omega
 have bv:(k:Int)≤((ag h).size:Int):=by omega
 go_wp2_with fail
 refine(Y 8 (by omega) (by omega) _ F).mono ?_;rintro e w2⟨v2,rfl,_,_,O,L⟩;have F:=hI O;have G:=hI (G.trans L);have z2:=L.size;clear O L;have E0:=a6 k V;have bn:(h.take k).length≤h.length:=by rw[qS];omega
 by_cases c0:v2=0
 {
 subst c0;go_wp2_with fail
 go_ret;exact⟨h.take k,rfl,by omega,F,G⟩}
 have E1:=a1 k;have a2:=E1;rw[av] at a2;have bo:(h.drop k).length≤h.length:=by rw[qX];omega
 have bp:(h.take k).length+(h.drop k).length=h.length:=by rw[←qJ,List.take_append_drop]
 have bP:(ag (h.take k)).size≤1000000:=by rw[aj];omega
 have bR:(ag (h.drop k)).size≤1000000:=by rw[aj];omega
 by_cases c1:v2=1
 {
 subst c1;have b0:((1:Int)==0)=false:=by decide
 go_wp2_with fail
 have bN:=F.old;obtain⟨T,H,u⟩:∃T:World,T=w2.drew∧BL w2 T:=⟨_,rfl,ac _ w2 1⟩;have F:=hI (F.below u);have G:=hI (G.trans (aK.of_below u));have bq:=F.lt;refine bz (n:=14) (λ_=>True) (λ_=>false) (by kernel_rfl) rfl ?_;intro bW B;rw[←H];clear H u;refine zV B 0 (.string (ag h)) rfl (by kernel_rfl) (λM N=>by go_simp<;>omega) trivial ?_;go_simp;refine zV B 1 (.int .i64 (k:Int)) rfl (by kernel_rfl) (λM N=>by go_simp<;>omega) trivial ?_;go_simp;refine zV B 4 (.pointer (some ⟨g,0,none⟩)) rfl (by kernel_rfl) (λM N=>by go_simp<;>omega) trivial ?_;go_simp;refine zV B 9 (.string (ag h)) rfl (by kernel_rfl) (λM N=>by go_simp<;>omega) trivial ?_;go_simp;refine zV B 10 (.int .i64 (k:Int)) rfl (by kernel_rfl) (λM N=>by go_simp<;>omega) trivial ?_;go_simp;refine zV B 2 (.string (ag (h.take k))) rfl (by kernel_rfl) (λM N=>by go_simp<;>omega) trivial ?_;go_simp;refine zV B 11 (.string (ag (h.drop k))) rfl (by kernel_rfl) (λM N=>by go_simp<;>omega) trivial ?_;go_simp;refine zt B 3 5 ?_ ?_
 {
 skip;intro U I;go_simp;obtain⟨wa,W,X,R,a'⟩:=ae T #[.string (ag [48]),.string (ag [58]),.string (ag [32]),.string (ag [46]),.string (ag [45]),.string (ag [54]),.string (ag [10]),.string (ag [120])] 9;refine I _ _ (.inr trivial) ?_;clear I;rw[show T.alloc (.cells #[.string ⟨#[48]⟩,.string ⟨#[58]⟩,.string ⟨#[32]⟩,.string ⟨#[46]⟩,.string ⟨#[45]⟩,.string ⟨#[54]⟩,.string ⟨#[10]⟩,.string ⟨#[120]⟩] 9)=wa from W.symm];have F:=hI (F.below R);have G:=hI (G.trans (aK.of_below R));have H:=hI X;clear W X R;go_simp;refine zo B 5 λU I=>?_
 go_simp;go_at_call 29;refine(Y 8 (by omega) (by omega) _ F).mono ?_;rintro e w5⟨v5,rfl,q5,p5,O,L⟩;have H:=hI (H.chg L (.inr (by omega)));have F:=hI O;have G:=hI (G.trans L);have z5:=L.size;clear O L;refine I _ _ (.inr trivial) ?_;clear I;go_simp;obtain⟨u,rfl⟩:=aC v5 q5;have ba:u<8:=by omega
 obtain⟨J,a7⟩:∃J:UInt8,w5.cell? ⟨T.heap.size,u,none⟩=some (.string (ag [J])):=by{
 have hv:u=0∨u=1∨u=2∨u=3∨u=4∨u=5∨u=6∨u=7:=by omega
 rcases hv with rfl|rfl|rfl|rfl|rfl|rfl|rfl|rfl
 {exact⟨48,H.cell (i:=0) rfl⟩}
 {exact⟨58,H.cell (i:=1) rfl⟩}
 {exact⟨32,H.cell (i:=2) rfl⟩}
 {exact⟨46,H.cell (i:=3) rfl⟩}
 {exact⟨45,H.cell (i:=4) rfl⟩}
 {exact⟨54,H.cell (i:=5) rfl⟩}
 {exact⟨10,H.cell (i:=6) rfl⟩}
 {exact⟨120,H.cell (i:=7) rfl⟩}}
 have bb:(ag [J]).size≤1:=by rw[aj];exact qA _
 have bk:(ag (h.take k)++ag [J]).size≤1000001:=by rw[aA,aj,qJ];simp;omega
 refine zV B 6 (.pointer (some ⟨T.heap.size,u,none⟩)) rfl (by kernel_rfl) (λM N=>by go_simp<;>omega) trivial ?_;go_simp;refine zo B 7 λU I=>?_
 go_simp;refine I _ _ (.inr trivial) ?_;clear I;go_simp;refine zV B 8 (.string (ag (h.take k)++ag [J])) rfl (by kernel_rfl) (λM N=>by go_simp<;>omega) trivial ?_;go_simp;refine zV B 12 (.string (ag (h.take k)++ag [J]++ag (h.drop k))) rfl (by kernel_rfl) (λM N=>by go_simp<;>omega) trivial ?_;go_simp;refine zV B 13 (.string (ag (h.take k)++ag [J]++ag (h.drop k))) rfl (by kernel_rfl) (λM N=>by go_simp<;>omega) trivial ?_;go_simp;refine zd B ?_;go_wp2_with fail
 go_ret;exact⟨h.take k++[J]++h.drop k,by rw[aA,aA];rfl,by simp only[qJ,List.length_singleton];omega,F,G⟩}
 {
 skip;intro U I;go_simp;go_at_call 29;refine(Y 8 (by omega) (by omega) _ F).mono ?_;rintro e w4⟨v5,rfl,q5,p5,O,L⟩;have F:=hI O;have G:=hI (G.trans L);have z5:=L.size;clear O L;refine I _ _ (.inr trivial) ?_;clear I;go_simp;refine zo B 3 λU I=>?_
 go_simp;obtain⟨w5,W,X,R,a'⟩:=ae w4 #[.string (ag [48]),.string (ag [58]),.string (ag [32]),.string (ag [46]),.string (ag [45]),.string (ag [54]),.string (ag [10]),.string (ag [120])] 9;refine I _ _ (.inr trivial) ?_;clear I;rw[show w4.alloc (.cells #[.string ⟨#[48]⟩,.string ⟨#[58]⟩,.string ⟨#[32]⟩,.string ⟨#[46]⟩,.string ⟨#[45]⟩,.string ⟨#[54]⟩,.string ⟨#[10]⟩,.string ⟨#[120]⟩] 9)=w5 from W.symm];have F:=hI (F.below R);have G:=hI (G.trans (aK.of_below R));have H:=hI X;clear W X R;go_simp;obtain⟨u,rfl⟩:=aC v5 q5;have ba:u<8:=by omega
 obtain⟨J,a7⟩:∃J:UInt8,w5.cell? ⟨w4.heap.size,u,none⟩=some (.string (ag [J])):=by{
 have hv:u=0∨u=1∨u=2∨u=3∨u=4∨u=5∨u=6∨u=7:=by omega
 rcases hv with rfl|rfl|rfl|rfl|rfl|rfl|rfl|rfl
 {exact⟨48,H.cell (i:=0) rfl⟩}
 {exact⟨58,H.cell (i:=1) rfl⟩}
 {exact⟨32,H.cell (i:=2) rfl⟩}
 {exact⟨46,H.cell (i:=3) rfl⟩}
 {exact⟨45,H.cell (i:=4) rfl⟩}
 {exact⟨54,H.cell (i:=5) rfl⟩}
 {exact⟨10,H.cell (i:=6) rfl⟩}
 {exact⟨120,H.cell (i:=7) rfl⟩}}
 have bb:(ag [J]).size≤1:=by rw[aj];exact qA _
 have bk:(ag (h.take k)++ag [J]).size≤1000001:=by rw[aA,aj,qJ];simp;omega
 refine zV B 6 (.pointer (some ⟨w4.heap.size,u,none⟩)) rfl (by kernel_rfl) (λM N=>by go_simp<;>omega) trivial ?_;go_simp;refine zo B 7 λU I=>?_
 go_simp;refine I _ _ (.inr trivial) ?_;clear I;go_simp;refine zV B 8 (.string (ag (h.take k)++ag [J])) rfl (by kernel_rfl) (λM N=>by go_simp<;>omega) trivial ?_;go_simp;refine zV B 12 (.string (ag (h.take k)++ag [J]++ag (h.drop k))) rfl (by kernel_rfl) (λM N=>by go_simp<;>omega) trivial ?_;go_simp;refine zV B 13 (.string (ag (h.take k)++ag [J]++ag (h.drop k))) rfl (by kernel_rfl) (λM N=>by go_simp<;>omega) trivial ?_;go_simp;refine zd B ?_;go_wp2_with fail
 go_ret;exact⟨h.take k++[J]++h.drop k,by rw[aA,aA];rfl,by simp only[qJ,List.length_singleton];omega,F,G⟩}}
 by_cases u:v2=2
 {
 subst u;have b0:((2:Int)==0)=false:=by decide
 have I:((2:Int)==1)=false:=by decide
 by_cases R:k<h.length
 {
 have J:decide ((k:Int)<((ag h).size:Int))=true:=by simp;omega
 have N:k+1≤(ag h).size:=by omega
 have B:=a1 (k+1);have H:=B;rw[av] at H;have T:(ag (h.drop (k+1))).size≤1000000:=by rw[aj,qX];omega
 go_wp2_with fail
 go_quiet (fail)
 go_wp2_with fail
 go_ret;exact⟨h.take k++h.drop (k+1),by rw[aA];rfl,by rw[qJ,qX,qS];omega,F.below (ac _ _ _),G.trans (aK.of_below (ac _ _ _))⟩}
 {
 have J:decide ((k:Int)<((ag h).size:Int))=false:=by simp;omega
 go_wp2_with fail
 go_ret;exact⟨h,rfl,by omega,F,G⟩}}
 have b0:(v2==0)=false:=by simp[c0]
 have I:(v2==1)=false:=by simp[c1]
 have B:(v2==2)=false:=by simp[u]
 go_wp2_with fail
 go_ret;exact⟨h,rfl,by omega,F,G⟩}
end Go.Proofs.YtnpldahkhaacnaaGreatDoor

/- Texts of the walk: Nq_D Ub_D. -/
import Derived.Deep.CutRange
import Derived.Deep.CutBlock
import Derived.Test.YtnpldahkhaacnaaGreatDoorYbh
import Derived.Test.YtnpldahkhaacnaaGreatDoorYbw
import Derived.Test.YtnpldahkhaacnaaGreatDoorYbf
import Derived.Test.YtnpldahkhaacnaaGreatDoorYay
set_option linter.unusedVariables false
set_option linter.unusedSimpArgs false
set_option maxRecDepth 100000
set_option maxHeartbeats 32000000
namespace Go.Proofs.YtnpldahkhaacnaaGreatDoor
open Go.RowKit Go.Sort Go.Proofs.Tryz
theorem lH (x l:LB)(h:∀c∈l,c≠10):bE ((x++[10])++(l++[10]))=bE (x++[10])++[l]:=by{
 have e:(x++[10])++(l++[10])=(x++10::l)++[10]:=by simp
 rw[e,lX,lX,sw,gU h]}
def EI (H w:World) (A:OA) (n G:Nat) (code:LI) (g:Nat) (e:Ending) (h:World):Prop:=∃(u:OA) (k B:Nat) (F:List du),e=.returned (.slice u k B)∧h.ownsRow w.heap.size 197 2 (.slice u k B) k (winds F)∧k≤12∧(∀x∈F,dR x=true)∧SD H h A n G code g∧aK g (g+1) w h
theorem CV {st p m k t b:Int}(B:0≤p∧p≤b)(h:0≤m∧m≤b)(u:0≤t∧t≤b):(0≤(aM (st,p,m) (k,t)).1.2.1∧(aM (st,p,m) (k,t)).1.2.1≤b)∧0≤(aM (st,p,m) (k,t)).1.2.2∧(aM (st,p,m) (k,t)).1.2.2≤b:=by{
 unfold aM;(repeat' split)<;>simp only<;>omega}
structure DR (w0 w w1 : World) (A : OA) (n cap : Nat) (code : LI) (g : Nat) (st p m : Int) (B : OA) (k cc : Nat) (xs : List du) : Prop where
 src : SD w0 w1 A n cap code g
 chg : aK g (g + 1) w w1
 box : aO w1 (w.heap.size + 1) #[st, p, m] 199
 row : w1.ownsRow w.heap.size 197 2 (.slice B k cc) k (winds xs)
 ne : ∀q, (Value.slice B k cc).ownBlock = some q → q ≠ w.heap.size + 1
theorem DR.below {I w J L:World}{A:OA}{n F:Nat}{code:LI}{g:Nat}{H p m:Int}{B:OA}{k G:Nat}{M:List du}(h:DR I w J A n F code g H p m B k G M)(u:BL J L):DR I w L A n F code g H p m B k G M:=⟨h.src.below u,h.chg.trans (aK.of_below u),h.box.below u,aa h.row u,h.ne⟩
theorem DR.drawn {B w J F:World}{A:OA}{n u:Nat}{code:LI}{g:Nat}{I p m:Int}{G:OA}{k H:Nat}{L:List du}(h:DR B w J A n u code g I p m G k H L)(O:g<w.heap.size)(N:SD B F A n u code g)(hc:aK g (g+1) J F):DR B w F A n u code g I p m G k H L:=⟨N,h.chg.trans hc,h.box.chg hc (.inr (by omega)),aE h.row hc (λq M=>.inr (by have:=(h.row.lt q M).1;omega)),h.ne⟩
theorem DR.store {O w H I:World}{A:OA}{n L:Nat}{code:LI}{g:Nat}{U p m G F B:Int}{J:OA}{k M:Nat}{R:List du}(h:DR O w H A n L code g U p m J k M R)(V:g<w.heap.size)(N:I=((H.setCell ⟨w.heap.size+1,0,none⟩ (.int .i64 G)).setCell ⟨w.heap.size+1,1,none⟩ (.int .i64 F)).setCell ⟨w.heap.size+1,2,none⟩ (.int .i64 B)):DR O w I A n L code g G F B J k M R:=by{
 have u:aK (w.heap.size+1) (w.heap.size+2) H I:=by rw[N];(repeat refine bD ?_ (qA _) (by omega) _);exact aK.refl _ _ _
 have W:=h.src.old;refine⟨h.src.turn u (by omega),kg h.chg u (by omega),?_,aE h.row u (λq T=>by have:=h.ne q T;omega),h.ne⟩;rw[N];have:=((h.box.set 0 (.int .i64 G)).set 1 (.int .i64 F)).set 2 (.int .i64 B);simpa using this}
theorem DR.more {R w u H:World}{A:OA}{n L:Nat}{code:LI}{g:Nat}{O p m:Int}{F:OA}{k G B J:Nat}{Z T:List du}(h:DR R w u A n L code g O p m F k G Z)(hg:g<w.heap.size)(V:H.ownsRow w.heap.size 197 2 (.slice (some ⟨B,0,none⟩) (k+1) J) (k+1) (winds T))(N:u.grownBy H (Value.slice F k G).ownBlock)(Y:(Value.slice F k G).ownBlock=some B∨u.heap.size≤B):DR R w H A n L code g O p m (some ⟨B,0,none⟩) (k+1) J T:=by{
 have ad:=h.src.old;have U:∀q,(Value.slice F k G).ownBlock=some q→w.heap.size≤q∧q<u.heap.size:=λq I=>h.row.lt q I
 have M:aK w.heap.size u.heap.size u H:=aK.of_grown N U;refine⟨h.src.turn M (by omega),kg h.chg M (qA _),h.box.grown N (λe=>h.ne _ e rfl),V,λq I=>?_⟩;have W:B=q:=by simpa[Value.ownBlock] using I
 subst W;rcases Y with e|e
 {exact h.ne _ e}
 {
 have:=h.box.lt;omega}}
theorem xt (U:World)(A:OA)(n W:Nat)(code:LI)(cL:hU U A n code)(g:Nat)(w:World)(u:SD U w A n W code g):Calls prog 116 #[.pointer (some ⟨g,0,none⟩)] w (EI U w A n W code g):=by{
 have F:=hI (λk h B w' u=>iC U A n W code cL g k h B w' u);have O:=u.lt;obtain⟨w1,J,H,M⟩:=jd w #[] 197;have I:=bg w w.heap.size 197 2 (qA _);rw[←J] at I;obtain⟨w2,N,G,B,R⟩:=ae w1 #[(0:Int),(0:Int),(0:Int)] 199;rw[M] at G;have h:=hI (show DR U w w2 A n W code g 0 0 0 (some ⟨w.heap.size,0,none⟩) 0 0 [] from⟨(u.below H).below B,(aK.of_below H).trans (aK.of_below B),G,aa I B,λq L=>by simp[Value.ownBlock] at L;omega⟩);have L:=hI (show w2=(w.alloc (.cells #[] 197)).alloc (.cells #[(0:Int),(0:Int),(0:Int)] 199) from by rw[N,J]);clear u I G H B J N M R;go_enter func116,ntmps116;go_wp2_with fail
 rw[←L.out];clear L;refine(F 1000 (by omega) (by omega) _ h.src).mono ?_;rintro e w3⟨t0,rfl,_,_,G,u⟩;have h:=hI (h.drawn O G u);clear G u;go_wp2_with fail
 refine(F 12 (by omega) (by omega) _ h.src).mono ?_;rintro e w4⟨m0,rfl,dq,_,G,u⟩;have h:=hI (h.drawn O G u);clear G u;obtain⟨mN,rfl⟩:=aC m0 dq;go_wp2_with fail
 go_loopw [3,5,6] (λo t i wr=>∃(L k Y:Nat) (V:OA) (M:List du) (a2 B p m:Int),L≤11∧k+L≤11∧o=.slice V k Y∧t=.int .i64 a2∧i=.int .i64 (L:Int)∧(0≤a2∧a2≤1000+400000*(11-L))∧(0≤p∧p≤1000+400000*(11-L))∧(0≤m∧m≤1000+400000*(11-L))∧Hid (∀x∈M,(1≤x.1∧x.1≤8)∧0≤x.2∧x.2≤1000+400000*(11-L))∧Hid (DR U w wr A n W code g B p m V k Y M)) (λ_ _ i _=>(intOf i).toNat)
 case atStart=>exact⟨mN,0,0,_,[],t0,0,0,0,by omega,by omega,rfl,rfl,rfl,by omega,by omega,by omega,hI (λx J=>by cases J),h⟩
 case round=>(
 clear h;obtain⟨L,k,Y,V,M,a2,B,p,m,_,_,rfl,rfl,rfl,_,_,_,a1,h⟩:=hrel;obtain⟨wo,c'⟩:∃wo:World,wo=wr:=⟨_,rfl⟩;subst c';by_cases d8:0<L
 {
 have cR:decide ((0:Int)<(L:Int))=true:=by simp;omega
 obtain⟨jN,a8⟩:∃jN,L=jN+1:=⟨L-1,by omega⟩;have bq:=hI a8;clear a8;go_wp2_with fail
 refine(F 8 (by omega) (by omega) _ h.src).mono ?_;rintro e wa⟨v,rfl,v0,_,G,u⟩;have h:=hI (h.drawn O G u);clear G u;have ee:IntKind.i64.wrap (1+v)=1+v:=IntWalk.i64_in _ (by omega);have cs:=h;have T:=h.box.f3;go_upto_block 2 with fail
 go_cut [7] from 17 to 117 (λkd wx=>∃K:Int,kd=.int .i64 K∧(1≤K∧K≤8)∧Hid (DR U w wx A n W code g B p m V k Y M))
 case first=>(
 by_cases c0:B=0
 {
 subst c0;clear F;go_wp2_with fail
 go_meet;exact⟨1,rfl,by omega,h⟩}
 by_cases c1:B=1
 {
 subst c1;clear F;go_wp2_with fail
 go_meet;exact⟨2,rfl,by omega,h⟩}
 by_cases c2:B=2
 {
 subst c2;clear F;go_wp2_with fail
 go_meet;exact⟨3,rfl,by omega,h⟩}
 by_cases c3:B=3
 {
 subst c3;clear F;go_wp2_with fail
 go_meet;exact⟨4,rfl,by omega,h⟩}
 by_cases c5:B=5
 {
 subst c5;clear F;go_wp2_with fail
 go_meet;exact⟨6,rfl,by omega,h⟩}
 by_cases c6:B=6
 {
 subst c6;clear F;go_wp2_with fail
 go_meet;exact⟨1,rfl,by omega,h⟩}
 by_cases c7:B=7
 {
 subst c7;clear F;go_wp2_with fail
 go_meet;exact⟨1,rfl,by omega,h⟩}
 by_cases c4:B=4
 {
 subst c4;obtain⟨cn,Z,XL,ad,b'⟩:=ae wa #[(7:Int),(7:Int),(8:Int)] 2;have HL:=hI XL;have N:=hI Z;have h:=hI (h.below ad);have dc:=h.src.lt;have H:=cs.src.lt;clear XL Z ad;go_wp2_with fail
 rw[←N.out];clear N T;refine(F 3 (by omega) (by omega) _ h.src).mono ?_;rintro e wb⟨y,rfl,y0,y1,G,u⟩;have h:=hI (h.drawn O G u);have HL:=hI (HL.chg u (.inr (by omega)));clear G u F;have FL:=HL.f3;have bW:y=0∨y=1∨y=2:=by omega
 rcases bW with rfl|rfl|rfl<;>{
 go_wp2_with fail
 go_meet;exact⟨_,rfl,by omega,h⟩}}
 have b0:(B==0)=false:=by simp[c0]
 have b1:(B==1)=false:=by simp[c1]
 have b2:(B==2)=false:=by simp[c2]
 have b3:(B==3)=false:=by simp[c3]
 have b4:(B==4)=false:=by simp[c4]
 have b5:(B==5)=false:=by simp[c5]
 have b6:(B==6)=false:=by simp[c6]
 have b7:(B==7)=false:=by simp[c7]
 clear F;go_wp2_with fail
 go_meet;exact⟨1+v,rfl,by omega,h⟩)
 case rest=>(
 obtain⟨K,rfl,I,R⟩:=hcut;clear h T;have h:=R;clear R;go_wp2_with fail
 refine(F 6 (by omega) (by omega) _ h.src).mono ?_;rintro e wb⟨y,rfl,y0,y1,G,u⟩;have h:=hI (h.drawn O G u);clear G u;go_upto_if 47 with fail
 go_cut [7] from 17 to 117 (λkd wx=>∃K:Int,kd=.int .i64 K∧(1≤K∧K≤8)∧Hid (DR U w wx A n W code g B p m V k Y M))
 case first=>(
 by_cases hy:y=0
 {
 subst hy;go_wp2_with fail
 refine(F 8 (by omega) (by omega) _ h.src).mono ?_;rintro e wd⟨z,rfl,z0,z1,G,u⟩;have h:=hI (h.drawn O G u);clear G u;have H:IntKind.i64.wrap (1+z)=1+z:=IntWalk.i64_in _ (by omega);obtain⟨cn,Z,XL,ad,b'⟩:=ae wd #[(5:Int),(5:Int),(8:Int),.int .i64 (1+z)] 2;have HL:=hI XL;have N:=hI Z;have dc:=h.src.lt;have h:=hI (h.below ad);clear XL Z ad;go_wp2_with fail
 rw[←N.out];clear N;refine(F 4 (by omega) (by omega) _ h.src).mono ?_;rintro e wy⟨x,rfl,_,_,G,u⟩;have h:=hI (h.drawn O G u);have HL:=hI (HL.chg u (.inr (by omega)));clear G u F;have FL:=HL.f4;have bW:x=0∨x=1∨x=2∨x=3:=by omega
 rcases bW with rfl|rfl|rfl|rfl<;>{
 go_wp2_with fail
 go_meet;exact⟨_,rfl,by omega,h⟩}}
 {
 have ek:(y==0)=false:=by simp[hy]
 clear F;go_wp2_with fail
 go_meet;exact⟨K,rfl,I,h⟩})
 case rest=>(
 obtain⟨H,rfl,bO,R⟩:=hcut;clear h I;have h:=R;clear R;have T:=h.box.f3;go_upto_block 3 with fail
 go_cut [5] from 17 to 117 (λtt wx=>∃T2:Int,tt=.int .i64 T2∧(0≤T2∧T2≤1000+400000*(11-L)+350000)∧Hid (DR U w wx A n W code g B p m V k Y M))
 case first=>(
 by_cases d1:H=1
 {
 subst d1;clear F;by_cases I:B=0
 {
 subst I;go_wp2_with fail
 go_meet;exact⟨a2,rfl,by omega,h⟩}
 {
 have d9:(B !=0)=true:=by simp[I]
 go_wp2_with fail
 go_meet;exact⟨_,rfl,by omega,h⟩}}
 by_cases d2:H=2
 {
 subst d2;clear F;go_wp2_with fail
 go_meet;exact⟨_,rfl,by omega,h⟩}
 by_cases d3:H=3
 {
 subst d3;clear F;go_wp2_with fail
 go_meet;exact⟨_,rfl,by omega,h⟩}
 by_cases d4:H=4
 {
 subst d4;clear F;go_wp2_with fail
 go_meet;exact⟨_,rfl,by omega,h⟩}
 have f1:(H==1)=false:=by simp[d1]
 have f2:(H==2)=false:=by simp[d2]
 have f3:(H==3)=false:=by simp[d3]
 have f4:(H==4)=false:=by simp[d4]
 go_wp2_with fail
 refine(F 50000 (by omega) (by omega) _ h.src).mono ?_;rintro e wd⟨z,rfl,z0,z1,G,u⟩;have h:=hI (h.drawn O G u);clear G u F;go_wp2_with fail
 go_meet;exact⟨_,rfl,by omega,h⟩)
 case rest=>(
 obtain⟨T2,rfl,cy,R⟩:=hcut;clear h T;have h:=R;clear R;go_upto_if 86 with fail
 go_cut [5] from 17 to 117 (λtt wx=>∃I:Int,tt=.int .i64 I∧(0≤I∧I≤1000+400000*(11-L)+350000)∧Hid (DR U w wx A n W code g B p m V k Y M))
 case first=>(
 clear F;by_cases cN:k=0
 {
 subst cN;go_wp2_with fail
 go_meet;exact⟨T2,rfl,cy,h⟩}
 {
 have d6:0<k:=by omega
 have d7:decide ((0:Int)<(k:Int))=true:=by simp;omega
 obtain⟨_,_,x,y,rfl,J,-,cB,cC⟩:=(az h.row).wind (k:=k-1) (by omega);have hb:=a1 _ (qF J);simp only at hb;have e1:IntKind.i64.wrap ((k:Int)-1)=((k-1:Nat):Int):=by rw[IntWalk.i64_in _ (by omega)];omega
 have e2:(k-1:Nat)<k:=by omega
 obtain⟨mm,cl⟩:∃mm,mm=k-1:=⟨_,rfl⟩;rw[←cl] at e1 e2 cB cC;clear J cl;go_wp2_with fail
 go_meet;exact⟨_,rfl,by omega,h⟩})
 case rest=>(
 obtain⟨I,rfl,_,R⟩:=hcut;clear h;have h:=R;clear R;have d':=h.box.lt;have ba:=hI (λw'=>sL B p m H I bO (by omega) (by omega) (by omega) w');have ck:=CV (st:=B) (k:=H) (p:=p) (m:=m) (t:=I) (b:=1000+400000*(11-(L:Int))+350000) (by omega) (by omega) (by omega);generalize aM (B,p,m) (H,I)=sr at ba ck;obtain⟨⟨bp,p2,m2⟩,dA⟩:=sr;simp only at ba ck;obtain⟨cn,Z,R,ad,b'⟩:=ae wc #[H,I] 197;have cf:=hI R;have N:=hI Z;have bv:=hI (h.below ad);have T:=bv.box.f3;have ar:=R.f2;rw[Z] at T ar;clear Z R ad b';go_wp2_with fail
 rw[←N.out];clear N T ar;refine(ba _).mono ?_;rintro e wy⟨rfl,bR⟩;have bn:=hI (cf.below bR);have R:=hI (bv.below bR);obtain⟨_,cb,XN,bP,c8⟩:=ae wy #[bp,p2,m2] 199;have bk:=hI (bn.below bP);have av:=hI (R.below bP);have N:=hI cb;have FN:=XN.f3;have T:=av.box.f3;have ar:=bk.f2;have co:=R.box.f3;have cp:=bn.f2;have cq:=hI (show w.heap.size+1<wy.heap.size from R.box.lt);have d5:=cq.out;have eg:=bn.lt;rw[cb] at FN T ar;clear cb XN bP c8 bR ba h bv cf bn
 cases dA with
 | true=>{
 obtain⟨wp,bo⟩:∃wp:World,wp=((wy.setCell ⟨w.heap.size+1,0,none⟩ (.int .i64 bp)).setCell ⟨w.heap.size+1,1,none⟩ (.int .i64 p2)).setCell ⟨w.heap.size+1,2,none⟩ (.int .i64 m2):=⟨_,rfl⟩;have cd:=hI (R.store O bo);have cv:=hI bo;obtain⟨wS,ca,ch⟩:∃wS:World,wS=wp.alloc (.cells #[bp,p2,m2] 199)∧BL wp wS:=⟨_,rfl,(qB _ _).alloc (qA _) _⟩;have bt:=hI (cd.below ch);have cm:wS.heap.size=wy.heap.size+1:=by rw[ca,bo];simp
 have cr:=hI (show(wS.alloc (.cells #[H,I] 197)).heap[wy.heap.size+1]?=some (.cells #[H,I] 197 (0,0)) from by rw[←cm];exact heap_alloc_new _ _);have cw:=hI ca;clear bo ca ch R av F cd N bk cm;have a8:=bq.out;go_wp2_with(at_builtin;rw[←cv.out,←cw.out];refine oe (x0:=H) (x1:=I) _ rfl _ _ rfl rfl (aa bt.row (za _ _)) rfl cr (by omega) ?cBa ?_;rotate_left;intro g9 c9 w9 a' a7 a6 b9)
 {
 have bs:=hI ((bt.below ((qB _ _).alloc (qA _) (.cells #[H,I] 197))).more O a' a7 (a6.imp id (λe=>by omega)));have bN:=hI (show ∀x∈M++[(H,I)],(1≤x.1∧x.1≤8)∧0≤x.2∧x.2≤1000+400000*(11-(jN:Int)) from λx J=>by{
 rcases List.mem_append.1 J with J|J
 {have:=a1 x J;omega}
 {
 obtain rfl:=List.mem_singleton.1 J;exact⟨bO,by simp only;omega⟩}})
 clear a' a7 a6 b9;go_roundw
 case rel=>exact⟨jN,k+1,c9,some ⟨g9,0,none⟩,M++[(H,I)],I,bp,p2,m2,by omega,by omega,rfl,rfl,by first|rfl|(congr 1;omega),by omega,by omega,by omega,bN,bs⟩
 case measure=>simp[intOf]<;>omega}
 {exact qM (show w.heap.size≤wS.heap.size from by have:=bt.box.lt;omega) (za _ _).size}}
 | false=>{
 clear R;go_wp2_with fail
 rw[←N.out];clear T ar co cp FN;refine(F 10 (by omega) (by omega) _ av.src).mono ?_;rintro e wd⟨z,rfl,z0,z1,G,u⟩;have R:=hI (av.drawn O G u);have cx:=hI (bk.chg u (.inr (by omega)));have d0:=cx.f2;clear G u av bk F N;by_cases u:z=0
 {
 subst u;have a8:=bq.out;go_wp2_with(at_builtin;refine oe (x0:=H) (x1:=I) _ rfl _ _ rfl rfl (aa R.row (za _ _)) rfl (heap_alloc_new _ _) (by omega) ?cBb ?_;rotate_left;intro g9 c9 w9 a' a7 a6 b9)
 {
 have bs:=hI ((R.below ((qB _ _).alloc (qA _) (.cells #[H,I] 197))).more O a' a7 (a6.imp id (λe=>by omega)));have bN:=hI (show ∀x∈M++[(H,I)],(1≤x.1∧x.1≤8)∧0≤x.2∧x.2≤1000+400000*(11-(jN:Int)) from λx J=>by{
 rcases List.mem_append.1 J with J|J
 {have:=a1 x J;omega}
 {
 obtain rfl:=List.mem_singleton.1 J;exact⟨bO,by simp only;omega⟩}})
 clear a' a7 a6 b9;go_roundw
 case rel=>exact⟨jN,k+1,c9,some ⟨g9,0,none⟩,M++[(H,I)],I,B,p,m,by omega,by omega,rfl,rfl,by first|rfl|(congr 1;omega),by omega,by omega,by omega,bN,bs⟩
 case measure=>simp[intOf]<;>omega}
 {exact qM (show w.heap.size≤wd.heap.size from by have:=R.box.lt;omega) (za _ _).size}}
 {
 have F:(z==0)=false:=by simp[u]
 have a8:=bq.out;go_wp2_with fail
 go_roundw
 case rel=>exact⟨jN,k,Y,V,M,I,B,p,m,by omega,by omega,rfl,rfl,by first|rfl|(congr 1;omega),by omega,by omega,by omega,hI (λx J=>by have:=a1 x J;omega),R⟩
 case measure=>simp[intOf]<;>omega}}))))}
 {
 obtain rfl:L=0:=by omega
 have cR:decide ((0:Int)<((0:Nat):Int))=false:=by decide
 go_wp2_with fail
 go_ret;exact⟨V,k,Y,M,rfl,h.row,by omega,λx J=>cV.2 (by have:=a1 x J;exact⟨this.1,this.2.1,by omega⟩),h.src,h.chg⟩})}
end Go.Proofs.YtnpldahkhaacnaaGreatDoor

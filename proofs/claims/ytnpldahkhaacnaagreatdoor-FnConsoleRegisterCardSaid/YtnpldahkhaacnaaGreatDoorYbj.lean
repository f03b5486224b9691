/- Texts of the walk: Ng Nh. -/
import Derived.Test.YtnpldahkhaacnaaGreatDoorYbg
import Derived.Test.YtnpldahkhaacnaaGreatDoorYbe
set_option linter.unusedVariables false
set_option linter.unusedSimpArgs false
set_option maxRecDepth 100000
set_option maxHeartbeats 32000000
namespace Go.Proofs.YtnpldahkhaacnaaGreatDoor
open Go.RowKit Go.Sort Go.Proofs.Tryz
theorem GH {w:World}{h e s n c:Nat}{A:OA}{B:List Value}(u:w.ownsRow h e s (.slice A n c) n B):n≤c:=lx u
theorem zg {x:Int}(h:0≤x∧x≤1000000):(aP x.toNat).length≤7:=bd 6 x.toNat (by omega)
theorem E_ {h:LI}(B:∀x∈h,0≤x∧x≤1000000):(dy h).length≤8*h.length:=by{
 unfold dy;have:=pG (m:=7) (h:=h.map λv=>aP v.toNat) (by{
 intro w u;rw[List.mem_map] at u;obtain⟨x,F,rfl⟩:=u;exact zg (B x F)})
 rw[qV] at this;omega}
theorem kp (A:OA)(n c:Nat)(h:LI)(u:∀x∈h,0≤x∧x≤1000000)(hn:n≤400)(w:World)(B:Rd w 1 A n (ints h))(F:∀J,BL w J→gu J):Calls prog 149 #[.slice A n c] w λe J=>e=.returned (.string (ag (dy h)))∧BL w J:=by{
 have HR:=hI B;have O:=hI B.len_int;have HX:=hI u;have Z:=hI F;have ad:=hI (E_ u);clear B u F;have G:=hI (show(w.alloc (.cells #[] 9)).ownsRow w.heap.size 9 1 (.slice (some ⟨w.heap.size,0,none⟩) 0 0) 0 (strs ((h.take 0).map λv=>aP v.toNat)) from bg w w.heap.size 9 1 (qA _));have B:=hI ((qB w.heap.size w).alloc (qA _) (.cells #[] 9));go_enter func149,ntmps149;go_wp2_with fail
 go_loopw [3,9] (λl i wr=>∃(k I:Nat) (F:OA),k≤n∧l=.slice F k I∧i=.int .i64 k∧Hid (wr.ownsRow w.heap.size 9 1 (.slice F k I) k (strs ((h.take k).map λv=>aP v.toNat)))∧Hid (BL w wr)) (λ_ i _=>n-(intOf i).toNat)
 case atStart=>exact⟨0,0,_,qH _,rfl,rfl,G,B⟩
 case round=>(
 clear G B;obtain⟨k,I,F,_,rfl,rfl,B,G⟩:=hrel;obtain⟨L,a6⟩:∃L:World,L=wr:=⟨_,rfl⟩;subst a6;by_cases W:k<n
 {
 have a2:decide ((k:Int)<(n:Int))=true:=by simpa using W
 obtain⟨b,_,x,rfl,u,hd,hc⟩:=(HR.out.below G.out).int W;have Y:=HX.out x (qF u);obtain⟨v,rfl⟩:=aC x Y.1;have T:=hI (ii v (by omega) L (Z.out _ G.out).pow);have ar:=hI (show((h.take k).map λv=>aP v.toNat)++[aP v]=(h.take (k+1)).map λv=>aP v.toNat from by rw[List.take_add_one,u];simp);generalize aP v=D at *;clear u hd Y;go_wp2_with fail
 refine T.out.mono ?_;rintro e w1⟨rfl,u⟩;have H:=zb G u;have R:=hI (aa B.out u);have av:=H.out.size;clear u hc T B;go_wp2_with(at_builtin;refine fy (l:=D) _ rfl _ _ rfl rfl rfl (aa R.out (za _ _)) rfl (heap_alloc_new _ _) (by omega) ?cBa ?_;rotate_left;intro N c9 U M V _ _)
 {
 have N:=hI ((H.out.alloc av _).grown V (by simp;omega) (λj U=>(R.out.lt j U).1));rw[ar.out] at M;have U:=hI M;clear M V;go_roundw
 case rel=>exact⟨k+1,c9,_,by omega,rfl,by go_num,U,N⟩
 case measure=>simp[intOf]<;>omega}
 {first|omega|(simp;omega)}}
 {
 obtain rfl:k=n:=by omega
 have a2:decide ((k:Int)<(k:Int))=false:=by simp
 have U:=hI (show(h.take k).map (λv=>aP v.toNat)=h.map λv=>aP v.toNat from by rw[qI (by rw[O.out];exact qA _)]);rw[U.out] at B;have a1:=GH B.out;have N:=hI (yt F k I (h.map λv=>aP v.toNat) L (az B.out) a1 (by omega) (by have:=ad.out;have:=O.out;unfold dy at *;omega));rw[show bJ (h.map λv=>aP v.toNat)=dy h from rfl] at N;clear U B;go_wp2_with fail
 refine N.out.mono ?_;rintro e w1⟨rfl,u⟩;have H:=zb G u;clear u;go_wp2_with fail
 go_ret;exact⟨rfl,H.out⟩})}
theorem lp (A:OA)(n c:Nat)(u:LI)(B:∀x∈u,0≤x∧x≤1000000)(hn:n≤400)(w:World)(h:Rd w 1 A n (ints u)):Calls prog 166 #[.slice A n c] w λe L=>e=.returned (.string (ag (dy u)))∧BL w L:=by{
 have HR:=hI h;have N:=hI h.len_int;have HX:=hI B;clear h B;have F:=hI (show bJ ((u.take 0).map λv=>aP v.toNat)=[] from rfl);go_enter func166,ntmps166;go_wp2_with fail
 go_loopw [3,4] (λt i wr=>∃(k:Nat) (h:LB),k≤n∧t=.string (ag h)∧i=.int .i64 k∧Hid (bJ ((u.take k).map λv=>aP v.toNat)=h)∧h.length≤8*k∧Hid (BL w wr)) (λ_ i _=>n-(intOf i).toNat)
 case atStart=>exact⟨0,[],qH _,rfl,rfl,F,qH _,hI (qB _ _)⟩
 case round=>(
 clear F;obtain⟨k,h,_,rfl,rfl,R,av,G⟩:=hrel;obtain⟨Y,a1⟩:∃Y:World,Y=wr:=⟨_,rfl⟩;subst a1;by_cases V:k<n
 {
 have ar:decide ((k:Int)<(n:Int))=true:=by simpa using V
 obtain⟨b,_,x,rfl,B,hd,hc⟩:=(HR.below G).int V;have J:=HX x (qF B);obtain⟨v,rfl⟩:=aC x J.1;have M:=hI (λL=>cu v v (qA _) (by omega) L);have W:=zg J;simp only[qP] at W;have O:=hI (show bJ ((u.take (k+1)).map λv=>aP v.toNat)=if ((u.take k).map λv=>aP v.toNat)=[] then aP v else bJ ((u.take k).map λv=>aP v.toNat)++32::aP v from by rw[List.take_add_one,B,Option.toList_some,qf];exact pz _ _);have ad:=hI (show((u.take k).map λv=>aP v.toNat).length=k from by rw[qV,qS,N.out];omega);generalize aP v=D at *;have a7:(ag D).size≤7:=by rw[aj];exact W
 have a8:(ag h).size≤8*k:=by rw[aj];exact av
 clear B hd J;rcases Nat.eq_zero_or_pos k with U|U
 {
 subst U;obtain rfl:h=[]:=List.eq_nil_of_length_eq_zero (by omega);have I:=hI (show bJ ((u.take (0+1)).map λv=>aP v.toNat)=D from by rw[O.out];rfl);have B:=hI (show ag []++ag D=ag D from by rw[aA];rfl);simp only[qW] at hc;go_wp2_with fail
 refine(M _).mono ?_;rintro e w1⟨rfl,F⟩;have H:=zb G F;clear F;go_wp2_with fail
 go_roundw
 case rel=>exact⟨1,D,by omega,by first|(rw[←B.out];rfl)|(simp;exact B),by go_num,I,by omega,H⟩
 case measure=>simp[intOf]<;>omega}
 {
 have a2:decide (0<(k:Int))=true:=by simp;omega
 have a6:decide (0<k)=true:=by simp;omega
 have I:=hI (show bJ ((u.take (k+1)).map λv=>aP v.toNat)=h++32::D from by{
 rw[O.out,if_neg,R.out];intro T;have:=ad.out;rw[T] at this;simp at this;omega})
 have T:=hI (show ag h++ag [32]=ag (h++[32]) from aA _ _);have a':(ag h++ag [32]).size≤8*k+1:=by rw[T.out,aj,qJ,List.length_singleton];omega
 have B:=hI (show ag h++ag [32]++ag D=ag (h++32::D) from by rw[T.out,aA];simp);go_wp2_with fail
 refine(M _).mono ?_;rintro e w1⟨rfl,F⟩;have H:=zb G F;clear F;go_wp2_with fail
 go_roundw
 case rel=>exact⟨k+1,h++32::D,by omega,by first|(rw[←B.out];rfl)|(simp;exact B),by go_num,I,by simp only[qJ,qO];omega,H⟩
 case measure=>simp[intOf]<;>omega}}
 {
 obtain rfl:k=n:=by omega
 have ar:decide ((k:Int)<(k:Int))=false:=by simp
 have Z:=hI (show h=dy u from by rw[←R.out,qI (by rw[N.out];exact qA _)];rfl);go_wp2_with fail
 go_ret;exact⟨by rw[Z.out];rfl,G⟩})}
theorem dD (c:Int):(aD c).length≤3:=by{
 unfold aD;split
 {
 rename_i h;have:c=0∨c=1∨c=2∨c=3∨c=4∨c=5∨c=6∨c=7∨c=8∨c=9:=by omega
 rcases this with rfl|rfl|rfl|rfl|rfl|rfl|rfl|rfl|rfl|rfl<;>decide}
 {exact qH _}}
theorem EN {x:ah}(h:dP x=true):(eO x).length≤20:=by{
 obtain⟨_,_,_,_⟩:=rO h;unfold eO;have:=dD x.2.1;have:=bd 9 x.2.2.toNat (by omega);rw[qJ];split
 {rw[qO];omega}
 {simp;omega}}
theorem uI {F u:Int}{h:Nat}(B:h=0):eO (F,(h:Int),u)=aD (h:Int)++61::aP u.toNat:=by subst B;rfl
theorem sg {B h F:Int}(u:h≠0):eO (B,h,F)=aD h:=by{
 show aD h++(if h=0 then _ else [])=_;rw[if_neg u,qa]}
theorem xL {h:List ah}(B:∀x∈h,dP x=true):(bJ (h.map eO)).length≤21*h.length:=by{
 have:=pG (m:=20) (h:=h.map eO) (by{
 intro w u;rw[List.mem_map] at u;obtain⟨x,F,rfl⟩:=u;exact EN (B x F)})
 rw[qV] at this;omega}
theorem jz (w:World):Calls prog 245 #[] w λe u=>∃g,e=.returned (.slice (some ⟨g,0,none⟩) 10 10)∧(∀k:Nat,k≤9→u.cell? ⟨g,k,none⟩=some (.string (ag (aD (k:Int)))))∧BL w u:=by{
 have B:=hI (λo=>(qB w.heap.size w).alloc (qA _) o);have F:=hI (λ(k:Nat) (h:k≤9)=>(aO.new w #[.string (ag (aD 0)),.string (ag (aD 1)),.string (ag (aD 2)),.string (ag (aD 3)),.string (ag (aD 4)),.string (ag (aD 5)),.string (ag (aD 6)),.string (ag (aD 7)),.string (ag (aD 8)),.string (ag (aD 9))] 9).cell (i:=k) (v:=.string (ag (aD (k:Int)))) (by{
 have:k=0∨k=1∨k=2∨k=3∨k=4∨k=5∨k=6∨k=7∨k=8∨k=9:=by omega
 rcases this with rfl|rfl|rfl|rfl|rfl|rfl|rfl|rfl|rfl|rfl<;>rfl}))
 go_enter func245,ntmps245;go_wp2_with fail
 go_ret;exact⟨_,rfl,λk h=>F k h,B _⟩}
theorem pM (L:Int)(A:OA)(n c:Nat)(h:List ah)(w:World)(H:Rd w 3 A n (fins h))(u:∀F,BL w F→gu F):Calls prog 154 #[L,.agg #[.slice A n c]] w λe F=>e=.returned (.string (ag (ew L h)))∧BL w F:=by{
 have bP:=hI u;clear u;have HR:=hI H;have HN:=hI H.len_fin;have hm:=H.le;obtain⟨w1,U,N,T,_⟩:=ae w #[.slice A n c] 157;have V:=hI N;have Z:=hI T;have M:=hI U;have J:w1.cell? ⟨w.heap.size,0,none⟩=some (.slice A n c):=N.cell (i:=0) rfl;have HI:=hI (λF (u:BL w F)=>tw L A n c h F (H.below u));have bo:e_ L h=true→n≤16:=λu=>by have hr:=ot u;have h1:=hr.len;have h2:=hr.b2;have h3:=H.len_fin;omega
 have O:e_ L h=true→∀x∈h,dP x=true:=λu x R=>by{
 obtain⟨k,hk⟩:=List.mem_iff_getElem?.1 R;exact((ot u).fin k x hk).2}
 cases u:e_ L h with
 | false=>{
 have HF:=hI (show ew L h=[] from by unfold ew;rw[u];rfl);rw[u] at HI;clear H u N T U bo O;go_enter func154,ntmps154;go_wp2_with fail
 rw[←M.out];clear M;refine(HI _ Z).mono ?_;rintro e B⟨rfl,I⟩;have G:=zb Z I;clear I J;go_wp2_with fail
 go_ret;exact⟨by rw[HF.out];rfl,G⟩}
 | true=>{
 have HF:=hI (show ew L h=bJ (h.map eO) from by unfold ew;rw[u];rfl);have bo:=bo u;have HM:=hI (O u);have bR:=hI (xL (O u));rw[u] at HI;clear H u N T U O;go_enter func154,ntmps154;go_wp2_with fail
 rw[←M.out];clear M;refine(HI _ Z).mono ?_;rintro e B⟨rfl,I⟩;have G:=zb Z I;have bt:=hI (V.below I);clear I J V;have J:B.cell? ⟨w.heap.size,0,none⟩=some (.slice A n c):=bt.cell (i:=0) rfl;have b3:=G.size;have H:=hI (show(B.alloc (.cells #[] 9)).ownsRow B.heap.size 9 1 (.slice (some ⟨B.heap.size,0,none⟩) 0 0) 0 (strs ((h.take 0).map eO)) from bg B B.heap.size 9 1 (qA _));have u:=hI ((qB B.heap.size B).alloc (qA _) (.cells #[] 9));have I:(B.alloc (.cells #[] 9)).cell? ⟨w.heap.size,0,none⟩=some (.slice A n c):=Bg _ _ (au J) J;go_wp2_with fail
 clear J I;go_loopw [5,17] (λl i wr=>∃(k cc:Nat) (Y:OA),k≤n∧l=.slice Y k cc∧i=.int .i64 k∧Hid (wr.ownsRow B.heap.size 9 1 (.slice Y k cc) k (strs ((h.take k).map eO)))∧Hid (BL B wr)) (λ_ i _=>n-(intOf i).toNat)
 case atStart=>exact⟨0,0,_,qH _,rfl,rfl,H,u⟩
 case round=>(
 clear H u;obtain⟨k,cc,Y,hk,rfl,rfl,N,T⟩:=hrel;obtain⟨W,b1⟩:∃W:World,W=wr:=⟨_,rfl⟩;subst b1;have J:W.cell? ⟨w.heap.size,0,none⟩=some (.slice A n c):=(bt.below T).cell (i:=0) rfl;by_cases bN:k<n
 {
 have b0:decide ((k:Int)<(n:Int))=true:=by simpa using bN
 obtain⟨b,_,x0,I,u,rfl,R,hd,_,_,_⟩:=(HR.below (G.trans (T.mono G.size))).fin bN;have bn:=HM _ (qF R);have a1:=rO bn;simp only at a1;obtain⟨_,bO,XA,bb,_⟩:=ae W #[x0,I,u] 53;have bv:=hI XA;have FA:=XA.f3;have av:=hI bO;have bq:=zb T bb;have bs:=hI (aa N bb);have a7:=hI (λF=>mL I F);have ar:=hI (show((h.take k).map eO)++[eO (x0,I,u)]=(h.take (k+1)).map eO from by rw[List.take_add_one,R];simp);clear XA bb bO N;by_cases bp:I=0
 {
 subst bp;have ba:=hI (show eO (x0,0,u)=aD 0++61::aP u.toNat from rfl);rw[ba.out] at ar;have HV:=hI (show ag (aD 0)++(ag [61]++ag (aP u.toNat))=ag (aD 0++61::aP u.toNat) from by rw[aA,aA];rfl);have HT:=hI (λF H=>ii u.toNat (by omega) F H);rw[Int.toNat_of_nonneg a1.2.2.1] at HT;have b5:(ag (aP u.toNat)).size≤10:=by rw[aj];exact bd 9 u.toNat (by omega)
 have a2:(ag (aD 0)).size≤3:=by rw[aj];exact dD _
 generalize ag (aD 0)=z1 at *;generalize ag (aP u.toNat)=z2 at *;clear R hd bn a1;go_wp2_with fail
 rw[←av.out];clear av;refine(a7 _).mono ?_;rintro e w4⟨rfl,H⟩;have ad:=zb bq H;have FA:=(bv.below H).f3;have a8:=hI (aa bs H);clear H;go_wp2_with fail
 refine(HT _ (bP _ (G.trans (ad.mono G.size))).pow).mono ?_;rintro e w5⟨rfl,O⟩;have M:=zb ad O;have U:=hI (aa a8 O);have bk:=M.size;clear O FA J;go_wp2_with(at_builtin;refine fy (l:=aD 0++61::aP u.toNat) _ rfl _ _ rfl HV rfl (aa U (za _ _)) rfl (heap_alloc_new _ _) (by omega) ?cBa ?_;rotate_left;intro g9 c9 w9 J V _ _)
 {
 have a6:=hI ((M.alloc bk _).grown V (by simp;omega) (λj hj=>(U.lt j hj).1));rw[ar.out] at J;have a':=hI J;clear J V;go_roundw
 case rel=>exact⟨k+1,c9,_,by omega,rfl,by go_num,a',a6⟩
 case measure=>simp[intOf]<;>omega}
 {first|omega|(simp;omega)}}
 {
 have b4:(I==0)=false:=by simp[bp]
 have ba:=hI (show eO (x0,I,u)=aD I from sg bp);rw[ba.out] at ar;obtain⟨z1,a2⟩:∃z,z=ag (aD I):=⟨_,rfl⟩;have HV:=hI a2;rw[←a2] at a7;clear a2;clear R hd bn a1;go_wp2_with fail
 rw[←av.out];clear av;refine(a7 _).mono ?_;rintro e w4⟨rfl,H⟩;have ad:=zb bq H;have FA:=(bv.below H).f3;have a8:=hI (aa bs H);clear H;have M:=ad;have U:=a8;have bk:=M.size;go_wp2_with(at_builtin;refine fy (l:=aD I) _ rfl _ _ rfl HV rfl (aa U (za _ _)) rfl (heap_alloc_new _ _) (by omega) ?cBb ?_;rotate_left;intro g9 c9 w9 J V _ _)
 {
 have a6:=hI ((M.alloc bk _).grown V (by simp;omega) (λj hj=>(U.lt j hj).1));rw[ar.out] at J;have a':=hI J;clear J V;go_roundw
 case rel=>exact⟨k+1,c9,_,by omega,rfl,by go_num,a',a6⟩
 case measure=>simp[intOf]<;>omega}
 {first|omega|(simp;omega)}}}
 {
 obtain rfl:k=n:=by omega
 have b0:decide ((k:Int)<(k:Int))=false:=by simp
 have R:=hI (show(h.take k).map eO=h.map eO from by rw[qI (by rw[HN.out];exact qA _)]);rw[R.out] at N;have bW:=lx N;have HJ:=hI (yt Y k cc (h.map eO) W (az N) bW (by omega) (by have:=bR.out;have:=HN.out;omega));clear R N;go_wp2_with fail
 refine HJ.mono ?_;rintro e w5⟨rfl,O⟩;have M:=hI (G.trans ((T.trans (O.mono T.size)).mono G.size));clear O;go_wp2_with fail
 go_ret;exact⟨by rw[HF.out];rfl,M⟩})}}
theorem pB (ad:Int)(A:OA)(n c:Nat)(N:List ah)(w:World)(h:Rd w 3 A n (fins N)):Calls prog 170 #[ad,.agg #[.slice A n c]] w λe T=>e=.returned (.string (ag (ew ad N)))∧BL w T:=by{
 have HR:=hI h;have HN:=hI h.len_fin;have hm:=h.le;obtain⟨w1,L,F,H,_⟩:=ae w #[.slice A n c] 157;have M:=hI F;have bv:=hI H;have B:=hI L;have J:w1.cell? ⟨w.heap.size,0,none⟩=some (.slice A n c):=F.cell (i:=0) rfl;have HI:=hI (λT (I:BL w T)=>sv ad A n c N T (h.below I));have bP:e_ ad N=true→n≤16:=λI=>by have hr:=ot I;have h1:=hr.len;have h2:=hr.b2;have h3:=h.len_fin;omega
 have G:e_ ad N=true→∀x∈N,dP x=true:=λI x hx=>by{
 obtain⟨k,hk⟩:=List.mem_iff_getElem?.1 hx;exact((ot I).fin k x hk).2}
 cases I:e_ ad N with
 | false=>{
 have HF:=hI (show ew ad N=[] from by unfold ew;rw[I];rfl);rw[I] at HI;clear h I F H L bP G;go_enter func170,ntmps170;go_wp2_with fail
 rw[←B.out];clear B;refine(HI _ bv).mono ?_;rintro e w2⟨rfl,u⟩;have a6:=zb bv u;clear u J;go_wp2_with fail
 go_ret;exact⟨by rw[HF.out];rfl,a6⟩}
 | true=>{
 have HF:=hI (show ew ad N=bJ (N.map eO) from by unfold ew;rw[I];rfl);have bP:=bP I;have HM:=hI (G I);have cf:=hI (xL (G I));rw[I] at HI;clear h I F H L G;go_enter func170,ntmps170;go_wp2_with fail
 rw[←B.out];clear B;refine(HI _ bv).mono ?_;rintro e w2⟨rfl,u⟩;have a6:=zb bv u;have b3:=hI (M.below u);clear u J M;have J:w2.cell? ⟨w.heap.size,0,none⟩=some (.slice A n c):=b3.cell (i:=0) rfl;have ch:=a6.size;have h:=hI (show bJ ((N.take 0).map eO)=[] from rfl);go_wp2_with fail
 clear J;go_loopw [5,6] (λt i wr=>∃(k:Nat) (L:LB),k≤n∧t=.string (ag L)∧i=.int .i64 k∧Hid (bJ ((N.take k).map eO)=L)∧L.length≤21*k∧Hid (BL w2 wr)) (λ_ i _=>n-(intOf i).toNat)
 case atStart=>exact⟨0,[],qH _,rfl,rfl,h,qH _,hI (qB _ _)⟩
 case round=>(
 clear h;obtain⟨k,L,hk,rfl,rfl,HU,b9,HB⟩:=hrel;obtain⟨wo,b'⟩:∃wo:World,wo=wr:=⟨_,rfl⟩;subst b';have J:wo.cell? ⟨w.heap.size,0,none⟩=some (.slice A n c):=(b3.below HB).cell (i:=0) rfl;by_cases b4:k<n
 {
 have b5:decide ((k:Int)<(n:Int))=true:=by simpa using b4
 obtain⟨b,_,x0,cd,H,rfl,hx,hd,a1,Z,R⟩:=(HR.below (a6.trans (HB.mono a6.size))).fin b4;have bs:=HM _ (qF hx);have a2:=rO bs;simp only at a2;obtain⟨h,rfl⟩:=aC cd a2.1;have bN:h≤9:=by omega
 have ck:h<10:=by omega
 have cl:(ag L).size≤21*k:=by rw[aj];exact b9
 have Y:=hI (show bJ ((N.take (k+1)).map eO)=if (N.take k).map eO=[] then eO (x0,(h:Int),H) else bJ ((N.take k).map eO)++32::eO (x0,(h:Int),H) from by rw[List.take_add_one,hx,Option.toList_some,qf];exact pz _ _);have av:=hI (show((N.take k).map eO).length=k from by rw[qV,qS,HN.out];omega);rcases Nat.eq_zero_or_pos k with bo|bo
 {
 have b6:decide (0<(k:Int))=false:=by simp;omega
 have b7:decide (0<k)=false:=by simp;omega
 obtain rfl:L=[]:=List.eq_nil_of_length_eq_zero (by omega);by_cases ar:h=0
 {
 skip;have bb:=hI (show eO (x0,(h:Int),H)=aD (h:Int)++61::aP H.toNat from uI ar);rw[bb.out] at Y;have V:=hI (show ag []++ag (aD (h:Int))++(⟨#[61]⟩:ByteArray)++ag (aP H.toNat)=ag (aD (h:Int)++61::aP H.toNat) from by show ag []++ag (aD (h:Int))++ag [61]++ag (aP H.toNat)=ag _;simp only[aA];simp);have bk:=hI (show bJ ((N.take (k+1)).map eO)=aD (h:Int)++61::aP H.toNat from by{
 rw[Y.out];rw[if_pos (List.eq_nil_of_length_eq_zero (by rw[av.out];exact bo))]})
 have bp:(aD (h:Int)++61::aP H.toNat).length≤21*(k+1):=by{have h1:=dD (h:Int);have h2:=bd 9 H.toNat (by omega);(try simp only[qJ,qO]);omega}
 have b0:(ag (aD (h:Int))).size≤3:=by rw[aj];exact dD _
 have bR:(ag []++ag (aD (h:Int))).size≤21*k+4:=by rw[ByteArray.size_append];have bt:(ag ([]:LB)).size=0:=rfl;omega
 have HT:=hI (λT=>ov H.toNat (by omega) T);rw[Int.toNat_of_nonneg a2.2.2.1] at HT;have ca:(ag (aP H.toNat)).size≤10:=by rw[aj];exact bd 9 H.toNat (by omega)
 have ba:=hI (λT=>db x0 H (x1:=(h:Int)) (r:=true) (by simp[ar]) T);clear hx hd bs a2 Y av ar bo;have bt:(ag ([]:LB)).size=0:=rfl;have bW:¬(10:Int)≤(h:Int):=by omega
 go_wp2_with fail
 refine zR 12 (λ_=>false) (λw9 I=>zA (ab J I) (ab Z I)) λS G U b1 B wd F u=>?_
 refine zS B G 0 u ?_;go_simp;refine zS B G 2 u ?_;go_simp;refine zS B G 3 u ?_;go_simp;refine zS B G 4 u ?_;go_simp;refine zS B G 5 u ?_;go_simp;refine zS B G 6 u ?_;go_simp;refine zS B G 7 u ?_;go_simp;refine zo B 1 λK' M=>?_
 go_simp;go_at_call 245;refine(jz _).mono ?_;rintro e wq⟨g,rfl,W,bn⟩;have F:=F.trans (bn.mono F.size);have W:=W h bN;refine M _ _ (.inr (U _ F)) ?_;clear M;have u:=U _ F;go_simp;refine zS B G 8 u ?_;go_simp;refine zo B 9 λK' M=>?_
 go_simp;refine M _ _ (.inr u) ?_;clear M;go_simp;refine zV B 10 (.string (ag []++ag (aD (h:Int)))) rfl (by kernel_rfl) (λw1 u=>by obtain⟨u0,u1⟩:=G _ u;go_simp;(try omega)) u ?_;go_simp;refine zS B G 11 u ?_;go_simp;refine zd B ?_;have bO:=hI F;have J:=ab J F;have a1:=ab a1 F;have Z:=ab Z F;have R:=ab R F;have a':=zb HB F;clear F u W B G U;go_wp2_with fail
 refine(ba _).mono ?_;rintro e w6⟨rfl,O⟩;have a7:=zb a' O;have J:=ab J O;have R:=ab R O;clear O;go_wp2_with fail
 refine(HT _).mono ?_;rintro e w7⟨rfl,bq⟩;have a8:=zb a7 bq;clear bq;go_wp2_with fail
 go_roundw
 case rel=>exact⟨k+1,aD (h:Int)++61::aP H.toNat,by omega,by first|exact congrArg Value.string V|(rw[←V.out];rfl)|exact V,by go_num,bk,bp,a8⟩
 case measure=>simp[intOf]<;>omega}
 {
 skip;have bb:=hI (show eO (x0,(h:Int),H)=aD (h:Int) from sg (by omega));rw[bb.out] at Y;have V:=hI (show ag []++ag (aD (h:Int))=ag (aD (h:Int)) from by show ag []++ag (aD (h:Int))=ag _;simp only[aA];simp);have bk:=hI (show bJ ((N.take (k+1)).map eO)=aD (h:Int) from by{
 rw[Y.out];rw[if_pos (List.eq_nil_of_length_eq_zero (by rw[av.out];exact bo))]})
 have bp:(aD (h:Int)).length≤21*(k+1):=by{have h1:=dD (h:Int);(try simp only[qJ,qO]);omega}
 have b0:(ag (aD (h:Int))).size≤3:=by rw[aj];exact dD _
 have bR:(ag []++ag (aD (h:Int))).size≤21*k+4:=by rw[ByteArray.size_append];have bt:(ag ([]:LB)).size=0:=rfl;omega
 have ba:=hI (λT=>db x0 H (x1:=(h:Int)) (r:=false) (by simp;omega) T);clear hx hd bs a2 Y av ar bo;have bt:(ag ([]:LB)).size=0:=rfl;have bW:¬(10:Int)≤(h:Int):=by omega
 go_wp2_with fail
 refine zR 12 (λ_=>false) (λw9 I=>zA (ab J I) (ab Z I)) λS G U b1 B wd F u=>?_
 refine zS B G 0 u ?_;go_simp;refine zS B G 2 u ?_;go_simp;refine zS B G 3 u ?_;go_simp;refine zS B G 4 u ?_;go_simp;refine zS B G 5 u ?_;go_simp;refine zS B G 6 u ?_;go_simp;refine zS B G 7 u ?_;go_simp;refine zo B 1 λK' M=>?_
 go_simp;go_at_call 245;refine(jz _).mono ?_;rintro e wq⟨g,rfl,W,bn⟩;have F:=F.trans (bn.mono F.size);have W:=W h bN;refine M _ _ (.inr (U _ F)) ?_;clear M;have u:=U _ F;go_simp;refine zS B G 8 u ?_;go_simp;refine zo B 9 λK' M=>?_
 go_simp;refine M _ _ (.inr u) ?_;clear M;go_simp;refine zV B 10 (.string (ag []++ag (aD (h:Int)))) rfl (by kernel_rfl) (λw1 u=>by obtain⟨u0,u1⟩:=G _ u;go_simp;(try omega)) u ?_;go_simp;refine zS B G 11 u ?_;go_simp;refine zd B ?_;have bO:=hI F;have J:=ab J F;have a1:=ab a1 F;have Z:=ab Z F;have R:=ab R F;have a':=zb HB F;clear F u W B G U;go_wp2_with fail
 refine(ba _).mono ?_;rintro e w6⟨rfl,O⟩;have a7:=zb a' O;have J:=ab J O;have R:=ab R O;clear O;have a8:=a7;go_wp2_with fail
 go_roundw
 case rel=>exact⟨k+1,aD (h:Int),by omega,by first|exact congrArg Value.string V|(rw[←V.out];rfl)|exact V,by go_num,bk,bp,a8⟩
 case measure=>simp[intOf]<;>omega}}
 {
 have b6:decide (0<(k:Int))=true:=by simp;omega
 have b7:decide (0<k)=true:=by simp;omega
 by_cases ar:h=0
 {
 skip;have bb:=hI (show eO (x0,(h:Int),H)=aD (h:Int)++61::aP H.toNat from uI ar);rw[bb.out] at Y;have V:=hI (show ag L++(⟨#[32]⟩:ByteArray)++ag (aD (h:Int))++(⟨#[61]⟩:ByteArray)++ag (aP H.toNat)=ag (L++32::(aD (h:Int)++61::aP H.toNat)) from by show ag L++ag [32]++ag (aD (h:Int))++ag [61]++ag (aP H.toNat)=ag _;simp only[aA];simp);have bk:=hI (show bJ ((N.take (k+1)).map eO)=L++32::(aD (h:Int)++61::aP H.toNat) from by{
 rw[Y.out];rw[if_neg (λhe=>by have:=av.out;rw[he] at this;simp at this;omega),HU.out]})
 have bp:(L++32::(aD (h:Int)++61::aP H.toNat)).length≤21*(k+1):=by{have h1:=dD (h:Int);have h2:=bd 9 H.toNat (by omega);(try simp only[qJ,qO]);omega}
 have b0:(ag (aD (h:Int))).size≤3:=by rw[aj];exact dD _
 have cb:(⟨#[32]⟩:ByteArray).size=1:=rfl;have cc:(ag L++(⟨#[32]⟩:ByteArray)).size≤21*k+1:=by rw[ByteArray.size_append];omega
 have bR:(ag L++(⟨#[32]⟩:ByteArray)++ag (aD (h:Int))).size≤21*k+4:=by rw[ByteArray.size_append];omega
 have HT:=hI (λT=>ov H.toNat (by omega) T);rw[Int.toNat_of_nonneg a2.2.2.1] at HT;have ca:(ag (aP H.toNat)).size≤10:=by rw[aj];exact bd 9 H.toNat (by omega)
 have ba:=hI (λT=>db x0 H (x1:=(h:Int)) (r:=true) (by simp[ar]) T);clear hx hd bs a2 Y av ar bo;have bt:(ag ([]:LB)).size=0:=rfl;have bW:¬(10:Int)≤(h:Int):=by omega
 go_wp2_with fail
 refine zR 12 (λ_=>false) (λw9 I=>zA (ab J I) (ab Z I)) λS G U b1 B wd F u=>?_
 refine zS B G 0 u ?_;go_simp;refine zS B G 2 u ?_;go_simp;refine zS B G 3 u ?_;go_simp;refine zS B G 4 u ?_;go_simp;refine zS B G 5 u ?_;go_simp;refine zS B G 6 u ?_;go_simp;refine zS B G 7 u ?_;go_simp;refine zo B 1 λK' M=>?_
 go_simp;go_at_call 245;refine(jz _).mono ?_;rintro e wq⟨g,rfl,W,bn⟩;have F:=F.trans (bn.mono F.size);have W:=W h bN;refine M _ _ (.inr (U _ F)) ?_;clear M;have u:=U _ F;go_simp;refine zS B G 8 u ?_;go_simp;refine zo B 9 λK' M=>?_
 go_simp;refine M _ _ (.inr u) ?_;clear M;go_simp;refine zV B 10 (.string (ag L++(⟨#[32]⟩:ByteArray)++ag (aD (h:Int)))) rfl (by kernel_rfl) (λw1 u=>by obtain⟨u0,u1⟩:=G _ u;go_simp;(try omega)) u ?_;go_simp;refine zS B G 11 u ?_;go_simp;refine zd B ?_;have bO:=hI F;have J:=ab J F;have a1:=ab a1 F;have Z:=ab Z F;have R:=ab R F;have a':=zb HB F;clear F u W B G U;go_wp2_with fail
 refine(ba _).mono ?_;rintro e w6⟨rfl,O⟩;have a7:=zb a' O;have J:=ab J O;have R:=ab R O;clear O;go_wp2_with fail
 refine(HT _).mono ?_;rintro e w7⟨rfl,bq⟩;have a8:=zb a7 bq;clear bq;go_wp2_with fail
 go_roundw
 case rel=>exact⟨k+1,L++32::(aD (h:Int)++61::aP H.toNat),by omega,by first|exact congrArg Value.string V|(rw[←V.out];rfl)|exact V,by go_num,bk,bp,a8⟩
 case measure=>simp[intOf]<;>omega}
 {
 skip;have bb:=hI (show eO (x0,(h:Int),H)=aD (h:Int) from sg (by omega));rw[bb.out] at Y;have V:=hI (show ag L++(⟨#[32]⟩:ByteArray)++ag (aD (h:Int))=ag (L++32::(aD (h:Int))) from by show ag L++ag [32]++ag (aD (h:Int))=ag _;simp only[aA];simp);have bk:=hI (show bJ ((N.take (k+1)).map eO)=L++32::(aD (h:Int)) from by{
 rw[Y.out];rw[if_neg (λhe=>by have:=av.out;rw[he] at this;simp at this;omega),HU.out]})
 have bp:(L++32::(aD (h:Int))).length≤21*(k+1):=by{have h1:=dD (h:Int);(try simp only[qJ,qO]);omega}
 have b0:(ag (aD (h:Int))).size≤3:=by rw[aj];exact dD _
 have cb:(⟨#[32]⟩:ByteArray).size=1:=rfl;have cc:(ag L++(⟨#[32]⟩:ByteArray)).size≤21*k+1:=by rw[ByteArray.size_append];omega
 have bR:(ag L++(⟨#[32]⟩:ByteArray)++ag (aD (h:Int))).size≤21*k+4:=by rw[ByteArray.size_append];omega
 have ba:=hI (λT=>db x0 H (x1:=(h:Int)) (r:=false) (by simp;omega) T);clear hx hd bs a2 Y av ar bo;have bt:(ag ([]:LB)).size=0:=rfl;have bW:¬(10:Int)≤(h:Int):=by omega
 go_wp2_with fail
 refine zR 12 (λ_=>false) (λw9 I=>zA (ab J I) (ab Z I)) λS G U b1 B wd F u=>?_
 refine zS B G 0 u ?_;go_simp;refine zS B G 2 u ?_;go_simp;refine zS B G 3 u ?_;go_simp;refine zS B G 4 u ?_;go_simp;refine zS B G 5 u ?_;go_simp;refine zS B G 6 u ?_;go_simp;refine zS B G 7 u ?_;go_simp;refine zo B 1 λK' M=>?_
 go_simp;go_at_call 245;refine(jz _).mono ?_;rintro e wq⟨g,rfl,W,bn⟩;have F:=F.trans (bn.mono F.size);have W:=W h bN;refine M _ _ (.inr (U _ F)) ?_;clear M;have u:=U _ F;go_simp;refine zS B G 8 u ?_;go_simp;refine zo B 9 λK' M=>?_
 go_simp;refine M _ _ (.inr u) ?_;clear M;go_simp;refine zV B 10 (.string (ag L++(⟨#[32]⟩:ByteArray)++ag (aD (h:Int)))) rfl (by kernel_rfl) (λw1 u=>by obtain⟨u0,u1⟩:=G _ u;go_simp;(try omega)) u ?_;go_simp;refine zS B G 11 u ?_;go_simp;refine zd B ?_;have bO:=hI F;have J:=ab J F;have a1:=ab a1 F;have Z:=ab Z F;have R:=ab R F;have a':=zb HB F;clear F u W B G U;go_wp2_with fail
 refine(ba _).mono ?_;rintro e w6⟨rfl,O⟩;have a7:=zb a' O;have J:=ab J O;have R:=ab R O;clear O;have a8:=a7;go_wp2_with fail
 go_roundw
 case rel=>exact⟨k+1,L++32::(aD (h:Int)),by omega,by first|exact congrArg Value.string V|(rw[←V.out];rfl)|exact V,by go_num,bk,bp,a8⟩
 case measure=>simp[intOf]<;>omega}}}
 {
 obtain rfl:k=n:=by omega
 have b5:decide ((k:Int)<(k:Int))=false:=by simp
 have HE:=hI (show L=ew ad N from by rw[HF.out,←HU.out,qI (by rw[HN.out];exact qA _)]);go_wp2_with fail
 go_ret;exact⟨by rw[HE.out];rfl,a6.trans (HB.mono a6.size)⟩})}}
end Go.Proofs.YtnpldahkhaacnaaGreatDoor

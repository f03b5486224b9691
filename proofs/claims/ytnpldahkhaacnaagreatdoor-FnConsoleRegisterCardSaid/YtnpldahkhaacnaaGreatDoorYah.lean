/- Texts of the walk: Qu Qx Rj Ja. -/
import Derived.Test.YtnpldahkhaacnaaGreatDoorYag
set_option linter.unusedVariables false
set_option linter.unusedSimpArgs false
set_option maxRecDepth 100000
set_option maxHeartbeats 32000000
namespace Go.Proofs.YtnpldahkhaacnaaGreatDoor
open Go.RowKit Go.Sort Go.Proofs.Tryz
def eM (h:List LB):Bool:=h.all λw=>(cg w).2
def Is (w:World) (h:List LB) (e:Ending) (u:World):Prop:=∃A n c,e=.returned (.tuple #[.slice A n c,.bool (eM h)])∧(eM h=true→Rd u 1 A n (ints (h.map λw=>(cg w).1)))∧BL w u
theorem qD (A:OA)(n c:Nat)(h:List LB)(w:World)(B:Rd w 1 A n (strs h))(hn:n≤4194304)(u:∀x∈h,x.length≤2097152):Calls prog 113 #[.slice A n c] w (Is w h):=by{
 have HR:=hI B;have a6:=hI B.len_str;have a8:=hI u;have G:=hI (show(h.map λw=>(cg w).1)=[]++((h.drop 0).map λw=>(cg w).1) from by simp);clear B u;go_enter func113,ntmps113;go_wp2_with fail
 have F:=hI (show(w.alloc (.cells #[] 2)).ownsRow w.heap.size 2 1 (.slice (some ⟨w.heap.size,0,none⟩) 0 0) 0 (ints []) from bg w w.heap.size 2 1 (qA _));have u:=hI ((qB w.heap.size w).alloc (qA _) (.cells #[] 2));go_loopw [4,5] (λo i wr=>∃(k T:Nat) (R:OA) (H:LI),k≤n∧o=.slice R k T∧i=.int .i64 k∧Hid (eM h=eM (h.drop k))∧Hid ((h.map λw=>(cg w).1)=H++((h.drop k).map λw=>(cg w).1))∧Hid (wr.ownsRow w.heap.size 2 1 (.slice R k T) k (ints H))∧Hid (BL w wr)) (λ_ i _=>n-(intOf i).toNat)
 case atStart=>exact⟨0,0,_,[],qH _,rfl,rfl,hI (by rw[qd]),G,F,u⟩
 case round=>(
 clear F u G;obtain⟨k,T,R,H,_,rfl,rfl,L,N,M,I⟩:=hrel;obtain⟨Y,bb⟩:∃Y:World,Y=wr:=⟨_,rfl⟩;subst bb;by_cases ar:k<n
 {
 have ba:decide ((k:Int)<(n:Int))=true:=by simpa using ar
 obtain⟨b,_,x,rfl,hx,U,Z⟩:=(HR.below I).str ar;have av:=a8 x (qF hx);have G:=hI (iE (ag x) (by rw[aj];exact av) Y);rw[aw] at G;have u:=hI (show eM h=((cg x).2&&eM (h.drop (k+1))) from by rw[L.out,U];rfl);have O:=hI (show(h.map λw=>(cg w).1)=H++[(cg x).1]++((h.drop (k+1)).map λw=>(cg w).1) from by rw[N.out,U];simp);generalize cg x=r at *;obtain⟨v,ok⟩:=r;simp only at u O;clear hx U av L N
 cases ok with
 | false=>{
 simp only[Bool.false_and] at u;go_wp2_with fail
 refine G.mono ?_;rintro e w1⟨rfl,F⟩;have J:=zb I F;clear F Z G M;simp only;go_wp2_with fail
 go_ret2;exact⟨_,_,_,by rw[u.out];rfl,(λB=>by rw[u.out] at B;cases B),J⟩}
 | true=>{
 simp only[Bool.true_and] at u;go_wp2_with fail
 refine G.mono ?_;rintro e w1⟨rfl,F⟩;have J:=zb I F;have V:=hI (aa M F);have a':=J.size;clear F Z G M;simp only;go_wp2_with(at_builtin;refine ly (y:=v) _ rfl _ _ rfl rfl (aa V (za _ _)) rfl (heap_alloc_new _ _) (by omega) ?cBa ?_;rotate_left;intro g9 c9 w9 a1 W _ _)
 {
 have a2:=hI ((J.alloc a' _).grown W (by simp;omega) (λj hj=>(V.lt j hj).1));have a7:=hI a1;clear a1 W;go_roundw
 case rel=>exact⟨k+1,c9,_,_,by omega,rfl,by go_num,u,O,a7,a2⟩
 case measure=>simp[intOf]<;>omega}
 {first|omega|(simp;omega)}}}
 {
 obtain rfl:k=n:=by omega
 have ba:decide ((k:Int)<(k:Int))=false:=by simp
 have ad:h.drop k=[]:=qK (by have:=a6.out;omega);have V:=L.out;have W:=N.out;rw[ad] at V W;have u:=hI (show eM h=true from V);have O:=hI (show(h.map λw=>(cg w).1)=H from by rw[W];simp);clear V W ad L N;go_wp2_with fail
 go_ret2;exact⟨_,_,_,by rw[u.out];rfl,(λ_=>by rw[O.out];exact az M),I⟩})}
theorem Fb (s:ByteArray)(U:s.size≤2097152)(w:World)(L:ErrV w):Calls prog 98 #[.string s] w λe T=>((∃v,e=.returned (.tuple #[.int .i64 v,.nilIface])∧Lib.atoiAll s.data.toList=.ok v)∨(∃v h,e=.returned (.tuple #[.int .i64 v,.iface (laysC172_ren.t 168) (.pointer (some ⟨h,0,none⟩))])∧∀G,Lib.atoiAll s.data.toList≠.ok G))∧BL w T:=by{
 obtain⟨⟨O,M,I⟩,R,N,J⟩:=L;rcases F:Lib.atoiAll s.data.toList with v|_|_
 {
 refine(Any.strconv_Atoi_ok laysC172 s (by omega) v F w).mono ?_;rintro e H⟨rfl,u⟩;exact⟨.inl ⟨v,rfl,rfl⟩,js _ _ _ u⟩}
 {
 refine(Any.strconv_Atoi_syntax laysC172 s (by omega) F _ w I (.inr ⟨O,M,rfl⟩)).mono ?_;rintro e H⟨h,rfl,_,_,B⟩;exact⟨.inr ⟨_,h,rfl,by intro G u;cases u⟩,B⟩}
 {
 refine(Any.strconv_Atoi_range laysC172 s (by omega) F _ w J (.inr ⟨R,N,rfl⟩)).mono ?_;rintro e H⟨h,rfl,_,_,B⟩;exact⟨.inr ⟨_,h,rfl,by intro G u;cases u⟩,B⟩}}
theorem DK {L:LB}(h:Nat)(B:h≤1000000000)(e:L=aX h):fq (Lib.cut L [58]).1=(((h/60000:Nat):Int),true)∧(Lib.cut L [58]).2.1.length=6∧Lib.atoiAll ((Lib.cut L [58]).2.1.take 2)=.ok ((h/1000%60:Nat):Int)∧Lib.atoiAll ((Lib.cut L [58]).2.1.drop 3)=.ok ((h%1000:Nat):Int):=by{
 rw[e,FO];refine⟨sl (by omega),by simp[bV],?_,?_⟩
 {
 show Lib.atoiAll ((aG 2 (h/1000%60) []++46::aG 3 h []).take 2)=_;rw[l_ (by rw[bV];rfl)];exact Fx _ (by omega)}
 {
 show Lib.atoiAll ((aG 2 (h/1000%60) []++46::aG 3 h []).drop 3)=_;have u:aG 2 (h/1000%60) []++46::aG 3 h []=(aG 2 (h/1000%60) []++[46])++aG 3 h []:=by simp
 rw[u,lu (by simp[bV])];exact AP h}}
theorem IB (h:LB):(Lib.cut h [58]).1.length≤h.length∧(Lib.cut h [58]).2.1.length≤h.length:=by{
 unfold Lib.cut;split
 {
 simp only[qS,qX];omega}
 {simp}}
theorem jV (s:ByteArray)(hs:s.size≤2097152)(w:World)(G:∀B,BL w B→gu B):Calls prog 69 #[.string s] w (It w s.data.toList):=by{
 obtain⟨mx,bs⟩:=(G w (qB _ _)).max;have bt:=Lib.size_eq s;have N:=strings_Cut s ⟨#[58]⟩ mx w (by omega) bs;have I:=λH J e=>DK (L:=s.data.toList) H J e
 have R:=IB s.data.toList;have V:Lib.cut s.data.toList (ByteArray.mk #[58]).data.toList=Lib.cut s.data.toList [58]:=rfl;rw[V] at N;obtain⟨F,L⟩:∃F,F=s.data.toList:=⟨_,rfl⟩;rw[←L] at N I R bt;generalize Lib.cut F [58]=C at *;obtain⟨a7,u,fb⟩:=C;simp only at N I R;replace N:=hI (show Calls prog _ #[.string s,.string ⟨#[58]⟩] w (λe B=>e=.returned (.tuple #[.string (ag a7),.string (ag u),.bool fb])∧∃n,B=w.drewN n) from N);have hM:(ag a7).size≤2097152:=by rw[aj];omega
 have Y:=hI (λB (h:BL w B)=>lB (ag a7) hM B (G B h).pow (G B h).err (λw2 Z=>(G w2 (h.trans (Z.mono h.size))).pow));rw[aw] at Y;have HE:=hI (λ(bb:ByteArray) (M:bb.size≤2097152) B (h:BL w B)=>Fb bb M B (G B h).err);have HT:=hI (λt B (h:BL w B)=>ue t B (λw2 Z=>(G w2 (h.trans (Z.mono h.size))).pow));have U:=hI L;have bn:=hI (show ag F=s from by rw[L,fw]);have W:=hI I;obtain⟨O,T⟩:∃O,O=u.length:=⟨_,rfl⟩;have bo:=hI (show(ag u).size=O from by rw[aj,T]);have ba:=hI T;have bN:=hI (show u.length≤F.length from R.2);have a':=hI (show(ag u).extract 0 2=ag (u.take 2)∨O<2 from by{
 by_cases M:O<2
 {exact .inr M}
 {exact .inl (by rw[bQ _ _ _ (by rw[aj];omega),aw];rfl)}})
 have a8:=hI (show(ag u).extract 3 O=ag (u.drop 3) from by rw[T,bQ _ _ _ (by rw[aj];exact qA _),aw,qI (by rw[qX];exact qA _)]);have b5:O≤2097152:=by omega
 clear G bs bt R V hM L I T;generalize b3:fq a7=nf at *;obtain⟨m,ok⟩:=nf;simp only at Y;have HX:=hI (bc m 0 1000000000)
 cases ok with
 | false=>{
 have G:=hI (show Du F 0 false from iM (by intro H J e;have:=(W H J e).1;injection this with _ Z;cases Z));go_enter func69,ntmps69;go_wp2_with fail
 refine N.mono ?_;rintro e w1⟨rfl,n,rfl⟩;have L:=hI (bx (qB w.heap.size w) n);go_wp2_with fail
 refine(Y _ L).mono ?_;rintro e w2⟨rfl,h⟩;have R:=zb L h;clear h;go_wp2_with fail
 go_ret2;exact⟨0,false,rfl,by rw[←U.out];exact G,R⟩}
 | true=>{
 cases I:af m 0 1000000000 with
 | false=>{
 rw[I] at HX;have G:=hI (show Du F 0 false from iM (by{
 intro H J e;have h1:=(W H J e).1;injection h1 with h1 Z;rw[h1] at I;exact absurd I (by rw[ai.2 ⟨by omega,by omega⟩];simp)}))
 clear I;go_enter func69,ntmps69;go_wp2_with fail
 refine N.mono ?_;rintro e w1⟨rfl,n,rfl⟩;have L:=hI (bx (qB w.heap.size w) n);go_wp2_with fail
 refine(Y _ L).mono ?_;rintro e w2⟨rfl,h⟩;have R:=zb L h;clear h;go_wp2_with fail
 refine(HX _).mono ?_;rintro e w3⟨rfl,rfl⟩;go_wp2_with fail
 go_ret2;exact⟨0,false,rfl,by rw[←U.out];exact G,R⟩}
 | true=>{
 rw[I] at HX;have T:=ai.1 I;clear I;obtain⟨mn,rfl⟩:=aC m T.1;have b2:mn≤1000000000:=by omega
 clear T;by_cases h6:O=6
 {
 subst h6;have bO:=hI (show F≠[] from by intro M;have h1:=bN.out;have Z:=ba.out;rw[M,qT] at h1;omega);have T:(ag u).extract 0 2=ag (u.take 2):=by{
 rcases a'.out with M|M
 {exact M}
 {omega}}
 have bW:=hI T;have I:=hI (HE (ag (u.take 2)) (by rw[aj,qS];omega));have ad:=hI (HE (ag (u.drop 3)) (by rw[aj,qX,←ba.out];omega));rw[aw] at I ad;have b0:(ag u).size=6:=bo.out;clear T HE a';generalize ag u=RS at *;go_enter func69,ntmps69;go_wp2_with fail
 refine N.mono ?_;rintro e w1⟨rfl,n,rfl⟩;have L:=hI (bx (qB w.heap.size w) n);go_wp2_with fail
 refine(Y _ L).mono ?_;rintro e w2⟨rfl,h⟩;have R:=zb L h;clear h;go_wp2_with fail
 refine(HX _).mono ?_;rintro e w3⟨rfl,rfl⟩;go_wp2_with fail
 rw[bW.out];refine(I _ R).mono ?_;rintro e w4⟨a1,h⟩;have ar:=zb R h;clear h I N Y HX;rcases a1 with⟨v1,rfl,av⟩|⟨v1,_,rfl,av⟩
 {
 have bP:=hI av;clear av;go_wp2_with fail
 rw[a8.out];refine(ad _ ar).mono ?_;rintro e w5⟨a1,h⟩;have V:=zb ar h;clear h ad;rcases a1 with⟨v2,rfl,T⟩|⟨v2,N2,rfl,T⟩
 {
 have bR:=hI T;clear T;go_wp2_with fail
 have HE:=hI (show ∀I,I=wrap64 (wrap64 ((mn:Int)*60000+wrap64 (v1*1000))+v2)→∀b,b=decide (dT I=F)→∀t',(b=true→t'=I)→Du F t' b from by{
 intro I hT b h t' bv;refine⟨?_,λM=>by rw[bv M];exact yk bO (by rw[h] at M;simpa using M)⟩;intro H J e;obtain⟨q1,_,q3,q4⟩:=W H J e;injection q1 with q1 _;rw[bP.out] at q3;rw[bR.out] at q4;injection q3 with q3;injection q4 with q4;have e1:wrap64 (v1*1000)=v1*1000:=IntWalk.wrap64_in _ (by omega);have e2:wrap64 ((mn:Int)*60000+v1*1000)=(mn:Int)*60000+v1*1000:=IntWalk.wrap64_in _ (by omega);have bp:I=H:=by{
 rw[hT,e1,e2,IntWalk.wrap64_in _ (by omega)];omega}
 have b1:dT I=F:=by{
 rw[bp,e];unfold dT;rw[if_pos (ai.2 (by omega))];rfl}
 have bq:b=true:=by rw[h,b1];simp
 exact⟨(bv bq).trans bp,bq⟩})
 have a6:=hI (HE _ rfl);clear HE;generalize wrap64 (wrap64 ((mn:Int)*60000+wrap64 (v1*1000))+v2)=I at *;refine(HT _ _ V).mono ?_;rintro e w6⟨rfl,h⟩;have bk:=zb V h;clear h HT W V ar R L;by_cases hq:dT I=F
 {
 have G:=hI (a6 true (by rw[hq];simp) I (λ_=>rfl));have a2:ag (dT I)=s:=by rw[hq,bn.out]
 rw[a2];clear hq a2 a6;go_wp2_with fail
 go_ret2;exact⟨I,true,rfl,by rw[←U.out];exact G,bk⟩}
 {
 have G:=hI (a6 false (by simp[hq]) 0 (λM=>by cases M));have a2:ag (dT I)≠s:=λe=>hq (rR (e.trans bn.symm))
 have b4:=kt a2;generalize ag (dT I)=bb at *;clear hq a2 a6;go_wp2_with fail
 go_ret2;exact⟨0,false,rfl,by rw[←U.out];exact G,bk⟩}}
 {
 have G:=hI (show Du F 0 false from iM (by intro H J e;exact absurd (W H J e).2.2.2 (T _)));clear T;go_wp2_with fail
 go_ret2;exact⟨0,false,rfl,by rw[←U.out];exact G,V⟩}}
 {
 have G:=hI (show Du F 0 false from iM (by intro H J e;exact absurd (W H J e).2.2.1 (av _)));clear av;go_wp2_with fail
 rw[a8.out];refine(ad _ ar).mono ?_;rintro e w5⟨a1,h⟩;have V:=zb ar h;clear h ad;rcases a1 with⟨v2,rfl,T⟩|⟨v2,N2,rfl,T⟩
 {
 clear T;go_wp2_with fail
 go_ret2;exact⟨0,false,rfl,by rw[←U.out];exact G,V⟩}
 {
 clear T;go_wp2_with fail
 go_ret2;exact⟨0,false,rfl,by rw[←U.out];exact G,V⟩}}}
 {
 have G:=hI (show Du F 0 false from iM (by{
 intro H J e;have h1:=(W H J e).2.1;have:=ba.out;omega}))
 have I:((O:Int) !=6)=true:=by simp;omega
 have b0:(ag u).size=O:=bo.out;clear a' a8;generalize ag u=RS at *;go_enter func69,ntmps69;go_wp2_with fail
 refine N.mono ?_;rintro e w1⟨rfl,n,rfl⟩;have L:=hI (bx (qB w.heap.size w) n);go_wp2_with fail
 refine(Y _ L).mono ?_;rintro e w2⟨rfl,h⟩;have R:=zb L h;clear h;go_wp2_with fail
 refine(HX _).mono ?_;rintro e w3⟨rfl,rfl⟩;go_wp2_with fail
 go_ret2;exact⟨0,false,rfl,by rw[←U.out];exact G,R⟩}}}}
theorem Hn (m n:Nat):(((m:Int))==(n:Int))=decide (m=n):=by{rw[Bool.eq_iff_iff];simp;omega}
theorem Be (A:OA)(n c:Nat)(w:World):Calls prog 56 #[.slice A n c] w λe h=>e=.returned (.func (.func 88) #[] #[.pointer (some ⟨w.heap.size,0,none⟩)])∧h=w.alloc (.cells #[.slice A n c] 30):=callsIn_wide.1 (Eq Fence.wide 9 trivial rfl A n c w)
theorem cJ (b s:Int)(A:OA)(n c:Nat)(B:List EntryT)(w:World)(hr:bA w A n c B):Calls prog 26 #[.agg #[b,s,.slice A n c]] w λe h=>e=.returned (.bool (dC b s B))∧BL w h:=by{
 obtain⟨L,_⟩:=hr;have HN:=hI L.len_ent;obtain⟨M,J,u,F,_⟩:=ae w #[b,s,.slice A n c] 32;have I:=hI F;have ad:=hI u;have a6:=hI (λh (hb:BL w h)=>L.below hb);have hn:=L.le;have ER:=hI (show dC b s B=(af b 1 16&&af s 0 1&&decide (B.length≤400)&&gP b [] B) from rfl);clear L F u;have F:=ad.f3
 cases u:af b 1 16 with
 | false=>{
 have H:=hI (λw=>ct u w);have G:=H;have e1:=hI u;clear u;go_enter func26,ntmps26;go_wp2_with(first|(go_at_call 30;(with_reducible refine(H.out _).mono ?_);rintro e h⟨rfl,rfl⟩)|(go_at_call 52;(with_reducible refine(G.out _).mono ?_);rintro e h⟨rfl,rfl⟩))
 rw[←J];go_wp2_with(first|(go_at_call 30;(with_reducible refine(H.out _).mono ?_);rintro e h⟨rfl,rfl⟩)|(go_at_call 52;(with_reducible refine(G.out _).mono ?_);rintro e h⟨rfl,rfl⟩))
 go_ret;exact⟨ak (by rw[ER.out,e1.out];rfl),I⟩}
 | true=>{
 have H:=hI (λw=>ct u w);have e1:=hI u;have W:=ai.1 u;clear u
 cases u:af s 0 1 with
 | false=>{
 have G:=hI (λw=>nZ u w);have e2:=hI u;clear u;go_enter func26,ntmps26;go_wp2_with(first|(go_at_call 30;(with_reducible refine(H.out _).mono ?_);rintro e h⟨rfl,rfl⟩)|(go_at_call 52;(with_reducible refine(G.out _).mono ?_);rintro e h⟨rfl,rfl⟩))
 rw[←J];go_wp2_with(first|(go_at_call 30;(with_reducible refine(H.out _).mono ?_);rintro e h⟨rfl,rfl⟩)|(go_at_call 52;(with_reducible refine(G.out _).mono ?_);rintro e h⟨rfl,rfl⟩))
 go_ret;exact⟨ak (by rw[ER.out,e1.out,e2.out];rfl),I⟩}
 | true=>{
 have G:=hI (λw=>nZ u w);have e2:=hI u;clear u;by_cases h3:n≤400
 rotate_left
 {
 have e3:=hI (show decide (B.length≤400)=false from decide_eq_false (by rw[HN.out];exact h3));go_enter func26,ntmps26;go_wp2_with(first|(go_at_call 30;(with_reducible refine(H.out _).mono ?_);rintro e h⟨rfl,rfl⟩)|(go_at_call 52;(with_reducible refine(G.out _).mono ?_);rintro e h⟨rfl,rfl⟩))
 rw[←J];go_wp2_with(first|(go_at_call 30;(with_reducible refine(H.out _).mono ?_);rintro e h⟨rfl,rfl⟩)|(go_at_call 52;(with_reducible refine(G.out _).mono ?_);rintro e h⟨rfl,rfl⟩))
 go_ret;exact⟨ak (by rw[ER.out,e1.out,e2.out,e3.out];rfl),I⟩}
 have e3:=hI (show decide (B.length≤400)=true from decide_eq_true (by rw[HN.out];exact h3));go_enter func26,ntmps26;go_wp2_with(first|(go_at_call 30;(with_reducible refine(H.out _).mono ?_);rintro e h⟨rfl,rfl⟩)|(go_at_call 52;(with_reducible refine(G.out _).mono ?_);rintro e h⟨rfl,rfl⟩))
 rw[←J];clear J;go_wp2_with(first|(go_at_call 30;(with_reducible refine(H.out _).mono ?_);rintro e h⟨rfl,rfl⟩)|(go_at_call 52;(with_reducible refine(G.out _).mono ?_);rintro e h⟨rfl,rfl⟩))
 go_loopw [25] (λi wr=>∃k:Nat,k≤n∧i=.int .i64 k∧Hid (rJ b (B.drop k)=rJ b B)∧Hid (aO wr w.heap.size #[b,s,.slice A n c] 32)∧Hid (BL w wr)) (λi _=>n-(intOf i).toNat)
 case atStart=>exact⟨0,qH _,rfl,hI rfl,ad,I⟩
 case round=>(
 clear ad I F;obtain⟨k,_,rfl,HR,HX,HB⟩:=hrel;obtain⟨Y,b6⟩:∃Y:World,Y=wr:=⟨_,rfl⟩;subst b6;have F:=HX.f3;by_cases b3:k<n
 {
 obtain⟨_,_,N,O,I,R,T,U,V,rfl,J,u,a8,a',ba,bb,bk,bn,bo⟩:=(a6 _ HB).ent b3;have HD:=hI u;clear J u;obtain⟨_,a1,J,u,_⟩:=ae Y #[N,O,I,R,T,U,V] 25;have Z:=zb HB u;have ar:=hI (HX.below u);have av:=hI J;clear u J
 cases J:fT b (N,O,I,R,T,U,V) with
 | false=>{
 have HE:=hI (λw=>ib W.1 W.2 J w);have HV:=hI (λw=>lM I w);have eE:=hI (show(fT b (N,O,I,R,T,U,V)&&im (E.rev (N,O,I,R,T,U,V)))=false from by rw[J];rfl);clear J;go_wp2_with fail
 rw[←a1];clear a1;refine(HE _).mono ?_;rintro e w2⟨rfl,u⟩;have a2:=zb Z u;have a7:=hI (ar.below u);have F1:=(av.below u).f7;clear u av ar Z F a8 a' ba bb bk bn bo;go_wp2_with(go_at_call 54;(with_reducible refine(HV.out _).mono ?_);rintro e h⟨rfl,rfl⟩)
 go_ret;exact⟨ak (by rw[pc (show rJ b B=false from by rw[←HR.out,HD.out,pA,eE.out];rfl)]),a2⟩}
 | true=>{
 cases hv:im I with
 | false=>{
 have HE:=hI (λw=>ib W.1 W.2 J w);have HV:=hI (λw=>gk hv w);have eE:=hI (show(fT b (N,O,I,R,T,U,V)&&im (E.rev (N,O,I,R,T,U,V)))=false from by rw[J];exact hv);clear J hv;go_wp2_with fail
 rw[←a1];clear a1;refine(HE _).mono ?_;rintro e w2⟨rfl,u⟩;have a2:=zb Z u;have a7:=hI (ar.below u);have F1:=(av.below u).f7;clear u av ar Z F a8 a' ba bb bk bn bo;go_wp2_with(go_at_call 54;(with_reducible refine(HV.out _).mono ?_);rintro e h⟨rfl,rfl⟩)
 go_ret;exact⟨ak (by rw[pc (show rJ b B=false from by rw[←HR.out,HD.out,pA,eE.out];rfl)]),a2⟩}
 | true=>{
 have HE:=hI (λw=>ib W.1 W.2 J w);have HV:=hI (λw=>gk hv w);have eE:=hI (show(fT b (N,O,I,R,T,U,V)&&im (E.rev (N,O,I,R,T,U,V)))=true from by rw[J];exact hv);clear J hv;go_wp2_with fail
 rw[←a1];clear a1;refine(HE _).mono ?_;rintro e w2⟨rfl,u⟩;have a2:=zb Z u;have a7:=hI (ar.below u);have F1:=(av.below u).f7;clear u av ar Z F a8 a' ba bb bk bn bo;go_wp2_with(go_at_call 54;(with_reducible refine(HV.out _).mono ?_);rintro e h⟨rfl,rfl⟩)
 go_roundw
 case rel=>exact⟨k+1,by omega,by go_num,hI (by rw[←HR.out,HD.out,pA,eE.out,Bool.true_and]),a7,a2⟩
 case measure=>simp[intOf]<;>omega}}}
 {
 obtain rfl:k=n:=by omega
 have I:rJ b B=true:=by rw[←HR.out,qK (by rw[HN.out];exact qA _)];rfl
 have bt:=hI I;have N:=hI (λ(J:World) (u:Nat) (O:J.cell? ⟨u,0,none⟩=some (.slice A k c)) (hr:Rd J 7 A k (ents B))=>tm A k c B (Ce W.2 I) (by omega) u J O hr);have R:=a6 _ HB;obtain⟨J,T,O,u,b5⟩:=ae Y #[.slice A k c] 30;have b0:=hI T;have bO:=zb HB u;have Z:=hI (N J Y.heap.size O.c1 (R.below u));have ad:=hI (HX.below u);have U:=hI (show Y.heap.size<J.heap.size by omega);have V:=hI (show w.heap.size<Y.heap.size from HX.lt);have F:=HX.f3;clear I N R O u b5 T HX a6;go_wp2_with(go_at_call 56;(with_reducible refine(Be _ _ _ _).mono ?_);rintro e u⟨rfl,rfl⟩)
 rw[←b0.out];refine Z.mono ?_;rintro e N⟨A4,I,c4,ys,rfl,R,hs,O,u⟩;clear F;have bs:=aN bw (by decide) O;have b4:I=k:=by rw[←bs,R.length_eq,HN.out]
 subst b4;have bR:=hI (Gx (s:=s) (ys:=ys) e1 e2 (of_decide_eq_true e3) bt R hs);have F:=(ad.below u).f3;have T:=zb bO u;have bP:=hI (λh (hb:BL N h)=>xU _ A4 I c4 ys (by omega) h (qM u.size hb.size) (aa O hb));clear R hs O u bs ad Z;obtain⟨S,u,O⟩:∃S:World→Prop,(∀M,S M→M.cell? ⟨w.heap.size,2,none⟩=some (.slice A I c))∧(∀M,M.cell? ⟨w.heap.size,2,none⟩=some (.slice A I c)→S M):=⟨λM=>M.cell? ⟨w.heap.size,2,none⟩=some (.slice A I c),λ_ L=>L,λ_ L=>L⟩;have bW:=hI u;have bp:=hI O;clear u O;go_wp2_with fail
 refine bz (n:=8) S (λ_=>false) (by kernel_rfl) rfl ?_;intro b7 u;have O:=bp _ (((ac _ N 1).cell (p:=⟨w.heap.size,2,none⟩) (au F.2.2.1)).trans F.2.2.1);refine zN u 0 O ?_;go_simp;refine zN u 3 O ?_;go_simp;refine zS u bW 4 O ?_;go_simp;refine zN u 5 O ?_;go_simp;refine zo u 1 λK' Z=>?_
 go_simp;go_at_call 58;refine(bP _ (ac _ N 1)).mono ?_;rintro e w5⟨_,m5,_,rfl,b2,bq⟩;have bv:=hI (T.trans ((ac _ N 1).mono T.size));have bN:=hI (bv.trans (bq.mono (by have:=U.out;have:=V.out;omega)));have R:=bp _ (((bq.cell (p:=⟨w.heap.size,2,none⟩) (show w.heap.size<_ by exact Nat.lt_trans V U)).trans (((ac _ N 1).cell (p:=⟨w.heap.size,2,none⟩) (au F.2.2.1)).trans F.2.2.1)));refine Z _ _ (.inr R) ?_;clear Z;go_simp;refine zN u 2 R ?_;go_simp;refine zN u 6 R ?_;go_simp;refine zN u 7 R ?_;go_simp;refine zd u ?_;go_wp2_with fail
 go_ret;exact⟨ak (by rw[bR.out,←b2];exact Hn m5 I),bN⟩})}}}
theorem Ff (w:World)(o:Obj)(vs:Array Value)(t:TypeId):aO ((w.alloc o).alloc (.cells vs t)) (w.heap.size+1) vs t:=by{
 have:=aO.new (w.alloc o) vs t;rwa [World.size_alloc] at this}
theorem cG (w:World)(base e s:Nat)(h:base≤w.heap.size):(w.alloc (.cells #[] e)).ownsRow base e s (.slice (some ⟨w.heap.size,0,none⟩) 0 0) 0 []:=by{
 have:=World.ownsRow_lit (base:=base) (e:=e) (size:=s) w #[] 0 h (by unfold maxLen;omega) (by simp);simpa using this}
theorem yR (F:List EntryT):∀B∈ents F,B.oneCell'=true:=by{
 intro B u;unfold ents at u;obtain⟨y,_,h⟩:=List.mem_flatMap.1 u;unfold po at h;simp only[List.mem_cons,List.not_mem_nil,or_false] at h;rcases h with rfl|rfl|rfl|rfl|rfl|rfl|rfl<;>rfl}
theorem uX {w:World}{b o m:Nat}{F:List EntryT}(u:Rd w 7 (some ⟨b,o,none⟩) m (ents F)):∀(j:Nat) (h:Value),(ents F)[j]?=some h→w.cell? ((⟨b,o,none⟩:Addr).add j)=some h:=by{
 intro j h B;have M:=u.len;have L:=(List.getElem?_eq_some_iff.1 B).1;obtain⟨_,_,e,J⟩:=u.pos (by omega);injection e with e;injection e with G H;subst G H;have I:(⟨b,o,none⟩:Addr).add j=⟨b,o+j,none⟩:=by unfold Addr.add;split<;>simp_all
 rw[I];exact J j h B}
section
variable {ops : Array Oper} {rest : List Oper} {o : Oper} {a : Act} {K : Act → World → Prop} {Q : Exit → Act → World → Prop} {E : Prop}
theorem g_ (w:World)(O:o.guard=none)(s x:Operand)(U:o.op=.call { callee:=.builtin .append,args:=#[s,x],argTypes:=#[30,30] }){base n c g:Nat}{xs:List EntryT}(W:a.eval s=.slice (some ⟨g,0,none⟩) n c)(V:w.ownsRow base 25 7 (.slice (some ⟨g,0,none⟩) n c) n (ents xs)){b f m d:Nat}{h:List EntryT}(Z:a.eval x=.slice (some ⟨b,f,none⟩) m d)(H:Rd w 7 (some ⟨b,f,none⟩) m (ents h))(hn:n+m≤1048576)(N:base≤w.heap.size)(I:∀B u w',w'.ownsRow base 25 7 (.slice (some ⟨B,0,none⟩) (n+m) u) (n+m) (ents (xs++h))→w.grownBy w' (some g)→wpList prog ops Q rest (a.put o.dst (.slice (some ⟨B,0,none⟩) (n+m) u)) w'):wpList prog ops Q (o::rest) a w:=by{
 obtain⟨i,R,hz,Y,M⟩:=info_parts iT;have T:(ents h).length=m*7:=H.len;refine wpList_append_own_at w O s x 30 U base 25 i (.agg #[(0:Int),(0:Int),(0:Int),(0:Int),(0:Int),(0:Int),(0:Int)]) 7 56 underlying30 R hz Y M rfl (by decide) (.slice (some ⟨g,0,none⟩) n c) n (ents xs) W V ⟨b,f,none⟩ m d (ents h) Z T (uX H) (yR h) (by unfold maxLen;omega) (by omega) N ?_;intro v' w' F J L h4;have e:ents xs++ents h=ents (xs++h):=by unfold ents;rw[List.flatMap_append]
 rw[e] at F;rcases F.2 with⟨G,_⟩|⟨B,u,_,G,_⟩
 {
 have:=(L.1 G).1;injection this with this
 cases this}
 {
 subst G;exact I B u w' F J}}
end
theorem k_ (b s race boat:Int)(A:OA)(n c:Nat)(h:List EntryT)(w:World)(hr:bA w A n c h)(bq:n≤400)(I:∀x∈h,rL x)(H:h.Pairwise λx y=>bK x y=false):Calls prog 125 #[.agg #[b,s,.slice A n c],race,boat] w (kc w (ex h race boat)):=by{
 obtain⟨B,_⟩:=hr;have HN:=hI B.len_ent;obtain⟨u,J,G,F,bk⟩:=ae w #[b,s,.slice A n c] 32;have ad:=hI F;have ar:=hI G;have a':=hI (λw' (L:BL u w')=>(B.below F).below L);have a7:=hI I;have a6:=hI H;clear B F G I H;have F:(u.alloc (.cells #[] 25)).ownsRow u.heap.size 25 7 (.slice (some ⟨u.heap.size,0,none⟩) 0 0) 0 (ents (dS race boat (h.take 0))):=cG u u.heap.size 25 7 (qA _);have B:BL u (u.alloc (.cells #[] 25)):=(qB _ _).alloc (qA _) _;go_enter func125,ntmps125;have F0:=ar.f3;go_wp2_with fail
 rw[←J];clear J;go_wp2_with fail
 go_loopw [7,14] (λs i wr=>∃(k m M:Nat) (L:OA),k≤n∧m≤k∧i=.int .i64 k∧s=.slice L m M∧Hid (wr.ownsRow u.heap.size 25 7 (.slice L m M) m (ents (dS race boat (h.take k))))∧Hid (BL u wr)) (λ_ i _=>n-(intOf i).toNat)
 case atStart=>exact⟨0,0,_,_,qH _,qH _,rfl,rfl,hI (by simpa only[bk] using F),hI B⟩
 case round=>(
 clear F B F0;obtain⟨k,m,M,L,R,_,rfl,rfl,H,G⟩:=hrel;obtain⟨wo,bo⟩:∃wo:World,wo=wr:=⟨_,rfl⟩;subst bo;have F0:=(ar.below G).f3;have T:=G.size;by_cases bb:k<n
 {
 obtain⟨_,_,B,F,V,W,Y,Z,y6,rfl,U,I,_,_,_,_,_,_,_⟩:=(a' _ G).ent bb;have HT:=hI (show dS race boat (h.take (k+1))=dS race boat (h.take k)++(if (B==race&&F==boat)=true then [(B,F,V,W,Y,Z,y6)] else []) from by rw[gH U];exact kT race boat (h.take k) (B,F,V,W,Y,Z,y6));clear U I;by_cases J:B=race
 {
 have O:(B==race)=true:=by simp[J]
 by_cases N:F=boat
 {
 have h1:(F==boat)=true:=by simp[N]
 have I:=hI (show dS race boat (h.take (k+1))=dS race boat (h.take k)++[(B,F,V,W,Y,Z,y6)] from by rw[HT.out,O,h1];simp);clear J N;go_wp2_with(at_builtin;refine kM (x0:=B) (x1:=F) (x2:=V) (x3:=W) (x4:=Y) (x5:=Z) (x6:=y6) _ rfl _ _ rfl rfl (aa (aa H (za _ _)) (za _ _)) rfl ?cC (by omega) ?cB ?_;rotate_left 2;intro g1 c1 wn a1 av ba bp)
 {
 have a8:=hI a1;have a2:=hI (show BL u wn from((G.alloc T _).alloc (by simp;omega) _).grown av (by simp;omega) (λk R=>(H.lt k R).1));clear a1 av ba;go_roundw
 case rel=>exact⟨k+1,m+1,_,_,by omega,by omega,by go_num,rfl,hI (by rw[I.out];exact a8),a2⟩
 case measure=>simp[intOf]<;>omega}
 {exact Ff _ _ _ _}
 {simp;omega}}
 {
 have h1:(F==boat)=false:=by simp[N]
 clear J N;have I:=hI (show dS race boat (h.take (k+1))=dS race boat (h.take k) from by rw[HT.out,O,h1];simp);go_wp2_with fail
 go_roundw
 case rel=>exact⟨k+1,m,_,_,by omega,by omega,by go_num,rfl,hI (by rw[I.out];exact aa H (za _ _)),hI (G.alloc T _)⟩
 case measure=>simp[intOf]<;>omega}}
 {
 have O:(B==race)=false:=by simp[J]
 clear J;have I:=hI (show dS race boat (h.take (k+1))=dS race boat (h.take k) from by rw[HT.out,O];simp);go_wp2_with fail
 go_roundw
 case rel=>exact⟨k+1,m,_,_,by omega,by omega,by go_num,rfl,hI (by rw[I.out];exact aa H (za _ _)),hI (G.alloc T _)⟩
 case measure=>simp[intOf]<;>omega}}
 {
 obtain rfl:k=n:=by omega
 have F:h.take k=h:=qI (by rw[HN.out];exact qA _);rw[F] at H;have B:=hI (nY _ L m M (dS race boat h) (λx U=>a7 x (fN.1 U).1) (by omega) wo H);clear F;go_wp2_with fail
 refine B.mono ?_;rintro e Z⟨rfl,Y,J,N,I,F⟩;have W:Y=ex h race boat:=Em a6 J N;subst W;have V:=hI I;have O:=hI (G.grown F T (λk R=>(H.lt k R).1));clear J N I F B F0;go_wp2_with fail
 go_ret;exact⟨_,_,_,rfl,an V ad.size,by omega,ad.trans (O.mono ad.size)⟩})}
def c_ (b s:Int) (h:List EntryT) (race boat:Int):Int:=if dC b s h=true then(if (af race 0 11&&af boat 0 (b-1))=true then 0 else 2) else 1
def ep (b s:Int) (h:List EntryT) (race boat:Int):List EntryT:=if c_ b s h race boat=0 then ex h race boat else []
def rN (w:World) (l:List EntryT) (code:Int) (e:Ending) (w':World):Prop:=∃A n c,e=.returned (.tuple #[.slice A n c,code])∧w'.ownsRow w.heap.size 25 7 (.slice A n c) n (ents l)∧n≤1048576∧BL w w'
theorem o_ (b s race boat:Int)(A:OA)(n c:Nat)(B:List EntryT)(w:World)(h:bA w A n c B):Calls prog 153 #[.agg #[b,s,.slice A n c],race,boat] w (rN w (ep b s B race boat) (c_ b s B race boat)):=by{
 have O:=hI (λw' (V:BL w w')=>cJ b s A n c B w' (h.below V));have Y:=hI h.1.len_ent;have Z:=hI h;obtain⟨_,N,u,G,_⟩:=ae w #[b,s,.slice A n c] 32;have F:=hI G;have J:=hI u;clear G u h;have R:=J.f3
 cases u:dC b s B with
 | false=>{
 rw[u] at O;have H:ep b s B race boat=[]:=by unfold ep c_;rw[u];rfl
 have G:c_ b s B race boat=1:=by unfold c_;rw[u];rfl
 rw[H,G];clear H G u;go_enter func153,ntmps153;go_wp2_with fail
 rw[←N];clear N;refine(O _ F).mono ?_;rintro e w2⟨rfl,h⟩;have I:=zb F h;have R:=(J.below h).f3;clear h J F;go_wp2_with fail
 go_ret2;exact⟨none,0,0,rfl,World.ownsRow_nil _ _ _ _,by omega,I⟩}
 | true=>{
 rw[u] at O;have L:=fA u;have ad:1≤b∧b≤16:=⟨L.b1,L.b2⟩
 cases ha:af race 0 11 with
 | false=>{
 have T:=hI (λw=>ct ha w);have U:=T;have H:ep b s B race boat=[]:=by unfold ep c_;rw[u,ha];rfl
 have G:c_ b s B race boat=2:=by unfold c_;rw[u,ha];rfl
 rw[H,G];clear H G u ha L;go_enter func153,ntmps153;go_wp2_with fail
 rw[←N];clear N;refine(O _ F).mono ?_;rintro e w2⟨rfl,h⟩;have I:=zb F h;have R:=(J.below h).f3;clear h J F;go_wp2_with(first|(go_at_call 30;(with_reducible refine(T.out _).mono ?_);rintro e w'⟨rfl,rfl⟩)|(go_at_call 30;(with_reducible refine(U.out _).mono ?_);rintro e w'⟨rfl,rfl⟩))
 go_ret2;exact⟨none,0,0,rfl,World.ownsRow_nil _ _ _ _,by omega,I⟩}
 | true=>{
 have T:=hI (λw=>ct ha w)
 cases M:af boat 0 (b-1) with
 | false=>{
 have U:=hI (λw=>ct M w);have H:ep b s B race boat=[]:=by unfold ep c_;rw[u,ha,M];rfl
 have G:c_ b s B race boat=2:=by unfold c_;rw[u,ha,M];rfl
 rw[H,G];clear H G u ha M L;go_enter func153,ntmps153;go_wp2_with fail
 rw[←N];clear N;refine(O _ F).mono ?_;rintro e w2⟨rfl,h⟩;have I:=zb F h;have R:=(J.below h).f3;clear h J F;go_wp2_with(first|(go_at_call 30;(with_reducible refine(T.out _).mono ?_);rintro e w'⟨rfl,rfl⟩)|(go_at_call 30;(with_reducible refine(U.out _).mono ?_);rintro e w'⟨rfl,rfl⟩))
 go_ret2;exact⟨none,0,0,rfl,World.ownsRow_nil _ _ _ _,by omega,I⟩}
 | true=>{
 have U:=hI (λw=>ct M w);have H:ep b s B race boat=ex B race boat:=by unfold ep c_;rw[u,ha,M];rfl
 have G:c_ b s B race boat=0:=by unfold c_;rw[u,ha,M];rfl
 rw[H,G];have W:=hI (λw' (V:BL w w')=>k_ b s race boat A n c B w' (Z.below V) (by have:=L.len;rw[Y.out] at this;exact this) L.okE L.key);clear H G u ha M L;go_enter func153,ntmps153;go_wp2_with fail
 rw[←N];clear N;refine(O _ F).mono ?_;rintro e w2⟨rfl,h⟩;have I:=zb F h;have R:=(J.below h).f3;clear h J F;go_wp2_with(first|(go_at_call 30;(with_reducible refine(T.out _).mono ?_);rintro e w'⟨rfl,rfl⟩)|(go_at_call 30;(with_reducible refine(U.out _).mono ?_);rintro e w'⟨rfl,rfl⟩))
 refine(W _ I).mono ?_;rintro e L⟨_,_,_,rfl,u,J,h⟩;have G:=hI u;have F:=zb I h;have H:=hI I.size;clear u h R;go_wp2_with fail
 go_ret2;exact⟨_,_,_,rfl,an G H,J,F⟩}}}}
end Go.Proofs.YtnpldahkhaacnaaGreatDoor

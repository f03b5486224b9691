/- Texts of the walk: Nu Nv. -/
import Derived.Test.YtnpldahkhaacnaaGreatDoorYbf
set_option linter.unusedVariables false
set_option linter.unusedSimpArgs false
set_option maxRecDepth 100000
set_option maxHeartbeats 32000000
namespace Go.Proofs.YtnpldahkhaacnaaGreatDoor
open Go.RowKit Go.Sort Go.Proofs.Tryz
def eN (w:World) (r:Option (List du)) (e:Ending) (h:World):Prop:=∃A n c,e=.returned (.tuple #[.slice A n c,.bool r.isSome])∧(∀l,r=some l→Rd h 2 A n (winds l))∧BL w h
theorem eN.no {w B:World}{r:Option (List du)}(h:r=none)(F:BL w B):eN w r (.returned (.tuple #[.slice none 0 0,.bool false])) B:=⟨none,0,0,by rw[h];rfl,(λl u=>by rw[h] at u;cases u),F⟩
theorem eN.yes {w u:World}{r:Option (List du)}{l:List du}{A:OA}{n c:Nat}(B:r=some l)(G:Rd u 2 A n (winds l))(F:BL w u):eN w r (.returned (.tuple #[.slice A n c,.bool true])) u:=⟨A,n,c,by rw[B];rfl,(λH h=>by rw[B] at h;injection h with h;subst h;exact G),F⟩
theorem Ic (d:UInt8)(x:LB):(Lib.cut x [d]).1.length≤x.length∧(Lib.cut x [d]).2.1.length≤x.length:=by{
 rcases pv d x with h|⟨a,b,rfl,ha⟩
 {rw[vo h];exact⟨qA _,qH _⟩}
 {
 rw[wu b ha];simp only[qJ,qO];omega}}
theorem IL (x:LB)(I:x.length≤2097152)(w:World)(F:MaxL w):Calls prog 96 #[.string (ag x),.string ⟨#[64]⟩] w λe u=>e=.returned (.tuple #[.string (ag (Lib.cut x [64]).1),.string (ag (Lib.cut x [64]).2.1),.bool (Lib.cut x [64]).2.2])∧BL w u:=by{
 obtain⟨H,G⟩:=F;have h:=strings_Cut (ag x) ⟨#[64]⟩ H w (by rw[aj];omega) G;have B:Lib.cut (ag x).data.toList (ByteArray.mk #[64]).data.toList=Lib.cut x [64]:=by rw[aw]
 rw[B] at h;refine h.mono ?_;rintro e u⟨rfl,n,rfl⟩;exact⟨rfl,ac _ _ _⟩}
theorem EY {k:Int}{h:LB}(u:cU k=h):((ag (cU k)).toList==(ag h).toList)=true:=by rw[u];simp
theorem Ir {k:Int}{h:LB}(u:cU k≠h):((ag (cU k)).toList==(ag h).toList)=false:=by{
 rw[beq_eq_false_iff_ne,ByteArray.toList_eq,ByteArray.toList_eq,aw,aw];exact u}
theorem CS {x:LB}(h:(fq (Lib.cut x [64]).2.1).2=false∨eu (Lib.cut x [64]).1=none):jf x=none:=by{
 unfold jf;rcases h with h|h
 {
 rw[h]
 cases eu (Lib.cut x [64]).1<;>rfl}
 {rw[h]}}
theorem CP {x:LB}{k:Int}(u:eu (Lib.cut x [64]).1=some k)(h:(fq (Lib.cut x [64]).2.1).2=true):jf x=some (k,(fq (Lib.cut x [64]).2.1).1):=by{
 unfold jf;rw[u];exact if_pos h}
theorem Rd.far {w F:World}{B:Option Nat}{s n b o:Nat}{G:List Value}(h:Rd w s (some ⟨b,o,none⟩) n G)(M:w.grownBy F B)(N:some b≠B):Rd F s (some ⟨b,o,none⟩) n G:=by{
 refine⟨h.len,h.le,λJ=>⟨b,o,rfl,λi R O=>?_⟩⟩;obtain⟨_,_,e,L⟩:=h.pos J;injection e with e;injection e with H I;subst H I;have u:=L i R O;exact(M.cell_far ⟨b,o+i,none⟩ (au u) N).trans u}
theorem kf {u:List du}{x:LB}{r:List LB}(h:jf x=none∨u.length=40):nO u (x::r)=none:=by{
 unfold nO;rcases h with h|h
 {rw[h]}
 {
 cases jf x with
 | none=>rfl
 | some y=>exact if_pos h}}
theorem xh {h:List du}{x:LB}{y:du}{r:List LB}(u:jf x=some y)(B:h.length≠40):nO h (x::r)=nO (h++[y]) r:=by{
 rw[nO,u];exact if_neg B}
theorem Ap {s:LB}(h:s≠[])(u:nO [] (wordsL s)=none):fm s=none:=by unfold fm;rw[if_neg h,u]
theorem BC {s:LB}{l:List du}(h:s≠[])(u:nO [] (wordsL s)=some l):fm s=if ed l=true then some l else none:=by unfold fm;rw[if_neg h,u]
theorem tJ (B:LB)(G:B.length≤2097152)(w:World)(u:∀L,BL w L→gu L):Calls prog 144 #[.string (ag B)] w (eN w (fm B)):=by{
 by_cases h:B=[]
 {
 subst h;have H:(ag ([]:LB)).toList.isEmpty=true:=by rw[ByteArray.toList_eq,aw];rfl
 have F:=hI (az (show(w.alloc (.cells #[] 197)).ownsRow w.heap.size 197 2 (.slice (some ⟨w.heap.size,0,none⟩) 0 0) 0 (winds []) from bg w w.heap.size 197 2 (qA _)));go_enter func144,ntmps144;go_wp2_with fail
 go_ret2;exact eN.yes (l:=[]) rfl F (za _ _)}
 have c8:(ag B).toList.isEmpty=false:=by rw[ByteArray.toList_eq,aw];cases B with|nil=>exact absurd rfl h|cons c r=>rfl
 have HW:=hI (λL (hb:BL w L)=>gA (ag B) (by rw[aj];exact G) L (u L hb).max);rw[aw] at HW;have a7:=hI (Ap h);have cw:=hI (λl=>BC (l:=l) h);have cx:=hI (λx H=>qM (eJ B x H) G);have F:0<(wordsL B).length:=List.length_pos_iff.2 (bY B);have c6:(wordsL B).length≤2097153:=by rw[ev];have U:B.count 32≤B.length:=List.count_le_length;omega
 have bq:=hI u;have N:=hI (show nO [] ((wordsL B).drop 0)=nO [] (wordsL B) from rfl);have R:=hI (show(w.alloc (.cells #[] 197)).ownsRow w.heap.size 197 2 (.slice (some ⟨w.heap.size,0,none⟩) 0 0) 0 (winds []) from bg w w.heap.size 197 2 (qA _));have J:=hI ((qB w.heap.size w).alloc (qA _) (.cells #[] 197));generalize fm B=RD at *;generalize wordsL B=I at *;generalize ag B=s at *;clear u G h;go_enter func144,ntmps144;go_wp2_with fail
 refine(HW _ J).mono ?_;rintro e w2⟨A,n,c,rfl,u,G,Z⟩;have cv:=hI u.len_str;have c':n≤2097153:=by have:=u.len_str;omega
 obtain⟨V,oW,rfl,M⟩:=u.pos (by have:=u.len_str;omega);have c3:w.heap.size≠V:=λe=>by{
 cases bo:I with
 | nil=>rw[bo] at F;simp at F
 | cons x r=>{
 have U:=M 0 (.string (ag x)) (by rw[bo];rfl);rw[←e,G.cell (p:=⟨w.heap.size,oW+0,none⟩) (by simp)] at U;have h2:(w.alloc (.cells #[] 197)).heap[w.heap.size]?=some (.cells #[] 197):=by show(w.heap.push _)[w.heap.size]?=_;simp
 simp only[World.cell?,h2] at U;simp at U}}
 have Y:V<w2.heap.size:=by{
 cases bo:I with
 | nil=>rw[bo] at F;simp at F
 | cons x r=>exact au (M 0 (.string (ag x)) (by rw[bo];rfl))}
 have cs:=zb J G;have W:=hI (aa R G);have h:=hI u;have O:=hI (show ∀q,(Value.slice (some ⟨w.heap.size,0,none⟩) 0 0).ownBlock=some q→q≠V from λq T=>by simp[Value.ownBlock] at T;omega);clear u G J R Z c6 M c3 F;go_wp2_with fail
 go_loopw [4,20] (λl i wr=>∃(k m cc:Nat) (a8:OA) (R:List du),k≤n∧m≤40∧l=.slice a8 m cc∧i=.int .i64 k∧Hid (R.length=m)∧Hid (nO R (I.drop k)=nO [] I)∧Hid (wr.ownsRow w.heap.size 197 2 (.slice a8 m cc) m (winds R))∧Hid (BL w wr)∧Hid (Rd wr 1 (some ⟨V,oW,none⟩) n (strs I))∧Hid (∀q,(Value.slice a8 m cc).ownBlock=some q→q≠V)∧V<wr.heap.size) (λ_ i _=>n-(intOf i).toNat)
 case atStart=>exact⟨0,0,0,_,[],qH _,by omega,rfl,rfl,hI rfl,N,W,cs,h,O,Y⟩
 case round=>(
 clear W N h O Y;obtain⟨k,m,cc,a8,R,_,_,rfl,rfl,a2,M,HO,ba,h,bs,_⟩:=hrel;obtain⟨wo,c7⟩:∃wo:World,wo=wr:=⟨_,rfl⟩;subst c7;by_cases cq:k<n
 {
 have c0:decide ((k:Int)<(n:Int))=true:=by simpa using cq
 obtain⟨b,_,x,b7,H,hd,hc⟩:=h.str cq;injection b7 with b7;injection b7 with cB cC;subst cB cC;have cr:=cx x (qF H);have bp:=hI (IL x cr wo (bq _ ba).max);have cN:=Ic 64 x;have bt:=hI (λL (hb:BL w L)=>lB (ag (Lib.cut x [64]).2.1) (by rw[aj];omega) L (bq L hb).pow (bq L hb).err (λw3 u=>(bq w3 (hb.trans (u.mono hb.size))).pow));rw[aw] at bt;have hi:=M.out;rw[hd] at hi;have M:=hI hi;have a6:=hI (CS (x:=x));have bv:=hI (λk=>CP (x:=x) (k:=k));generalize Lib.cut x [64]=C at *;obtain⟨Z,cy,_⟩:=C;simp only at bp bt a6 bv;generalize fq cy=nf at *;obtain⟨v,cf⟩:=nf;simp only at bt a6 bv;have cL:∃z,z=ag Z:=⟨_,rfl⟩;obtain⟨sW,cb⟩:=cL;rw[←cb] at bp;have b5:=hI (λk (T:cU k=Z)=>EY (k:=k) T);have b4:=hI (λk (T:cU k≠Z)=>Ir (k:=k) T);rw[←cb] at b5 b4;clear H hd cr cN hi cb;go_wp2_with fail
 refine bp.mono ?_;rintro e w3⟨rfl,N⟩;have av:=zb ba N;have cl:=hI (aa HO N);have cn:=hI (h.below N);have dc:=N.size;clear N hc bp HO;go_wp2_with fail
 refine(bt _ av).mono ?_;rintro e w4⟨rfl,bk⟩;have F:=zb av bk;have cm:=hI (aa cl bk);have co:=hI (cn.below bk);have dq:=bk.size;clear bk cl av ba h cn;go_wp2_with fail
 go_loopw [12] (λi wr=>∃(u:Int),(1≤u∧u≤8)∧i=.int .i64 u∧Hid (∀j,1≤j→j<u→cU j≠Z)∧Hid (BL w4 wr)) (λi _=>8-(intOf i).toNat)
 case atStart=>exact⟨1,by omega,rfl,hI (λj U h2=>by omega),hI (qB _ _)⟩
 case round=>(
 obtain⟨u,cp,rfl,ck,W⟩:=hrel;obtain⟨wi,c5⟩:∃wi:World,wi=wr:=⟨_,rfl⟩;subst c5;have Y:=hI (λL=>tC u cp L);have ch:=hI (λ(T:cU u=Z)=>show eu Z=some u from by rw[←T];exact ns cp);by_cases c2:u<8
 {
 have cR:decide (u<8)=true:=by simpa using c2
 by_cases G:cU u=Z
 {
 have bP:=hI (ch G);have hz:=b5 u G;have cd:((ag (cU u)).toList !=sW.toList)=false:=by simp only[bne,hz];rfl
 have bN:=hI G;clear G;generalize ag (cU u)=z at *
 cases cf with
 | false=>{
 have O:=hI (show nO [] I=none from by rw[←M.out];exact kf (.inl (a6 (.inl rfl))));go_wp2_with fail
 refine(Y _).mono ?_;rintro e w5⟨rfl,h⟩;have a1:=zb W h;clear h;go_wp2_with fail
 go_ret2;exact eN.no (a7 O) (F.trans (a1.mono F.size))}
 | true=>{
 by_cases ad:m=40
 {
 skip;have O:=hI (show nO [] I=none from by rw[←M.out];exact kf (.inr (by rw[a2.out];exact ad)));have b6:((m:Int)==40)=true:=by simp;omega
 clear ad;go_wp2_with fail
 refine(Y _).mono ?_;rintro e w5⟨rfl,h⟩;have a1:=zb W h;clear h;go_wp2_with fail
 refine(Y _).mono ?_;rintro e w6⟨rfl,h⟩;have H:=zb a1 h;clear h;go_wp2_with fail
 go_ret2;exact eN.no (a7 O) (F.trans (H.mono F.size))}
 {
 skip;have bR:=hI (show nO (R++[(u,v)]) (I.drop (k+1))=nO [] I from by rw[←M.out];exact(xh (bv u bP rfl) (by rw[a2.out];exact ad)).symm);have b6:((m:Int)==40)=false:=by simp;omega
 have c1:m≤39:=by omega
 clear ad;go_wp2_with fail
 refine(Y _).mono ?_;rintro e w5⟨rfl,h⟩;have a1:=zb W h;clear h;go_wp2_with fail
 refine(Y _).mono ?_;rintro e w6⟨rfl,h⟩;have H:=zb a1 h;clear h;have bb:=hI (aa cm H);have a':=hI (F.trans (H.mono F.size));have b2:=hI (co.below H);have b':=a'.size;have c4:=H.size;go_wp2_with(at_builtin;refine oe (x0:=u) (x1:=v) _ rfl _ _ rfl rfl (aa bb (za _ _)) rfl (heap_alloc_new _ _) (by omega) ?cB1 ?_;rotate_left;intro g9 c9 w9 bn ar J ca)
 {
 have bO:=hI ((a'.alloc b' _).grown ar (by simp;omega) (λj hj=>(bb.lt j hj).1));have b1:=hI bn;have b3:=hI ((b2.below (za _ _)).far ar (λe=>bs _ e.symm rfl));have b0:=hI (show ∀q,(Value.slice (some ⟨g9,0,none⟩) (m+1) c9).ownBlock=some q→q≠V from λq T=>by{
 obtain rfl:g9=q:=by simpa[Value.ownBlock] using T
 rcases J with J|J
 {exact bs _ J}
 {rw[J];simp;omega}})
 have b9:V<w9.heap.size:=by have:=ar.size;simp at this;omega
 clear bn ar J ca;go_roundw
 case rel=>exact⟨k+1,m+1,c9,_,R++[(u,v)],by omega,by omega,rfl,by go_num,hI (by rw[qJ,a2.out];rfl),bR,b1,bO,b3,b0,b9⟩
 case measure=>simp[intOf]<;>omega}
 {first|omega|(simp;omega)}}}}
 {
 skip;have hz:=b4 u G;have cd:((ag (cU u)).toList !=sW.toList)=true:=by simp only[bne,hz];rfl
 have bN:=hI G;clear G;generalize ag (cU u)=z at *;go_wp2_with fail
 refine(Y _).mono ?_;rintro e w5⟨rfl,h⟩;have a1:=zb W h;clear h;go_wp2_with fail
 go_roundw
 case rel=>exact⟨u+1,by omega,by go_num,hI (λj U h2=>by{
 by_cases e:j=u
 {subst e;exact bN}
 {exact ck j U (by omega)}}),a1⟩
 case measure=>simp[intOf]<;>omega}}
 {
 obtain rfl:u=8:=by omega
 have cR:decide ((8:Int)<8)=false:=by decide
 by_cases G:cU 8=Z
 {
 have bP:=hI (ch G);have hz:=b5 8 G;have cd:((ag (cU 8)).toList !=sW.toList)=false:=by simp only[bne,hz];rfl
 have bN:=hI G;clear G;generalize ag (cU 8)=z at *
 cases cf with
 | false=>{
 have O:=hI (show nO [] I=none from by rw[←M.out];exact kf (.inl (a6 (.inl rfl))));go_wp2_with fail
 go_ret2;exact eN.no (a7 O) (F.trans (W.mono F.size))}
 | true=>{
 by_cases ad:m=40
 {
 skip;have O:=hI (show nO [] I=none from by rw[←M.out];exact kf (.inr (by rw[a2.out];exact ad)));have b6:((m:Int)==40)=true:=by simp;omega
 clear ad;go_wp2_with fail
 refine(Y _).mono ?_;rintro e w6⟨rfl,h⟩;have H:=zb W h;clear h;go_wp2_with fail
 go_ret2;exact eN.no (a7 O) (F.trans (H.mono F.size))}
 {
 skip;have bR:=hI (show nO (R++[(8,v)]) (I.drop (k+1))=nO [] I from by rw[←M.out];exact(xh (bv 8 bP rfl) (by rw[a2.out];exact ad)).symm);have b6:((m:Int)==40)=false:=by simp;omega
 have c1:m≤39:=by omega
 clear ad;go_wp2_with fail
 refine(Y _).mono ?_;rintro e w6⟨rfl,h⟩;have H:=zb W h;clear h;have bb:=hI (aa cm H);have a':=hI (F.trans (H.mono F.size));have b2:=hI (co.below H);have b':=a'.size;have c4:=H.size;go_wp2_with(at_builtin;refine oe (x0:=8) (x1:=v) _ rfl _ _ rfl rfl (aa bb (za _ _)) rfl (heap_alloc_new _ _) (by omega) ?cB2 ?_;rotate_left;intro g9 c9 w9 bn ar J ca)
 {
 have bO:=hI ((a'.alloc b' _).grown ar (by simp;omega) (λj hj=>(bb.lt j hj).1));have b1:=hI bn;have b3:=hI ((b2.below (za _ _)).far ar (λe=>bs _ e.symm rfl));have b0:=hI (show ∀q,(Value.slice (some ⟨g9,0,none⟩) (m+1) c9).ownBlock=some q→q≠V from λq T=>by{
 obtain rfl:g9=q:=by simpa[Value.ownBlock] using T
 rcases J with J|J
 {exact bs _ J}
 {rw[J];simp;omega}})
 have b9:V<w9.heap.size:=by have:=ar.size;simp at this;omega
 clear bn ar J ca;go_roundw
 case rel=>exact⟨k+1,m+1,c9,_,R++[(8,v)],by omega,by omega,rfl,by go_num,hI (by rw[qJ,a2.out];rfl),bR,b1,bO,b3,b0,b9⟩
 case measure=>simp[intOf]<;>omega}
 {first|omega|(simp;omega)}}}}
 {
 have J:=hI (show ∀j,1≤j→j≤8→cU j≠Z from λj U h2=>by{
 by_cases e:j=8
 {subst e;exact G}
 {exact ck j U (by omega)}})
 have hz:=b4 8 G;have cd:((ag (cU 8)).toList !=sW.toList)=true:=by simp only[bne,hz];rfl
 have bN:=hI G;clear G;generalize ag (cU 8)=z at *
 cases cf with
 | false=>{
 have O:=hI (show nO [] I=none from by rw[←M.out];exact kf (.inl (a6 (.inl rfl))));go_wp2_with fail
 go_ret2;exact eN.no (a7 O) (F.trans (W.mono F.size))}
 | true=>{
 have O:=hI (show nO [] I=none from by rw[←M.out];exact kf (.inl (a6 (.inr (CI (λj U h2=>J j U h2))))));go_wp2_with fail
 refine(Y _).mono ?_;rintro e w6⟨rfl,h⟩;have H:=zb W h;clear h;go_wp2_with fail
 go_ret2;exact eN.no (a7 O) (F.trans (H.mono F.size))}}})}
 {
 obtain rfl:k=n:=by omega
 have c0:decide ((k:Int)<(k:Int))=false:=by simp
 have hi:=M.out;rw[qK (by rw[cv.out];exact qA _),nO] at hi;have G:=hI (cw R hi.symm);have h:=hI (oz a8 m cc R wo (az HO));have J:=hI (az HO);clear hi M
 cases H:ed R with
 | false=>{
 rw[H] at G h;go_wp2_with fail
 refine h.mono ?_;rintro e w3⟨rfl,N⟩;have av:=zb ba N;clear N;go_wp2_with fail
 go_ret2;exact eN.no G av}
 | true=>{
 rw[H] at G h;go_wp2_with fail
 refine h.mono ?_;rintro e w3⟨rfl,N⟩;have av:=zb ba N;have M:=hI (J.below N);clear N;go_wp2_with fail
 go_ret2;exact eN.yes G M av}})}
def Jn (h:Int):LI:=([1,2,3,4,5,6,7,8]:LI).take (h-1).toNat
def mX (P:LB) (v h:Int):List du:=((Jn h).filter λk=>cU k==P).map λk=>(k,v)
theorem AV {P:LB}{v kd:Int}(u:1≤kd∧kd≤8):mX P v (kd+1)=mX P v kd++(if cU kd=P then [(kd,v)] else []):=by{
 have e:Jn (kd+1)=Jn kd++[kd]:=by rcases cX u with rfl|rfl|rfl|rfl|rfl|rfl|rfl|rfl<;>rfl
 unfold mX;rw[e,List.filter_append,qf];congr 1;by_cases h:cU kd=P
 {rw[if_pos h];simp[h]}
 {rw[if_neg h];simp[h]}}
theorem Ee (P:LB)(v:Int):mX P v 9=match eu P with|some k=>[(k,v)]|none=>[]:=by{
 cases e:eu P with
 | none=>{
 unfold eu at e;rw[List.find?_eq_none] at e;have h:(([1,2,3,4,5,6,7,8]:LI).filter λk=>cU k==P)=[]:=List.filter_eq_nil_iff.2 e;show((([1,2,3,4,5,6,7,8]:LI).filter λk=>cU k==P).map λk=>(k,v))=[];rw[h];rfl}
 | some k=>{
 obtain⟨u,rfl⟩:=fO e;show((([1,2,3,4,5,6,7,8]:LI).filter λj=>cU j==cU k).map λk=>(k,v))=[(k,v)];have h:(([1,2,3,4,5,6,7,8]:LI).filter λj=>cU j==cU k)=[k]:=by{rcases cX u with rfl|rfl|rfl|rfl|rfl|rfl|rfl|rfl<;>decide}
 rw[h];rfl}}
theorem GS {acc:List du}{x:LB}{r:List LB}(h:(aR 64 x).length≠2∨(cg ((aR 64 x).getD 1 [])).2=false):xe acc (x::r)=none:=by{
 unfold xe;rcases h with h|h
 {rw[if_pos h]}
 {
 split
 {rfl}
 {rw[h];rfl}}}
theorem GP {acc:List du}{x:LB}{r:List LB}(h:(aR 64 x).length=2)(u:(cg ((aR 64 x).getD 1 [])).2=true):xe acc (x::r)=xe (acc++mX ((aR 64 x).getD 0 []) (cg ((aR 64 x).getD 1 [])).1 9) r:=by{
 rw[xe,if_neg (by rw[h];simp),if_pos u,Ee]
 cases eu ((aR 64 x).getD 0 [])<;>rfl}
theorem AS {s:LB}(h:s≠[])(u:40<(wordsL s).length):fm s=none:=by rw[nA];unfold nX;rw[if_neg h,if_pos u]
theorem AA {s:LB}(h:s≠[])(u:xe [] (wordsL s)=none):fm s=none:=by{
 rw[nA];unfold nX;rw[if_neg h,u];split<;>rfl}
theorem Bu {s:LB}{l:List du}(h:s≠[])(u:¬40<(wordsL s).length)(B:xe [] (wordsL s)=some l):fm s=if eY l=s then some l else none:=by{rw[nA];unfold nX;rw[if_neg h,if_neg u,B]}
theorem DC (d:UInt8)(l:LB):∀x∈aR d l,x.length≤l.length:=by{
 induction l with
 | nil=>intro x h;simp[aR] at h;subst h;exact qA _
 | cons c r u=>{
 intro x h;by_cases B:c=d
 {
 subst B;rw[i_] at h;rcases List.mem_cons.1 h with rfl|h
 {exact qH _}
 {have:=u x h;simp only[qO];omega}}
 {
 rw[fQ B] at h
 cases e:aR d r with
 | nil=>exact absurd e (gN d r)
 | cons y F=>{
 rw[e] at h u;rcases List.mem_cons.1 h with rfl|h
 {have:=u y (List.mem_cons_self ..);simp only[qJ,qO,qT];omega}
 {have:=u x (List.mem_cons_of_mem _ h);simp only[qO];omega}}}}}
theorem sY (h:LB)(B:h.length≤2097152)(w:World):Calls prog 155 #[.string (ag h)] w (eN w (fm h)):=by{
 by_cases u:h=[]
 {
 subst u;have G:(ag ([]:LB)).toList.isEmpty=true:=by rw[ByteArray.toList_eq,aw];rfl
 have F:=hI (az (show(w.alloc (.cells #[] 197)).ownsRow w.heap.size 197 2 (.slice (some ⟨w.heap.size,0,none⟩) 0 0) 0 (winds []) from bg w w.heap.size 197 2 (qA _)));go_enter func155,ntmps155;go_wp2_with fail
 go_ret2;exact eN.yes (l:=[]) rfl F (za _ _)}
 have d4:(ag h).toList.isEmpty=false:=by rw[ByteArray.toList_eq,aw];cases h with|nil=>exact absurd rfl u|cons c r=>rfl
 have HW:=hI (λw'=>nT 32 (ag h) (by rw[aj];exact B) w');rw[aw,jp] at HW;rw[show(((32:UInt8).toNat:Nat):Int)=32 from rfl] at HW;have cN:=hI (AS u);have co:=hI (AA u);have b1:=hI (λl=>Bu (l:=l) u);have c2:=hI (λx G=>qM (eJ h x G) B);have cw:0<(wordsL h).length:=List.length_pos_iff.2 (bY h);have U:=hI (show xe [] ((wordsL h).drop 0)=xe [] (wordsL h) from rfl);have R:=hI (show(w.alloc (.cells #[] 197)).ownsRow w.heap.size 197 2 (.slice (some ⟨w.heap.size,0,none⟩) 0 0) 0 (winds []) from bg w w.heap.size 197 2 (qA _));have H:=hI ((qB w.heap.size w).alloc (qA _) (.cells #[] 197));have c0:=hI (λ(l:List du) (J:eY l=h)=>show((ag (eY l)).toList==(ag h).toList)=true from by rw[J];simp);have c1:=hI (λ(l:List du) (J:eY l≠h)=>show((ag (eY l)).toList==(ag h).toList)=false from by{rw[beq_eq_false_iff_ne,ByteArray.toList_eq,ByteArray.toList_eq,aw,aw];exact J});generalize fm h=RD at *;generalize wordsL h=W at *;generalize ag h=s at *;clear B u;go_enter func155,ntmps155;go_wp2_with fail
 refine(HW _).mono ?_;rintro e w2⟨A,n,c,rfl,F,B,Y⟩;have u:=az F;have b0:=hI u.len_str;obtain⟨I,oW,rfl,-⟩:=u.pos (by have:=u.len_str;omega);have N:=F.lt I rfl;have Z:w.heap.size≠I:=by have:=N.1;simp at this;omega
 have T:I<w2.heap.size:=N.2;have ch:=zb H B;have O:=hI (aa R B);have M:=hI u;have L:=hI (show ∀q,(Value.slice (some ⟨w.heap.size,0,none⟩) 0 0).ownBlock=some q→q≠I from λq J=>by simp[Value.ownBlock] at J;omega);by_cases b9:40<n
 {
 have V:decide ((40:Int)<(n:Int))=true:=by simp;omega
 have a8:=hI (cN (by rw[b0.out];exact b9));clear u B H R Y Z cw F N L O T b9;go_wp2_with fail
 go_ret2;exact eN.no a8 ch}
 have V:decide ((40:Int)<(n:Int))=false:=by simp;omega
 have b1:=hI (λl=>b1 l (by rw[b0.out];exact b9));clear u B H R Y Z cw F N;go_wp2_with fail
 clear V;go_loopw [4,6] (λl i wr=>∃(k m cc:Nat) (Y:OA) (B:List du),k≤n∧m≤8*k∧l=.slice Y m cc∧i=.int .i64 k∧Hid (B.length=m)∧Hid (xe B (W.drop k)=xe [] W)∧Hid (wr.ownsRow w.heap.size 197 2 (.slice Y m cc) m (winds B))∧Hid (BL w wr)∧Hid (Rd wr 1 (some ⟨I,oW,none⟩) n (strs W))∧Hid (∀q,(Value.slice Y m cc).ownBlock=some q→q≠I)∧I<wr.heap.size) (λ_ i _=>n-(intOf i).toNat)
 case atStart=>exact⟨0,0,0,_,[],qH _,by omega,rfl,rfl,hI rfl,U,O,ch,M,L,T⟩
 case round=>(
 clear O U M L T;obtain⟨k,m,cc,Y,B,_,_,rfl,rfl,a2,HI,O,bp,M,av,_⟩:=hrel;obtain⟨wo,d1⟩:∃wo:World,wo=wr:=⟨_,rfl⟩;subst d1;by_cases cs:k<n
 {
 have c8:decide ((k:Int)<(n:Int))=true:=by simpa using cs
 obtain⟨b,_,x,b4,G,hd,hc⟩:=M.str cs;injection b4 with b4;injection b4 with c4 c5;subst c4 c5;have cb:=c2 x (qF G);have a':=hI (nT 64 (ag x) (by rw[aj];exact cb) wo);rw[aw] at a';rw[show(((64:UInt8).toNat:Nat):Int)=64 from rfl] at a';have cn:=hI (λp u=>qM (DC 64 x p u) cb);have hi:=HI.out;rw[hd] at hi;have HI:=hI hi;have ar:=hI (GS (acc:=B) (x:=x) (r:=W.drop (k+1)));have T:=hI (GP (acc:=B) (x:=x) (r:=W.drop (k+1)));rw[HI.out] at ar T;generalize aR 64 x=pl at *;clear G hd cb hi;go_wp2_with fail
 refine a'.mono ?_;rintro e w3⟨_,n3,_,rfl,bN,G,_⟩;have bk:=az bN;have b7:=bk.len_str;have ad:=zb bp G;have cl:=hI (aa O G);have cp:=hI (M.below G);have d5:=G.size;by_cases h2:n3=2
 {
 subst h2;obtain⟨R,P1,rfl⟩:∃R P1,pl=[R,P1]:=by{
 match pl,b7 with
 | [a,b],_=>exact⟨a,b,rfl⟩}
 obtain⟨V,oP,y0,rfl,u,-,U⟩:=bk.str (k:=0) (by omega);obtain⟨_,_,y1,hA,L,-,Z⟩:=bk.str (k:=1) (by omega);injection hA with hA;injection hA with e1 e2;subst e1 e2;obtain rfl:R=y0:=by simpa using u
 obtain rfl:P1=y1:=by simpa using L
 have N:=bN.lt V rfl;have a6:=hI (show ∀q,(Value.slice Y m cc).ownBlock=some q→q≠V from λq F=>by have:=(O.lt q F).2;have:=N.1;omega);have d3:V<w3.heap.size:=N.2;have b3:=hI (λw'=>iE (ag P1) (by rw[aj];exact cn P1 (by simp)) w');rw[aw] at b3;have T:=hI (T rfl);have ar:=hI (λJ=>ar (.inr J));simp only[List.getD_cons_zero,List.getD_cons_succ] at T ar;generalize cg P1=vf at *;obtain⟨v,d2⟩:=vf;simp only at b3 T ar;have H:=hI U;simp only[qW] at U H;clear G hc a' O M bp bk b7 bN N u L cn;go_wp2_with fail
 refine(b3 _).mono ?_;rintro e w4⟨rfl,u⟩;have L:=zb ad u;have cm:=hI (aa cl u);have cq:=hI (cp.below u);have ck:=hI (ab H u);have d6:=u.size;clear u cl ad cp H U Z
 cases d2 with
 | false=>{
 have a8:=hI (co (ar rfl));go_wp2_with fail
 go_ret2;exact eN.no a8 L}
 | true=>{
 have T:=hI (T rfl);go_wp2_with fail
 go_loopw [4,10] (λl i wr=>∃(u:Int) (H a1:Nat) (Z:OA) (U:List du),(1≤u∧u≤9)∧(H:Int)≤8*(k:Int)+(u-1)∧l=.slice Z H a1∧i=.int .i64 u∧Hid (U.length=H)∧Hid (U=B++mX R v u)∧Hid (wr.ownsRow w.heap.size 197 2 (.slice Z H a1) H (winds U))∧Hid (BL w wr)∧Hid (Rd wr 1 (some ⟨I,oW,none⟩) n (strs W))∧Hid (∀q,(Value.slice Z H a1).ownBlock=some q→q≠I)∧Hid (∀q,(Value.slice Z H a1).ownBlock=some q→q≠V)∧Hid (wr.cell? ⟨V,oP,none⟩=some (.string (ag R)))∧(I<wr.heap.size∧V<wr.heap.size)) (λ_ i _=>9-(intOf i).toNat)
 case atStart=>exact⟨1,m,cc,Y,B,by omega,by omega,rfl,rfl,a2,hI (by rw[show mX R v 1=[] from rfl,qa]),cm,L,cq,av,a6,ck,by omega,by omega⟩
 case round=>(
 clear cm L cq av a6 ck a2;obtain⟨u,H,a1,Z,U,cr,_,rfl,rfl,a2,bO,O,HB,M,av,a6,bR,N,_⟩:=hrel;obtain⟨wi,d0⟩:∃wi:World,wi=wr:=⟨_,rfl⟩;subst d0;by_cases b6:u≤8
 {
 have c7:decide (u≤8)=true:=by simpa using b6
 have bv:=hI (λw'=>rl u ⟨cr.1,b6⟩ w');have bs:=hI (AV (P:=R) (v:=v) (kd:=u) ⟨cr.1,b6⟩);have b5:=bR.out;obtain⟨_,a7⟩:∃z,z=ag R:=⟨_,rfl⟩;rw[←a7] at b5;have a':=hI a7;by_cases hW:cU u=R
 {
 have hz:=EY hW;rw[←a7] at hz;rw[if_pos hW] at bs;generalize ag (cU u)=z at *;clear a7 hW;go_wp2_with fail
 have cd:=cell_regrown (b5);refine wp_region_quiet_below (by kernel_rfl) (by kernel_rfl) ?_;repeat (first|go_big_quiet_step ((first|(go_at_call 174;(with_reducible exact Calls.regrown_of (bv.out _)))))|quiet_step ((first|(go_at_call 174;(with_reducible exact Calls.regrown_of (bv.out _))))))
 refine wpQuiet_nil ?_;intro _ b';obtain⟨⟨dq,cf⟩,ca⟩:=b';subst ca;obtain⟨wq,bb,F⟩:∃bn,bn=grow (redrawn wi dq) cf∧BL wi bn:=⟨_,rfl,below_regrown _ _ _⟩;rw[←bb];clear bb cd;have bo:=zb HB F;have bt:=hI (aa O F);have b2:=hI (M.below F);have bq:=hI (ab bR F);have c6:=bo.size;have dc:=F.size;clear F;go_wp2_with(at_builtin;refine oe (x0:=u) (x1:=v) _ rfl _ _ rfl rfl (aa bt (za _ _)) rfl (heap_alloc_new _ _) (by omega) ?cBa ?_;rotate_left;intro g9 c9 w9 cv ba L c')
 {
 have cx:=hI ((bo.alloc c6 _).grown ba (by simp;omega) (λj hj=>(bt.lt j hj).1));have cL:=hI cv;have cR:=hI ((b2.below (za _ _)).far ba (λe=>av _ e.symm rfl));have cy:=hI ((ba.cell_far ⟨V,oP,none⟩ (au (ab bq (za _ _))) (λe=>a6 _ e.symm rfl)).trans (ab bq (za _ _)));have cB:=hI (show ∀q,(Value.slice (some ⟨g9,0,none⟩) (H+1) c9).ownBlock=some q→q≠I from λq J=>by{
 obtain rfl:g9=q:=by simpa[Value.ownBlock] using J
 rcases L with L|L
 {exact av _ L}
 {rw[L];simp;omega}})
 have cC:=hI (show ∀q,(Value.slice (some ⟨g9,0,none⟩) (H+1) c9).ownBlock=some q→q≠V from λq J=>by{
 obtain rfl:g9=q:=by simpa[Value.ownBlock] using J
 rcases L with L|L
 {exact a6 _ L}
 {rw[L];simp;omega}})
 have dA:=ba.size;simp at dA;clear cv ba L c';go_roundw
 case rel=>exact⟨u+1,H+1,c9,_,U++[(u,v)],by omega,by omega,rfl,by go_num,hI (by rw[qJ,a2.out];rfl),hI (by rw[bO.out,bs.out,qb]),cL,cx,cR,cB,cC,cy,by omega,by omega⟩
 case measure=>simp[intOf]<;>omega}
 {first|omega|(simp;omega)}}
 {
 have hz:=Ir hW;rw[←a7] at hz;rw[if_neg hW,qa] at bs;generalize ag (cU u)=z at *;clear a7 hW;go_wp2_with fail
 have cd:=cell_regrown (b5);refine wp_region_quiet_below (by kernel_rfl) (by kernel_rfl) ?_;repeat (first|go_big_quiet_step ((first|(go_at_call 174;(with_reducible exact Calls.regrown_of (bv.out _)))))|quiet_step ((first|(go_at_call 174;(with_reducible exact Calls.regrown_of (bv.out _))))))
 refine wpQuiet_nil ?_;intro _ b';obtain⟨⟨dq,cf⟩,ca⟩:=b';subst ca;obtain⟨wq,bb,F⟩:∃bn,bn=grow (redrawn wi dq) cf∧BL wi bn:=⟨_,rfl,below_regrown _ _ _⟩;rw[←bb];clear bb cd;have bo:=zb HB F;have bt:=hI (aa O F);have b2:=hI (M.below F);have bq:=hI (ab bR F);have dc:=F.size;clear F;go_wp2_with fail
 go_roundw
 case rel=>exact⟨u+1,H,a1,Z,U,by omega,by omega,rfl,by go_num,a2,hI (by rw[bO.out,bs.out]),bt,bo,b2,av,a6,bq,by omega,by omega⟩
 case measure=>simp[intOf]<;>omega}}
 {
 obtain rfl:u=9:=by omega
 have c7:decide ((9:Int)≤8)=false:=by decide
 have F:=hI (show xe U (W.drop (k+1))=xe [] W from by rw[bO.out];exact(T trivial).symm);go_wp2_with fail
 go_roundw
 case rel=>exact⟨k+1,H,a1,Z,U,by omega,by omega,rfl,by go_num,a2,F,O,HB,M,av,N⟩
 case measure=>simp[intOf]<;>omega})}}
 {
 have V:((n3:Int) !=2)=true:=by simp;omega
 have a8:=hI (co (ar (.inl (by rw[b7];exact h2))));clear h2 G bk bN;go_wp2_with fail
 go_ret2;exact eN.no a8 ad}}
 {
 obtain rfl:k=n:=by omega
 have c8:decide ((k:Int)<(k:Int))=false:=by simp
 have hi:=HI.out;rw[qK (by rw[b0.out];exact qA _),xe] at hi;have F:=hI (b1 B hi.symm);have H:=hI (qz Y m cc B wo (az O));have L:=hI (az O);clear hi HI;by_cases u:eY B=h
 {
 have hz:=c0 B u;rw[if_pos u] at F;generalize ag (eY B)=z at *;clear u;go_wp2_with fail
 refine H.mono ?_;rintro e w3⟨rfl,G⟩;have ad:=zb bp G;have R:=hI (L.below G);have U:(z.toList !=s.toList)=false:=by simp only[bne,hz];rfl
 clear G;go_wp2_with fail
 go_ret2;exact eN.yes F R ad}
 {
 have hz:=c1 B u;rw[if_neg u] at F;generalize ag (eY B)=z at *;clear u;go_wp2_with fail
 refine H.mono ?_;rintro e w3⟨rfl,G⟩;have ad:=zb bp G;have U:(z.toList !=s.toList)=true:=by simp only[bne,hz];rfl
 clear G;go_wp2_with fail
 go_ret2;exact eN.no F ad}})}
end Go.Proofs.YtnpldahkhaacnaaGreatDoor

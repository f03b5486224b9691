/- Texts of the walk: Ni Nq. -/
import Derived.Test.YtnpldahkhaacnaaGreatDoorYbe
set_option linter.unusedVariables false
set_option linter.unusedSimpArgs false
set_option maxRecDepth 100000
set_option maxHeartbeats 32000000
namespace Go.Proofs.YtnpldahkhaacnaaGreatDoor
open Go.RowKit Go.Sort Go.Proofs.Tryz
def jk (t:Tb) (h:LI) (b:Int):Int:=if gZ t h b=0 then cz t h b else 0
theorem wl {t:Tb}(F:bl t){h:LI}(B:bC h=true){b:Int}(u:af b 0 (t.boats-1)=true):gZ t h b=0:=by{
 unfold gZ;rw[if_pos F.tableB,if_pos ⟨B,u⟩]}
theorem xr {t:Tb}(u:bl t){rule:LI}{b:Int}(h:af b 0 (t.boats-1)=false):gZ t rule b=2:=by{
 unfold gZ;rw[if_pos u.tableB,if_neg (by rw[h];simp)]}
theorem pj {t:Tb}(h:bl t){u:LI}(B:bC u=true):gZ t u 0=0:=wl h B (ai.2 (by have:=h.b1;omega))
theorem BY {t:Tb}(u:bl t)(h:LI)(b:Int):0≤jk t h b∧jk t h b≤120000:=by{
 unfold jk;split
 {exact kw u h b}
 {omega}}
theorem nV (P:OA)(n c:Nat)(C:OA)(m d:Nat)(t:Tb)(G:bl t)(A:OA)(l Z:Nat)(h:LI)(V:bC h=true)(b:Int)(w:World)(T:RdT w P n C m t)(U:Rd w 1 A l (ints h)):Calls prog 152 #[.agg #[t.boats,.slice P n c,.slice C m d],.slice A l Z,b] w λe B=>e=.returned (.tuple #[.int .i64 (jk t h b),.int .i64 (gZ t h b)])∧BL w B:=by{
 obtain⟨_,av,R,ad,_⟩:=ae w #[t.boats,.slice P n c,.slice C m d] 76;have ar:=el V;have M:=hI ad;have HX:=hI R;have O:=hI av;have a6:=hI G;have J:=R.f3;have L:=hI (λB (I:BL w B)=>oO P n c C m d t A l Z h b B (T.below I) (U.below I))
 cases H:af b 0 (t.boats-1) with
 | false=>{
 have u:=hI (xr G (rule:=h) H);have W:=hI (show jk t h b=0 from by unfold jk;rw[u.out];rfl);rw[u.out] at L;clear T U ad R av G ar V H;go_enter func152,ntmps152;go_wp2_with fail
 rw[←O.out];clear O;refine(L _ M).mono ?_;rintro e w2⟨rfl,F⟩;have N:=zb M F;clear J F;go_wp2_with fail
 go_ret2;exact⟨by rw[u.out,W.out];rfl,N⟩}
 | true=>{
 have u:=hI (wl G V H);have W:=hI (show jk t h b=cz t h b from by unfold jk;rw[u.out];rfl);rw[u.out] at L;have a2:=ai.1 H;obtain⟨Y,rfl⟩:=aC b a2.1;have a1:(Y:Int)<t.boats:=by omega
 have H2:=hI (λB (I:BL w B)=>jm P n c C m d t G A l Z h ar Y a1 B (T.below I) (U.below I));rw[←W.out] at H2;generalize jk t h Y=a7 at *;clear T U ad R av G ar V H a2 a1;go_enter func152,ntmps152;go_wp2_with fail
 rw[←O.out];clear O;refine(L _ M).mono ?_;rintro e w2⟨rfl,F⟩;have N:=zb M F;clear J;have J:=(HX.below F).f3;clear F;go_wp2_with fail
 refine(H2 _ N).mono ?_;rintro e H⟨rfl,F⟩;have G:=zb N F;clear F J;go_wp2_with fail
 go_ret2;exact⟨by rw[u.out];rfl,G⟩}}
theorem nU (P:OA)(n c:Nat)(C:OA)(m d:Nat)(t:Tb)(F:bl t)(A:OA)(l Z:Nat)(h:LI)(W:bC h=true)(b:Int)(w:World)(H:RdT w P n C m t)(V:Rd w 1 A l (ints h)):Calls prog 168 #[.agg #[t.boats,.slice P n c,.slice C m d],.slice A l Z,b] w λe u=>e=.returned (.tuple #[.int .i64 (jk t h b),.int .i64 (gZ t h b)])∧BL w u:=by{
 obtain⟨_,av,U,ad,_⟩:=ae w #[t.boats,.slice P n c,.slice C m d] 76;have ar:=el W;have O:=hI ad;have HX:=hI U;have T:=hI av;have a8:=hI F;have M:=U.f3;have N:=hI (λu (L:BL w u)=>ko P n c C m d t A l Z h b u (H.below L) (V.below L))
 cases J:af b 0 (t.boats-1) with
 | false=>{
 have G:=hI (xr F (rule:=h) J);have Y:=hI (show jk t h b=0 from by unfold jk;rw[G.out];rfl);rw[G.out] at N;clear H V ad U av F ar W J;go_enter func168,ntmps168;go_wp2_with fail
 rw[←T.out];clear T;refine(N _ O).mono ?_;rintro e w2⟨rfl,I⟩;have R:=zb O I;clear M I;go_wp2_with fail
 go_ret2;exact⟨by rw[G.out,Y.out];rfl,R⟩}
 | true=>{
 have G:=hI (wl F W J);have Y:=hI (show jk t h b=cz t h b from by unfold jk;rw[G.out];rfl);rw[G.out] at N;have a2:=ai.1 J;obtain⟨B,rfl⟩:=aC b a2.1;have a1:(B:Int)<t.boats:=by omega
 have H2:=hI (λu (L:BL w u)=>fB P n c C m d t F A l Z h ar B a1 u (H.below L) (V.below L));have H3:=hI (λ(A:OA) (n c:Nat) u (hn:n≤12) (H:Rd u 1 A n (ints (cntT t h B)))=>ju A n c (cntT t h B) (λ_ hx=>gS F hx) hn u H);have a6:=hI (cT F h B);have a7:=hI (show de (cntT t h B)=jk t h B from by rw[Y.out];rfl);rw[a7.out] at H3;generalize jk t h B=ba at *;generalize cntT t h B=a' at *;clear H V ad U av F ar W J a2 a1;go_enter func168,ntmps168;go_wp2_with fail
 rw[←T.out];clear T;refine(N _ O).mono ?_;rintro e w2⟨rfl,I⟩;have R:=zb O I;clear M;have M:=(HX.below I).f3;clear I;go_wp2_with fail
 refine(H2 _ R).mono ?_;rintro e T⟨g,_,_,rfl,I,-,H⟩;have J:=zb R H;have F:=hI (az I);clear H I M;go_wp2_with fail
 refine(H3 _ _ _ _ (by have:=F.len_int;have:=a6.out;omega) F).mono ?_;rintro e u⟨rfl,rfl⟩;go_wp2_with fail
 go_ret2;exact⟨by rw[G.out];rfl,J⟩}}
theorem oS (P:OA)(n c:Nat)(C:OA)(m d:Nat)(t:Tb)(I:bl t)(A:OA)(l M:Nat)(u:LI)(R:bC u=true)(w:World)(N:RdT w P n C m t)(O:Rd w 1 A l (ints u)):Calls prog 223 #[.agg #[t.boats,.slice P n c,.slice C m d],.slice A l M] w λe h=>∃G F H,e=.returned (.tuple #[.slice G F H,(0:Int)])∧h.ownsRow w.heap.size 2 1 (.slice G F H) F (ints (standT t u))∧BL w h:=by{
 obtain⟨_,Z,L,W,_⟩:=ae w #[t.boats,.slice P n c,.slice C m d] 76;have Y:=el R;have U:=hI W;have HX:=hI L;have V:=hI Z;have ad:=hI I;have J:=L.f3;have T:=hI (λh (B:BL w h)=>oO P n c C m d t A l M u 0 h (N.below B) (O.below B));rw[pj I R] at T;have H2:=hI (λh (B:BL w h)=>gG P n c C m d t I A l M u Y h (N.below B) (O.below B));generalize standT t u=ar at *;clear N O W L Z I Y R;go_enter func223,ntmps223;go_wp2_with fail
 rw[←V.out];clear V;refine(T _ U).mono ?_;rintro e V⟨rfl,L⟩;have I:=zb U L;clear J;have J:=(HX.below L).f3;clear L;go_wp2_with fail
 refine(H2 _ I).mono ?_;rintro e W⟨G,F,H,rfl,N,-,L⟩;have O:=zb I L;have R:=hI (an N I.size);clear L N J;go_wp2_with fail
 go_ret2;exact⟨G,F,H,rfl,R,O⟩}
theorem tu (P:OA)(n c:Nat)(C:OA)(m d:Nat)(t:Tb)(u:bl t)(A:OA)(l T:Nat)(h:LI)(U:bC h=true)(w:World)(N:RdT w P n C m t)(R:Rd w 1 A l (ints h)):Calls prog 167 #[.agg #[t.boats,.slice P n c,.slice C m d],.slice A l T] w λe F=>∃A' Y c',e=.returned (.tuple #[.slice A' Y c',(0:Int)])∧F.ownsRow w.heap.size 2 1 (.slice A' Y c') Y (ints (rkL t h))∧BL w F:=by{
 obtain⟨_,a6,I,W,_⟩:=ae w #[t.boats,.slice P n c,.slice C m d] 76;have Z:=el U;have ad:=hI W;have M:=hI I;have L:=hI a6;have bb:=hI u;have G:=I.f3;have bo:=u.b1;have bp:=u.b2;obtain⟨B,H⟩:=aC t.boats (by omega);have O:=hI (λF (J:BL w F)=>ko P n c C m d t A l T h 0 F (N.below J) (R.below J));rw[pj u U] at O;have H2:=hI (λ(V:Nat) (bO:V<B) F (J:BL w F)=>oc P n c C m d t u A l T h Z V (by omega) F (N.below J) (R.below J));have HG:=hI (λ(j:Nat) (V:j<B)=>B_ H h V);have a':=hI (BR H h);have bN:B≤16:=by omega
 rw[H] at O H2 M G L;rw[H];clear N R W I a6 u Z U bo bp bb H;generalize u:rkL t h=I at *;clear u;go_enter func167,ntmps167;go_wp2_with fail
 rw[←L.out];clear L;refine(O _ ad).mono ?_;rintro e u⟨rfl,L⟩;have H:=zb ad L;have a1:=hI (M.below L);clear G L M;have G:=a1.f3;have bP:=H.size;go_wp2_with fail
 have M:=hI (show(u.alloc (.cells #[] 2)).ownsRow u.heap.size 2 1 (.slice (some ⟨u.heap.size,0,none⟩) 0 0) 0 (ints (I.take 0)) from bg u u.heap.size 2 1 (qA _));have L:=hI ((qB u.heap.size u).alloc (qA _) (.cells #[] 2));go_loopw [7,8] (λo i wr=>∃(k R:Nat) (N:OA),k≤B∧o=.slice N k R∧i=.int .i64 k∧Hid (wr.ownsRow u.heap.size 2 1 (.slice N k R) k (ints (I.take k)))∧Hid (BL u wr)) (λ_ i _=>B-(intOf i).toNat)
 case atStart=>exact⟨0,0,_,qH _,rfl,rfl,M,L⟩
 case round=>(
 clear M L;obtain⟨k,R,N,_,rfl,rfl,M,L⟩:=hrel;obtain⟨Z,bv⟩:∃Z:World,Z=wr:=⟨_,rfl⟩;subst bv;clear G;have G:=(a1.below L).f3;by_cases W:k<B
 {
 have bs:decide ((k:Int)<(B:Int))=true:=by simpa using W
 have a8:=hI (H.trans (L.mono H.size));have HR:=hI (H2 k W Z a8);have bn:=hI (show I.take k++[iL t h (k:Int)]=I.take (k+1) from by rw[List.take_add_one,HG.out k W];rfl);generalize iL t h (k:Int)=v at *;go_wp2_with fail
 refine HR.mono ?_;rintro e w3⟨rfl,U⟩;have ar:=zb L U;have av:=hI (aa M U);have bq:=ar.size;clear U HR M G;go_wp2_with(at_builtin;refine ly (y:=v) _ rfl _ _ rfl rfl (aa av (za _ _)) rfl (heap_alloc_new _ _) (by omega) ?cBa ?_;rotate_left;intro g9 c9 w9 G a2 _ _)
 {
 have a7:=hI ((ar.alloc bq _).grown a2 (by simp;omega) (λj V=>(av.lt j V).1));rw[bn.out] at G;have ba:=hI G;clear G a2;go_roundw
 case rel=>exact⟨k+1,c9,_,by omega,rfl,by go_num,ba,a7⟩
 case measure=>simp[intOf]<;>omega}
 {first|omega|(simp;omega)}}
 {
 obtain rfl:k=B:=by omega
 have bs:decide ((k:Int)<(k:Int))=false:=by simp
 have bk:=hI (show I.take k=I from qI (by rw[a'.out];exact qA _));rw[bk.out] at M;go_wp2_with fail
 go_ret2;exact⟨_,_,_,rfl,an M H.size,H.trans (L.mono H.size)⟩})}
theorem ym:∀(n:Nat) (x y:LB),x.length≤n→aL (x++10::y)=aL x++aL y:=by{
 intro n
 induction n with
 | zero=>{
 intro x y h
 cases x with
 | nil=>rw[List.nil_append,eI];rfl
 | cons c r=>simp at h}
 | succ n B=>{
 intro x y h;rcases fV x with u|⟨a,b,rfl,ha⟩
 {rw[iR y u,gU u];rfl}
 {rw[qb,List.cons_append,iR (b++10::y) ha,iR b ha,B b y (by simp at h;omega)];rfl}}}
theorem sw (x y:LB):aL (x++10::y)=aL x++aL y:=ym x.length x y (qA _)
theorem Bh (x:LB):aL (x++[10])=aL x++[[]]:=sw x []
theorem Ac {c:UInt8}(hc:c≠10):∀(n:Nat) (x:LB),x.length≤n→∃p q,aL (x++[c])=p++[q++[c]]:=by{
 intro n
 induction n with
 | zero=>{
 intro x u
 cases x with
 | nil=>exact⟨[],[],by rw[List.nil_append,gU (by simp[hc])];rfl⟩
 | cons d r=>simp at u}
 | succ n F=>{
 intro x u;rcases fV x with B|⟨a,b,rfl,ha⟩
 {exact⟨[],x,by rw[gU (by intro d h;rcases List.mem_append.1 h with h|h;exact B d h;rw[List.mem_singleton.1 h];exact hc)];rfl⟩}
 {
 obtain⟨p,q,e⟩:=F b (by simp at u;omega);exact⟨a::p,q,by rw[qb,List.cons_append,iR (b++[c]) ha,e];rfl⟩}}}
theorem lX (x:LB):bE (x++[10])=aL x:=by{
 unfold bE;simp only[Bh];rw[if_pos (by simp),List.dropLast_concat]}
theorem xW {c:UInt8}(hc:c≠10)(x:LB):bE (x++[c])=aL (x++[c]):=by{
 obtain⟨p,q,e⟩:=Ac hc x.length x (qA _);unfold bE;simp only[e];rw[if_neg (by simp)]}
theorem DA (x:LB):Lib.trimSuffix (x++[10]) [10]=x:=by{
 unfold Lib.trimSuffix;have h:Lib.hasSuffix (x++[10]) [10]=true:=by unfold Lib.hasSuffix;simp
 rw[if_pos h];simp}
theorem CL {c:UInt8}(hc:c≠10)(x:LB):Lib.trimSuffix (x++[c]) [10]=x++[c]:=by{
 unfold Lib.trimSuffix;have u:¬(10:UInt8)=c:=λh=>hc h.symm
 have h:Lib.hasSuffix (x++[c]) [10]=false:=by{
 unfold Lib.hasSuffix List.isSuffixOf;rw[List.reverse_append];show((10:UInt8)==c&&_)=false;rw[beq_eq_false_iff_ne.2 u];rfl}
 rw[h];rfl}
theorem zz {α:Type}(s:List α):s=[]∨∃x c,s=x++[c]:=by{
 rcases List.eq_nil_or_concat s with h|⟨x,c,h⟩
 {exact .inl h}
 {exact .inr ⟨x,c,by rw[h];simp⟩}}
theorem Ax {s:LB}(u:s≠[]):aL (Lib.trimSuffix s [10])=bE s:=by{
 rcases zz s with B|⟨x,c,rfl⟩
 {exact absurd B u}
 {
 by_cases h:c=10
 {subst h;rw[DA,lX]}
 {rw[CL h,xW h]}}}
theorem gW {w:World}{u F h I:Nat}{G:List LB}{H:OA}(B:Rd w 1 (some ⟨u,F,none⟩) h (strs G))(N:h≤I)(M:1≤h)(J:(if I=1 then(some ⟨u,F,none⟩:OA) else some ⟨u,F+1,none⟩)=H):Rd w 1 H (h-1) (strs (G.drop 1)):=by{
 subst J;split
 {
 obtain rfl:h=1:=by omega
 have L:G.drop 1=[]:=qK (by rw[B.len_str];exact qA _);rw[L];exact⟨rfl,by omega,λB=>by omega⟩}
 {exact B.dropS 1 M}}
end Go.Proofs.YtnpldahkhaacnaaGreatDoor

/- Texts of the walk: Ze Zg. -/
import Derived.Deep.Upon
import Derived.Test.YtnpldahkhaacnaaGreatDoorYba
set_option linter.unusedVariables false
set_option linter.unusedSimpArgs false
set_option maxRecDepth 100000
set_option maxHeartbeats 32000000
namespace Go.Proofs.YtnpldahkhaacnaaGreatDoor
open Go.RowKit Go.Sort Go.Proofs.Tryz
def IY (w:World) (u:List Bool) (e:Ending) (h:World):Prop:=∃g n c,e=.returned (.slice (some ⟨g,0,none⟩) n c)∧h.ownsRow w.heap.size 4 1 (.slice (some ⟨g,0,none⟩) n c) n (ja u)∧BL w h
theorem aO.below2 {h:Nat}{w B:World}{b:Nat}{u:Array Value}{t:TypeId}(F:aO w b u t)(k:Below h w B)(G:b<h):aO B b u t:=(k.block b G).trans F
theorem AG (P K:LI)(m:Nat)(h:List Bool):lD P K (m+1) h=lD P K m (sT h (tG P K h)):=rfl
theorem zp (P K:LI)(u:List Bool)(m i:Nat)(h:Int):jF P K u (m+1) i h=jF P K u m (i+1) (if (!u.getD i false&&tL K i&&(decide (h<0)||decide (atI P h<atI P i)))=true then(i:Int) else h):=rfl
theorem xP (P:OA)(n c:Nat)(C:OA)(m d:Nat)(t:Tb)(H:bl t)(A:OA)(l cl:Nat)(W:LI)(cm:W.length≤3)(h:Nat)(bP:(h:Int)<t.boats)(w:World)(B:RdT w P n C m t)(hl:Rd w 1 A l (ints W)):Calls prog 287 #[.agg #[t.boats,.slice P n c,.slice C m d],.slice A l cl,h] w (IY w (Bb (ax t.pts h) (ax t.cds h) (leN t.pts.length W))):=by{
 have cw:n≤12:=by have:=H.many;have:=B.pts.len;omega
 have O:=B.pts.len;obtain rfl:n=m:=by have:=B.cds.len;have:=H.same;omega
 obtain⟨wa,b5,J,L,b2⟩:=ae w #[t.boats,.slice P n c,.slice C n d] 76;have Y:=hI b5;have M:=uc n (by omega) wa;obtain⟨wb,G⟩:∃wb,wb=wa.alloc (.cells (madeCells #[.bool false] n) 4):=⟨_,rfl⟩;have N:=jM wa wa.heap.size 4 n (.bool false) (qA _) (by omega);rw[←rs,←G,b2] at N;have F:BL wa wb:=by rw[G];exact(qB _ _).alloc (qA _) _
 have bn:=hI (L.trans (F.mono L.size));have bO:=hI (J.below F);have cb:=hI (show w.heap.size+1≤wb.heap.size from by have:=F.size;omega);have R:=hI N;rw[←G,b2] at M;have b9:=hI (λI T=>uh A l cl W n I (hl.below (w':=I) T));have ck:=Fg (n:Int) W;rw[O];generalize leN (n:Int) W=U at *;have cs:U≤3:=by omega
 have bR:(ax t.pts h).length=n:=by rw[dN,O]
 have HT:=hI B;have bs:=hI H;have bo:=hI bP;have FX:=J.f3;have I:=hI (show lD (ax t.pts h) (ax t.cds h) U (List.replicate n false)=Bb (ax t.pts h) (ax t.cds h) U from by unfold Bb;rw[bR]);have T:=hI (show(List.replicate n false).length=n from List.length_replicate ..);obtain⟨V,Z⟩:∃V,V=Bb (ax t.pts h) (ax t.cds h) U:=⟨_,rfl⟩;rw[←Z] at I ⊢;generalize List.replicate n false=cq at *;clear b5 J L G F N ck O bR B hl H bP cm Z;go_enter func287,ntmps287;go_wp2_with fail
 rw[←Y.out];clear Y;rw[M];clear FX M;have FX:=bO.f3;go_wp2_with fail
 refine(b9 _ bn).mono ?_;rintro e w1⟨rfl,rfl⟩;clear FX;go_wp2_with fail
 go_loopw [8] (λq wr=>∃(M:Nat) (F:List Bool),M≤U∧q=.int .i64 M∧Hid (F.length=n)∧Hid (lD (ax t.pts h) (ax t.cds h) M F=V)∧Hid (wr.ownsRow (w.heap.size+1) 4 1 (.slice (some ⟨w.heap.size+1,0,none⟩) n n) n (ja F))∧Hid (Below (w.heap.size+1) wb wr)) (λq _=>(intOf q).toNat)
 case atStart=>exact⟨U,cq,qA _,rfl,T,I,R,hI (qB _ _)⟩
 case round=>(
 clear R I T;obtain⟨M,F,_,rfl,a8,G,HO,HB⟩:=hrel;obtain⟨wo,co⟩:∃wo:World,wo=wr:=⟨_,rfl⟩;subst co;have cn:=HB.size;have bp:=hI (bn.trans (HB.mono (by omega)));by_cases J:M=0
 {
 subst J;have B:=G.out;rw[lD] at B;have a2:=hI B;have H:=hI (an HO (show w.heap.size≤w.heap.size+1 by omega));clear B G HO;have I:decide ((0:Int)<((0:Nat):Int))=false:=by simp
 go_wp2_with fail
 go_ret;exact⟨_,n,n,rfl,by rw[←a2.out];exact H,bp⟩}
 {
 have cv:0<M:=by omega
 obtain⟨R,L⟩:∃R,R=M-1:=⟨_,rfl⟩;have ar:=hI L;have B:=G.out;rw[show M=R+1 by omega,AG] at B;have a2:=hI B;have N:jF (ax t.pts h) (ax t.cds h) F (n-0) 0 (-1)=tG (ax t.pts h) (ax t.cds h) F:=by{
 unfold tG;rw[a8.out];rfl}
 have H:=hI N;clear B G N J L;have I:decide (0<M)=true:=by simp;omega
 go_wp2_with fail
 clear I;go_loopw [9,10] (λB i wr=>∃(k:Nat) (O:Int),k≤n∧i=.int .i64 k∧B=.int .i64 O∧(O=-1∨∃b:Nat,O=(b:Int)∧b<n)∧Hid (jF (ax t.pts h) (ax t.cds h) F (n-k) k O=tG (ax t.pts h) (ax t.cds h) F)∧Hid (bI wo wr)) (λ_ i _=>n-(intOf i).toNat)
 case atStart=>exact⟨0,-1,qH _,rfl,rfl,.inl rfl,H,hI (bI.refl _)⟩
 case round=>(
 clear H;obtain⟨k,O,_,rfl,rfl,hB,HS,J⟩:=hrel;obtain⟨wp,cp⟩:∃wp:World,wp=wr:=⟨_,rfl⟩;subst cp;by_cases ba:k<n
 {
 have ch:decide ((k:Int)<(n:Int))=true:=by simpa using ba
 have bk:=J.below;obtain⟨gm,z,H,-,-,hz,cf,-⟩:=lZ (J.own HO) (k:=k) ba;injection H with H;injection H with H _;subst H;have bq:=zb bp bk;obtain⟨b,o,_,_,p,_,_,_,_,q,x,y,_,_,_,_,rfl,rfl,hd,bW,_,_,rfl,rfl,Y,_,_,_,hx,hy,_,_,_,_⟩:=dB (HT.below bq) bs (k:=k) ba bo;have HX:=hI (show atI (ax t.pts (h:Int)) (k:Int)=x from gd hd hx);have HY:=hI (show atI (ax t.cds (h:Int)) (k:Int)=y from gd bW hy);have N:=HS.out;rw[show n-k=(n-(k+1))+1 by omega,zp] at N;have b7:F.getD k false=z:=by rw[qC,hz];rfl
 rw[b7] at N;have I:=hI N;have FX:=((bO.below2 HB (by omega)).below bk).f3;clear N HS hd bW hx hy hz b7 bk
 cases z with
 | true=>{
 have B:=I.out;rw[if_neg (by simp)] at B;have L:=hI B;clear B I;go_wp2_with fail
 go_quiet (fail)
 go_wp2_with fail
 go_roundw
 case rel=>exact⟨k+1,O,by omega,by go_num,rfl,hB,L,hI (J.step _)⟩
 case measure=>simp[intOf]<;>omega}
 | false=>{
 by_cases T:y=7
 {
 have cc:(y !=7)=false:=by simp[T]
 have B:=I.out;rw[if_neg (by unfold tL;rw[HY.out];simp[T])] at B;have L:=hI B;clear B I;go_wp2_with fail
 go_quiet (fail)
 go_wp2_with fail
 go_roundw
 case rel=>exact⟨k+1,O,by omega,by go_num,rfl,hB,L,hI (J.step _)⟩
 case measure=>simp[intOf]<;>omega}
 {
 have cc:(y !=7)=true:=by simp[T]
 rcases hB with rfl|⟨G,rfl,a1⟩
 {
 have av:=hI (show tL (ax t.cds (h:Int)) (k:Int)=true from by unfold tL;rw[HY.out];simp[T]);clear T;have B:=I.out;rw[if_pos (by rw[av.out];simp)] at B;have L:=hI B;clear B I;go_wp2_with fail
 go_quiet (fail)
 go_wp2_with fail
 go_roundw
 case rel=>exact⟨k+1,(k:Int),by omega,by go_num,rfl,.inr ⟨k,rfl,by omega⟩,L,hI (J.step _)⟩
 case measure=>simp[intOf]<;>omega}
 {
 have av:=hI (show tL (ax t.cds (h:Int)) (k:Int)=true from by unfold tL;rw[HY.out];simp[T]);obtain⟨e,_,_,_,r,_,_,_,_,s,Z,_,_,u3,_,u4,hP,hC,b0,-,_,-,rfl,cd,_,-,_,-,b6,-,_,_,_,-⟩:=dB (HT.below bq) bs (k:=G) a1 bo;injection hP with hP;injection hP with e1 e2;subst e1 e2;have bN:=hI (show atI (ax t.pts (h:Int)) (G:Int)=Z from gd b0 b6);have cx:decide ((G:Int)<0)=false:=by simp
 clear T hC b0 cd b6;by_cases b1:Z<x
 {
 have a':decide (Z<x)=true:=decide_eq_true b1;have B:=I.out;rw[if_pos (by rw[av.out,HX.out,bN.out,a'];simp)] at B;have L:=hI B;clear B I;go_wp2_with fail
 go_quiet (fail)
 go_wp2_with fail
 go_roundw
 case rel=>exact⟨k+1,(k:Int),by omega,by go_num,rfl,.inr ⟨k,rfl,by omega⟩,L,hI (J.step _)⟩
 case measure=>simp[intOf]<;>omega}
 {
 have a':decide (Z<x)=false:=decide_eq_false b1;have B:=I.out;rw[if_neg (by rw[av.out,HX.out,bN.out,a'];simp)] at B;have L:=hI B;clear B I;go_wp2_with fail
 go_quiet (fail)
 go_wp2_with fail
 go_roundw
 case rel=>exact⟨k+1,(G:Int),by omega,by go_num,rfl,.inr ⟨G,rfl,a1⟩,L,hI (J.step _)⟩
 case measure=>simp[intOf]<;>omega}}}}}
 {
 obtain rfl:k=n:=by omega
 have ch:decide ((k:Int)<(k:Int))=false:=by simp
 have N:=HS.out;rw[Nat.sub_self,jF] at N;have cr:=hI N;have Z:=J.own HO;have Y:=HB.trans (J.below.mono (qM cb cn));have ad:=hI (show lD (ax t.pts (h:Int)) (ax t.cds (h:Int)) R (sT F O)=V from by rw[N];exact a2);clear N HS;rcases hB with rfl|⟨G,rfl,a1⟩
 {
 have a7:=hI Z;have N:=hI Y;have a6:=hI (show lD (ax t.pts (h:Int)) (ax t.cds (h:Int)) R F=V from ad);clear Z Y ad;go_wp2_with fail
 go_roundw
 case rel=>exact⟨R,F,by have:=ar.out;omega,by rw[ar.out];go_num,a8,a6,a7,N⟩
 case measure=>simp[intOf]<;>omega}
 {
 obtain⟨gm,z,H,-,-,hz,cf,_⟩:=lZ Z (k:=G) a1;injection H with H;injection H with H _;subst H;have a7:=hI (vK (k:=G) Z true);have N:=hI (Y.setCell (p:=⟨w.heap.size+1,G,none⟩) (qA _) (.bool true));have ca:=hI (show(F.set G true).length=k from by rw[List.length_set];exact a8);have a6:=hI (show lD (ax t.pts (h:Int)) (ax t.cds (h:Int)) R (F.set G true)=V from by have h1:=ad.out;unfold sT at h1;rw[if_pos (by omega),qP] at h1;exact h1);clear Z Y ad hz;go_wp2_with fail
 go_roundw
 case rel=>exact⟨R,F.set G true,by have:=ar.out;omega,by rw[ar.out];go_num,ca,a6,a7,N⟩
 case measure=>simp[intOf]<;>omega}})})}
theorem fB (P:OA)(n c:Nat)(C:OA)(m d:Nat)(t:Tb)(G:bl t)(A:OA)(l cl:Nat)(B:LI)(a':B.length≤3)(h:Nat)(L:(h:Int)<t.boats)(w:World)(u:RdT w P n C m t)(Y:Rd w 1 A l (ints B)):Calls prog 242 #[.agg #[t.boats,.slice P n c,.slice C m d],.slice A l cl,h] w (Fq w (cntT t B h)):=by{
 have cn:n≤12:=by have:=G.many;have:=u.pts.len;omega
 have a8:=u.pts.len;obtain rfl:n=m:=by have:=u.cds.len;have:=G.same;omega
 obtain⟨wa,ba,J,H,cb⟩:=ae w #[t.boats,.slice P n c,.slice C n d] 76;have R:=hI ba;have N:=hI H;have V:=hI J;have O:=hI (xP P n c C n d t G A l cl B a' h L wa (u.below H) (Y.below H));have M:(ax t.pts h).length=n:=by rw[dN,a8]
 have I:=DX (ax t.pts h) (ax t.cds h) (leN t.pts.length B);have U:cntT t B h=tS 0 (ax t.pts h) (Bb (ax t.pts h) (ax t.cds h) (leN t.pts.length B)):=(He _ _ _ I.1 I.2).symm;have Z:=I.1;have bR:(cntT t B h).length≤12:=cT G B h;generalize Bb (ax t.pts h) (ax t.cds h) (leN t.pts.length B)=F at *;generalize cntT t B h=D at *;have av:=hI (show F.length=n from Z.trans M);have bn:=hI M;have HT:=hI u;have bv:=hI G;have bk:=hI L;have W:=J.f3;have T:=hI (show D=[]++tS 0 ((ax t.pts h).drop 0) (F.drop 0) from by rw[U];simp);clear ba H cb J u Y G L a8 M U Z I a';go_enter func242,ntmps242;go_wp2_with fail
 rw[←R.out];clear R;go_wp2_with fail
 refine O.mono ?_;rintro e I⟨_,L,_,rfl,H,G⟩;have b5:L=n:=by{
 have u:=H.1;simp only[ja,qV,Nat.mul_one] at u;have:=av.out;omega}
 subst b5;have bo:=hI H;have Y:=zb N G;have bN:=hI (V.below G);obtain⟨wc,u⟩:∃wc,wc=I.alloc (.cells #[] 2):=⟨_,rfl⟩;have J:=df I I.heap.size 2 (qA _);rw[←u] at J;have Z:BL I wc:=by rw[u];exact(qB _ _).alloc (qA _) _
 have R:=hI u;have U:=hI J;have M:=hI Z;clear H G V O W N u J Z;go_wp2_with fail
 rw[←R.out];clear R;go_loopw [8,9] (λv i wr=>∃(k R O:Nat) (u:LI),k≤L∧i=.int .i64 k∧v=.slice (some ⟨R,0,none⟩) u.length O∧Hid (D=u++tS k ((ax t.pts h).drop k) (F.drop k))∧Hid (wr.ownsRow I.heap.size 2 1 (.slice (some ⟨R,0,none⟩) u.length O) u.length (ints u))∧Hid (BL I wr)) (λ_ i _=>L-(intOf i).toNat)
 case atStart=>exact⟨0,_,0,[],qH _,rfl,rfl,T,U,M⟩
 case round=>(
 clear U M T;obtain⟨k,R,O,u,_,rfl,rfl,M,N,J⟩:=hrel;obtain⟨wo,cc⟩:∃wo:World,wo=wr:=⟨_,rfl⟩;subst cc;have ar:=hI (Y.trans (J.mono Y.size));have ca:=J.size;have co:u.length≤12:=by have:=bR;have:=congrArg List.length M;rw[qJ] at this;omega
 by_cases ad:k<L
 {
 have b6:decide ((k:Int)<(L:Int))=true:=by simpa using ad
 obtain⟨_,z,T,-,-,U,_,-⟩:=lZ (aa bo J) (k:=k) ad;injection T with T;injection T with T _;subst T;obtain⟨_,_,_,_,p,_,_,_,_,q,x,y,_,_,_,_,rfl,bP,hd,b2,b0,b1,rfl,bO,_,bW,_,b9,hx,hy,cd,cf,ch,ck⟩:=dB (HT.below ar) bv (k:=k) ad bk;have a6:F.drop k=z::F.drop (k+1):=by{
 have a2:k<F.length:=by have:=av.out;omega
 rw[List.drop_eq_getElem_cons a2];rw[qG a2] at U;injection U with U;rw[U]}
 have H:=M.out;rw[zH hd hx,a6,tS] at H;have V:=hI H;clear H M hd b2 hx hy bP bO b1 ck cd cf bW b9 a6 U;have W:=(bN.below J).f3
 cases z with
 | true=>{
 have G:=V.out;rw[if_pos rfl,List.nil_append] at G;have Z:=hI G;clear G V W b0 ch;go_wp2_with fail
 go_roundw
 case rel=>exact⟨k+1,R,O,u,by omega,by go_num,rfl,Z,N,J⟩
 case measure=>simp[intOf]<;>omega}
 | false=>{
 have G:=V.out;rw[if_neg (by simp)] at G;have Z:=hI (show D=(u++[x])++tS (k+1) ((ax t.pts (h:Int)).drop (k+1)) (F.drop (k+1)) from by rw[G];simp);clear G V;go_wp2_with(at_builtin;refine rS (y:=x) _ rfl _ _ rfl rfl (aa N (za _ _)) rfl (heap_alloc_new _ _) (by omega) ?cBb ?_;rotate_left;intro g9 W w9 a7 a1 b7 cm)
 {
 have bb:=hI ((J.alloc ca _).grown a1 (by simp;omega) (λj hj=>(N.lt j hj).1));have bs:=hI (show w9.ownsRow I.heap.size 2 1 (.slice (some ⟨g9,0,none⟩) (u++[x]).length W) (u++[x]).length (ints (u++[x])) from by rw[qJ];exact a7);clear a7 a1 b7;go_roundw
 case rel=>exact⟨k+1,g9,W,u++[x],by omega,by go_num,by rw[qJ];rfl,Z,bs,bb⟩
 case measure=>simp[intOf]<;>omega}
 {first|omega|(simp;omega)}}}
 {
 obtain rfl:k=L:=by omega
 have H:=M.out;rw[qK (by rw[bn.out];exact qA _),zK,qa] at H;have W:=hI H;have bp:=hI (an N Y.size);clear H M N;have b6:decide ((k:Int)<(k:Int))=false:=by simp
 go_wp2_with fail
 go_ret;exact⟨R,u.length,O,rfl,by rw[W.out];exact bp,by omega,ar⟩})}
theorem ju (A:OA)(n c:Nat)(X:LI)(u:∀x∈X,0≤x∧x≤10000)(O:n≤12)(w:World)(F:Rd w 1 A n (ints X)):Calls prog 241 #[.slice A n c] w λe N=>e=.returned (.int .i64 (de X))∧w=N:=by{
 have L:=hI F.len_int;have J:=hI u;have h:=hI (show de X=0+de (X.drop 0) from by simp);clear u;go_enter func241,ntmps241;go_wp2_with fail
 go_loop [3,4] (λv i=>∃(k:Nat) (S:Int),k≤n∧i=.int .i64 k∧v=.int .i64 S∧0≤S∧S≤10000*k∧Hid (de X=S+de (X.drop k))) (λ_ i=>n-(intOf i).toNat)
 case atStart=>exact⟨0,0,qH _,rfl,rfl,by omega,by omega,h⟩
 case round=>(
 clear h;obtain⟨k,S,_,rfl,rfl,_,_,u⟩:=hrel;by_cases H:k<n
 {
 have M:decide ((k:Int)<(n:Int))=true:=by simpa using H
 obtain⟨b,o,x,rfl,I,G,_⟩:=F.int H;obtain⟨_,_⟩:=J x (qF I);have h:=u.out;rw[G,de] at h;have B:=hI (show de X=(S+x)+de (X.drop (k+1)) from by omega);clear h u I G;go_wp2_with fail
 go_round
 case rel=>exact⟨k+1,S+x,by omega,by go_num,by go_num,by omega,by omega,B⟩
 case measure=>simp[intOf]<;>omega}
 {
 obtain rfl:k=n:=by omega
 have M:decide ((k:Int)<(k:Int))=false:=by simp
 have h:=u.out;rw[qK (by rw[L.out];exact qA _),de] at h;have B:=hI h;clear h u;go_wp2_with fail
 go_ret;exact⟨dK (by rw[B.out];omega),rfl⟩})}
theorem xF {F:Array Oper}{rest:List Oper}{o:Oper}{a:Act}{Q:Exit→Act→World→Prop}(w:World)(I:o.guard=none)(s x:Operand)(L:o.op=.call { callee:=.builtin .append,args:=#[s,x],argTypes:=#[44,44] }){h A:OA}{u c:Nat}(M:a.eval s=.slice h 0 u)(O:a.eval x=.slice A 0 c)(H:wpList prog F Q rest (a.put o.dst (.slice h 0 u)) w):wpList prog F Q (o::rest) a w:=by{
 obtain⟨i,J,_,_,_⟩:=info_parts kh;have N:Src prog i.size 44 (.slice A 0 c) 0 [] w:=by{
 cases A with
 | none=>exact Src.ofNil w underlying44 c
 | some G=>exact Src.ofSlice w underlying44 G 0 c [] (by simp) (λj R B=>by simp at B) (λR B=>by simp at B)}
 have G:=run_append_nothing (P:=prog) w 44 44 o.type 2 i underlying44 J h 0 u (qH _) (.slice A 0 c) N;refine wpList_plain I λK B=>?_
 unfold Oper.wp;simp[execOp,L,resolve,invoke,builtin,M,O,G,Result.andThen];exact B _ _ H}
theorem xD (h:Int→Int→Bool)(m i:Nat)(u:LI):cK h (m+1) i u=cK h m (i+1) (dE h i u):=rfl
theorem Bj (u:Int→Int→Bool)(j:Nat)(h:LI):dE u (j+1) h=if u (h.getD (j+1) 0) (h.getD j 0) then dE u j (kF j h) else h:=rfl
theorem lJ (A:OA)(n c:Nat)(X:LI)(hn:n≤12)(w:World)(u:Rd w 1 A n (ints X)):Calls prog 315 #[.slice A n c] w (Fq w (aU ll X)):=by{
 have av:=hI u.len_int;obtain⟨R,h⟩:∃R,R=w.alloc (.cells #[] 2):=⟨_,rfl⟩;have I:BL w R:=by rw[h];exact(qB _ _).alloc (qA _) _
 have b1:R.heap.size=w.heap.size+1:=by rw[h];simp
 have J:=df w w.heap.size 2 (qA _);rw[←h] at J;have F:=hI h;have N:∀(w1:World) (g M:Nat),w1.ownsRow w.heap.size 2 1 (.slice (some ⟨g,0,none⟩) n M) n (ints X)→BL w w1→True:=λ_ _ _ _ _=>trivial
 have G:=hI (u.below I);have B:=hI J;have L:=hI I;rcases Nat.eq_zero_or_pos n with V|V
 {
 subst V;have H:X=[]:=List.eq_nil_of_length_eq_zero av;subst H;clear h I J N u;go_enter func315,ntmps315;go_wp2_with(at_builtin;rw[←F.out];refine xF _ rfl _ _ rfl rfl rfl ?_)
 clear F;go_loopw [4] (λi wr=>∃k:Nat,k=1∧i=.int .i64 k∧Hid (wr=R)) (λ_ _=>0)
 case atStart=>exact⟨1,rfl,rfl,hI rfl⟩
 case round=>(
 obtain⟨k,rfl,rfl,O⟩:=hrel;have T:=O.out;subst T;go_wp2_with fail
 go_ret;exact⟨w.heap.size,0,0,rfl,B,by omega,L⟩)}
 {
 obtain⟨_,_,rfl,-⟩:=u.pos V;clear h I J N u;go_enter func315,ntmps315;go_wp2_with(at_builtin;rw[←F.out];refine yv _ rfl _ _ rfl (xs:=[]) rfl B rfl G V (by omega) (by omega) n (by omega) ?_;intro h M w1 I N O u)
 rw[List.nil_append] at I;have J:=hI (L.grown N (by omega) (λk u=>(B.lt k u).1));have u:=hI I;clear I N O F B L G;have N:=(u.lt h rfl).1;have B:=hI (show cK ll (n-1) 1 X=aU ll X from by unfold aU;rw[av.out]);go_wp2_with fail
 go_loopw [4] (λi wr=>∃(k:Nat) (O:LI),1≤k∧k≤n+1∧k≤17∧i=.int .i64 k∧Hid (cK ll (n-k) k O=aU ll X)∧Hid (wr.ownsRow w.heap.size 2 1 (.slice (some ⟨h,0,none⟩) n M) n (ints O))∧Hid (BL w wr)) (λi _=>n-(intOf i).toNat)
 case atStart=>exact⟨1,X,by omega,by omega,by omega,rfl,B,u,J⟩
 case round=>(
 clear B u J;obtain⟨k,O,_,_,_,rfl,G,F,u⟩:=hrel;by_cases bO:k<n
 {
 have I:=G.out;rw[show n-k=(n-(k+1))+1 by omega,xD] at I;have T:=hI I;clear I G;go_wp2_with fail
 go_loopw [5] (λi wr=>∃(j:Nat) (B:LI),j≤k∧i=.int .i64 j∧Hid (dE ll j B=dE ll k O)∧Hid (wr.ownsRow w.heap.size 2 1 (.slice (some ⟨h,0,none⟩) n M) n (ints B))∧Hid (BL w wr)) (λi _=>(intOf i).toNat)
 case atStart=>exact⟨k,O,qA _,rfl,hI rfl,F,u⟩
 case round=>(
 clear F u;obtain⟨j,B,_,rfl,HI,F,u⟩:=hrel;obtain⟨L,bp⟩:∃L:World,L=wr:=⟨_,rfl⟩;subst bp;by_cases hj:j=0
 {
 subst hj;have ar:=hI (show cK ll (n-(k+1)) (k+1) B=aU ll X from by rw[←T.out,←HI.out,dE]);go_wp2_with fail
 go_quiet (fail)
 go_wp2_with fail
 go_roundw
 case rel=>exact⟨k+1,B,by omega,by omega,by omega,by go_num,ar,hI ((bI.refl _).own F),hI (u.trans ((ac _ L _).mono u.size))⟩
 case measure=>simp[intOf];omega}
 {
 obtain⟨p,J⟩:∃p,j=p+1:=⟨j-1,by omega⟩;obtain⟨g2,x,W,-,-,H,Y,a1⟩:=aY F (k:=j) (by omega);obtain rfl:h=g2:=by injection W with e;injection e
 obtain⟨g3,y,a6,-,-,hy,Z,a2⟩:=aY F (k:=p) (by omega);obtain rfl:h=g3:=by injection a6 with e;injection e
 have a7:dE ll j B=if ll x y then dE ll p ((B.set j y).set p x) else B:=by{
 rw[J] at H ⊢;rw[Bj,kF,qC,qC,H,hy];rfl}
 have U:=hI a7;have HP:=hI J;have bo:IntKind.i64.wrap ((j:Int)-1)=(p:Int):=by rw[IntWalk.i64_in _ (by omega)];omega
 have bn:=hI (show wrap64 ((j:Int)-1)=(p:Int) from by rw[IntWalk.wrap64_in _ (by omega)];omega);have bP:p<j:=by omega
 have bR:j≤p+1:=by omega
 have bW:p<n:=by omega
 have bN:j<n:=by omega
 have b0:decide (0<j)=true:=by simp;omega
 clear W a6 a7 H hy J;by_cases W:x<y
 {
 have ad:decide (x<y)=true:=decide_eq_true W;have J:=U.out;rw[if_pos (by unfold ll;exact ad)] at J;have bk:=hI J;clear J U W;go_wp2_with fail
 go_quiet (fail)
 obtain⟨wq,a8,H⟩:∃wq,wq=L.drewN nq∧BL L wq:=⟨_,rfl,ac _ _ _⟩;rw[←a8];have bq:=(H.cell (p:=⟨h,j,none⟩) (au Y)).trans Y;have bs:=(H.cell (p:=⟨h,p,none⟩) (au Z)).trans Z;have bt:=(H.frozen (p:=⟨h,j,none⟩) (au Y)).trans a1;have bv:=(H.frozen (p:=⟨h,p,none⟩) (au Z)).trans a2;have ba:=hI (dn (k:=p) (dn (k:=j) (aa F H) y) x);have a':=hI (((u.trans (H.mono u.size)).setCell (p:=⟨h,j,none⟩) N (.int .i64 y)).setCell (p:=⟨h,p,none⟩) N (.int .i64 x));clear a8 H F u Y Z a1 a2 ad;go_wp2_with fail
 go_roundw
 case rel=>exact⟨p,(B.set j y).set p x,by omega,by first|go_num|(rw[bn.out])|(congr 1),by unfold Hid;rw[←HI.out,bk.out],ba,a'⟩
 case measure=>simp[intOf]<;>omega}
 {
 have ad:decide (x<y)=false:=decide_eq_false W;have J:=U.out;rw[if_neg (by unfold ll;rw[ad];simp)] at J;have ar:=hI (show cK ll (n-(k+1)) (k+1) B=aU ll X from by rw[←T.out,←HI.out,J]);clear J U W;go_wp2_with fail
 go_quiet (fail)
 clear bo;go_wp2_with fail
 go_roundw
 case rel=>exact⟨k+1,B,by omega,by omega,by omega,by go_num,ar,hI ((bI.refl _).own F),hI (u.trans ((ac _ L _).mono u.size))⟩
 case measure=>simp[intOf];omega}})}
 {
 have I:=G.out;rw[show n-k=0 by omega,cK] at I;have T:=hI I;clear I G;go_wp2_with fail
 go_ret;exact⟨h,n,M,rfl,by rw[←T.out];exact F,by omega,u⟩})}}
def Jd (w:World) (r:Int×Int×Int) (e:Ending) (h:World):Prop:=e=.returned (.tuple #[r.1,r.2.1,r.2.2])∧BL w h
theorem kA (a b:Int)(w:World):Calls prog 316 #[a,b] w λe G=>e=.returned (.int .i64 (dY (a-b)))∧G=w:=by{
 by_cases h:a<b
 {
 have e:dY (a-b)=-1:=by unfold dY;rw[if_pos (by omega)]
 have B:decide (a<b)=true:=decide_eq_true h;rw[e];clear h e;go_enter func316,ntmps316;go_wp2_with fail
 go_ret;exact⟨rfl,rfl⟩}
 {
 have B:decide (a<b)=false:=decide_eq_false h;by_cases u:b<a
 {
 have e:dY (a-b)=1:=by unfold dY;rw[if_neg (by omega),if_pos (by omega)]
 have F:decide (b<a)=true:=decide_eq_true u;rw[e];clear h u e;go_enter func316,ntmps316;go_wp2_with fail
 go_ret;exact⟨rfl,rfl⟩}
 {
 have e:dY (a-b)=0:=by unfold dY;rw[if_neg (by omega),if_neg (by omega)]
 have F:decide (b<a)=false:=decide_eq_false u;rw[e];clear h u e;go_enter func316,ntmps316;go_wp2_with fail
 go_ret;exact⟨rfl,rfl⟩}}}
theorem BV {t:Tb}{rule:LI}{a b:Int}(h:cz t rule a≠cz t rule b):iB t rule a b=(dY (cz t rule a-cz t rule b),1,0):=by unfold iB;rw[if_pos h]
theorem zO {t:Tb}{rule:LI}{a b d:Int}(h:cz t rule a=cz t rule b)(B:bH (fu t rule a) (fu t rule b)=d)(F:d≠0):iB t rule a b=(dY d,2,0):=by{
 unfold iB;rw[if_neg (λu=>u h),B,if_pos F]}
theorem xS {t:Tb}{rule:LI}{a b d k:Int}(u:cz t rule a=cz t rule b)(B:bH (fu t rule a) (fu t rule b)=0)(F:ce (ax t.pts a) (ax t.pts b) t.pts.length=(d,k))(G:d≠0):iB t rule a b=(dY d,3,k):=by{
 unfold iB;rw[if_neg (λh=>h u),if_neg (λh=>h B),F,if_pos G]}
theorem zf {t:Tb}{rule:LI}{a b k:Int}(u:cz t rule a=cz t rule b)(B:bH (fu t rule a) (fu t rule b)=0)(F:ce (ax t.pts a) (ax t.pts b) t.pts.length=(0,k)):iB t rule a b=(0,0,0):=by{
 unfold iB;rw[if_neg (λh=>h u),if_neg (λh=>h B),F,if_neg (λh=>h rfl)]}
theorem ix (P Q:LI)(k:Nat):ce P Q (k+1)=if atI P k=atI Q k then ce P Q k else(atI P k-atI Q k,(k:Int)):=rfl
theorem qn (x y:Int)(h u:LI):bH (x::h) (y::u)=if x=y then bH h u else x-y:=rfl
theorem yl (P:OA)(n c:Nat)(C:OA)(m d:Nat)(t:Tb)(B:bl t)(A:OA)(l cl:Nat)(u:LI)(L:u.length≤3)(a b:Nat)(ha:(a:Int)<t.boats)(I:(b:Int)<t.boats)(w:World)(h:RdT w P n C m t)(J:Rd w 1 A l (ints u)):Calls prog 286 #[.agg #[t.boats,.slice P n c,.slice C m d],.slice A l cl,a,b] w (Jd w (iB t u a b)):=by{
 have e7:n≤12:=by have:=B.many;have:=h.pts.len;omega
 have c0:=h.pts.len;obtain rfl:n=m:=by have:=h.cds.len;have:=B.same;omega
 obtain⟨_,c4,H,Z,er⟩:=ae w #[t.boats,.slice P n c,.slice C n d] 76;have W:=hI c4;have cw:=hI Z;have Y:=hI H;have O:=hI (λw' (bq:BL w w')=>fB P n c C n d t B A l cl u L a ha w' (h.below bq) (J.below bq));have R:=hI (λw' (bq:BL w w')=>fB P n c C n d t B A l cl u L b I w' (h.below bq) (J.below bq));have cC:=hI (show ∀x∈fu t u a,0≤x∧x≤10000 from λx N=>gS B (jO.1 N));have cL:=hI (show ∀x∈fu t u b,0≤x∧x≤10000 from λx N=>gS B (jO.1 N));have ch:=cT B u a;have ck:=cT B u b;have d1:=hI (nW t u a);have d2:=hI (nW t u b);have F:=hI (λA n c hn w h=>lJ A n c (cntT t u a) hn w h);have G:=hI (λA n c hn w h=>lJ A n c (cntT t u b) hn w h);have cN:aU ll (cntT t u a)=fu t u a:=rfl;have cR:aU ll (cntT t u b)=fu t u b:=rfl;rw[cN] at F;rw[cR] at G;have dc:=hI (ez t u a);have dq:=hI (ez t u b);have T:=hI (λh=>BV (t:=t) (rule:=u) (a:=a) (b:=b) h);have U:=hI (λd h h2 M=>zO (t:=t) (rule:=u) (a:=a) (b:=b) (d:=d) h h2 M);have a7:=hI (λd k h h2 h3 M=>xS (t:=t) (rule:=u) (a:=a) (b:=b) (d:=d) (k:=k) h h2 h3 M);have a8:=hI (λk h h2 h3=>zf (t:=t) (rule:=u) (a:=a) (b:=b) (k:=k) h h2 h3);rw[c0] at a7 a8;have HT:=hI h;have bP:=hI B;have cs:=hI ha;have cB:=hI I;generalize iB t u a b=eT at *;generalize fu t u a=X at *;generalize fu t u b=a1 at *;generalize cz t u a=NA at *;generalize cz t u b=NB at *;have V:=H.f3;clear c4 Z er H h J B ha I c0 L cN cR;go_enter func286,ntmps286;go_wp2_with fail
 rw[←W.out];clear W;go_wp2_with fail
 refine(O _ cw).mono ?_;rintro e w1⟨g1,n1,c1,rfl,B,_,h⟩;have c8:=zb cw h;have J:=hI (Y.below h);have L:=eU B;have H:=F (some ⟨g1,0,none⟩) n1 c1 (by omega) w1 (az B);have I:=hI H;clear B h O Y V H F L;go_wp2_with fail
 refine I.mono ?_;rintro e w2⟨gx,Z,cx,rfl,F,_,h⟩;have H:=hI F;have cv:=zb c8 h;have B:=hI (J.below h);have V:=B.f3;clear F h J I;go_wp2_with fail
 refine(R _ cv).mono ?_;rintro e w3⟨g3,n3,c3,rfl,F,_,h⟩;have c9:=zb cv h;have L:=hI (B.below h);have I:=hI (aa H h);have W:=eU F;have O:=G (some ⟨g3,0,none⟩) n3 c3 (by omega) w3 (az F);have J:=hI O;clear F h R B H V O G W;go_wp2_with fail
 refine J.mono ?_;rintro e w4⟨gy,ny,cy,rfl,G,_,F⟩;have h:=az (aa I F);have B:=az G;have a':=zb c9 F;have d5:=hI (L.below F);have ee:Z≤12:=by have h1:=h.len_int;have:=dc.out;omega
 have eg:ny≤12:=by have h1:=B.len_int;have:=dq.out;omega
 have dA:=hI h.len_int;have d0:=hI B.len_int;have d3:=hI h;have d4:=hI B;have bR:=hI (ju (some ⟨gx,0,none⟩) Z cx X cC ee w4 h);have bW:=hI (ju (some ⟨gy,0,none⟩) ny cy a1 cL eg w4 B);rw[d1.out] at bR;rw[d2.out] at bW;clear G F L I J h B;by_cases h:NA=NB
 rotate_left
 {
 have F:(NA !=NB)=true:=by simp[h]
 have O:=hI (T h);clear h;go_wp2_with fail
 refine bR.mono ?_;rintro e w5⟨rfl,rfl⟩;go_wp2_with fail
 refine bW.mono ?_;rintro e w5⟨rfl,rfl⟩;go_wp2_with fail
 refine bR.mono ?_;rintro e w5⟨rfl,rfl⟩;go_wp2_with fail
 refine bW.mono ?_;rintro e w5⟨rfl,rfl⟩;go_wp2_with fail
 refine(kA _ _ _).mono ?_;rintro e w5⟨rfl,rfl⟩;go_wp2_with fail
 go_ret3;exact⟨by rw[O.out];rfl,a'⟩}
 have F:(NA !=NB)=false:=by simp[h]
 have bn:=hI h;have B:=hI (show bH X a1=bH (X.drop 0) (a1.drop 0) from by rw[qd,qd]);clear h T;go_wp2_with fail
 refine bR.mono ?_;rintro e w5⟨rfl,rfl⟩;go_wp2_with fail
 refine bW.mono ?_;rintro e w5⟨rfl,rfl⟩;go_wp2_with fail
 clear F;go_loopw [13] (λi wr=>∃k:Nat,k≤Z∧k≤ny∧i=.int .i64 k∧Hid (bH X a1=bH (X.drop k) (a1.drop k))∧Hid (bI w4 wr)) (λi _=>Z-(intOf i).toNat)
 case atStart=>exact⟨0,qH _,qH _,rfl,B,hI (bI.refl _)⟩
 case round=>(
 clear B;obtain⟨k,_,_,rfl,I,HQ⟩:=hrel;obtain⟨wo,eA⟩:∃wo:World,wo=wr:=⟨_,rfl⟩;subst eA;by_cases W:k<Z∧k<ny
 {
 obtain⟨ch,ck⟩:=W;have e5:decide ((k:Int)<(Z:Int))=true:=by simpa using ch
 have e6:decide ((k:Int)<(ny:Int))=true:=by simpa using ck
 obtain⟨_,_,x,e1,N,M,L⟩:=(d3.drawn HQ).int ch;obtain⟨_,_,y,e2,hy,ar,T⟩:=(d4.drawn HQ).int ck;injection e1 with e1;injection e1 with R q2;subst R q2;injection e2 with e2;injection e2 with R q2;subst R q2;simp only[Nat.zero_add] at L T;obtain⟨c5,c6⟩:=cC x (qF N);obtain⟨_,_⟩:=cL y (qF hy);have h:=I.out;rw[M,ar,qn] at h;have J:=hI h;clear h I M ar N hy;by_cases F:x=y
 {
 have bt:(x !=y)=false:=by simp[F]
 have h:=J.out;rw[if_pos F] at h;have bk:=hI h;clear h J F;go_wp2_with fail
 go_quiet (fail)
 go_wp2_with fail
 go_roundw
 case rel=>exact⟨k+1,by omega,by omega,by go_num,bk,hI (HQ.step _)⟩
 case measure=>simp[intOf]<;>omega}
 {
 have bt:(x !=y)=true:=by simp[F]
 have h:=J.out;rw[if_neg F] at h;have O:=hI (U (x-y) bn h (by omega));clear h J F U a7 a8;go_wp2_with fail
 go_quiet (fail)
 obtain⟨H,G,B⟩:∃H,H=wo.drewN nq∧BL wo H:=⟨_,rfl,ac _ _ _⟩;rw[←G];have Y:=(B.cell (p:=⟨gx,k,none⟩) (au L)).trans L;have e0:=(B.cell (p:=⟨gy,k,none⟩) (au T)).trans T;have ba:=hI (a'.trans ((HQ.below.trans (B.mono HQ.below.size)).mono a'.size));clear G B L T;go_wp2_with fail
 go_quiet ((go_at_call 316;exact Calls.quiet_of_same (kA _ _ _)))
 obtain⟨T,G,B⟩:∃T,T=H.drewN nq∧BL H T:=⟨_,rfl,ac _ _ _⟩;rw[←G];have bb:=zb ba B;clear G B;go_wp2_with fail
 go_ret3;exact⟨by rw[O.out];rfl,bb⟩}}
 {
 have hz:bH X a1=0:=by{
 rw[I.out];rcases Nat.lt_or_ge k Z with h1|h1
 {rw[show a1.drop k=[] from qK (by rw[d0.out];omega),pE]}
 {rw[show X.drop k=[] from qK (by rw[dA.out];omega),n_]}}
 have HZ:=hI hz;have ek:Z≤k∨(k<Z∧ny≤k):=by omega
 have ad:=hI (a'.trans (HQ.below.mono a'.size));have bo:=hI (d5.below HQ.below);have bO:=hI (show ce (ax t.pts a) (ax t.pts b) ((((n:Int)-1)+1).toNat)=ce (ax t.pts a) (ax t.pts b) n from by congr 1;omega);have V:=bo.f3;clear hz I W U;rcases ek with e1|⟨e1,e2⟩
 {
 go_wp2_with fail
 clear V;go_loopw [14] (λi wr=>∃z:Int,i=.int .i64 z∧-1≤z∧z≤(n:Int)-1∧Hid (ce (ax t.pts a) (ax t.pts b) ((z+1).toNat)=ce (ax t.pts a) (ax t.pts b) n)∧Hid (bI wo wr)) (λi _=>(intOf i+1).toNat)
 case atStart=>exact⟨_,rfl,by omega,by omega,bO,hI (bI.refl _)⟩
 case round=>(
 clear bO;obtain⟨z,rfl,eK,eP,I,L⟩:=hrel;obtain⟨wp,co⟩:∃wp:World,wp=wr:=⟨_,rfl⟩;subst co;by_cases bv:0≤z
 {
 obtain⟨j,rfl⟩:=aC z bv;have bs:j<n:=by omega
 have av:=hI (ad.trans (L.below.mono ad.size));obtain⟨bp,op,A',c',p,b',o',A2,c2,q,x,y,b3,o3,b4,o4,rfl,rfl,M,cd,W,cb,rfl,rfl,d6,b9,em,cm,N,hy,c5,c6,a2,cq⟩:=dB (HT.below av) bP (k:=j) bs cs;obtain⟨e,eR,B',f',r,e',u',B2,f2,s,U,y',e3,u3,e4,u4,hP,hC,ar,cf,Y,cc,b7,rfl,d7,ca,en,cn,bN,cp,eC,eD,a6,cr⟩:=dB (HT.below av) bP (k:=j) bs cB;injection hP with hP;injection hP with b5 b6;subst b5 b6;rw[W] at Y;injection Y with Y;injection Y with R q2 q3;subst b7;injection R with R;injection R with q4 q5;subst q4 q5;have HX:=hI (show atI (ax t.pts (a:Int)) (j:Int)=x from gd M N);have b0:=hI (show atI (ax t.pts (b:Int)) (j:Int)=U from gd ar bN);have d8:b<p.length:=by omega
 have h:=I.out;rw[show((j:Int)+1).toNat=j+1 by omega,ix,HX.out,b0.out] at h;have J:=hI h;have V:=(bo.below L.below).f3;have d':decide ((0:Int)≤(j:Int))=true:=by simp
 clear h I M cd ar cf N hy bN cp hC cb cc cq cr q2 q3 b9 ca cm cn bv;by_cases F:x=U
 {
 have bt:(x !=U)=false:=by simp[F]
 have h:=J.out;rw[if_pos F] at h;have bk:=hI (show ce (ax t.pts (a:Int)) (ax t.pts (b:Int)) ((((j:Int)-1)+1).toNat)=ce (ax t.pts (a:Int)) (ax t.pts (b:Int)) n from by rw[←h];congr 1;omega);clear h J F;go_wp2_with fail
 go_quiet (fail)
 go_wp2_with fail
 go_roundw
 case rel=>exact⟨(j:Int)-1,by first|rfl|go_num,by omega,by omega,bk,hI (L.step _)⟩
 case measure=>simp[intOf]<;>omega}
 {
 have bt:(x !=U)=true:=by simp[F]
 have h:=J.out;rw[if_neg F] at h;have O:=hI (a7 (x-U) (j:Int) bn HZ h.symm (by omega));clear h J F a7 a8;go_wp2_with fail
 go_quiet (fail)
 obtain⟨H,G,B⟩:∃H,H=wp.drewN nq∧BL wp H:=⟨_,rfl,ac _ _ _⟩;rw[←G];have d9:=(B.cell (p:=⟨bp,op+j,none⟩) (au W)).trans W;have eE:=(B.cell (p:=⟨b3,o3+a,none⟩) (au a2)).trans a2;have eH:=(B.cell (p:=⟨b3,o3+b,none⟩) (au a6)).trans a6;have ba:=zb av B;have c7:=(bo.below (L.below.trans (B.mono L.below.size))).f3;clear G B W a2 a6 V;go_wp2_with fail
 go_quiet ((go_at_call 316;exact Calls.quiet_of_same (kA _ _ _)))
 obtain⟨T,G,B⟩:∃T,T=H.drewN nq∧BL H T:=⟨_,rfl,ac _ _ _⟩;rw[←G];have bb:=zb ba B;clear G B;go_wp2_with fail
 go_ret3;exact⟨by rw[O.out];rfl,bb⟩}}
 {
 have hz:z=-1:=by omega
 subst hz;have h:=I.out;rw[show((-1:Int)+1).toNat=0 by decide,ce] at h;have O:=hI (a8 (-1) bn HZ h.symm);clear h I;go_wp2_with fail
 go_ret3;exact⟨by rw[O.out];rfl,ad.trans (L.below.mono ad.size)⟩})}
 {
 have e3:decide (k<ny)=false:=by simp;omega
 go_wp2_with fail
 clear V;go_loopw [14] (λi wr=>∃z:Int,i=.int .i64 z∧-1≤z∧z≤(n:Int)-1∧Hid (ce (ax t.pts a) (ax t.pts b) ((z+1).toNat)=ce (ax t.pts a) (ax t.pts b) n)∧Hid (bI wo wr)) (λi _=>(intOf i+1).toNat)
 case atStart=>exact⟨_,rfl,by omega,by omega,bO,hI (bI.refl _)⟩
 case round=>(
 clear bO;obtain⟨z,rfl,eK,eP,I,L⟩:=hrel;obtain⟨wp,co⟩:∃wp:World,wp=wr:=⟨_,rfl⟩;subst co;by_cases bv:0≤z
 {
 obtain⟨j,rfl⟩:=aC z bv;have bs:j<n:=by omega
 have av:=hI (ad.trans (L.below.mono ad.size));obtain⟨bp,op,A',c',p,b',o',A2,c2,q,x,y,b3,o3,b4,o4,rfl,rfl,M,cd,W,cb,rfl,rfl,d6,b9,em,cm,N,hy,c5,c6,a2,cq⟩:=dB (HT.below av) bP (k:=j) bs cs;obtain⟨e,eR,B',f',r,e',u',B2,f2,s,U,y',e3,u3,e4,u4,hP,hC,ar,cf,Y,cc,b7,rfl,d7,ca,en,cn,bN,cp,eC,eD,a6,cr⟩:=dB (HT.below av) bP (k:=j) bs cB;injection hP with hP;injection hP with b5 b6;subst b5 b6;rw[W] at Y;injection Y with Y;injection Y with R q2 q3;subst b7;injection R with R;injection R with q4 q5;subst q4 q5;have HX:=hI (show atI (ax t.pts (a:Int)) (j:Int)=x from gd M N);have b0:=hI (show atI (ax t.pts (b:Int)) (j:Int)=U from gd ar bN);have d8:b<p.length:=by omega
 have h:=I.out;rw[show((j:Int)+1).toNat=j+1 by omega,ix,HX.out,b0.out] at h;have J:=hI h;have V:=(bo.below L.below).f3;have d':decide ((0:Int)≤(j:Int))=true:=by simp
 clear h I M cd ar cf N hy bN cp hC cb cc cq cr q2 q3 b9 ca cm cn bv;by_cases F:x=U
 {
 have bt:(x !=U)=false:=by simp[F]
 have h:=J.out;rw[if_pos F] at h;have bk:=hI (show ce (ax t.pts (a:Int)) (ax t.pts (b:Int)) ((((j:Int)-1)+1).toNat)=ce (ax t.pts (a:Int)) (ax t.pts (b:Int)) n from by rw[←h];congr 1;omega);clear h J F;go_wp2_with fail
 go_quiet (fail)
 go_wp2_with fail
 go_roundw
 case rel=>exact⟨(j:Int)-1,by first|rfl|go_num,by omega,by omega,bk,hI (L.step _)⟩
 case measure=>simp[intOf]<;>omega}
 {
 have bt:(x !=U)=true:=by simp[F]
 have h:=J.out;rw[if_neg F] at h;have O:=hI (a7 (x-U) (j:Int) bn HZ h.symm (by omega));clear h J F a7 a8;go_wp2_with fail
 go_quiet (fail)
 obtain⟨H,G,B⟩:∃H,H=wp.drewN nq∧BL wp H:=⟨_,rfl,ac _ _ _⟩;rw[←G];have d9:=(B.cell (p:=⟨bp,op+j,none⟩) (au W)).trans W;have eE:=(B.cell (p:=⟨b3,o3+a,none⟩) (au a2)).trans a2;have eH:=(B.cell (p:=⟨b3,o3+b,none⟩) (au a6)).trans a6;have ba:=zb av B;have c7:=(bo.below (L.below.trans (B.mono L.below.size))).f3;clear G B W a2 a6 V;go_wp2_with fail
 go_quiet ((go_at_call 316;exact Calls.quiet_of_same (kA _ _ _)))
 obtain⟨T,G,B⟩:∃T,T=H.drewN nq∧BL H T:=⟨_,rfl,ac _ _ _⟩;rw[←G];have bb:=zb ba B;clear G B;go_wp2_with fail
 go_ret3;exact⟨by rw[O.out];rfl,bb⟩}}
 {
 have hz:z=-1:=by omega
 subst hz;have h:=I.out;rw[show((-1:Int)+1).toNat=0 by decide,ce] at h;have O:=hI (a8 (-1) bn HZ h.symm);clear h I;go_wp2_with fail
 go_ret3;exact⟨by rw[O.out];rfl,ad.trans (L.below.mono ad.size)⟩})}})}
end Go.Proofs.YtnpldahkhaacnaaGreatDoor

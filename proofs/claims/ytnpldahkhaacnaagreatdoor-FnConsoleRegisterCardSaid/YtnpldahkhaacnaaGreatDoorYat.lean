/- Texts of the walk: Tj Tl Yw. -/
import Derived.Deep.RegionHeld
import Derived.Test.YtnpldahkhaacnaaGreatDoorYaq
set_option linter.unusedVariables false
set_option linter.unusedSimpArgs false
set_option maxRecDepth 100000
set_option maxHeartbeats 32000000
namespace Go.Proofs.YtnpldahkhaacnaaGreatDoor
open Go.RowKit Go.Sort Go.Proofs.Tryz
theorem mI {wr G:World}{B n c d N L M J:Nat}{A C:OA}{I H:List Value}{t:Tb}{p:LI}(u:ds wr B A n c I C n d H t)(h:lN wr G B A n c I t.pts N L M J p):ap G B 44 2 C n d H t.cds:=u.cds.grown (w':=G) (r:=(Value.slice A n c).ownBlock) ⟨h.frame.1,h.frame.2.1,h.frame.2.2,h.size,λk O R=>h.keep k O (λe=>R e.symm)⟩ (λb F e=>u.apO b e F) (λv U b F e=>by{
 obtain⟨m,_,T⟩:=u.cds.row_ty U;exact aJ u.pts.outer T (by decide) b e F})
theorem wm {t:Tb}(u:bl t):eF t.pts≤1099511627776∧eF t.cds≤1099511627776:=by{
 have M:=u.many;have N:=u.same;have L:=u.b2;have H:∀x∈t.pts,x.length≤16:=λx F=>by{
 obtain⟨k,h⟩:=List.mem_iff_getElem?.1 F;obtain⟨q,B,_⟩:=dd (xs:=t.cds) (k:=k) (by have:=(List.getElem?_eq_some_iff.1 h).1;omega);have:=(u.row k x q h B).1.1;omega}
 have G:∀x∈t.cds,x.length≤16:=λx F=>by{
 obtain⟨k,h⟩:=List.mem_iff_getElem?.1 F;obtain⟨q,B,_⟩:=dd (xs:=t.pts) (k:=k) (by have:=(List.getElem?_eq_some_iff.1 h).1;omega);have:=(u.row k q x B h).2.1;omega}
 have I:=fL H;have J:=fL G;omega}
theorem tV (P:OA)(n c:Nat)(C:OA)(m d:Nat)(t:Tb)(h:bl t)(w:World)(J:RdT w P n C m t):Calls prog 127 #[.agg #[t.boats,.slice P n c,.slice C m d]] w (oY w t):=by{
 have hn:=J.pts.le;have dc:n≤12:=by have:=h.many;have:=J.pts.len;omega
 have cw:n=m:=by have:=h.same;have:=J.pts.len;have:=J.cds.len;omega
 subst cw;have bn:=hI h;have cd:=hI J.pts.len;have cc:=hI J.cds.len;have c4:=h.b2;have c3:=h.b1;clear h;go_enter func127,ntmps127;go_wp2_with fail
 obtain⟨I,B,X0,X1,X2,h,u⟩:=da w #[t.boats,.slice P n c,.slice C n d] #[(0:Int),.slice none 0 0,.slice none 0 0] #[t.boats,.slice none 0 0,.slice none 0 0] 76 76 76;rw[←B];have cL:=hI u;clear B;have ad:w.heap.size+1+1<I.heap.size:=by omega
 have HT:=hI (λF (H:BL w F)=>J.below H);have b6:=hI h;clear J h u;have F0:=X0.f3;have F2:=X2.f3;go_loopw [11] (λi wr=>∃(k:Nat) (M:OA) (T:Nat) (vs:List Value) (N:OA) (U:Nat) (us:List Value),k≤n∧i=.int .i64 k∧Hid (ds wr I.heap.size M k T vs N k U us ⟨t.boats,t.pts.take k,t.cds.take k⟩)∧Hid (aO wr (w.heap.size+1+1) #[t.boats,.slice M k T,.slice N k U] 76)∧Hid (Below (w.heap.size+1+1) I wr)) (λi _=>n-(intOf i).toNat)
 case atStart=>exact⟨0,none,0,[],none,0,[],qH _,rfl,hI ⟨ap.nil _ _ _ _,ap.nil _ _ _ _,λg J=>by simp[Value.ownBlock] at J,λv hv=>by cases hv⟩,hI X2,hI (qB _ _)⟩
 case round=>(
 obtain⟨k,M,T,vs,N,U,us,_,rfl,R,a8,V⟩:=hrel;have ba:=hI (b6.trans (V.mono (by omega)));have L:=V.size;clear F0 F2;have F0:=(X0.kept V (by omega)).f3;have F2:=a8.f3;by_cases bP:k<n
 {
 have G:=bn.out;obtain⟨b,o,_,c5,p,co,h,Z,bo,B⟩:=(HT w (qB _ _)).pts.row bP;obtain⟨b',o',_,c6,q,cn,u,cp,bp,O⟩:=(HT w (qB _ _)).cds.row bP;obtain⟨⟨W,_⟩,Y,_⟩:=G.row k p q h u;obtain⟨b3,o3,x,rfl,_⟩:=B.int (k:=0) (by omega);obtain⟨b4,o4,y,rfl,_⟩:=O.int (k:=0) (by omega);have cx:0<p.length∧p.length≤16:=by omega
 have cy:0<q.length∧q.length≤16:=by omega
 have cN:=hI W;have cR:=hI Y;clear W Y G;have HP:=hI h;have HQ:=hI u;clear h u Z cp;subst co cn;have a6:=hI (show ∀F,Below I.heap.size wr F→BL w F from λF H=>ba.trans (H.mono (by omega)));have ch:=hI (show ∀F,Below I.heap.size wr F→Rd F 1 (some ⟨b3,o3,none⟩) p.length (ints p) from λF H=>B.below (a6 F H));have ck:=hI (show ∀F,Below I.heap.size wr F→Rd F 1 (some ⟨b4,o4,none⟩) q.length (ints q) from λF H=>O.below (a6 F H));have b7:=hI (λF (H:Below I.heap.size wr F)=>uJ b3 o3 c5 p F ((show Rd F 1 (some ⟨b3,o3,none⟩) p.length (ints p) from ch F H)) cx.1 (by omega));have b9:=hI (λF (H:Below I.heap.size wr F)=>uJ b4 o4 c6 q F ((show Rd F 1 (some ⟨b4,o4,none⟩) q.length (ints q) from ck F H)) cy.1 (by omega));have av:=hI (show ∀G,Below I.heap.size wr G→(G.cell? ⟨w.heap.size,1,none⟩=some (.slice (some ⟨b,o,none⟩) n c)∧G.cell? ⟨w.heap.size,2,none⟩=some (.slice (some ⟨b',o',none⟩) n d)∧G.cell? ⟨w.heap.size+1+1,1,none⟩=some (.slice M k T)∧G.cell? ⟨w.heap.size+1+1,2,none⟩=some (.slice N k U)∧G.cell? ⟨b,o+k,none⟩=some (.slice (some ⟨b3,o3,none⟩) p.length c5)∧G.cell? ⟨b',o'+k,none⟩=some (.slice (some ⟨b4,o4,none⟩) q.length c6)∧Below I.heap.size wr G) from λG H=>⟨(H.cell (p:=⟨w.heap.size,1,none⟩) (show w.heap.size<_ by omega)).trans F0.2.1,(H.cell (p:=⟨w.heap.size,2,none⟩) (show w.heap.size<_ by omega)).trans F0.2.2.1,(H.cell (p:=⟨w.heap.size+1+1,1,none⟩) (show w.heap.size+1+1<_ by omega)).trans F2.2.1,(H.cell (p:=⟨w.heap.size+1+1,2,none⟩) (show w.heap.size+1+1<_ by omega)).trans F2.2.2.1,((a6 _ H).cell (p:=⟨b,o+k,none⟩) (au bo)).trans bo,((a6 _ H).cell (p:=⟨b',o'+k,none⟩) (au bp)).trans bp,H⟩);have cq:wr.frozen? ⟨w.heap.size+1+1,1,none⟩=false:=a8.fz;have cr:wr.frozen? ⟨w.heap.size+1+1,2,none⟩=false:=a8.fz;clear B O;go_wp2_with fail
 obtain⟨S,h,u⟩:∃S:World→Prop,(∀G,S G→Below I.heap.size wr G)∧(∀G,Below I.heap.size wr G→S G):=⟨λG=>Below I.heap.size wr G,λ_ J=>J,λ_ J=>J⟩;have ar:=hI h;have Y:=hI u;clear h u;refine bz (n:=24) S (λj=>decide (21≤j)) (by kernel_rfl) rfl ?_;intro dq B;have u:=Y _ (ac _ wr 1);refine zN B 0 u ?_;go_simp;refine zV B 1 (.slice M k T) rfl (by kernel_rfl) (λG u=>by obtain⟨s1,s2,s3,s4,s5,s6,_⟩:=av _ (ar _ u);go_simp) u ?_;go_simp;refine zN B 2 u ?_;go_simp;refine zV B 3 (.slice (some ⟨b,o,none⟩) n c) rfl (by kernel_rfl) (λG u=>by obtain⟨s1,s2,s3,s4,s5,s6,_⟩:=av _ (ar _ u);go_simp) u ?_;go_simp;refine zN B 4 u ?_;go_simp;refine zN B 5 u ?_;go_simp;refine zV B 6 (.slice (some ⟨b3,o3,none⟩) p.length c5) rfl (by kernel_rfl) (λG u=>by obtain⟨s1,s2,s3,s4,s5,s6,_⟩:=av _ (ar _ u);go_simp) u ?_;go_simp;refine zN B 10 u ?_;go_simp;refine zV B 11 (.slice N k U) rfl (by kernel_rfl) (λG u=>by obtain⟨s1,s2,s3,s4,s5,s6,_⟩:=av _ (ar _ u);go_simp) u ?_;go_simp;refine zN B 12 u ?_;go_simp;refine zV B 13 (.slice (some ⟨b',o',none⟩) n d) rfl (by kernel_rfl) (λG u=>by obtain⟨s1,s2,s3,s4,s5,s6,_⟩:=av _ (ar _ u);go_simp) u ?_;go_simp;refine zN B 14 u ?_;go_simp;refine zN B 15 u ?_;go_simp;refine zV B 16 (.slice (some ⟨b4,o4,none⟩) q.length c6) rfl (by kernel_rfl) (λG u=>by obtain⟨s1,s2,s3,s4,s5,s6,_⟩:=av _ (ar _ u);go_simp) u ?_;go_simp;refine zo B 7 λZ h=>?_
 go_simp;go_at_call 182;refine(b7 _ (ac _ wr 1)).mono ?_;rintro e cB⟨_,_,rfl,b0,bt,W⟩;have a1:Below I.heap.size wr cB:=((ac wr.heap.size wr 1).trans W).mono L;refine h _ _ (.inr (Y _ a1)) ?_;clear h;go_simp;refine zo B 8 λZ h=>?_
 go_simp;refine h _ _ (.inr (Y _ (Below.alloc a1 (qM L a1.size) _))) ?_;clear h;go_simp;refine zo B 9 λZ h=>?_
 refine bm (A:=M) (n:=k) (c:=T) (vs:=vs) (base:=I.heap.size) _ rfl _ _ rfl rfl (aa (aa R.pts.outer ((ac _ _ 1).trans W)) (za _ _)) rfl (bB _ _ _ (by simp) rfl) (by omega) (by have:=a1.size;simp;omega) ?_;intro ga ca w5 bR bq bN cs;have bb:=yT R.pts L ((ac _ _ 1).trans W) b0 bt L bq bR bN;have O:=bb.below R.pts L;have a7:=hI bb;clear bb bq bN bR cs b0 bt W;refine h _ _ (.inr (Y _ O)) ?_;clear h;go_simp;refine zN B 20 (Y _ O) ?_;go_simp;refine zo B 17 λZ h=>?_
 go_simp;go_at_call 182;refine(b9 _ (O.mono (by omega))).mono ?_;rintro e cC⟨_,_,rfl,b5,bv,a'⟩;have a2:Below I.heap.size wr cC:=O.trans (a'.mono (qM L O.size));refine h _ _ (.inr (Y _ a2)) ?_;clear h;go_simp;refine zo B 18 λZ h=>?_
 go_simp;refine h _ _ (.inr (Y _ (Below.alloc a2 (qM L a2.size) _))) ?_;clear h;go_simp;refine zo B 19 λZ h=>?_
 refine bm (A:=N) (n:=k) (c:=U) (vs:=us) (base:=I.heap.size) _ rfl _ _ rfl rfl (aa (aa (mI R a7).outer a') (za _ _)) rfl (bB _ _ _ (by simp) rfl) (by omega) (by have:=a2.size;simp;omega) ?_;intro gb cb w9 bW bs bO cv;have bk:=yT (mI R a7) (qM L O.size) a' b5 bv (qM L O.size) bs bW bO;have W:=O.trans (bk.below (mI R a7) (qM L O.size));have cf:=hI bk;clear bk bs bO bW cv b5 bv a';have c8:w9.frozen? ⟨w.heap.size+1+1,1,none⟩=false:=(W.frozen (p:=⟨w.heap.size+1+1,1,none⟩) ad).trans cq;have c9:w9.frozen? ⟨w.heap.size+1+1,2,none⟩=false:=(W.frozen (p:=⟨w.heap.size+1+1,2,none⟩) ad).trans cr;have c0:=(W.cell (p:=⟨w.heap.size+1+1,1,none⟩) ad).trans F2.2.1;have c1:=(W.cell (p:=⟨w.heap.size+1+1,2,none⟩) ad).trans F2.2.2.1;refine h _ _ (.inr (Y _ W)) ?_;clear h;go_simp;refine zo B 21 λZ h=>?_
 go_simp;refine h _ _ (.inl (by decide)) ?_;clear h;go_simp;refine zo B 22 λZ h=>?_
 go_simp;refine h _ _ (.inl (by decide)) ?_;clear h;go_simp;refine zo B 23 λZ h=>?_
 go_simp;refine h _ _ (.inl (by decide)) ?_;clear h;go_simp;refine zd B ?_;go_wp2_with fail
 have c7:=W.size;have h:=hI (jX R L a7 (λ_=>cf));have cm:=hI (((a8.kept W ad).set 1 (.slice (some ⟨ga,0,none⟩) (k+1) ca)).set 2 (.slice (some ⟨gb,0,none⟩) (k+1) cb));have cl:=hI (((V.trans (W.mono (by omega))).setCell (p:=⟨w.heap.size+1+1,1,none⟩) (qA _) (.slice (some ⟨ga,0,none⟩) (k+1) ca)).setCell (p:=⟨w.heap.size+1+1,2,none⟩) (qA _) (.slice (some ⟨gb,0,none⟩) (k+1) cb));go_roundw
 case rel=>exact⟨k+1,_,_,_,_,_,_,by omega,by go_num,hI (by rw[am HP.out,am HQ.out];exact(h.setU ad).setU ad),cm,cl⟩
 case measure=>simp[intOf]<;>omega}
 {
 obtain rfl:k=n:=by omega
 have G:wr.frozen? ⟨w.heap.size+1,0,none⟩=false∧wr.frozen? ⟨w.heap.size+1,1,none⟩=false∧wr.frozen? ⟨w.heap.size+1,2,none⟩=false:=⟨(X1.kept V (by omega)).fz,(X1.kept V (by omega)).fz,(X1.kept V (by omega)).fz⟩;have B:=(X1.kept V (by omega)).f3;go_wp2_with fail
 refine bodyPost_ret (v:=.agg #[t.boats,.slice M k T,.slice N k U]) (by simp[results,results127,go_sem,B]) rfl ?_;have h:=aQ (g:=w.heap.size+1) [.int .i64 t.boats,.slice M k T,.slice N k U] 0 (aK.refl (w.heap.size+1) (w.heap.size+1+1) wr) (by omega) (by omega);have u:=(R.chg h R.in_ (.inr (by omega))).base' (show w.heap.size≤I.heap.size by omega);rw[qI (by rw[cd.out];exact qA _),qI (by rw[cc.out];exact qA _)] at u;exact⟨M,k,T,vs,N,k,U,us,rfl,u,wm bn,ao ba h (by omega) (by have:=ba.size;omega)⟩})}
theorem wM {t:Tb}:∀{B:List gz} {p:Option gz},it t p B=true→∀(k:Nat) (x:gz),B[k]?=some x→nE t x=true:=by{
 intro B
 induction B with
 | nil=>intro p h k x u;simp at u
 | cons y r G=>{
 intro p h k x u;have F:nE t y=true∧it t (some y) r=true:=by{
 cases p with
 | none=>simpa[it] using h
 | some z=>simp[it] at h;exact⟨h.1.1,h.2⟩}
 cases k with
 | zero=>simp at u;subst u;exact F.1
 | succ k=>exact G F.2 k x (by simpa using u)}}
structure Jf (t : Tb) (x : gz) : Prop where
 race : 0 ≤ x.1 ∧ x.1 < t.pts.length
 boat : 0 ≤ x.2.1 ∧ x.2.1 < t.boats
 kind : x.2.2.1 = 1 ∨ x.2.2.1 = 2 ∨ x.2.2.1 = 3
 some_ : (gh t x).2 = true
 val : (gh t x).1 = jD t x
theorem kq {t:Tb}{x:gz}(h:nE t x=true):Jf t x:=by{
 have G:=h;unfold nE at h;simp only[Bool.and_eq_true,beq_iff_eq] at h;obtain⟨⟨⟨⟨B,F⟩,a3⟩,a4⟩,a5⟩:=h;have H:=ai.1 B;have I:=ai.1 F;refine⟨⟨H.1,by omega⟩,⟨I.1,by omega⟩,zv a3,by rw[←GY B F a3 a4];exact G,?_⟩;unfold gh jD;by_cases u:x.2.2.1=3
 {rw[if_pos u,if_pos u]}
 {rw[if_neg u,if_neg u]}}
theorem ds.at_ {w:World}{F n c m d u G:Nat}{P C:OA}{R us:List Value}{t:Tb}{B:LI}(H:ds w F P n c R C m d us t)(N:t.pts[u]?=some B)(W:G<B.length):∃g h J x,P=some ⟨g,0,none⟩∧R[u]?=some (.slice (some ⟨h,0,none⟩) B.length J)∧w.cell? ⟨g,u,none⟩=some (.slice (some ⟨h,0,none⟩) B.length J)∧w.cell? ⟨h,G,none⟩=some (.int .i64 x)∧w.frozen? ⟨h,G,none⟩=false∧F≤h∧h<w.heap.size∧F≤g∧g<w.heap.size∧u<n:=by{
 have I:u<n:=by have:=(List.getElem?_eq_some_iff.1 N).1;rw[H.pts.len] at this;exact this
 obtain⟨v,_,T,ys,L,M,_,e,ho⟩:=H.pts.get I;obtain rfl:B=ys:=by rw[N] at M;injection M
 obtain⟨g,a6,U,a1,a2,O,ad,_⟩:=je H.pts.outer I;obtain rfl:v=a6:=by rw[L] at O;injection O
 subst e;obtain⟨h,x,V,Y,Z,_,ar,av⟩:=aY ho W;subst V;exact⟨g,h,T,x,U,L,ad,ar,av,Y,Z,a1,a2,I⟩}
theorem ds.setRC {w:World}{G n c m d F bt h N:Nat}{P C:OA}{M R:List Value}{t:Tb}{B:LI}(u:ds w G P n c M C m d R t)(J:t.pts[F]?=some B)(L:M[F]?=some (.slice (some ⟨h,0,none⟩) B.length N))(x:Int):ds (w.setCell ⟨h,bt,none⟩ (.int .i64 x)) G P n c M C m d R ⟨t.boats,pd t.pts F bt x,t.cds⟩:=by{
 obtain⟨_,_,e,I⟩:=u.pts.row F _ B L J;injection e with T _ U;subst T U;have W:(w.setCell ⟨h,bt,none⟩ (.int .i64 x)).ownsRow G 2 1 (.slice (some ⟨h,0,none⟩) B.length N) B.length (ints (B.set bt x)):=by{rw[xR];exact(I.stored bt _).1}
 have O:w.grownBy (w.setCell ⟨h,bt,none⟩ (.int .i64 x)) (some h):=(I.stored bt _).2;have V:t.pts.getD F []=B:=by simp[List.getD,J]
 unfold pd;rw[V];refine⟨u.pts.upd (by decide) L J (by simp) O (by rw[List.length_set];exact W),u.cds.grown O (λb H e=>?_) (λv Y b H e=>?_),u.apO,u.apR⟩
 {exact aJ u.cds.outer I (by decide) b H (by simpa[Value.ownBlock] using e)}
 {exact u.apR _ (qF L) v Y h rfl (by rw[H];exact e.symm)}}
theorem mu (h:List LI)(r b:Nat)(v:Int):(pd h r b v).length=h.length:=by unfold pd;simp
theorem mZ {h:List LI}{r b:Nat}{v:Int}{B:Int}(F:∀x∈h,(x.length:Int)=B)(G:r<h.length):∀x∈pd h r b v,(x.length:Int)=B:=by{
 intro x u;unfold pd at u;rcases List.mem_or_eq_of_mem_set u with u|rfl
 {exact F x u}
 {
 rw[List.length_set];have:h.getD r []=h[r]:=by simp[List.getD,qG G]
 rw[this];exact F _ (List.getElem_mem G)}}
theorem pk (P:OA)(n c:Nat)(C:OA)(m d:Nat)(t:Tb)(A:OA)(l cl:Nat)(W:List gz)(h:bl t)(U:yL t W=true)(w:World)(M:RdT w P n C m t)(u:Rd w 4 A l (rH W)):Calls prog 84 #[.agg #[t.boats,.slice P n c,.slice C m d],.slice A l cl] w (oY w (iK t W)):=by{
 have hn:=M.pts.le;have d0:=u.le;have d1:n≤12:=by have:=h.many;have:=M.pts.len;omega
 have cN:n=m:=by have:=h.same;have:=M.pts.len;have:=M.cds.len;omega
 subst cN;have dc:=h.b2;have c':=h.b1;have a6:=hI h;have c8:=hI U;have ba:=hI M.pts.len;have cm:=hI u.len_red;have co:=hI (λk x (e:W[k]?=some x)=>kq (wM (show it t none W=true from U) k x e));have ch:=hI (λJ (F:BL w J)=>tV P n c C n d t h J (M.below F));have HT:=hI (λJ (F:BL w J)=>M.below F);have HL:=hI (λJ (F:BL w J)=>u.below F);clear h U M u;go_enter func84,ntmps84;go_wp2_with fail
 obtain⟨w2,h,X0,X1,B,I⟩:=cI w #[t.boats,.slice P n c,.slice C n d] #[(0:Int),.slice none 0 0,.slice none 0 0] 76 76;rw[←h];clear h;refine(ch _ B).mono ?_;rintro e wc⟨P1,n1,V,vs,C1,u,c2,us,rfl,h,L,G⟩;obtain rfl:n1=n:=h.pts.len.symm.trans ba;obtain rfl:u=n1:=h.cds.len.symm.trans (a6.same.symm.trans ba);have HO:=hI h;have cf:=hI G;have cc:=hI B;have c6:=G.size;have d4:w.heap.size+1<w2.heap.size:=by omega
 have H:w2.heap.size=w.heap.size+2:=by omega
 have c7:=hI H;clear L h G I H B;go_wp2_with fail
 obtain⟨w3,B,X2,h,G⟩:=ae wc #[t.boats,.slice P1 u V,.slice C1 u c2] 76;rw[←B];have bN:=hI h;have c5:wc.heap.size<w3.heap.size:=by omega
 clear B G h;go_loopw [12] (λi wr=>∃(k:Nat) (O:List LI),k≤l∧i=.int .i64 k∧Hid (ds wr w2.heap.size P1 u V vs C1 u c2 us ⟨t.boats,O,t.cds⟩)∧Hid (O.length=u∧∀x∈O,(x.length:Int)=t.boats)∧Hid (dm t (W.drop k) O=dm t W t.pts)∧Hid (aO wr wc.heap.size #[t.boats,.slice P1 u V,.slice C1 u c2] 76)∧Hid (BL w2 wr)∧wc.heap.size<wr.heap.size) (λi _=>l-(intOf i).toNat)
 case atStart=>(
 refine⟨0,t.pts,qH _,rfl,hI (HO.below bN),hI ⟨ba,λx U=>?_⟩,hI rfl,hI X2,hI (cf.trans (bN.mono c6)),c5⟩;obtain⟨k,hk⟩:=List.mem_iff_getElem?.1 U;obtain⟨q,h,_⟩:=dd (xs:=t.cds) (k:=k) (by have:=(List.getElem?_eq_some_iff.1 hk).1;have:=a6.same;omega);exact(a6.row k x q hk h).1.1)
 case round=>(
 obtain⟨k,O,hk,rfl,ad,Y,HR,bb,a1,_⟩:=hrel;have a2:=hI (cc.trans (a1.mono (by omega)));have c4:=a1.size;by_cases cL:k<l
 {
 obtain⟨b,o,x0,x1,x2,x3,hA,U,h,cw,cx,cy,cB⟩:=(HL _ a2).red cL;subst hA;have c0:=co k _ U;obtain⟨⟨H,N⟩,⟨b3,b4⟩,b6,b',L⟩:=c0;simp only at H N b3 b4 b6;obtain⟨G,rfl⟩:=aC x0 H;obtain⟨I,rfl⟩:=aC x1 b3;have HD:=hI h;clear h U;have bO:=hI (λJ (M:RdT J P u C u t)=>jA P u c C u d t G I x2 x3 b6 a6 b4 J M);obtain⟨rv,rr,R⟩:∃a b,gh t ((G:Int),(I:Int),x2,x3)=(a,b):=⟨_,_,rfl⟩;rw[R] at bO b' L;obtain rfl:rr=true:=b';have HV:=hI (show jD t ((G:Int),(I:Int),x2,x3)=rv from L.symm);have bv:G<u:=by have:=ba.out;omega
 have h:O[G]?=some (O[G]'(by rw[Y.out.1];exact bv)):=qG _;generalize c3:O[G]'(by rw[Y.out.1];exact bv)=Z at h;have cR:(Z.length:Int)=t.boats:=Y.2 _ (qF h);have cv:I<Z.length:=by omega
 have d2:Z.length≤16:=by omega
 have bk:=hI h;obtain⟨g,B,cr,x,cs,ca,T,bo,bp,cC,a7,_,bq,_⟩:=ad.at_ h cv;subst cs;have bn:=hI ca;clear L R h c3 cR ca H N;go_wp2_with fail
 clear cw cx cy cB;obtain⟨N,cb,XA,L,a8⟩:=ae wr #[(G:Int),(I:Int),x2,x3] 114;rw[←cb];have a':=hI L;have a8:wr.heap.size<N.heap.size:=by omega
 have H:=((X0.kept a1 (by omega)).below L).f3;have F2:=(bb.below L).f3;have R:=XA.f4;have T:=(L.cell (p:=⟨g,G,none⟩) bq).trans T;have bo:=(L.cell (p:=⟨B,I,none⟩) a7).trans bo;have bp:=(L.frozen (p:=⟨B,I,none⟩) a7).trans bp;have a7:B<N.heap.size:=by omega
 have bq:g<N.heap.size:=by omega
 have ck:=hI (show ∀J,BL N J→RdT J P u C u t from λJ F=>HT _ (a2.trans ((a'.trans (F.mono (by omega))).mono (by have:=a2.size;omega))));have bP:=hI (show ∀h,BL N h→h.cell? ⟨wc.heap.size,1,none⟩=some (.slice (some ⟨g,0,none⟩) u V)∧h.cell? ⟨wr.heap.size,0,none⟩=some (.int .i64 (G:Int))∧h.cell? ⟨wr.heap.size,1,none⟩=some (.int .i64 (I:Int))∧h.cell? ⟨wr.heap.size,2,none⟩=some (.int .i64 x2)∧h.cell? ⟨wr.heap.size,3,none⟩=some (.int .i64 x3)∧h.cell? ⟨g,G,none⟩=some (.slice (some ⟨B,0,none⟩) Z.length cr)∧h.cell? ⟨w.heap.size,0,none⟩=some (.int .i64 t.boats)∧h.cell? ⟨w.heap.size,1,none⟩=some (.slice P u c)∧h.cell? ⟨w.heap.size,2,none⟩=some (.slice C u d) from λh F=>⟨(F.cell (p:=⟨wc.heap.size,1,none⟩) F2.2.2.2.2.2.2).trans F2.2.1,(F.cell (p:=⟨wr.heap.size,0,none⟩) a8).trans R.1,(F.cell (p:=⟨wr.heap.size,1,none⟩) a8).trans R.2.1,(F.cell (p:=⟨wr.heap.size,2,none⟩) a8).trans R.2.2.1,(F.cell (p:=⟨wr.heap.size,3,none⟩) a8).trans R.2.2.2.1,(F.cell (p:=⟨g,G,none⟩) bq).trans T,(F.cell (p:=⟨w.heap.size,0,none⟩) H.2.2.2.2.2.2).trans H.1,(F.cell (p:=⟨w.heap.size,1,none⟩) H.2.2.2.2.2.2).trans H.2.1,(F.cell (p:=⟨w.heap.size,2,none⟩) H.2.2.2.2.2.2).trans H.2.2.1⟩);clear cb L XA H F2 R T;have b7:wc.heap.size≠B:=λe=>by{
 obtain⟨A9,c9,e9,bs⟩:=ad.pts.row G _ Z bn bk;exact ay bs bb (by decide) (by simp[Value.ownBlock];exact e.symm)}
 have b9:g≠B:=λe=>by{
 obtain⟨A9,c9,e9,bs⟩:=ad.pts.row G _ Z bn bk;exact aJ ad.pts.outer bs (by decide) g rfl (by simp[Value.ownBlock];exact e.symm)}
 have R:=hI (show B≠wc.heap.size∧B≠wr.heap.size∧B≠g∧B≠w.heap.size from⟨λe=>b7 e.symm,by omega,λe=>b9 e.symm,by omega⟩);obtain⟨S,bR,bW,b0⟩:∃S:World→Prop,(∀h,S h→h.cell? ⟨wc.heap.size,1,none⟩=some (.slice (some ⟨g,0,none⟩) u V)∧h.cell? ⟨wr.heap.size,0,none⟩=some (.int .i64 (G:Int))∧h.cell? ⟨wr.heap.size,1,none⟩=some (.int .i64 (I:Int))∧h.cell? ⟨wr.heap.size,2,none⟩=some (.int .i64 x2)∧h.cell? ⟨wr.heap.size,3,none⟩=some (.int .i64 x3)∧h.cell? ⟨g,G,none⟩=some (.slice (some ⟨B,0,none⟩) Z.length cr)∧h.cell? ⟨w.heap.size,0,none⟩=some (.int .i64 t.boats)∧h.cell? ⟨w.heap.size,1,none⟩=some (.slice P u c)∧h.cell? ⟨w.heap.size,2,none⟩=some (.slice C u d))∧(∀h,BL N h→S h)∧(∀h v,BL N h→S (h.setCell ⟨B,I,none⟩ v)):=⟨λh=>h.cell? ⟨wc.heap.size,1,none⟩=some (.slice (some ⟨g,0,none⟩) u V)∧h.cell? ⟨wr.heap.size,0,none⟩=some (.int .i64 (G:Int))∧h.cell? ⟨wr.heap.size,1,none⟩=some (.int .i64 (I:Int))∧h.cell? ⟨wr.heap.size,2,none⟩=some (.int .i64 x2)∧h.cell? ⟨wr.heap.size,3,none⟩=some (.int .i64 x3)∧h.cell? ⟨g,G,none⟩=some (.slice (some ⟨B,0,none⟩) Z.length cr)∧h.cell? ⟨w.heap.size,0,none⟩=some (.int .i64 t.boats)∧h.cell? ⟨w.heap.size,1,none⟩=some (.slice P u c)∧h.cell? ⟨w.heap.size,2,none⟩=some (.slice C u d),λ_ M=>M,bP,λh v F=>by{
 have L:=bP h F;have H:∀(b i:Nat) (T:Value),B≠b→h.cell? ⟨b,i,none⟩=some T→(h.setCell ⟨B,I,none⟩ v).cell? ⟨b,i,none⟩=some T:=λb i T hn hc=>by{rw[World.cell?_setCell_far _ _ _ _ hn];exact hc}
 exact⟨H _ _ _ R.1 L.1,H _ _ _ R.2.1 L.2.1,H _ _ _ R.2.1 L.2.2.1,H _ _ _ R.2.1 L.2.2.2.1,H _ _ _ R.2.1 L.2.2.2.2.1,H _ _ _ R.2.2.1 L.2.2.2.2.2.1,H _ _ _ R.2.2.2 L.2.2.2.2.2.2.1,H _ _ _ R.2.2.2 L.2.2.2.2.2.2.2.1,H _ _ _ R.2.2.2 L.2.2.2.2.2.2.2.2⟩}⟩
 have ar:=hI bR;have av:=hI bW;have cp:=hI b0;clear bR bW b0 b7 b9;refine bz (n:=16) S (λ_=>false) (by kernel_rfl) rfl ?_;intro d5 H;have T:=av _ (ac _ N 1);refine zN H 0 T ?_;go_simp;refine zS H ar 1 T ?_;go_simp;refine zN H 2 T ?_;go_simp;refine zS H ar 3 T ?_;go_simp;refine zN H 4 T ?_;go_simp;refine zS H ar 5 T ?_;go_simp;refine zN H 6 T ?_;go_simp;refine zS H ar 7 T ?_;go_simp;refine zS H ar 8 T ?_;go_simp;refine zS H ar 9 T ?_;go_simp;refine zo H 10 λK' HK=>?_
 go_simp;go_at_call 83;refine(bO _ (ck _ (ac _ N 1))).mono ?_;rintro e wq⟨rfl,b5⟩;have L:BL N wq:=(ac N.heap.size N 1).trans b5;clear b5;refine HK _ _ (.inr (av _ L)) ?_;clear HK;go_simp;refine zN H 11 (av _ L) ?_;go_simp;refine zN H 12 (av _ L) ?_;go_simp;refine zN H 13 (av _ L) ?_;go_simp;refine zN H 14 (av _ L) ?_;go_simp;have dA:=(L.frozen (p:=⟨B,I,none⟩) a7).trans bp;have dq:=(L.cell (p:=⟨B,I,none⟩) a7).trans bo;refine zo H 15 λK' HK=>?_
 go_simp;refine HK _ _ (.inr (cp _ _ L)) ?_;clear HK;go_simp;refine zd H ?_;go_wp2_with fail
 have cn:=hI (((ad.below a').below L).setRC (bt:=I) bk bn rv);have cq:=hI (((bb.below a').below L).other (c:=B) (i:=I) (λe=>R.1 e.symm) (.int .i64 rv));have cd:=hI ((((a1.trans (a'.mono c4)).trans (L.mono (by omega)))).setCell (p:=⟨B,I,none⟩) cC (.int .i64 rv));have d3:=L.size;go_roundw
 case rel=>exact⟨k+1,_,by omega,by go_num,cn,hI ⟨by rw[mu];exact Y.1,mZ Y.2 (by rw[Y.out.1];exact bv)⟩,hI (by rw[←HR.out,HD.out,dm,HV.out];rfl),cq,cd,by rw[gV];omega⟩
 case measure=>simp[intOf]<;>omega}
 {
 obtain rfl:k=l:=by omega
 have F2:=bb.f3;have H:=(X1.kept a1 (by omega)).f3;go_wp2_with fail
 refine bodyPost_ret (v:=.agg #[t.boats,.slice P1 u V,.slice C1 u c2]) (by simp[results,results84,go_sem,H]) rfl ?_;have h:=aQ (g:=w.heap.size+1) [.int .i64 t.boats,.slice P1 u V,.slice C1 u c2] 0 (aK.refl (w.heap.size+1) (w.heap.size+1+1) wr) (by omega) (by omega);have G:=(ad.chg h ad.in_ (.inr (by omega))).base' (show w.heap.size≤w2.heap.size by omega);have B:O=dm t W t.pts:=by rw[←HR.out,qK (by rw[cm.out];exact qA _)];rfl
 rw[B] at G;exact⟨P1,u,V,vs,C1,u,c2,us,rfl,G,⟨by{
 rw[show(iK t W).pts=O from B.symm];have I:=fL (m:=16) (rows:=O) (λx U=>by have:=Y.2 x U;omega);have L:=Y.1;omega},(wm a6).2⟩,ao a2 h (by omega) (by have:=a2.size;omega)⟩})}
theorem EL {t:Tb}{h:List gz}(u:yL t h=true)(x:gz)(F:x∈h):nE t x=true:=by{
 obtain⟨k,B⟩:=List.getElem?_of_mem F;exact wM u k x B}
theorem Jb (race kind:Int)(b:Nat):∀(u h:List LI) (k:Nat) (F B:Int),(∀p∈u,∀x∈p,0≤x∧x≤10000)→0≤F→B≤10000→0≤(sq race kind b k u h F B).1∧(sq race kind b k u h F B).2≤10000:=by{
 intro u
 induction u with
 | nil=>intro h k F B _ G H;cases h<;>exact⟨G,H⟩
 | cons p u M=>{
 intro h k F B I G H
 cases h with
 | nil=>exact⟨G,H⟩
 | cons c h=>{
 have N:0≤p.getD b 0∧p.getD b 0≤10000:=by{
 by_cases L:b<p.length
 {
 have e:p.getD b 0=p[b]:=by simp[List.getD,qG L]
 rw[e];exact I p List.mem_cons_self _ (List.getElem_mem L)}
 {
 have e:p.getD b 0=0:=by simp[List.getD,qY (by omega:p.length≤b)]
 rw[e];omega}}
 unfold sq;split
 {exact M h _ _ _ (λq J=>I q (List.mem_cons_of_mem _ J)) (by omega) (by omega)}
 {exact M h _ _ _ (λq J=>I q (List.mem_cons_of_mem _ J)) G H}}}}
theorem Gs {t:Tb}(u:bl t):∀p∈t.pts,(p.length:Int)=t.boats∧∀x∈p,0≤x∧x≤10000:=by{
 intro p F;obtain⟨k,h⟩:=List.getElem?_of_mem F;have B:k<t.cds.length:=by rw[←u.same];exact(List.getElem?_eq_some_iff.1 h).1
 exact(u.row k p t.cds[k] h (qG B)).1}
theorem Dn {t:Tb}{x:gz}(H:bl t)(h:nE t x=true):0≤jD t x∧jD t x≤10000:=by{
 have F:=kq h;unfold jD;by_cases u:x.2.2.1=3
 {
 rw[if_pos u];unfold nE at h;simp only[Bool.and_eq_true,beq_iff_eq] at h;have B:=h.1.1.2;unfold my at B;rw[if_pos u] at B;exact ai.1 B}
 {
 rw[if_neg u];have B:=F.some_;unfold gh at B;rw[if_neg u] at B;have I:=zL t x.1 x.2.1 x.2.2.1 B;have J:=Jb x.1 x.2.2.1 x.2.1.toNat t.pts t.cds 0 10000 0 (λp G=>(Gs H p G).2) (by omega) (by omega);omega}}
theorem BI (t:Tb)(U:bl t)(I:Int):∀(u:List gz) (h:List LI),(∀x∈u,nE t x=true)→h.length=t.pts.length→(∀p∈h,(p.length:Int)=I∧∀x∈p,0≤x∧x≤10000)→(dm t u h).length=t.pts.length∧∀p∈dm t u h,(p.length:Int)=I∧∀x∈p,0≤x∧x≤10000:=by{
 intro u
 induction u with
 | nil=>intro h _ H F;exact⟨H,F⟩
 | cons x u T=>{
 intro h J H F;have N:=J x List.mem_cons_self;have R:=Dn U N;have O:=kq N;rw[dm];refine T _ (λy B=>J y (List.mem_cons_of_mem _ B)) (by rw[mu];exact H) ?_;intro p G;unfold pd at G;rcases List.mem_or_eq_of_mem_set G with G|rfl
 {exact F p G}
 {
 have M:x.1.toNat<h.length:=by have:=O.race;omega
 have e:h.getD x.1.toNat []=h[x.1.toNat]:=by simp[List.getD,qG M]
 have L:=F _ (List.getElem_mem M);rw[e];refine⟨by rw[List.length_set];exact L.1,λy B=>?_⟩;rcases List.mem_or_eq_of_mem_set B with B|rfl
 {exact L.2 y B}
 {exact R}}}}
theorem By {t:Tb}{u:List gz}(h:bl t)(G:yL t u=true):iq (iK t u)=true:=by{
 have B:=BI t h t.boats u t.pts (EL G) rfl (Gs h);refine bl.tableB ⟨h.b1,h.b2,?_,?_,?_⟩
 {
 show(dm t u t.pts).length≤12;rw[B.1];exact h.many}
 {
 show(dm t u t.pts).length=t.cds.length;rw[B.1];exact h.same}
 {
 intro k p c H F;refine⟨B.2 p (qF H),?_⟩;have I:k<t.pts.length:=by rw[h.same];exact(List.getElem?_eq_some_iff.1 F).1
 exact(h.row k t.pts[k] c (qG I) F).2}}
end Go.Proofs.YtnpldahkhaacnaaGreatDoor

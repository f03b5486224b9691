/- Texts of the walk: Tc Td. -/
import Derived.Test.YtnpldahkhaacnaaGreatDoorYab
set_option linter.unusedVariables false
set_option linter.unusedSimpArgs false
set_option maxRecDepth 100000
set_option maxHeartbeats 32000000
namespace Go.Proofs.YtnpldahkhaacnaaGreatDoor
open Go.RowKit Go.Proofs.Tryz
theorem nQ (A:OA)(n c:Nat)(B:LI)(h u:Int)(w:World)(b:Bool)(G:lf B h u=b)(F:Rd w 1 A n (ints B))(q:Nat):Calls prog 312 #[.slice A n c,h,u] (w.drewN q) λe H=>e=.returned (.bool b)∧∃m,H=(w.drewN q).drewN m:=by{
 subst G;exact(AF A n c B h u (w.drewN q) (F.drewN q)).mono λ_ _ ⟨a,b⟩=>⟨a,0,by rw[←b];rfl⟩}
theorem rE (P:OA)(n c:Nat)(C:OA)(m d:Nat)(t:Tb)(w:World)(u:RdT w P n C m t):Calls prog 276 #[.agg #[t.boats,.slice P n c,.slice C m d]] w λe J=>e=.returned (.bool (iq t))∧BL w J:=by{
 have hn:=u.pts.le;have hm:=u.cds.le;have L:=hI u.pts.len;have Z:=hI u.cds.len;have E:=hI (show iq t=(af t.boats 1 16&&decide (t.pts.length≤12)&&decide (t.pts.length=t.cds.length)&&gX t.boats t.pts t.cds) from rfl);have O:=hI (show ∀o,BL w (w.alloc o) from λo=>(qB _ _).alloc (qA _) o)
 cases B:af t.boats 1 16 with
 | false=>{
 go_enter func276,ntmps276;go_wp2_with(go_at_call 30;refine(bc _ _ _ _).mono ?_;rintro e J⟨rfl,rfl⟩)
 go_ret;exact⟨ak (by rw[E.out,B];rfl),O _⟩}
 | true=>{
 by_cases h2:n≤12
 {
 by_cases h3:n=m
 {
 subst h3;go_enter func276,ntmps276;go_wp2_with(go_at_call 30;refine(bc _ _ _ _).mono ?_;rintro e J⟨rfl,rfl⟩)
 obtain⟨w1,F,G,h,H⟩:=ae w #[t.boats,.slice P n c,.slice C n d] 76;rw[←F];have ar:=hI B;clear F H B;have av:=G.lt;go_loopw [26] (λi wr=>∃k:Nat,k≤n∧i=.int .i64 k∧Hid (gX t.boats (t.pts.drop k) (t.cds.drop k)=gX t.boats t.pts t.cds)∧BL w1 wr) (λi _=>n-(intOf i).toNat)
 case atStart=>exact⟨0,qH _,rfl,hI rfl,qB _ _⟩
 case round=>(
 obtain⟨k,_,rfl,N,B⟩:=hrel;have F0:=(G.below B).f3;by_cases ad:k<n
 {
 obtain⟨b,o,_,c',p,rfl,_,F,_,H⟩:=((u.pts.below h).below B).row ad;obtain⟨_,_,_,c2,q,rfl,_,M,_,I⟩:=((u.cds.below h).below B).row ad;have T:=hI F;have U:=hI M;clear F M;have R:=hI B;clear B
 cases F:lf p t.boats 10000 with
 | false=>{
 have M:=hI (nQ _ _ c' _ _ _ wr _ F H);clear H I G;have V:=hI F;clear F;go_wp2_with fail
 go_quiet ((go_at_call 312;exact Calls.quiet_of (M _)))
 go_wp2_with fail
 go_ret;exact⟨ak (by rw[E.out,←N.out,T.out,U.out,gX,V.out];simp),h.trans ((R.trans (ac _ _ _)).mono h.size)⟩}
 | true=>{
 have M:=hI (nQ _ _ c' _ _ _ wr _ F H);have V:=hI F;clear F
 cases F:lf q t.boats 9 with
 | false=>{
 have W:=hI (nQ _ _ c2 _ _ _ wr _ F I);clear H I G;have Y:=hI F;clear F;go_wp2_with fail
 go_quiet ((go_at_call 312;first|(with_reducible exact Calls.quiet_of (M.out _))|(with_reducible exact Calls.quiet_of (W.out _))))
 go_wp2_with fail
 go_ret;exact⟨ak (by rw[E.out,←N.out,T.out,U.out,gX,Y.out];simp),h.trans ((R.trans (ac _ _ _)).mono h.size)⟩}
 | true=>{
 have W:=hI (nQ _ _ c2 _ _ _ wr _ F I);clear H I G;have Y:=hI F;clear F;go_wp2_with fail
 go_quiet ((go_at_call 312;first|(with_reducible exact Calls.quiet_of (M.out _))|(with_reducible exact Calls.quiet_of (W.out _))))
 go_wp2_with fail
 go_roundw
 case rel=>exact⟨k+1,by omega,by go_num,hI (by rw[←N.out,T.out,U.out,gX,V.out,Y.out];rfl),R.trans (ac _ _ _)⟩
 case measure=>simp[intOf]<;>omega}}}
 {
 obtain rfl:k=n:=by omega
 go_wp2_with fail
 go_ret;exact⟨ak (by rw[E.out,←N.out,ar.out,qK (by rw[L.out];omega),L.out,Z.out,decide_eq_true h2];simp[gX]),h.trans (B.mono h.size)⟩})}
 {
 have h:((n:Int) !=m)=true:=by simp;omega
 go_enter func276,ntmps276;go_wp2_with(go_at_call 30;refine(bc _ _ _ _).mono ?_;rintro e J⟨rfl,rfl⟩)
 go_ret;exact⟨ak (by rw[E.out,L.out,Z.out,decide_eq_false h3];simp),O _⟩}}
 {
 go_enter func276,ntmps276;go_wp2_with(go_at_call 30;refine(bc _ _ _ _).mono ?_;rintro e J⟨rfl,rfl⟩)
 go_ret;exact⟨ak (by rw[E.out,L.out,decide_eq_false h2];simp),O _⟩}}}
theorem kx (x:Int)(w:World):Calls prog 279 #[x] w λe h=>e=.returned (.bool (af x 0 9))∧w=h:=by{
 go_enter func279,ntmps279;go_wp2_with(go_at_call 34;refine(bi _ _ _ _).mono ?_;rintro e h⟨rfl,rfl⟩)
 go_ret;exact⟨rfl,rfl⟩}
theorem rA (P:OA)(n c:Nat)(C:OA)(m d:Nat)(t:Tb)(w:World)(J:RdT w P n C m t):Calls prog 285 #[.agg #[t.boats,.slice P n c,.slice C m d]] w λe F=>e=.returned (.bool (iq t))∧BL w F:=by{
 have hn:=J.pts.le;have hm:=J.cds.le;have U:=hI J.pts.len;have HM:=hI J.cds.len;have E:=hI (show iq t=(af t.boats 1 16&&decide (t.pts.length≤12)&&decide (t.pts.length=t.cds.length)&&gX t.boats t.pts t.cds) from rfl);have Y:=hI (show ∀o,BL w (w.alloc o) from λo=>(qB _ _).alloc (qA _) o)
 cases u:af t.boats 1 16 with
 | false=>{
 go_enter func285,ntmps285;go_wp2_with(go_at_call 34;refine(bi _ _ _ _).mono ?_;rintro e F⟨rfl,rfl⟩)
 go_ret;exact⟨ak (by rw[E.out,u];rfl),Y _⟩}
 | true=>{
 by_cases h2:n≤12
 {
 by_cases h3:m=n
 {
 subst h3;have hB:=ai.1 u;obtain⟨h,B⟩:=aC t.boats (by omega);have G:=hI (show(true&&decide (t.pts.length≤12)&&decide (t.pts.length=t.cds.length)&&gX t.boats t.pts t.cds)=gX t.boats t.pts t.cds from by rw[U.out,HM.out,decide_eq_true h2];simp);rw[u] at E;unfold Hid at E G;rw[B] at E G u hB ⊢;replace E:=hI E;replace G:=hI G;clear B;go_enter func285,ntmps285;go_wp2_with(go_at_call 34;refine(bi _ _ _ _).mono ?_;rintro e F⟨rfl,rfl⟩)
 clear u;obtain⟨w1,I,H,u,L⟩:=ae w #[h,.slice P m c,.slice C m d] 76;rw[←I];clear I L;have bb:=H.lt;go_loopw [3] (λi wr=>∃k:Nat,k≤m∧i=.int .i64 k∧Hid (gX h (t.pts.drop k) (t.cds.drop k)=gX h t.pts t.cds)∧BL w1 wr) (λi _=>m-(intOf i).toNat)
 case atStart=>exact⟨0,qH _,rfl,hI rfl,qB _ _⟩
 case round=>(
 obtain⟨k,_,rfl,I,L⟩:=hrel;have X1:=H.below L;have F0:=X1.f3;by_cases a6:k<m
 {
 obtain⟨b,o,_,_,p,rfl,_,T,V,O⟩:=((J.pts.below u).below L).row a6;obtain⟨b',o',_,_,q,rfl,_,Z,W,R⟩:=((J.cds.below u).below L).row a6;have M:=hI T;have N:=hI Z;clear T Z H;have H:=hI L;clear L;by_cases hp:p.length=h
 {
 by_cases hq:q.length=h
 {
 have Z:=hI (EA (h:Int) p q (by omega) (by omega));have e1:((p.length:Int) !=h)=false:=by simp;omega
 have e2:((q.length:Int) !=h)=false:=by simp;omega
 have HP:=hI hp;have HQ:=hI hq;clear hp hq;go_wp2_with fail
 go_quiet (fail)
 clear e1 e2 F0;obtain⟨wo,T,B⟩:∃wo,wo=wr.drewN nq∧BL wr wo:=⟨_,rfl,ac _ _ _⟩;rw[←T];have F0:=(X1.below B).f3;have V:=(B.cell (p:=⟨b,o+k,none⟩) (au V)).trans V;have W:=(B.cell (p:=⟨b',o'+k,none⟩) (au W)).trans W;have O:=O.below B;have R:=R.below B;have a1:=hI (u.trans ((H.trans (B.mono H.size)).mono u.size));have a8:=zb H B;clear T B X1 u H;have a':=O.le;have ba:=R.le;rw[HP.out] at O a' V;rw[HQ.out] at R ba W;go_wp2_with fail
 go_loop [4] (λi=>∃j:Nat,j≤h∧i=.int .i64 j∧Hid (kX (p.drop j) (q.drop j)=kX p q)) (λi=>h-(intOf i).toNat)
 case atStart=>exact⟨0,qH _,rfl,hI rfl⟩
 case round=>(
 obtain⟨j,_,rfl,T⟩:=hrel;by_cases a2:j<h
 {
 obtain⟨_,_,x,rfl,_,B,_⟩:=O.int a2;obtain⟨_,_,y,rfl,_,a7,_⟩:=R.int a2;have ad:=hI B;have ar:=hI a7;clear B a7
 cases hx:af x 0 10000 with
 | false=>{
 go_wp2_with(first|(go_at_call 34;refine(bi _ _ _ _).mono ?_;rintro e F⟨rfl,rfl⟩)|(go_at_call 279;refine(kx _ _).mono ?_;rintro e F⟨rfl,rfl⟩))
 have B:=hI hx;go_ret;exact⟨ak (by rw[E.out,G.out,←I.out,M.out,N.out,gX,Z.out,←T.out,ad.out,ar.out,kX,B.out];simp),a1⟩}
 | true=>{
 cases hy:af y 0 9 with
 | false=>{
 go_wp2_with(first|(go_at_call 34;refine(bi _ _ _ _).mono ?_;rintro e F⟨rfl,rfl⟩)|(go_at_call 279;refine(kx _ _).mono ?_;rintro e F⟨rfl,rfl⟩))
 have B:=hI hx;have av:=hI hy;go_ret;exact⟨ak (by rw[E.out,G.out,←I.out,M.out,N.out,gX,Z.out,←T.out,ad.out,ar.out,kX,B.out,av.out];simp),a1⟩}
 | true=>{
 go_wp2_with(first|(go_at_call 34;refine(bi _ _ _ _).mono ?_;rintro e F⟨rfl,rfl⟩)|(go_at_call 279;refine(kx _ _).mono ?_;rintro e F⟨rfl,rfl⟩))
 have B:=hI hx;have av:=hI hy;go_round
 case rel=>exact⟨j+1,by omega,by go_num,hI (by rw[←T.out,ad.out,ar.out,kX,B.out,av.out];rfl)⟩
 case measure=>simp[intOf]<;>omega}}}
 {
 obtain rfl:j=h:=by omega
 have B:=hI (show kX p q=true from by rw[←T.out,qK (by rw[HP.out];omega),DS]);go_wp2_with fail
 go_roundw
 case rel=>exact⟨k+1,by omega,by go_num,hI (by rw[←I.out,M.out,N.out,gX,Z.out,B.out];rfl),a8⟩
 case measure=>simp[intOf]<;>omega})}
 {
 have e1:((p.length:Int) !=h)=false:=by simp;omega
 have e2:((q.length:Int) !=h)=true:=by simp;omega
 go_wp2_with fail
 go_quiet (fail)
 go_wp2_with fail
 go_ret;exact⟨ak (by rw[E.out,G.out,←I.out,M.out,N.out,gX,sU (xs:=q) (by omega)];simp),u.trans ((H.trans (ac _ _ _)).mono u.size)⟩}}
 {
 have e1:((p.length:Int) !=h)=true:=by simp;omega
 go_wp2_with fail
 go_quiet (fail)
 go_wp2_with fail
 go_ret;exact⟨ak (by rw[E.out,G.out,←I.out,M.out,N.out,gX,sU (xs:=p) (by omega)];simp),u.trans ((H.trans (ac _ _ _)).mono u.size)⟩}}
 {
 obtain rfl:k=m:=by omega
 go_wp2_with fail
 go_ret;exact⟨ak (by rw[E.out,G.out,←I.out,qK (by rw[U.out];omega),GL]),u.trans (L.mono u.size)⟩})}
 {
 have h:((m:Int) !=n)=true:=by simp;omega
 go_enter func285,ntmps285;go_wp2_with(go_at_call 34;refine(bi _ _ _ _).mono ?_;rintro e F⟨rfl,rfl⟩)
 go_ret;exact⟨ak (by rw[E.out,U.out,HM.out,decide_eq_false (show ¬n=m from λe=>h3 e.symm)];simp),Y _⟩}}
 {
 go_enter func285,ntmps285;go_wp2_with(go_at_call 34;refine(bi _ _ _ _).mono ?_;rintro e F⟨rfl,rfl⟩)
 go_ret;exact⟨ak (by rw[E.out,U.out,decide_eq_false h2];simp),Y _⟩}}}
theorem dB {w:World}{P C:OA}{n m k:Nat}{t:Tb}(G:RdT w P n C m t)(R:bl t)(hk:k<n){h:Nat}(hb:(h:Int)<t.boats):∃b o L N p u H M O q x y B I F J,P=some ⟨b,o,none⟩∧C=some ⟨u,H,none⟩∧t.pts.drop k=p::t.pts.drop (k+1)∧t.cds.drop k=q::t.cds.drop (k+1)∧w.cell? ⟨b,o+k,none⟩=some (.slice L p.length N)∧w.cell? ⟨u,H+k,none⟩=some (.slice M q.length O)∧L=some ⟨B,I,none⟩∧M=some ⟨F,J,none⟩∧h<p.length∧h<q.length∧p.length≤16∧q.length≤16∧p.getD h 0=x∧q.getD h 0=y∧0≤x∧x≤10000∧w.cell? ⟨B,I+h,none⟩=some (.int .i64 x)∧w.cell? ⟨F,J+h,none⟩=some (.int .i64 y):=by{
 have hl:=R.same;have a7:=G.pts.len;have a6:=G.cds.len;have ad:k<m:=by omega
 obtain⟨b,o,L,N,p,rfl,hp,Y,V,ar⟩:=G.pts.row hk;obtain⟨u,H,M,O,q,rfl,hq,Z,W,av⟩:=G.cds.row ad;obtain⟨⟨_,r2⟩,_,_⟩:=R.row k p q hp hq;have h2:=R.b2;obtain⟨B,I,x,rfl,T,_,a1⟩:=ar.int (k:=h) (by omega);obtain⟨F,J,y,rfl,hy,_,a2⟩:=av.int (k:=h) (by omega);have U:=r2 x (qF T);exact⟨b,o,_,N,p,u,H,_,O,q,x,y,B,I,F,J,rfl,rfl,Y,Z,V,W,rfl,rfl,by omega,by omega,by omega,by omega,by simp[List.getD,T],by simp[List.getD,hy],U.1,U.2,a1,a2⟩}
theorem rP {a h:Int}{b u:Bool}(B:(a,b)=(h,u)):Ending.returned (.tuple #[a,.bool b])=.returned (.tuple #[h,.bool u]):=by{injection B with F G;rw[F,G]}
theorem yx (P:OA)(n c:Nat)(C:OA)(m d:Nat)(t:Tb)(race:Int)(G:Nat)(kind:Int)(T:kind=1∨kind=2)(u:bl t)(B:(G:Int)<t.boats)(w:World)(h:RdT w P n C m t):Calls prog 126 #[.agg #[t.boats,.slice P n c,.slice C m d],race,G,kind] w λe w'=>e=.returned (.tuple #[.int .i64 (iA t race G kind).1,.bool (iA t race G kind).2])∧BL w w':=by{
 have hn:=h.pts.le;have hm:=h.cds.le;have a6:n≤12:=by have:=u.many;have:=h.pts.len;omega
 have W:=hI h.pts.len;have av:n=m:=by have:=u.same;have:=h.pts.len;have:=h.cds.len;omega
 subst av;have E:=hI (show iA t race G kind=uW (dw race kind G 0 t.pts t.cds 0 0) from rfl);generalize iA t race G kind=a2 at *;have HB:=hI (show ∀o,BL w (w.alloc o) from λo=>(qB _ _).alloc (qA _) o);have Y:=hI u;have V:=hI B;clear u B;go_enter func126,ntmps126;go_wp2_with fail
 obtain⟨_,F,B,u,H⟩:=ae w #[t.boats,.slice P n c,.slice C n d] 76;rw[←F];clear F H;have F0:=B.f3;have R:=h.below u;have U:=hI u;clear h u B;go_loop [10,11,18] (λs m i=>∃(k:Nat) (S h:Int),k≤n∧i=.int .i64 k∧s=.int .i64 S∧m=.int .i64 h∧0≤S∧S≤10000*k∧0≤h∧h≤k∧Hid (dw race kind G k (t.pts.drop k) (t.cds.drop k) S h=dw race kind G 0 t.pts t.cds 0 0)) (λ_ _ i=>n-(intOf i).toNat)
 case atStart=>exact⟨0,0,0,qH _,rfl,rfl,rfl,by omega,by omega,by omega,by omega,hI rfl⟩
 case round=>(
 obtain⟨k,S,h,_,rfl,rfl,rfl,_,_,_,_,F⟩:=hrel;by_cases ar:k<n
 {
 obtain⟨b,o,_,_,p,_,_,_,_,q,x,y,_,_,_,_,rfl,rfl,u,B,_,_,rfl,rfl,_,_,_,_,M,N,_,_,_,_⟩:=dB R Y ar V;have H:=hI u;have I:=hI B;have J:=hI M;have L:=hI N;clear u B M N R;by_cases M:(k:Int)<race
 {
 have O:=hI (show cA race kind k=true by rw[ks k T];simp[M]);by_cases B:y=9
 {
 have u:=hI (show ¬((cA race kind k&&!(y==9))=true) by simp[B]);subst B;go_wp2_with fail
 go_round
 case rel=>exact⟨k+1,S,h,by omega,by go_num,rfl,rfl,by omega,by omega,by omega,by omega,hI (by rw[←F.out,H.out,I.out,dw,J.out,L.out,if_neg u.out])⟩
 case measure=>simp[intOf]<;>omega}
 {
 have u:=hI (show(cA race kind k&&!(y==9))=true by rw[O.out];simp[B]);have Z:(y==9)=false:=by simp[B]
 have ad:(y !=9)=true:=by simp[B]
 go_wp2_with fail
 go_round
 case rel=>exact⟨k+1,S+x,h+1,by omega,by go_num,by go_num,by go_num,by omega,by omega,by omega,by omega,hI (by rw[←F.out,H.out,I.out,dw,J.out,L.out,if_pos u.out])⟩
 case measure=>simp[intOf]<;>omega}}
 {
 by_cases a1:race<(k:Int)
 {
 rcases T with rfl|rfl
 {
 have O:=hI (show cA race 1 k=true by rw[ks k (.inl rfl)];simp[M,a1]);by_cases B:y=9
 {
 have u:=hI (show ¬((cA race 1 k&&!(y==9))=true) by simp[B]);subst B;go_wp2_with fail
 go_round
 case rel=>exact⟨k+1,S,h,by omega,by go_num,rfl,rfl,by omega,by omega,by omega,by omega,hI (by rw[←F.out,H.out,I.out,dw,J.out,L.out,if_neg u.out])⟩
 case measure=>simp[intOf]<;>omega}
 {
 have u:=hI (show(cA race 1 k&&!(y==9))=true by rw[O.out];simp[B]);have Z:(y==9)=false:=by simp[B]
 have ad:(y !=9)=true:=by simp[B]
 go_wp2_with fail
 go_round
 case rel=>exact⟨k+1,S+x,h+1,by omega,by go_num,by go_num,by go_num,by omega,by omega,by omega,by omega,hI (by rw[←F.out,H.out,I.out,dw,J.out,L.out,if_pos u.out])⟩
 case measure=>simp[intOf]<;>omega}}
 {
 have N:=hI (show cA race 2 k=false by rw[ks k (.inr rfl)];simp[M]);have u:=hI (show ¬((cA race 2 k&&!(y==9))=true) by rw[N.out];simp);go_wp2_with fail
 go_round
 case rel=>exact⟨k+1,S,h,by omega,by go_num,rfl,rfl,by omega,by omega,by omega,by omega,hI (by rw[←F.out,H.out,I.out,dw,J.out,L.out,if_neg u.out])⟩
 case measure=>simp[intOf]<;>omega}}
 {
 have N:=hI (show cA race kind k=false by rw[ks k T];simp[M];omega);have u:=hI (show ¬((cA race kind k&&!(y==9))=true) by rw[N.out];simp);go_wp2_with fail
 go_round
 case rel=>exact⟨k+1,S,h,by omega,by go_num,rfl,rfl,by omega,by omega,by omega,by omega,hI (by rw[←F.out,H.out,I.out,dw,J.out,L.out,if_neg u.out])⟩
 case measure=>simp[intOf]<;>omega}}}
 {
 obtain rfl:k=n:=by omega
 rw[qK (by rw[W.out];omega),uE] at F;rw[←F.out] at E;clear F R;by_cases u:h=0
 {
 subst u;go_wp2_with fail
 go_ret2;exact⟨rP (by rw[E.out];rfl),U⟩}
 {
 have B:(h==0)=false:=by simp[u]
 have F:0<h:=by omega
 go_wp2_with fail
 go_ret2;exact⟨rP (by rw[E.out];unfold uW;rw[if_neg u]),U⟩}})}
theorem q_ (P:OA)(n c:Nat)(C:OA)(m d:Nat)(t:Tb)(race:Int)(G:Nat)(kind:Int)(u:bl t)(B:(G:Int)<t.boats)(w:World)(h:RdT w P n C m t):Calls prog 283 #[.agg #[t.boats,.slice P n c,.slice C m d],race,G,kind] w λe w'=>e=.returned (.tuple #[.int .i64 (iA t race G kind).1,.bool (iA t race G kind).2])∧BL w w':=by{
 have hn:=h.pts.le;have hm:=h.cds.le;have a2:n≤12:=by have:=u.many;have:=h.pts.len;omega
 have Y:=hI h.pts.len;have av:n=m:=by have:=u.same;have:=h.pts.len;have:=h.cds.len;omega
 subst av;have E:=hI (show iA t race G kind=uW (dw race kind G 0 t.pts t.cds 0 0) from rfl);generalize iA t race G kind=a1 at *;have HB:=hI (show ∀o,BL w (w.alloc o) from λo=>(qB _ _).alloc (qA _) o);have Z:=hI u;have W:=hI B;clear u B;go_enter func283,ntmps283;go_wp2_with fail
 obtain⟨_,F,B,u,H⟩:=ae w #[t.boats,.slice P n c,.slice C n d] 76;rw[←F];clear F H;have F0:=B.f3;have R:=h.below u;have U:=hI u;clear h u B;go_loop [10,11,12] (λs m i=>∃(k:Nat) (S h:Int),k≤n∧i=.int .i64 k∧s=.int .i64 S∧m=.int .i64 h∧0≤S∧S≤10000*k∧0≤h∧h≤k∧Hid (dw race kind G k (t.pts.drop k) (t.cds.drop k) S h=dw race kind G 0 t.pts t.cds 0 0)) (λ_ _ i=>n-(intOf i).toNat)
 case atStart=>exact⟨0,0,0,qH _,rfl,rfl,rfl,by omega,by omega,by omega,by omega,hI rfl⟩
 case round=>(
 obtain⟨k,S,h,_,rfl,rfl,rfl,_,_,_,_,F⟩:=hrel;by_cases ar:k<n
 {
 obtain⟨b,o,_,_,p,_,_,_,_,q,x,y,_,_,_,_,rfl,rfl,u,B,_,_,rfl,rfl,_,_,_,_,M,N,_,_,_,_⟩:=dB R Z ar W;have H:=hI u;have I:=hI B;have J:=hI M;have L:=hI N;clear u B M N R;by_cases M:(k:Int)=race
 {
 have er:((k:Int)==race)=true:=by simp[M]
 have N:=hI (show cA race kind k=false by unfold cA;simp[M]);have u:=hI (show ¬((cA race kind k&&!(y==9))=true) by rw[N.out];simp);go_wp2_with fail
 go_round
 case rel=>exact⟨k+1,S,h,by omega,by go_num,rfl,rfl,by omega,by omega,by omega,by omega,hI (by rw[←F.out,H.out,I.out,dw,J.out,L.out,if_neg u.out])⟩
 case measure=>simp[intOf]<;>omega}
 {
 have er:((k:Int)==race)=false:=by simp[M]
 by_cases T:kind=2
 {
 subst T;by_cases V:race<(k:Int)
 {
 have N:=hI (show cA race 2 k=false by unfold cA;simp[V]);have u:=hI (show ¬((cA race 2 k&&!(y==9))=true) by rw[N.out];simp);go_wp2_with fail
 go_round
 case rel=>exact⟨k+1,S,h,by omega,by go_num,rfl,rfl,by omega,by omega,by omega,by omega,hI (by rw[←F.out,H.out,I.out,dw,J.out,L.out,if_neg u.out])⟩
 case measure=>simp[intOf]<;>omega}
 {
 have O:=hI (show cA race 2 k=true by unfold cA;simp[M,V]<;>omega);by_cases B:y=9
 {
 have u:=hI (show ¬((cA race 2 k&&!(y==9))=true) by simp[B]);subst B;go_wp2_with fail
 go_round
 case rel=>exact⟨k+1,S,h,by omega,by go_num,rfl,rfl,by omega,by omega,by omega,by omega,hI (by rw[←F.out,H.out,I.out,dw,J.out,L.out,if_neg u.out])⟩
 case measure=>simp[intOf]<;>omega}
 {
 have u:=hI (show(cA race 2 k&&!(y==9))=true by rw[O.out];simp[B]);have e9:(y==9)=false:=by simp[B]
 have ad:(y !=9)=true:=by simp[B]
 go_wp2_with fail
 go_round
 case rel=>exact⟨k+1,S+x,h+1,by omega,by go_num,by go_num,by go_num,by omega,by omega,by omega,by omega,hI (by rw[←F.out,H.out,I.out,dw,J.out,L.out,if_pos u.out])⟩
 case measure=>simp[intOf]<;>omega}}}
 {
 have V:(kind==2)=false:=by simp[T]
 have O:=hI (show cA race kind k=true by unfold cA;simp[M,T]);by_cases B:y=9
 {
 have u:=hI (show ¬((cA race kind k&&!(y==9))=true) by simp[B]);subst B;go_wp2_with fail
 go_round
 case rel=>exact⟨k+1,S,h,by omega,by go_num,rfl,rfl,by omega,by omega,by omega,by omega,hI (by rw[←F.out,H.out,I.out,dw,J.out,L.out,if_neg u.out])⟩
 case measure=>simp[intOf]<;>omega}
 {
 have u:=hI (show(cA race kind k&&!(y==9))=true by rw[O.out];simp[B]);have e9:(y==9)=false:=by simp[B]
 have ad:(y !=9)=true:=by simp[B]
 go_wp2_with fail
 go_round
 case rel=>exact⟨k+1,S+x,h+1,by omega,by go_num,by go_num,by go_num,by omega,by omega,by omega,by omega,hI (by rw[←F.out,H.out,I.out,dw,J.out,L.out,if_pos u.out])⟩
 case measure=>simp[intOf]<;>omega}}}}
 {
 obtain rfl:k=n:=by omega
 rw[qK (by rw[Y.out];omega),uE] at F;rw[←F.out] at E;clear F R;by_cases u:h=0
 {
 subst u;go_wp2_with fail
 go_ret2;exact⟨rP (by rw[E.out];rfl),U⟩}
 {
 have B:(h==0)=false:=by simp[u]
 have F:0<h:=by omega
 go_wp2_with fail
 go_ret2;exact⟨rP (by rw[E.out];unfold uW;rw[if_neg u]),U⟩}})}
end Go.Proofs.YtnpldahkhaacnaaGreatDoor

/- Texts of the walk: Zh Zj. -/
import Derived.Test.YtnpldahkhaacnaaGreatDoorYbc
set_option linter.unusedVariables false
set_option linter.unusedSimpArgs false
set_option maxRecDepth 100000
set_option maxHeartbeats 32000000
namespace Go.Proofs.YtnpldahkhaacnaaGreatDoor
open Go.RowKit Go.Sort Go.Proofs.Tryz
def jh (t:Tb) (h:LI) (j:Nat) (b:Int):Int:=((ij j).countP (λk=>tM t h k b):Nat)
theorem uO (t:Tb)(h:LI)(b:Int):jh t h 0 b=0:=rfl
theorem uC (t:Tb)(h:LI)(j:Nat)(b:Int):jh t h (j+1) b=jh t h j b+(if (iB t h (j:Int) b).1<0 then 1 else 0):=by{
 unfold jh;have e:ij (j+1)=ij j++[(j:Int)]:=by unfold ij;rw[List.range_succ,qf];rfl
 rw[e,List.countP_append];by_cases u:(iB t h (j:Int) b).1<0
 {
 have B:tM t h (j:Int) b=true:=by unfold tM;simpa using u
 rw[if_pos u,List.countP_cons,List.countP_nil,if_pos B];omega}
 {
 have B:¬tM t h (j:Int) b=true:=by unfold tM;simpa using u
 rw[if_neg u,List.countP_cons,List.countP_nil,if_neg B];omega}}
theorem BP (t:Tb)(h:LI)(j:Nat)(b:Int):0≤jh t h j b∧jh t h j b≤j:=by{
 unfold jh;have u:=List.countP_le_length (p:=λk=>tM t h k b) (l:=ij j);rw[dg] at u;omega}
theorem vq {t:Tb}{h:Nat}(B:t.boats=(h:Int))(u:LI)(b:Int):iL t u b=1+jh t u h b:=by{
 unfold iL jj jh;rw[B,qP];omega}
def rkL (t:Tb) (h:LI):LI:=(ij t.boats.toNat).map (iL t h)
theorem B_ {t:Tb}{h:Nat}(B:t.boats=(h:Int))(u:LI){j:Nat}(F:j<h):(rkL t u)[j]?=some (iL t u (j:Int)):=by{
 unfold rkL;rw[B,qP,qZ,ww F];rfl}
theorem BR {t:Tb}{h:Nat}(u:t.boats=(h:Int))(B:LI):(rkL t B).length=h:=by{
 unfold rkL;rw[qV,dg,u,qP]}
theorem oc (P:OA)(n c:Nat)(C:OA)(m d:Nat)(t:Tb)(G:bl t)(A:OA)(l W:Nat)(u:LI)(V:u.length≤3)(h:Nat)(O:(h:Int)<t.boats)(w:World)(H:RdT w P n C m t)(U:Rd w 1 A l (ints u)):Calls prog 240 #[.agg #[t.boats,.slice P n c,.slice C m d],.slice A l W,h] w λe R=>e=.returned (.int .i64 (iL t u h))∧BL w R:=by{
 obtain rfl:n=m:=by have:=H.cds.len;have:=H.pts.len;have:=G.same;omega
 obtain⟨B,I⟩:∃B:Nat,t.boats=(B:Int):=⟨t.boats.toNat,by have:=G.b1;omega⟩;have a1:B≤16:=by have:=G.b2;omega
 have HR:=hI (vq I u (h:Int));have T:=hI (λ(k:Nat) (Y:(k:Int)<t.boats) R (F:BL w R)=>yl P n c C n d t G A l W u V k h Y O R (H.below F) (U.below F));rw[I] at T;rw[I];obtain⟨wa,Z,L,N,_⟩:=ae w #[(B:Int),.slice P n c,.slice C n d] 76;have J:=hI Z;have M:=hI N;have ad:=hI L;clear Z L N H U G O V I;go_enter func240,ntmps240;go_wp2_with fail
 rw[←J.out];clear J;go_wp2_with fail
 go_loopw [7,8] (λv i wr=>∃(k:Nat) (r:Int),k≤B∧i=.int .i64 k∧v=.int .i64 r∧r=1+jh t u k h∧Hid (BL wa wr)) (λ_ i _=>B-(intOf i).toNat)
 case atStart=>exact⟨0,1,qH _,rfl,rfl,by rw[uO];rfl,hI (qB _ _)⟩
 case round=>(
 obtain⟨k,r,Y,rfl,rfl,H,G⟩:=hrel;have I:=BP t u k h;have a2:0≤r:=by omega
 have a6:r≤20:=by omega
 have J:=hI H;have V:=(ad.below G).f3;clear I H;by_cases ar:k<B
 {
 have Z:decide ((k:Int)<(B:Int))=true:=by simpa using ar
 have N:=hI (T k (by omega) wr (M.trans (G.mono M.size)));have O:=hI (uC t u k h);generalize iB t u (k:Int) (h:Int)=q at *;by_cases F:q.1<0
 {
 have av:decide (q.1<0)=true:=by simpa using F
 have H:=O.out;rw[if_pos F] at H;have U:=hI (show r+1=1+jh t u (k+1) h from by rw[H,J.out];omega);clear H O F J;go_wp2_with fail
 refine N.mono ?_;rintro e w3⟨rfl,L⟩;have I:=zb G L;clear L G V N;go_wp2_with fail
 go_roundw
 case rel=>exact⟨k+1,r+1,by omega,by go_num,by go_num,U,I⟩
 case measure=>simp[intOf]<;>omega}
 {
 have av:decide (q.1<0)=false:=by simpa using F
 have H:=O.out;rw[if_neg F] at H;have U:=hI (show r=1+jh t u (k+1) h from by rw[H,J.out];omega);clear H O F J;go_wp2_with fail
 refine N.mono ?_;rintro e w3⟨rfl,L⟩;have I:=zb G L;clear L G V N;go_wp2_with fail
 go_roundw
 case rel=>exact⟨k+1,r,by omega,by go_num,rfl,U,I⟩
 case measure=>simp[intOf]<;>omega}}
 {
 obtain rfl:k=B:=by omega
 have Z:decide ((k:Int)<(k:Int))=false:=by simp
 have I:=hI (M.trans (G.mono M.size));clear T;go_wp2_with fail
 go_ret;exact⟨by rw[HR.out,←J.out];rfl,I⟩})}
theorem ub (P:OA)(n c:Nat)(C:OA)(m d:Nat)(t:Tb)(F:bl t)(A:OA)(l cl:Nat)(u:LI)(bo:u.length≤3)(w:World)(G:RdT w P n C m t)(hl:Rd w 1 A l (ints u)):Calls prog 150 #[.agg #[t.boats,.slice P n c,.slice C m d],.slice A l cl] w (pf w (rkL t u)):=by{
 obtain rfl:n=m:=by have:=G.cds.len;have:=G.pts.len;have:=F.same;omega
 obtain⟨h,B⟩:∃h:Nat,t.boats=(h:Int):=⟨t.boats.toNat,by have:=F.b1;omega⟩;have b6:h≤16:=by have:=F.b2;omega
 have HR:=hI (λ(b:Int)=>vq B u b);have bv:=hI (λ(j:Nat) (O:j<h)=>B_ B u O);have bN:=hI (BR B u);have Y:=hI (λ(a b:Nat) (ha:(a:Int)<t.boats) (J:(b:Int)<t.boats) I (H:BL w I)=>qs P n c C n d t F A l cl u bo a b ha J I (G.below H) (hl.below H));rw[B] at Y;rw[B];obtain⟨V,bq,M,N,bp⟩:=ae w #[(h:Int),.slice P n c,.slice C n d] 76;have Z:=hI bq;have R:=kB h (by omega) V;obtain⟨L,J⟩:∃L,L=V.alloc (.cells (madeCells #[(0:Int)] h) 2):=⟨_,rfl⟩;have T:=jM V V.heap.size 2 h (.int .i64 0) (qA _) (by omega);rw[←fZ,←J,bp] at T;have I:BL V L:=by rw[J];exact(qB _ _).alloc (qA _) _
 have a':=hI (N.trans (I.mono N.size));have bO:=hI (M.below I);have bb:=hI (show w.heap.size+1≤L.heap.size from by have:=I.size;omega);have W:=hI T;rw[←J,bp] at R;have U:=M.f3;generalize List.replicate h (0:Int)=b5 at *;clear bq M N J I T G hl F bo B;go_enter func150,ntmps150;go_wp2_with fail
 rw[←Z.out];clear Z;go_wp2_with fail
 rw[R];clear U R;go_wp2_with fail
 go_loopw [16] (λi wr=>∃(a:Nat) (I:LI),a≤h∧i=.int .i64 a∧Hid (∀j:Nat,j<a→I[j]?=some (iL t u (j:Int)))∧Hid (wr.ownsRow (w.heap.size+1) 2 1 (.slice (some ⟨w.heap.size+1,0,none⟩) h h) h (ints I))∧Hid (Below (w.heap.size+1) L wr)) (λi _=>h-(intOf i).toNat)
 case atStart=>exact⟨0,b5,qH _,rfl,hI (λj O=>absurd O (Nat.not_lt_zero _)),W,hI (qB _ _)⟩
 case round=>(
 clear W;obtain⟨a,I,_,rfl,Z,F,B⟩:=hrel;obtain⟨wo,b0⟩:∃wo:World,wo=wr:=⟨_,rfl⟩;subst b0;have av:=hI (eU F);by_cases halt:a<h
 {
 have bP:decide ((a:Int)<(h:Int))=true:=by simpa using halt
 obtain⟨gm,z,G,-,-,-,a6,a7⟩:=aY F (k:=a) halt;injection G with G;injection G with G _;subst G;obtain⟨ws,ad⟩:∃ws,ws=wo.setCell ⟨w.heap.size+1,a,none⟩ (.int .i64 1):=⟨_,rfl⟩;have ba:=hI (show ws.ownsRow (w.heap.size+1) 2 1 (.slice (some ⟨w.heap.size+1,0,none⟩) h h) h (ints (I.set a 1)) from by rw[ad];exact dn F 1);have a8:=hI (show Below (w.heap.size+1) L ws from by rw[ad];exact B.setCell (p:=⟨w.heap.size+1,a,none⟩) (qA _) _);have bk:=hI ad;clear ad F B;go_wp2_with fail
 rw[←bk.out];clear bk a6 a7;go_wp2_with fail
 go_loopw [24] (λi wr=>∃(b:Nat) (r:Int),b≤h∧i=.int .i64 b∧Hid (r=1+jh t u b a)∧Hid (wr.ownsRow (w.heap.size+1) 2 1 (.slice (some ⟨w.heap.size+1,0,none⟩) h h) h (ints (I.set a r)))∧Hid (Below (w.heap.size+1) L wr)) (λi _=>h-(intOf i).toNat)
 case atStart=>exact⟨0,1,qH _,rfl,hI (by rw[uO];rfl),ba,a8⟩
 case round=>(
 clear ba a8;obtain⟨b,r,_,rfl,J,F,B⟩:=hrel;obtain⟨wp,b3⟩:∃wp:World,wp=wr:=⟨_,rfl⟩;subst b3;have a2:=BP t u b a;have b7:0≤r:=by have:=J.out;omega
 have b9:r≤20:=by have:=J.out;omega
 have U:=(bO.below2 B (by omega)).f3;clear a2;by_cases bR:b<h
 {
 have a2:decide ((b:Int)<(h:Int))=true:=by simpa using bR
 have W:=hI (Y b a (by omega) (by omega) wp (a'.trans (B.mono (by omega))));have HS:=hI (uC t u b a);generalize iB t u (b:Int) (a:Int)=q at *;by_cases H:q.1<0
 {
 have bW:decide (q.1<0)=true:=by simpa using H
 have R:=HS.out;rw[if_pos H] at R;have a1:=hI (show r+1=1+jh t u (b+1) a from by rw[R,J.out];omega);clear R HS H J;go_wp2_with fail
 refine W.mono ?_;rintro e w3⟨rfl,N⟩;have T:=hI (B.trans (N.mono (by have:=B.size;have:=bb.out;omega)));have M:=hI (aa F N);obtain⟨gm,z,G,-,-,hz,a6,a7⟩:=aY M (k:=a) halt;injection G with G;injection G with G _;subst G;rw[List.getElem?_set_self (by rw[av.out];exact halt)] at hz;injection hz with hz;subst hz;obtain⟨wt,ar⟩:∃wt,wt=w3.setCell ⟨w.heap.size+1,a,none⟩ (.int .i64 (r+1)):=⟨_,rfl⟩;have bt:=hI (show wt.ownsRow (w.heap.size+1) 2 1 (.slice (some ⟨w.heap.size+1,0,none⟩) h h) h (ints (I.set a (r+1))) from by{
 rw[ar];have:=dn M (k:=a) (r+1);rwa [List.set_set] at this})
 have bs:=hI (show Below (w.heap.size+1) L wt from by rw[ar];exact T.setCell (p:=⟨w.heap.size+1,a,none⟩) (qA _) _);have bn:=hI ar;have b4:IntKind.i64.wrap (r+1)=r+1:=IntWalk.i64_in _ (by omega);clear N B U W ar F T M;go_wp2_with fail
 rw[←bn.out];clear bn a6 a7 b4;go_wp2_with fail
 go_roundw
 case rel=>exact⟨b+1,r+1,by omega,by go_num,a1,bt,bs⟩
 case measure=>simp[intOf]<;>omega}
 {
 have bW:decide (q.1<0)=false:=by simpa using H
 have R:=HS.out;rw[if_neg H] at R;have a1:=hI (show r=1+jh t u (b+1) a from by rw[R,J.out];omega);clear R HS H J;go_wp2_with fail
 refine W.mono ?_;rintro e w3⟨rfl,N⟩;have T:=hI (B.trans (N.mono (by have:=B.size;have:=bb.out;omega)));have M:=hI (aa F N);clear N B U W F;go_wp2_with fail
 go_roundw
 case rel=>exact⟨b+1,r,by omega,by go_num,a1,M,T⟩
 case measure=>simp[intOf]<;>omega}}
 {
 obtain rfl:b=h:=by omega
 have a2:decide ((b:Int)<(b:Int))=false:=by simp
 have H:=hI (show ∀j:Nat,j<a+1→(I.set a r)[j]?=some (iL t u (j:Int)) from by{
 intro j O;by_cases e:j=a
 {
 subst e;rw[List.getElem?_set_self (by rw[av.out];exact halt),J.out,HR.out]}
 {
 rw[List.getElem?_set_ne (by omega)];exact Z j (by omega)}})
 clear Y Z J U;go_wp2_with fail
 go_roundw
 case rel=>exact⟨a+1,I.set a r,by omega,by go_num,H,F,B⟩
 case measure=>simp[intOf]<;>omega})}
 {
 obtain rfl:a=h:=by omega
 have bP:decide ((a:Int)<(a:Int))=false:=by simp
 have T:=hI (a'.trans (B.mono (by omega)));have H:=hI (show rkL t u=I from by{
 apply List.ext_getElem?;intro j;by_cases O:j<a
 {rw[bv.out j O,Z.out j O]}
 {rw[qY (by rw[bN.out];omega),qY (by rw[av.out];omega)]}})
 have M:=hI (an F (show w.heap.size≤w.heap.size+1 by omega));clear Y Z F;go_wp2_with fail
 go_ret;exact⟨_,a,a,rfl,by rw[H.out];exact M,by omega,T⟩})}
theorem vD (P:OA)(n c:Nat)(C:OA)(m d:Nat)(t:Tb)(R:bl t)(A:OA)(l H:Nat)(h:LI)(M:h.length≤3)(F G:Nat)(w:World)(I:RdT w P n C m t)(L:Rd w 1 A l (ints h))(N:aO w F #[t.boats,.slice P n c,.slice C m d] 76)(O:aO w G #[.slice A l H] 44)(i j:Int)(U:0≤i)(V:i<t.boats)(W:0≤j)(Y:j<t.boats):Calls prog 78 #[i,j,.pointer (some ⟨F,0,none⟩),.pointer (some ⟨G,0,none⟩)] w λe B=>e=.returned (.int .i64 (iB t h i j).1)∧BL w B:=by{
 obtain⟨a,rfl⟩:=aC i U;obtain⟨b,rfl⟩:=aC j W;have u:=hI (λB (J:w=B)=>(qs P n c C m d t R A l H h M a b V Y B (J▸I) (J▸L)));have u:=hI (u w rfl);have J:=N.f3;have T:=O.cell (i:=0) rfl;generalize iB t h (a:Int) (b:Int)=q at *;clear I L R M N O;go_enter func78,ntmps78;go_wp2_with fail
 refine u.mono ?_;rintro e M⟨rfl,I⟩;have L:=hI I;clear I u J T;go_wp2_with fail
 go_ret;exact⟨rfl,L⟩}
theorem gG (P:OA)(n c:Nat)(C:OA)(m d:Nat)(t:Tb)(I:bl t)(A:OA)(l L:Nat)(h:LI)(V:h.length≤3)(w:World)(T:RdT w P n C m t)(U:Rd w 1 A l (ints h)):Calls prog 50 #[.agg #[t.boats,.slice P n c,.slice C m d],.slice A l L] w (pf w (standT t h)):=by{
 obtain⟨u,M⟩:∃u:Nat,t.boats=(u:Int):=⟨t.boats.toNat,by have:=I.b1;omega⟩;have Y:u≤16:=by have:=I.b2;omega
 obtain⟨w1,H,F,R,B,_⟩:=cI w #[t.boats,.slice P n c,.slice C m d] #[.slice A l L] 76 44;have J:=hI H;have W:=hI (nr u Y (some ⟨w.heap.size,0,none⟩) (some ⟨w.heap.size+1,0,none⟩) (λa b=>(iB t h a b).1) (tM t h) (λa b=>rfl) w1 (λN G a b O ad Z ar=>vD P n c C m d t I A l L h V w.heap.size (w.heap.size+1) N (T.below (B.trans (G.mono B.size))) (U.below (B.trans (G.mono B.size))) (F.below G) (R.below G) a b O (by omega) Z (by omega)));have O:=hI (show standT t h=aU (tM t h) (ij u) from by unfold standT;rw[M,qP]);have N:=hI B;have G:=F.f3;rw[O.out];rw[M] at G F H ⊢;have J:=hI H;generalize aU (tM t h) (ij u)=D at *;clear H F R T U I V M B O;go_enter func50,ntmps50;go_wp2_with fail
 rw[←J.out];clear J;go_wp2_with fail
 refine W.mono ?_;rintro e T⟨H,R,M,rfl,F,O,B⟩;have J:=hI (an F N.size);have I:=zb N B;clear F B G;go_wp2_with fail
 go_ret;exact⟨H,R,M,rfl,J,O,I⟩}
theorem Fp {h k:Nat}(u:k<h):(ij h).drop k=(k:Int)::(ij h).drop (k+1):=by{
 rw[List.drop_eq_getElem_cons (by rw[dg];exact u)];congr 1;unfold ij;simp}
def ry (t:Tb) (u:LI) (h k r:Nat):LI:=((ij h).drop k).filter λx=>decide (iL t u x=(r:Int))
def il (t:Tb) (u:LI) (h r:Nat):LI:=(List.range' r (h+1-r)).flatMap λq=>ry t u h 0 q
theorem CK {t:Tb}{h:LI}{u k r:Nat}(B:k<u):ry t h u k r=if iL t h (k:Int)=(r:Int) then(k:Int)::ry t h u (k+1) r else ry t h u (k+1) r:=by{
 unfold ry;rw[Fp B,List.filter_cons];by_cases e:iL t h (k:Int)=(r:Int)
 {rw[if_pos (by simpa using e),if_pos e]}
 {rw[if_neg (by simpa using e),if_neg e]}}
theorem Fe {t:Tb}{u:LI}{h r:Nat}:ry t u h h r=[]:=by{
 unfold ry;rw[qK (by rw[dg];exact qA _)];rfl}
theorem yG {t:Tb}{u:LI}{h r:Nat}(B:r≤h):il t u h r=ry t u h 0 r++il t u h (r+1):=by{
 unfold il;rw[show h+1-r=(h+1-(r+1))+1 by omega,List.range'_succ,List.flatMap_cons]}
theorem BG {t:Tb}{u:LI}{h:Nat}:il t u h (h+1)=[]:=by{
 unfold il;rw[Nat.sub_self];rfl}
theorem Ba {t:Tb}(F:bl t)(u:LI){h:Nat}(B:t.boats=(h:Int)):standT t u=il t u h 1:=by{
 rw[uF F,B,qP];unfold kP il;rw[show h+1-1=h by omega];congr 1;funext q;unfold ry;rw[qd];congr 1;funext x;unfold iL;rw[B,qP];have e:(((jj (tM t u) h x:Nat):Int)=(q:Int))↔(jj (tM t u) h x=q):=by omega
 simp only[e]}
theorem jY (P:OA)(n c:Nat)(C:OA)(m d:Nat)(t:Tb)(u:bl t)(A:OA)(l cl:Nat)(F:LI)(bo:F.length≤3)(w:World)(G:RdT w P n C m t)(Z:Rd w 1 A l (ints F)):Calls prog 238 #[.agg #[t.boats,.slice P n c,.slice C m d],.slice A l cl] w (pf w (standT t F)):=by{
 obtain rfl:n=m:=by have:=G.cds.len;have:=G.pts.len;have:=u.same;omega
 obtain⟨h,H⟩:∃h:Nat,t.boats=(h:Int):=⟨t.boats.toNat,by have:=u.b1;omega⟩;have b0:h≤16:=by have:=u.b2;omega
 have av:=hI (λ(k:Nat) (hk:(k:Int)<t.boats) I (B:BL w I)=>oc P n c C n d t u A l cl F bo k hk I (G.below B) (Z.below B));have I:=eQ t F;rw[H,qP] at I;obtain⟨D,L⟩:∃D,D=standT t F:=⟨_,rfl⟩;have T:=hI (show D=[]++il t F h 1 from by rw[L,Ba u F H];rfl);rw[←L] at I ⊢;have a2:=hI I;rw[H] at av ⊢;obtain⟨wa,bq,Y,M,bp⟩:=ae w #[(h:Int),.slice P n c,.slice C n d] 76;have V:=hI bq;obtain⟨J,B⟩:∃J,J=wa.alloc (.cells #[] 2):=⟨_,rfl⟩;have O:=df wa wa.heap.size 2 (qA _);rw[←B,bp] at O;have N:BL wa J:=by rw[B];exact(qB _ _).alloc (qA _) _
 have bP:J.heap.size=wa.heap.size+1:=by rw[B];simp
 have W:=hI B;have a1:=hI (M.trans (N.mono M.size));have a7:=hI (Y.below N);have U:=hI O;have b7:w.heap.size+1+1≤J.heap.size:=by omega
 have R:=hI (aK.refl (w.heap.size+1) (w.heap.size+1+1) J);clear bq Y M B N O bp bP G Z u bo H I L;go_enter func238,ntmps238;go_wp2_with fail
 rw[←V.out];clear V;go_wp2_with fail
 rw[←W.out];clear W;go_wp2_with fail
 go_loopw [5,6] (λv i wr=>∃(r G I:Nat) (u:LI),1≤r∧r≤h+1∧i=.int .i64 r∧v=.slice (some ⟨G,0,none⟩) u.length I∧(G=w.heap.size+1∨J.heap.size≤G)∧Hid (D=u++il t F h r)∧Hid (wr.ownsRow (w.heap.size+1) 2 1 (.slice (some ⟨G,0,none⟩) u.length I) u.length (ints u))∧Hid (aK (w.heap.size+1) (w.heap.size+1+1) J wr)) (λ_ i _=>h+1-(intOf i).toNat)
 case atStart=>exact⟨1,_,0,[],qA _,by omega,rfl,rfl,.inl rfl,T,U,R⟩
 case round=>(
 clear U R T;obtain⟨r,G,I,u,_,_,rfl,rfl,Z,L,M,H⟩:=hrel;obtain⟨wo,bR⟩:∃wo:World,wo=wr:=⟨_,rfl⟩;subst bR;have O:=hI Z;clear Z;have FX:=(a7.chg H (.inl (by omega))).f3;by_cases bn:r≤h
 {
 have bk:decide ((r:Int)≤(h:Int))=true:=by simpa using bn
 have B:=L.out;rw[yG bn] at B;have a6:=hI (show D=u++(ry t F h 0 r++il t F h (r+1)) from B);clear B L;go_wp2_with fail
 clear FX bk;go_loopw [5,7] (λv i wr=>∃(k G I:Nat) (u:LI),k≤h∧i=.int .i64 k∧v=.slice (some ⟨G,0,none⟩) u.length I∧(G=w.heap.size+1∨J.heap.size≤G)∧Hid (D=u++(ry t F h k r++il t F h (r+1)))∧Hid (wr.ownsRow (w.heap.size+1) 2 1 (.slice (some ⟨G,0,none⟩) u.length I) u.length (ints u))∧Hid (aK (w.heap.size+1) (w.heap.size+1+1) J wr)) (λ_ i _=>h-(intOf i).toNat)
 case atStart=>exact⟨0,G,I,u,qH _,rfl,rfl,O,a6,M,H⟩
 case round=>(
 clear a6 M H O;obtain⟨k,G,I,u,hk,rfl,rfl,Z,L,M,H⟩:=hrel;obtain⟨wp,bW⟩:∃wp:World,wp=wr:=⟨_,rfl⟩;subst bW;have O:=hI Z;clear Z;have b5:u.length≤16:=by have:=a2.out;have:=congrArg List.length L;rw[qJ] at this;omega
 have FX:=(a7.chg H (.inl (by omega))).f3;by_cases a':k<h
 {
 have bN:decide ((k:Int)<(h:Int))=true:=by simpa using a'
 have ad:=hI (av k (by omega) wp (ao a1 H (by omega) (by omega)));have B:=L.out;rw[CK a'] at B;have ar:=hI B;clear B L;generalize iL t F (k:Int)=q at *;by_cases U:q=(r:Int)
 {
 have bO:(q==(r:Int))=true:=by simp[U]
 have T:=ar.out;rw[if_pos U] at T;have R:=hI (show D=(u++[(k:Int)])++(ry t F h (k+1) r++il t F h (r+1)) from by rw[T];simp);clear T ar U;go_wp2_with fail
 refine ad.mono ?_;rintro e w3⟨rfl,N⟩;have W:=hI (aa M N);have V:=hI (jn H N);have b6:=N.size;have b3:=V.size;clear N M H ad FX;go_wp2_with(at_builtin;refine rS (y:=(k:Int)) _ rfl _ _ rfl rfl (aa W (za _ _)) rfl (heap_alloc_new _ _) (by omega) ?cBb ?_;rotate_left;intro Y c9 w9 bb a8 ba b4)
 {
 have bs:=hI (ql (jn V (za _ _)) a8 rfl O);have bv:=hI (show w9.ownsRow (w.heap.size+1) 2 1 (.slice (some ⟨Y,0,none⟩) (u++[(k:Int)]).length c9) (u++[(k:Int)]).length (ints (u++[(k:Int)])) from by rw[qJ];exact bb);have bt:=hI (show Y=w.heap.size+1∨J.heap.size≤Y from by{
 rcases ba with e|e
 {
 have e2:G=Y:=by simpa[Value.ownBlock] using e
 rw[←e2];exact O}
 {
 rw[e];have h1:=V.size;simp;omega}})
 clear bb a8 ba;go_roundw
 case rel=>exact⟨k+1,Y,c9,u++[(k:Int)],by omega,by go_num,by rw[qJ];rfl,bt,R,bv,bs⟩
 case measure=>simp[intOf]<;>omega}
 {first|omega|(simp;omega)}}
 {
 have bO:(q==(r:Int))=false:=by simp[U]
 have T:=ar.out;rw[if_neg U] at T;have R:=hI T;clear T ar U;go_wp2_with fail
 refine ad.mono ?_;rintro e w3⟨rfl,N⟩;have W:=hI (aa M N);have V:=hI (jn H N);clear N M H ad FX;go_wp2_with fail
 go_roundw
 case rel=>exact⟨k+1,G,I,u,by omega,by go_num,rfl,O,R,W,V⟩
 case measure=>simp[intOf]<;>omega}}
 {
 obtain rfl:k=h:=by omega
 have bN:decide ((k:Int)<(k:Int))=false:=by simp
 have B:=L.out;rw[Fe,List.nil_append] at B;have R:=hI B;clear B L av;go_wp2_with fail
 go_roundw
 case rel=>exact⟨r+1,G,I,u,by omega,by omega,by go_num,rfl,O,R,M,H⟩
 case measure=>simp[intOf]<;>omega})}
 {
 obtain rfl:r=h+1:=by omega
 have bk:decide ((((h+1:Nat):Int))≤(h:Int))=false:=decide_eq_false (by omega);have U:decide ((h:Int)+1≤(h:Int))=false:=decide_eq_false (by omega);have B:=L.out;rw[BG,qa] at B;have R:=hI B;have W:=hI (an M (show w.heap.size≤w.heap.size+1 by omega));have N:=hI (ao a1 H (by omega) (by omega));have T:u.length≤16:=by have:=a2.out;rw[B] at this;omega
 clear B L M av;go_wp2_with fail
 go_ret;exact⟨_,u.length,I,rfl,by rw[R.out];exact W,by omega,N⟩})}
end Go.Proofs.YtnpldahkhaacnaaGreatDoor

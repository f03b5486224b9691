/- Texts of the walk: Ji Jk Jo Ya Jn Jc Ms2. -/
import Derived.Test.YtnpldahkhaacnaaGreatDoorYan
import Derived.Test.YtnpldahkhaacnaaGreatDoorYaq
set_option linter.unusedVariables false
set_option linter.unusedSimpArgs false
set_option maxRecDepth 100000
set_option maxHeartbeats 32000000
namespace Go.Proofs.YtnpldahkhaacnaaGreatDoor
open Go.RowKit Go.Sort Go.Proofs.Tryz
def Bo (m:Int) (l:List EntryT):Int:=l.foldl (λm e=>max m (E.rev e)) m
theorem rW (l:List EntryT):∀m,m≤Bo m l:=by{
 induction l with
 | nil=>intro m;exact Int.le_refl _
 | cons y r h=>intro m;exact Int.le_trans (by omega) (h (max m (E.rev y)))}
theorem sZ {l:List EntryT}:∀{m:Int} {y:EntryT},y∈l→E.rev y≤Bo m l:=by{
 induction l with
 | nil=>intro m y h;cases h
 | cons z r u=>{
 intro m y h;rcases List.mem_cons.1 h with rfl|h
 {exact Int.le_trans (by omega) (rW r (max m (E.rev y)))}
 {exact u h}}}
theorem rK {l:List EntryT}{h:Int}:∀{m:Int},m≤h→(∀y∈l,E.rev y≤h)→Bo m l≤h:=by{
 induction l with
 | nil=>intro m u _;exact u
 | cons z r G=>intro m u B;exact G (m:=max m (E.rev z)) (by have:=B z (.head _);omega) (λy F=>B y (.tail _ F))}
def fk (h:List EntryT) (race boat:Int):Int:=Bo 0 (dS race boat h)
theorem CJ (h:List EntryT)(y:EntryT)(race boat:Int):fk (h++[y]) race boat=if (E.race y==race&&E.boat y==boat)=true then max (fk h race boat) (E.rev y) else fk h race boat:=by{
 unfold fk Bo;rw[kT];split
 {rw[List.foldl_append];rfl}
 {rw[qa]}}
theorem Cb (h:List EntryT)(race boat:Int):0≤fk h race boat:=rW _ _
theorem Cg {h:List EntryT}(u:∀x∈h,rL x)(race boat:Int):fk h race boat≤1000:=rK (by omega) (λy B=>(u y (fN.1 B).1).2.2.2.2.2)
theorem vc (u:List EntryT)(race boat:Int):fk u race boat=Bo 0 (ex u race boat):=by{
 have B:=me u race boat;refine Int.le_antisymm ?_ ?_
 {exact rK (rW _ _) (λy h=>sZ (B.mem_iff.2 h))}
 {exact rK (rW _ _) (λy h=>sZ (B.mem_iff.1 h))}}
theorem Dw {l:List EntryT}{y:EntryT}(I:l.Pairwise λx y=>E.rev x<E.rev y)(B:0≤E.rev y)(h:l[l.length-1]?=some y):Bo 0 l=E.rev y:=by{
 have H:y∈l:=qF h;refine Int.le_antisymm (rK B (λz J=>?_)) (sZ H);obtain⟨i,F,rfl⟩:=List.getElem_of_mem J;obtain⟨G,rfl⟩:=List.getElem?_eq_some_iff.1 h;by_cases u:i=l.length-1
 {subst u;exact Int.le_refl _}
 {exact Int.le_of_lt (List.pairwise_iff_getElem.1 I i (l.length-1) F G (by omega))}}
theorem Do {h:List EntryT}{race boat:Int}(u:ex h race boat=[]):fk h race boat=0:=by rw[vc,u];rfl
theorem CE {h:List EntryT}{race boat:Int}{y:EntryT}(B:h.Pairwise λx y=>bK x y=false)(G:∀x∈h,rL x)(u:(ex h race boat)[(ex h race boat).length-1]?=some y):fk h race boat=E.rev y:=by{
 rw[vc];have F:y∈ex h race boat:=qF u;exact Dw (qv B race boat) (by have:=(G y (sy.1 F).1).2.2.2.2.1;omega) u}
def lL (h:List EntryT) (x:EntryT):EntryT:=(E.race x,E.boat x,fk h (E.race x) (E.boat x)+1,E.code x,E.time x,E.kind x,E.points x)
def corC (b s:Int) (h:List EntryT) (x:EntryT):Int:=if dC b s h=true then(if E.rev x=0 then d_ b s h (lL h x) else 2) else 1
def mG (b s:Int) (h:List EntryT) (x:EntryT):Int:=if corC b s h x=0 then b else 0
def mF (b s:Int) (h:List EntryT) (x:EntryT):Int:=if corC b s h x=0 then s else 0
def mD (b s:Int) (h:List EntryT) (x:EntryT):List EntryT:=if corC b s h x=0 then h++[lL h x] else []
theorem BU {b s:Int}{h:List EntryT}{x:EntryT}(B:dC b s h=true)(F:E.rev x=0):corC b s h x=d_ b s h (lL h x)∧mG b s h x=fh b s h (lL h x)∧mF b s h x=fg b s h (lL h x)∧mD b s h x=ie b s h (lL h x):=by{
 have u:corC b s h x=d_ b s h (lL h x):=by unfold corC;rw[if_pos B,if_pos F]
 unfold mG mF mD fh fg ie;rw[u];exact⟨rfl,rfl,rfl,rfl⟩}
section
open Go.Lib
def Ha (w wr:World) (b s:Int) (A:OA) (n c:Nat) (h u B F G H:Int) (r:Int):Prop:=aO wr w.heap.size #[b,s,.slice A n c] 32∧aO wr (w.heap.size+1) #[h,u,r,B,F,G,H] 25∧aO wr (w.heap.size+1+1) #[(0:Int),(0:Int),.slice none 0 0] 32
theorem Ha.below {w wr w':World}{b s:Int}{A:OA}{n c:Nat}{B F G H I J r:Int}(h:Ha w wr b s A n c B F G H I J r)(u:BL wr w'):Ha w w' b s A n c B F G H I J r:=⟨h.1.below u,h.2.1.below u,h.2.2.below u⟩
theorem Ha.set {w wr:World}{b s:Int}{A:OA}{n c:Nat}{B F G H I J r:Int}(h:Ha w wr b s A n c B F G H I J r)(u:Int):Ha w (wr.setCell ⟨w.heap.size+1,2,none⟩ (.int .i64 u)) b s A n c B F G H I J u:=⟨h.1.other (by omega) _,by have:=h.2.1.set 2 (.int .i64 u);simpa using this,h.2.2.other (by omega) _⟩
theorem lY (b s:Int)(A:OA)(n c:Nat)(B:List EntryT)(h u J F G H I:Int)(w:World)(L:bA w A n c B):Calls prog 104 #[.agg #[b,s,.slice A n c],.agg #[h,u,J,F,G,H,I]] w (mh w (mG b s B (h,u,J,F,G,H,I)) (mF b s B (h,u,J,F,G,H,I)) (mD b s B (h,u,J,F,G,H,I)) (corC b s B (h,u,J,F,G,H,I))):=by{
 have HN:=hI L.1.len_ent;have b3:=L.1.le;obtain⟨w1,ar,N,O,V,Z,_⟩:=da w #[b,s,.slice A n c] #[h,u,J,F,G,H,I] #[(0:Int),(0:Int),.slice none 0 0] 32 25 32;have U:=hI Z;have R:=hI (show Ha w w1 b s A n c h u F G H I J from⟨N,O,V⟩);have HR:=hI (λw' (hb:BL w w')=>L.below hb);have HI:=hI (λw' (hb:BL w w')=>cJ b s A n c B w' (L.below hb));have W:=R.1.f3;have T:=R.2.1.f7;have Y:=R.2.1.fz (i:=2);have M:=R.2.2.f3;clear Z N O V L
 cases V:dC b s B with
 | false=>{
 rw[V] at HI;have N:corC b s B (h,u,J,F,G,H,I)=1:=by unfold corC;rw[V];rfl
 rw[N,show mG b s B (h,u,J,F,G,H,I)=0 from by unfold mG;rw[N];rfl,show mF b s B (h,u,J,F,G,H,I)=0 from by unfold mF;rw[N];rfl,show mD b s B (h,u,J,F,G,H,I)=[] from by unfold mD;rw[N];rfl];clear N V;go_enter func104,ntmps104;go_wp2_with fail
 rw[←ar];clear ar;go_wp2_with fail
 refine(HI _ U).mono ?_;rintro e w2⟨rfl,O⟩;have Z:=zb U O;have L:=hI (R.below O);clear O W T Y M R U;have W:=L.1.f3;have T:=L.2.1.f7;have Y:=L.2.1.fz (i:=2);have M:=L.2.2.f3;go_wp2_with fail
 refine bodyPost_ret (v:=.tuple #[.agg #[(0:Int),(0:Int),.slice none 0 0],(1:Int)]) (by simp[results,results104,go_sem,M]) rfl ?_;have ad:=aQ (g:=w.heap.size+1+1) [.int .i64 0,.int .i64 0,.slice none 0 0] 0 (aK.refl (w.heap.size+1+1) (w.heap.size+1+1+1) w2) (by omega) (by omega);exact⟨none,0,0,rfl,World.ownsRow_nil _ _ _ _,by omega,ao Z ad (by omega) (by omega)⟩}
 | true=>{
 rw[V] at HI;have av:=fA V;have bR:n≤400:=by have:=av.len;rw[HN.out] at this;exact this
 have bq:=hI av.okE;have bO:=hI av.key;clear av;by_cases h2:J=0
 rotate_left
 {
 have bP:(J !=0)=true:=by simp[h2]
 have N:corC b s B (h,u,J,F,G,H,I)=2:=by unfold corC;rw[if_pos V,if_neg h2]
 rw[N,show mG b s B (h,u,J,F,G,H,I)=0 from by unfold mG;rw[N];rfl,show mF b s B (h,u,J,F,G,H,I)=0 from by unfold mF;rw[N];rfl,show mD b s B (h,u,J,F,G,H,I)=[] from by unfold mD;rw[N];rfl];clear N V h2;go_enter func104,ntmps104;go_wp2_with fail
 rw[←ar];clear ar;go_wp2_with fail
 refine(HI _ U).mono ?_;rintro e w2⟨rfl,O⟩;have Z:=zb U O;have L:=hI (R.below O);clear O W T Y M R U;have W:=L.1.f3;have T:=L.2.1.f7;have Y:=L.2.1.fz (i:=2);have M:=L.2.2.f3;go_wp2_with fail
 refine bodyPost_ret (v:=.tuple #[.agg #[(0:Int),(0:Int),.slice none 0 0],(2:Int)]) (by simp[results,results104,go_sem,M]) rfl ?_;have ad:=aQ (g:=w.heap.size+1+1) [.int .i64 0,.int .i64 0,.slice none 0 0] 0 (aK.refl (w.heap.size+1+1) (w.heap.size+1+1+1) w2) (by omega) (by omega);exact⟨none,0,0,rfl,World.ownsRow_nil _ _ _ _,by omega,ao Z ad (by omega) (by omega)⟩}
 subst h2;obtain⟨a2,a6,a7,a8⟩:=BU (x:=(h,u,0,F,G,H,I)) V rfl;rw[a2,a6,a7,a8,show lL B (h,u,0,F,G,H,I)=(h,u,fk B h u+1,F,G,H,I) from rfl];clear a2 a6 a7 a8 V;have b0:=Cb B h u;have b2:=Cg bq h u;go_enter func104,ntmps104;go_wp2_with fail
 rw[←ar];clear ar;go_wp2_with fail
 refine(HI _ U).mono ?_;rintro e w2⟨rfl,O⟩;have Z:=zb U O;have L:=hI (R.below O);clear O W T Y M R U;have W:=L.1.f3;have T:=L.2.1.f7;have Y:=L.2.1.fz (i:=2);have M:=L.2.2.f3;go_wp2_with fail
 go_loopw [19] (λi wr=>∃k:Nat,k≤n∧i=.int .i64 k∧Hid (Ha w wr b s A n c h u F G H I (fk (B.take k) h u))∧Hid (BL w wr)) (λi _=>n-(intOf i).toNat)
 case atStart=>exact⟨0,qH _,rfl,L,Z⟩
 case round=>(
 clear L Z W T Y M;obtain⟨k,_,rfl,L,U⟩:=hrel;obtain⟨wo,bN⟩:∃wo:World,wo=wr:=⟨_,rfl⟩;subst bN;have W:=L.1.f3;have T:=L.2.1.f7;have Y:=L.2.1.fz (i:=2);have M:=L.2.2.f3;have bk:=U.size;by_cases bt:k<n
 {
 obtain⟨_,_,N,O,R,y3,y4,y5,y6,rfl,V,Z,_,a2,a6,a7,a8,_,_⟩:=(HR _ U).1.ent bt;have HT:=hI (show fk (B.take (k+1)) h u=if (N==h&&O==u)=true then max (fk (B.take k) h u) R else fk (B.take k) h u from by rw[gH V];exact CJ _ _ _ _);clear V Z;obtain⟨_,bn,Z,V,_⟩:=ae wo #[N,O,R,y3,y4,y5,y6] 25;have a':=hI (L.below V);have a1:=hI (U.trans (V.mono bk));have b4:=a1.size;clear V Z;generalize fk (B.take k) h u=Z at *;by_cases e0:N=h
 rotate_left
 {
 have h0:(N==h)=false:=by simp[e0]
 clear e0;have V:=hI (show fk (B.take (k+1)) h u=Z from by rw[HT.out,h0,Bool.false_and];rfl);go_wp2_with fail
 rw[←bn];go_roundw
 case rel=>exact⟨k+1,by omega,by go_num,by rw[V.out];exact a',a1⟩
 case measure=>simp[intOf]<;>omega}
 {
 have h0:(N==h)=true:=by simp[e0]
 clear e0;by_cases e1:O=u
 rotate_left
 {
 have h1:(O==u)=false:=by simp[e1]
 clear e1;have V:=hI (show fk (B.take (k+1)) h u=Z from by rw[HT.out,h1,Bool.and_false];rfl);go_wp2_with fail
 rw[←bn];go_roundw
 case rel=>exact⟨k+1,by omega,by go_num,by rw[V.out];exact a',a1⟩
 case measure=>simp[intOf]<;>omega}
 {
 have h1:(O==u)=true:=by simp[e1]
 clear e1;have V:=hI (show fk (B.take (k+1)) h u=max Z R from by rw[HT.out,h0,h1];rfl);have bs:=hI ((L.set (max Z R)).below (w':=World.alloc _ (.cells #[N,O,R,y3,y4,y5,y6] 25)) (za _ _));have bo:=hI ((U.setCell (p:=⟨w.heap.size+1,2,none⟩) (by simp) (.int .i64 (max Z R))).alloc (by rw[gV];exact bk) (.cells #[N,O,R,y3,y4,y5,y6] 25));go_wp2_with fail
 go_roundw
 case rel=>exact⟨k+1,by omega,by go_num,by rw[V.out];exact bs,bo⟩
 case measure=>simp[intOf]<;>omega}}}
 {
 obtain rfl:k=n:=by omega
 have N:B.take k=B:=qI (by rw[HN.out];exact qA _);rw[N] at L T;clear N;have Z:=hI (L.set (fk B h u+1));have V:=hI (U.setCell (p:=⟨w.heap.size+1,2,none⟩) (by simp) (.int .i64 (fk B h u+1)));go_wp2_with fail
 generalize wo.setCell ⟨w.heap.size+1,2,none⟩ (.int .i64 (fk B h u+1))=w4 at *;refine(pV b s A _ c B h u (fk B h u+1) F G H I _ (HR _ V)).mono ?_;rintro e w6⟨N,R,O,rfl,bb,bv,ba⟩;have bp:=zb V ba;clear M;have M:=(Z.below ba).2.2.f3;have bW:=Z.2.2.lt;go_wp2_with fail
 refine bodyPost_ret (v:=.tuple #[.agg #[.int .i64 (fh b s B (h,u,fk B h u+1,F,G,H,I)),.int .i64 (fg b s B (h,u,fk B h u+1,F,G,H,I)),.slice N R O],.int .i64 (d_ b s B (h,u,fk B h u+1,F,G,H,I))]) (by simp[results,results104,go_sem,M]) rfl ?_;have ad:=aQ (g:=w.heap.size+1+1) [.int .i64 (fh b s B (h,u,fk B h u+1,F,G,H,I)),.int .i64 (fg b s B (h,u,fk B h u+1,F,G,H,I)),.slice N R O] 0 (aK.refl (w.heap.size+1+1) (w.heap.size+1+1+1) w6) (by omega) (by omega);exact⟨N,R,O,rfl,an (aE bb ad (λb hb=>.inr (by have:=(bb.lt b hb).1;omega))) (by omega),bv,ao bp ad (by omega) (by omega)⟩})}}
theorem lI (b s:Int)(A:OA)(n c:Nat)(B:List EntryT)(h u L F G H I:Int)(w:World)(J:bA w A n c B):Calls prog 163 #[.agg #[b,s,.slice A n c],.agg #[h,u,L,F,G,H,I]] w (mh w (mG b s B (h,u,L,F,G,H,I)) (mF b s B (h,u,L,F,G,H,I)) (mD b s B (h,u,L,F,G,H,I)) (corC b s B (h,u,L,F,G,H,I))):=by{
 have HN:=hI J.1.len_ent;have b4:=J.1.le;obtain⟨w1,ar,N,O,V,W,_⟩:=da w #[b,s,.slice A n c] #[h,u,L,F,G,H,I] #[(0:Int),(0:Int),.slice none 0 0] 32 25 32;have U:=hI W;have R:=hI (show Ha w w1 b s A n c h u F G H I L from⟨N,O,V⟩);have HR:=hI (λw' (hb:BL w w')=>J.below hb);have HI:=hI (λw' (hb:BL w w')=>bX b s A n c B w' (J.below hb));have Y:=R.1.f3;have T:=R.2.1.f7;have Z:=R.2.1.fz (i:=2);have M:=R.2.2.f3;clear W N O V J
 cases W:dC b s B with
 | false=>{
 rw[W] at HI;have N:corC b s B (h,u,L,F,G,H,I)=1:=by unfold corC;rw[W];rfl
 rw[N,show mG b s B (h,u,L,F,G,H,I)=0 from by unfold mG;rw[N];rfl,show mF b s B (h,u,L,F,G,H,I)=0 from by unfold mF;rw[N];rfl,show mD b s B (h,u,L,F,G,H,I)=[] from by unfold mD;rw[N];rfl];clear N W;go_enter func163,ntmps163;go_wp2_with fail
 rw[←ar];clear ar;go_wp2_with fail
 refine(HI _ U).mono ?_;rintro e w2⟨rfl,O⟩;have ad:=zb U O;have J:=hI (R.below O);clear O Y T Z M R U;have Y:=J.1.f3;have T:=J.2.1.f7;have Z:=J.2.1.fz (i:=2);have M:=J.2.2.f3;go_wp2_with fail
 refine bodyPost_ret (v:=.tuple #[.agg #[(0:Int),(0:Int),.slice none 0 0],(1:Int)]) (by simp[results,results163,go_sem,M]) rfl ?_;have V:=aQ (g:=w.heap.size+1+1) [.int .i64 0,.int .i64 0,.slice none 0 0] 0 (aK.refl (w.heap.size+1+1) (w.heap.size+1+1+1) w2) (by omega) (by omega);exact⟨none,0,0,rfl,World.ownsRow_nil _ _ _ _,by omega,ao ad V (by omega) (by omega)⟩}
 | true=>{
 rw[W] at HI;have a7:=fA W;have bR:n≤400:=by have:=a7.len;rw[HN.out] at this;exact this
 have ba:=hI a7.okE;have bn:=hI a7.key;clear a7;by_cases h2:L=0
 rotate_left
 {
 have b3:(L !=0)=true:=by simp[h2]
 have N:corC b s B (h,u,L,F,G,H,I)=2:=by unfold corC;rw[if_pos W,if_neg h2]
 rw[N,show mG b s B (h,u,L,F,G,H,I)=0 from by unfold mG;rw[N];rfl,show mF b s B (h,u,L,F,G,H,I)=0 from by unfold mF;rw[N];rfl,show mD b s B (h,u,L,F,G,H,I)=[] from by unfold mD;rw[N];rfl];clear N W h2;go_enter func163,ntmps163;go_wp2_with fail
 rw[←ar];clear ar;go_wp2_with fail
 refine(HI _ U).mono ?_;rintro e w2⟨rfl,O⟩;have ad:=zb U O;have J:=hI (R.below O);clear O Y T Z M R U;have Y:=J.1.f3;have T:=J.2.1.f7;have Z:=J.2.1.fz (i:=2);have M:=J.2.2.f3;go_wp2_with fail
 refine bodyPost_ret (v:=.tuple #[.agg #[(0:Int),(0:Int),.slice none 0 0],(2:Int)]) (by simp[results,results163,go_sem,M]) rfl ?_;have V:=aQ (g:=w.heap.size+1+1) [.int .i64 0,.int .i64 0,.slice none 0 0] 0 (aK.refl (w.heap.size+1+1) (w.heap.size+1+1+1) w2) (by omega) (by omega);exact⟨none,0,0,rfl,World.ownsRow_nil _ _ _ _,by omega,ao ad V (by omega) (by omega)⟩}
 subst h2;obtain⟨N,bp,bq,bs⟩:=BU (x:=(h,u,0,F,G,H,I)) W rfl;rw[N,bp,bq,bs,show lL B (h,u,0,F,G,H,I)=(h,u,fk B h u+1,F,G,H,I) from rfl];clear N bp bq bs W;have bt:=Cb B h u;have bv:=Cg ba h u;go_enter func163,ntmps163;go_wp2_with fail
 rw[←ar];clear ar;go_wp2_with fail
 refine(HI _ U).mono ?_;rintro e w2⟨rfl,O⟩;have ad:=zb U O;have J:=hI (R.below O);clear O Y T Z M R U;have Y:=J.1.f3;have T:=J.2.1.f7;have Z:=J.2.1.fz (i:=2);have M:=J.2.2.f3;go_wp2_with fail
 have R:=hI (ip b s h u A n c B w2 (HR _ ad) bR ba bn);refine R.mono ?_;rintro e w3⟨_,n3,_,rfl,O,_,N⟩;have a8:=zb ad N;have U:=hI (J.below N);have W:=aN bw (by decide) O;have bo:=hI W;have bO:=hI O;have b5:=a8.size;have bP:=hI J.2.1.lt;clear N O W R Y T Z M J;have Y:=U.1.f3;have T:=U.2.1.f7;have Z:=U.2.1.fz (i:=2);have M:=U.2.2.f3;by_cases h0:n3=0
 {
 subst h0;have W:fk B h u+1=1:=by rw[Do (List.eq_nil_of_length_eq_zero bo.out)];rfl
 have bb:=hI W;clear W;have a1:=hI (U.set 1);have av:=hI (a8.setCell (p:=⟨w.heap.size+1,2,none⟩) (by simp) (.int .i64 1));clear bt bv;go_wp2_with fail
 generalize w3.setCell ⟨w.heap.size+1,2,none⟩ (.int .i64 1)=w4 at *;refine(jQ b s A _ c B h u (1) F G H I _ (HR _ av)).mono ?_;rintro e w6⟨N,R,O,rfl,a6,bk,a2⟩;have a':=zb av a2;clear M;have M:=(a1.below a2).2.2.f3;have bW:=a1.2.2.lt;go_wp2_with fail
 refine bodyPost_ret (v:=.tuple #[.agg #[.int .i64 (fh b s B (h,u,1,F,G,H,I)),.int .i64 (fg b s B (h,u,1,F,G,H,I)),.slice N R O],.int .i64 (d_ b s B (h,u,1,F,G,H,I))]) (by simp[results,results163,go_sem,M]) rfl ?_;rw[bb.out];have V:=aQ (g:=w.heap.size+1+1) [.int .i64 (fh b s B (h,u,1,F,G,H,I)),.int .i64 (fg b s B (h,u,1,F,G,H,I)),.slice N R O] 0 (aK.refl (w.heap.size+1+1) (w.heap.size+1+1+1) w6) (by omega) (by omega);exact⟨N,R,O,rfl,an (aE a6 V (λb hb=>.inr (by have:=(a6.lt b hb).1;omega))) (by omega),bk,ao a' V (by omega) (by omega)⟩}
 {
 obtain⟨j,rfl⟩:∃j,n3=j+1:=⟨n3-1,by omega⟩;obtain⟨g9,z0,_,J,z3,z4,z5,_,rfl,_,_,bN,b2,b0,b1,_,_⟩:=bU bO (k:=j) (by omega);have W:fk B h u=J:=CE bn ba (by rw[bo.out];exact bN);rw[W] at bt bv;have bb:=hI (show fk B h u+1=J+1 from by rw[W]);clear W;clear bN b2 b0 b1;have b6:=ad.size;have b7:=T.2.2.2.2.2.2.2;have W:(w.heap.size+1=g9)=False:=by have:=bP.out;simp;omega
 have a1:=hI ((U.set 1).set (J+1));have av:=hI ((a8.setCell (p:=⟨w.heap.size+1,2,none⟩) (by simp) (.int .i64 1)).setCell (p:=⟨w.heap.size+1,2,none⟩) (by simp) (.int .i64 (J+1)));go_wp2_with fail
 generalize (w3.setCell ⟨w.heap.size+1,2,none⟩ (.int .i64 1)).setCell ⟨w.heap.size+1,2,none⟩ (.int .i64 (J+1))=w4 at *;refine(jQ b s A _ c B h u (J+1) F G H I _ (HR _ av)).mono ?_;rintro e w6⟨N,R,O,rfl,a6,bk,a2⟩;have a':=zb av a2;clear M;have M:=(a1.below a2).2.2.f3;have bW:=a1.2.2.lt;go_wp2_with fail
 refine bodyPost_ret (v:=.tuple #[.agg #[.int .i64 (fh b s B (h,u,J+1,F,G,H,I)),.int .i64 (fg b s B (h,u,J+1,F,G,H,I)),.slice N R O],.int .i64 (d_ b s B (h,u,J+1,F,G,H,I))]) (by simp[results,results163,go_sem,M]) rfl ?_;rw[bb.out];have V:=aQ (g:=w.heap.size+1+1) [.int .i64 (fh b s B (h,u,J+1,F,G,H,I)),.int .i64 (fg b s B (h,u,J+1,F,G,H,I)),.slice N R O] 0 (aK.refl (w.heap.size+1+1) (w.heap.size+1+1+1) w6) (by omega) (by omega);exact⟨N,R,O,rfl,an (aE a6 V (λb hb=>.inr (by have:=(a6.lt b hb).1;omega))) (by omega),bk,ao a' V (by omega) (by omega)⟩}}}
end
def fF (b:Nat):List ah:=(List.range b).map λ(i:Nat)=>((i:Int),(1:Int),(0:Int))
theorem kL (b:Nat):(fF b).length=b:=by simp[fF]
theorem rg (b:Nat):fF (b+1)=fF b++[((b:Int),(1:Int),(0:Int))]:=by simp[fF,List.range_succ]
def h_ (b:Nat) (h:List (List ah)) (m:Nat):List (List ah):=h++List.replicate (m-h.length) (fF b)
def nu (b:Nat) (h:List (List ah)) (x:EntryT):List (List ah):=(h_ b h ((E.race x).toNat+1)).set (E.race x).toNat (((h_ b h ((E.race x).toNat+1)).getD (E.race x).toNat []).set (E.boat x).toNat (E.boat x,E.code x,E.time x))
def iY (b:Nat):List (List ah)→List EntryT→List (List ah)|h,[]=>h|h,x::r=>iY b (nu b h x) r
def Iv (b:Int) (l:List EntryT):List (List ah):=iY b.toNat [] l
def dj (b:Nat) (h:List (List ah)):Prop:=h.length≤12∧∀r∈h,r.length=b
theorem dj.nil (b:Nat):dj b []:=⟨by simp,λr h=>by cases h⟩
theorem ph (b:Nat)(h:List (List ah))(m:Nat):(h_ b h m).length=h.length+(m-h.length):=by simp[h_]
theorem dj.pad {b:Nat}{B:List (List ah)}(u:dj b B){m:Nat}(F:m≤12):dj b (h_ b B m):=by{
 refine⟨by rw[ph];have:=u.1;omega,λr h=>?_⟩;unfold h_ at h;rcases List.mem_append.1 h with h|h
 {exact u.2 r h}
 {rw[List.eq_of_mem_replicate h,kL]}}
theorem Cr {b:Nat}{h:List (List ah)}{m:Nat}(u:m≤h.length):h_ b h m=h:=by{unfold h_;rw[show m-h.length=0 by omega];simp}
theorem uD {b:Nat}{rows:List (List ah)}{m:Nat}(h:rows.length<m):h_ b (rows++[fF b]) m=h_ b rows m:=by{
 unfold h_;rw[qb];congr 1;rw[qJ,show m-rows.length=(m-(rows.length+[fF b].length))+1 by simp;omega,List.replicate_succ];rfl}
theorem dj.snoc {b:Nat}{u:List (List ah)}(B:dj b u)(F:u.length<12):dj b (u++[fF b]):=by{
 refine⟨by simp;omega,λr h=>?_⟩;rcases List.mem_append.1 h with h|h
 {exact B.2 r h}
 {rw[List.mem_singleton.1 h,kL]}}
theorem dj.set {b:Nat}{B:List (List ah)}(u:dj b B)(k:Nat){r:List ah}(F:r.length=b):dj b (B.set k r):=by{
 refine⟨by simpa using u.1,λz h=>?_⟩;rcases List.mem_or_eq_of_mem_set h with h|rfl
 {exact u.2 z h}
 {exact F}}
theorem dj.put {b:Nat}{h:List (List ah)}(F:dj b h){x:EntryT}(G:0≤E.race x)(H:E.race x≤11):dj b (nu b h x):=by{
 have B:=F.pad (m:=(E.race x).toNat+1) (by omega);have u:(E.race x).toNat<(h_ b h ((E.race x).toNat+1)).length:=by rw[ph];omega
 refine B.set _ ?_;rw[List.length_set,qC,qG u];exact B.2 _ (List.getElem_mem u)}
theorem dj.go {b:Nat}{l:List EntryT}:∀{h:List (List ah)},dj b h→(∀x∈l,0≤E.race x∧E.race x≤11)→dj b (iY b h l):=by{
 induction l with
 | nil=>intro h u _;exact u
 | cons x r G=>intro h u B;exact G (u.put (B x (.head _)).1 (B x (.head _)).2) (λy F=>B y (.tail _ F))}
theorem EJ {b:Nat}{h:List (List ah)}(u:∀r∈h,r.length=b):kS h=3*b*h.length:=by{
 induction h with
 | nil=>rfl
 | cons y r F=>{
 unfold kS;rw[F (λz B=>u z (.tail _ B)),u y (.head _),qO,Nat.mul_add];omega}}
theorem sJ (b:Nat)(l:List EntryT){k:Nat}{x:EntryT}(u:l[k]?=some x)(h:List (List ah)):iY b h (l.take (k+1))=nu b (iY b h (l.take k)) x:=by{
 rw[gH u];generalize l.take k=p
 induction p generalizing h with
 | nil=>rfl
 | cons y r B=>exact B (nu b h y)}
theorem dj.sum {b:Nat}{u:List (List ah)}(h:dj b u)(F:b≤16):kS u≤1048576:=by{
 rw[EJ h.2];have B:=Nat.mul_le_mul (show 3*b≤48 by omega) h.1;omega}
theorem uH {u:List EntryT}{b r:Nat}{x:EntryT}(h:x∈fd u b r):x∈u∧0≤E.race x∧E.race x<r∧0≤E.boat x∧E.boat x<b:=by{
 unfold fd iw at h;simp only[List.mem_flatMap,List.mem_range] at h;obtain⟨race,_,boat,_,h⟩:=h;have F:x∈ex u race boat:=by{
 unfold mT at h;exact List.mem_of_getLast? (Option.mem_toList.1 h)}
 obtain⟨B,_,_⟩:=sy.1 F;exact⟨B,by omega,by omega,by omega,by omega⟩}
theorem fK {h:List EntryT}{b:Int}{x:EntryT}(u:x∈currF b h):x∈h∧0≤E.race x∧E.race x≤11∧0≤E.boat x∧E.boat x<b:=by{
 obtain⟨B,F,_,G,_⟩:=uH u;exact⟨B,F,by omega,G,by omega⟩}
def ia (b:Int) (h:List EntryT):List (List ah):=Iv b (currF b h)
theorem ma (b:Int)(u:List EntryT):dj b.toNat (ia b u):=(dj.nil _).go (λx h=>⟨(fK h).2.1,(fK h).2.2.1⟩)
def sN (b s:Int) (h:List EntryT):Int:=if dC b s h=true then 0 else 1
def cameN (h:List ah):Nat:=(h.filter λg=>!(g.2.1==1)).length
def vW (s:Int) (h:List ah) (f:ah):Int:=if f.2.1=0 then 5*(2*(ci h f).1+(ci h f).2-1) else if f.2.1=9 then 0 else if f.2.1=1∨s=0 then 10*((h.length:Int)+1) else 10*((cameN h:Int)+1)
def eW (s:Int) (h:List ah):LI:=h.map (vW s h)
def io (h:List ah):LI:=h.map λf=>f.2.1
def gD (b s:Int) (h:List (List ah)):Tb:=⟨b,h.map (eW s),h.map io⟩
theorem xj (h:List ah):cameN h≤h.length:=List.length_filter_le _ _
theorem II (s:Int)(h:List ah)(f:ah)(B:h.length≤16):0≤vW s h f∧vW s h f≤10000:=by{
 have F:=xj h;have G:=pO f.2.2 h;have H:=pI f.2.2 h;unfold vW;split
 {
 rename_i u;unfold ci;rw[if_pos u];simp only;omega}
 {
 split
 {omega}
 {split<;>omega}}}
def jJ (h:List (List ah)):Prop:=∀r∈h,∀(k:Nat) (f:ah),r[k]?=some f→f.1=(k:Int)∧dP f=true
theorem Ie {b s:Int}{B:List (List ah)}(L:1≤b)(M:b≤16)(I:dj b.toNat B)(N:jJ B):bl (gD b s B):=by{
 refine⟨L,M,by simp[gD];exact I.1,by simp[gD],λk p c h u=>?_⟩;simp only[gD,qZ] at h u
 cases G:B[k]? with
 | none=>rw[G] at h;cases h
 | some F=>{
 rw[G] at h u;simp only[Option.map_some,Option.some.injEq] at h u;subst h;subst u;have J:=qF G;have T:=I.2 F J;refine⟨⟨by simp only[eW,qV,gD];omega,λx H=>?_⟩,by simp only[io,qV,gD];omega,λx H=>?_⟩
 {
 obtain⟨f,_,rfl⟩:=List.mem_map.1 H;exact II s F f (by omega)}
 {
 obtain⟨f,O,rfl⟩:=List.mem_map.1 H;obtain⟨q,R⟩:=List.mem_iff_getElem?.1 O;have:=rO (N F J q f R).2;exact⟨this.1,this.2.1⟩}}}
theorem C_ {b k:Nat}{f:ah}(h:(fF b)[k]?=some f):f=((k:Int),(1:Int),(0:Int)):=by{
 unfold fF at h;rw[qZ] at h
 cases u:(List.range b)[k]? with
 | none=>rw[u] at h;cases h
 | some q=>{
 rw[u] at h;have:q=k:=by{
 have:=List.getElem?_eq_some_iff.1 u;obtain⟨_,B⟩:=this;simpa using B.symm}
 subst this;simpa using h.symm}}
theorem jJ.pad {b:Nat}{B:List (List ah)}(F:jJ B)(m:Nat):jJ (h_ b B m):=by{
 intro r h k f u;unfold h_ at h;rcases List.mem_append.1 h with h|h
 {exact F r h k f u}
 {
 rw[List.eq_of_mem_replicate h] at u;rw[C_ u];exact⟨rfl,by simp[dP,af]⟩}}
theorem jJ.put {b:Nat}{B:List (List ah)}(I:jJ B){x:EntryT}(N:0≤E.boat x)(L:dP (E.boat x,E.code x,E.time x)=true):jJ (nu b B x):=by{
 intro r u k f h;unfold nu at u;have J:=I.pad (b:=b) ((E.race x).toNat+1);have H:∀q∈h_ b B ((E.race x).toNat+1),∀(k:Nat) (f:ah),q[k]?=some f→f.1=(k:Int)∧dP f=true:=J;generalize h_ b B ((E.race x).toNat+1)=M at *;rcases List.mem_or_eq_of_mem_set u with u|rfl
 {exact H r u k f h}
 {
 by_cases G:(E.boat x).toNat=k
 {
 rw[List.getElem?_set] at h;rw[if_pos G] at h;split at h
 {injection h with h;subst h;exact⟨by show E.boat x=(k:Int);omega,L⟩}
 {cases h}}
 {
 rw[List.getElem?_set_ne G] at h;by_cases F:(E.race x).toNat<M.length
 {
 rw[qC,qG F] at h;exact H _ (List.getElem_mem F) k f h}
 {
 rw[qC,qY (Nat.le_of_not_lt F)] at h;simp at h}}}}
def jt (h:List (List ah)) (r k:Nat):Option ah:=(h.getD r [])[k]?
theorem zG {u:List (List ah)}{r k:Nat}{f:ah}(h:jt u r k=some f):r<u.length:=by{
 false_or_by_contra;rename_i B;unfold jt at h;rw[qC,qY (Nat.le_of_not_lt B)] at h;simp at h}
theorem Dz {b:Nat}{h:List (List ah)}{m r:Nat}(u:r<h.length):(h_ b h m).getD r []=h.getD r []:=by{
 unfold h_;rw[qC,qC,qU u]}
theorem Fr {b:Nat}{h:List (List ah)}(F:dj b h){x:EntryT}(I:0≤E.race x)(J:E.race x≤11)(L:0≤E.boat x)(M:E.boat x<b):jt (nu b h x) (E.race x).toNat (E.boat x).toNat=some (E.boat x,E.code x,E.time x):=by{
 have H:=F.pad (m:=(E.race x).toNat+1) (by omega);have u:(E.race x).toNat<(h_ b h ((E.race x).toNat+1)).length:=by rw[ph];omega
 unfold nu;generalize h_ b h ((E.race x).toNat+1)=B at *;have G:(B.getD (E.race x).toNat []).length=b:=by{rw[qC,qG u];exact H.2 _ (List.getElem_mem u)}
 unfold jt;generalize B.getD (E.race x).toNat []=q at G;rw[qC,List.getElem?_set_self u,Option.getD_some,List.getElem?_set_self (by omega)]}
theorem Dq {b:Nat}{u:List (List ah)}{x:EntryT}{r k:Nat}{f:ah}(h:jt u r k=some f)(G:¬((E.race x).toNat=r∧(E.boat x).toNat=k)):jt (nu b u x) r k=some f:=by{
 have I:=zG h;have H:=Dz (b:=b) (m:=(E.race x).toNat+1) I;have F:r<(h_ b u ((E.race x).toNat+1)).length:=by rw[ph];omega
 unfold jt at h;rw[←H] at h;unfold nu jt;generalize h_ b u ((E.race x).toNat+1)=J at *;by_cases e:(E.race x).toNat=r
 {
 subst e;have B:(E.boat x).toNat≠k:=λe=>G ⟨rfl,e⟩
 generalize L:J.getD (E.race x).toNat []=q at h;rw[qC,List.getElem?_set_self F,Option.getD_some,List.getElem?_set_ne B];exact h}
 {
 rw[qC,List.getElem?_set_ne e,←qC];exact h}}
def IT (x y:EntryT):Prop:=E.race x<E.race y∨(E.race x=E.race y∧E.boat x<E.boat y)
def Jl (b:Nat) (x:EntryT):Prop:=0≤E.race x∧E.race x≤11∧0≤E.boat x∧E.boat x<b
theorem Bp {b:Nat}:∀{l:List EntryT} {h:List (List ah)} {r k:Nat} {f:ah},jt h r k=some f→(∀x∈l,¬((E.race x).toNat=r∧(E.boat x).toNat=k))→jt (iY b h l) r k=some f:=by{
 intro l
 induction l with
 | nil=>intro h r k f u _;exact u
 | cons x q G=>intro h r k f u B;exact G (Dq u (B x (.head _))) (λy F=>B y (.tail _ F))}
theorem Gb {b:Nat}:∀{l:List EntryT} {u:List (List ah)},dj b u→(∀x∈l,Jl b x)→l.Pairwise IT→∀x∈l,jt (iY b u l) (E.race x).toNat (E.boat x).toNat=some (E.boat x,E.code x,E.time x):=by{
 intro l
 induction l with
 | nil=>intro u _ _ _ x h;cases h
 | cons y q T=>{
 intro u G F L x h;obtain⟨N,M⟩:=List.pairwise_cons.1 L;obtain⟨H,I,O,R⟩:=F y (.head _);show jt (iY b (nu b u y) q) (E.race x).toNat (E.boat x).toNat=_;rcases List.mem_cons.1 h with rfl|h
 {
 refine Bp (Fr G H I O R) (λz B e=>?_);have J:=N z B;obtain⟨_,_,_,_⟩:=F z (.tail _ B);unfold IT at J;omega}
 {exact T (G.put H I) (λz B=>F z (.tail _ B)) M x h}}}
theorem Bw {b:Nat}:∀{l:List EntryT} {h:List (List ah)},jJ h→(∀x∈l,0≤E.boat x∧dP (E.boat x,E.code x,E.time x)=true)→jJ (iY b h l):=by{
 intro l
 induction l with
 | nil=>intro h u _;exact u
 | cons x q G=>intro h u B;exact G (u.put (B x (.head _)).1 (B x (.head _)).2) (λy F=>B y (.tail _ F))}
theorem vm {u:List EntryT}{race boat:Int}{x:EntryT}(h:x∈mT (ex u race boat)):x∈u∧E.race x=race∧E.boat x=boat:=by{
 unfold mT at h;exact sy.1 (List.mem_of_getLast? (Option.mem_toList.1 h))}
theorem yy {u:List EntryT}{race:Int}{k:Nat}{x:EntryT}(h:x∈iw u race k):x∈u∧E.race x=race∧0≤E.boat x∧E.boat x<k:=by{
 unfold iw at h;simp only[List.mem_flatMap,List.mem_range] at h;obtain⟨b,_,G⟩:=h;obtain⟨B,F,_⟩:=vm G;exact⟨B,F,by omega,by omega⟩}
theorem Az (l:List EntryT):(mT l).Pairwise IT:=by{
 unfold mT
 cases l.getLast?<;>simp}
theorem zl (B:List EntryT)(race:Int)(k:Nat):(iw B race k).Pairwise IT:=by{
 induction k with
 | zero=>simp[iw]
 | succ k u=>{
 rw[pw,List.pairwise_append];refine⟨u,Az _,λa ha c h=>?_⟩;have F:=yy ha;have G:=vm h;right;omega}}
theorem od (B:List EntryT)(b r:Nat):(fd B b r).Pairwise IT:=by{
 induction r with
 | zero=>simp[fd]
 | succ r u=>{
 rw[nt,List.pairwise_append];refine⟨u,zl _ _ _,λa ha c h=>?_⟩;have F:=uH ha;have G:=yy h;left;omega}}
theorem uZ {b:Int}{G:List EntryT}{x:EntryT}(h:x∈currF b G):Jl b.toNat x:=by{
 obtain⟨_,u,B,F,_⟩:=fK h;exact⟨u,B,F,by omega⟩}
theorem Gd {b:Int}{x:EntryT}(h:fT b x=true):dP (E.boat x,E.code x,E.time x)=true:=by{
 unfold fT at h;simp only[Bool.and_eq_true] at h;exact h.1.2}
theorem vh {b s:Int}{h:List EntryT}(u:cE b s h):jJ (ia b h):=by{
 refine Bw (λr B=>by cases B) (λx G=>?_);obtain⟨F,_,_,B,_⟩:=fK G;exact⟨B,Gd (u.ent x F).1⟩}
theorem GV {b:Int}{h:List EntryT}{x:EntryT}(u:x∈currF b h):jt (ia b h) (E.race x).toNat (E.boat x).toNat=some (E.boat x,E.code x,E.time x):=Gb (dj.nil _) (λy B=>uZ B) (od _ _ _) x u
theorem vd {b s:Int}{F:List EntryT}(u:cE b s F):∀r∈ia b F,e_ b r=true:=by{
 intro r I;have B:=ma b F;have O:=B.2 r I;have J:=vh u r I;have N:=u.b1;unfold e_;rw[ai.2 ⟨u.b1,u.b2⟩];have L:∀(h:List ah) (i:Nat),(∀(k:Nat) (f:ah),h[k]?=some f→f.1=((i+k:Nat):Int)∧dP f=true)→cH i h=true:=by{
 intro h
 induction h with
 | nil=>intro i _;rfl
 | cons f q M=>{
 intro i H;have G:=H 0 f rfl;unfold cH;rw[G.2,M (i+1) (λk g B=>by have:=H (k+1) g (by simpa using B);rw[show i+1+k=i+(k+1) by omega];exact this)];simp[G.1]}}
 rw[L r 0 (λk f G=>by simpa using J k f G)];have:((r.length:Int)==b)=true:=by rw[beq_iff_eq];omega
 rw[this];rfl}
def Aa (x:EntryT):gz:=(E.race x,E.boat x,E.kind x,E.points x)
def jc (t:Tb) (x:EntryT):Bool:=!(E.kind x==0)&&(E.kind x==3||(iA t (E.race x) (E.boat x) (E.kind x)).2)
def bT (t:Tb) (l:List EntryT):List gz:=(l.filter (jc t)).map Aa
theorem rk (t:Tb)(l:List EntryT)(x:EntryT):bT t (l++[x])=if jc t x=true then bT t l++[Aa x] else bT t l:=by{
 unfold bT;rw[List.filter_append,qf]
 cases h:jc t x<;>simp[h]}
def lk (b s:Int) (h:List EntryT):Tb:=gD b s (ia b h)
def tabR (b s:Int) (h:List EntryT):Tb:=iK (lk b s h) (bT (lk b s h) (currF b h))
theorem vE {b s:Int}{u:List EntryT}(h:cE b s u):bl (lk b s u):=Ie h.b1 h.b2 (ma b u) (vh h)
theorem Dp {b s:Int}{u:List EntryT}{x:EntryT}(B:x∈currF b u):vT (lk b s u) (E.race x) (E.boat x)=E.code x∧E.race x≤((lk b s u).pts.length:Int)-1:=by{
 have h:=GV B;have F:=zG h;have G:=uZ B;refine⟨?_,by simp only[lk,gD,qV];unfold Jl at G;omega⟩;unfold vT lk gD;simp only;unfold jt at h;generalize ia b u=H at *;rw[qC,qG F,Option.getD_some] at h;rw[qC,qC,qZ,qG F,Option.map_some,Option.getD_some];unfold io;rw[qZ,h];rfl}
theorem Gh {b s:Int}{u:List EntryT}(H:cE b s u){x:EntryT}(G:x∈currF b u)(h:jc (lk b s u) x=true):nE (lk b s u) (Aa x)=true:=by{
 obtain⟨J,N⟩:=Dp (s:=s) G;obtain⟨M,O,_,R,_⟩:=fK G;have B:=(H.ent x M).1;unfold jc at h;rw[Bool.and_eq_true] at h;have L:¬E.kind x=0:=by have:=h.1;simpa using this
 unfold fT at B;simp only[Bool.and_eq_true] at B;have F:=B.2;rw[if_neg L,Bool.and_eq_true] at F;have I:E.code x=9:=by have:=F.1;simpa using this
 unfold nE Aa;simp only;rw[ai.2 ⟨O,N⟩,ai.2 ⟨R,(by show E.boat x≤b-1;omega)⟩,J,I,h.2];have:my (E.kind x) (E.points x)=true:=F.2;rw[this];rfl}
theorem Dt (t:Tb):∀(h:List gz) (p:Option gz),(∀x∈h,nE t x=true)→(∀y,p=some y→∀x∈h,Hx y x=true)→h.Pairwise (λy x=>Hx y x=true)→it t p h=true:=by{
 intro h
 induction h with
 | nil=>intro p _ _ _;cases p<;>rfl
 | cons x r L=>{
 intro p u F G;obtain⟨H,I⟩:=List.pairwise_cons.1 G;have B:=L (some x) (λy J=>u y (.tail _ J)) (λy e z J=>by injection e with e;subst e;exact H z J) I
 cases p with
 | none=>unfold it;rw[u x (.head _),B];rfl
 | some y=>unfold it;rw[u x (.head _),F y rfl x (.head _),B];rfl}}
theorem wR {b s:Int}{h:List EntryT}(F:cE b s h):yL (lk b s h) (bT (lk b s h) (currF b h))=true:=by{
 refine Dt _ _ none (λx B=>?_) (λy e=>by cases e) ?_
 {
 unfold bT at B;obtain⟨e,H,rfl⟩:=List.mem_map.1 B;obtain⟨u,G⟩:=List.mem_filter.1 H;exact Gh F u G}
 {
 unfold bT;rw[List.pairwise_map];refine((od h b.toNat 12).filter _).imp (λ{x y} u=>?_);unfold IT at u;unfold Hx Aa;simp only[Bool.or_eq_true,Bool.and_eq_true,decide_eq_true_eq,beq_iff_eq];exact u}}
def ky (b s:Int) (h:List EntryT):Tb×Int:=if dC b s h=true then(tabR b s h,0) else(IV,1)
section
open Go.Lib
theorem nN {w:World}{u e s n g:Nat}{v:Value}{J:List Value}{I:Array Value}{t:TypeId}(B:w.ownsRow u e s v n J)(X:aO w g I t)(G:e≠t):∀b,v.ownBlock=some b→b≠g:=by{
 intro b h;rcases B.2 with⟨rfl,_⟩|⟨_,_,_,rfl,_,F,_⟩
 {simp[Value.ownBlock] at h}
 {
 simp[Value.ownBlock] at h;subst h;rintro rfl;unfold aO at X;rw[F] at X;injection X with X;injection X with _ H;exact G H}}
structure IK (w0 w : World) (g : Nat) (a s : Int) (A : OA) (q c : Nat) (l : List EntryT) : Prop where
 box : aO w g #[a, s, .slice A q c] 32
 own : w.ownsRow w0.heap.size 25 7 (.slice A q c) q (ents l)
 ge : w0.heap.size ≤ g
 below : BL w0 w
theorem IK.step {B w u:World}{g q c:Nat}{a s:Int}{A:OA}{l:List EntryT}(h:IK B w g a s A q c l)(k:BL w u):IK B u g a s A q c l:=⟨h.box.below k,aa h.own k,h.ge,h.below.trans (k.mono h.below.size)⟩
end
theorem ld (b s:Int)(A:OA)(n c:Nat)(h:List EntryT)(w:World)(N:bA w A n c h)(a2:n≤400)(I:∀x∈h,rL x)(H:h.Pairwise λx y=>bK x y=false)(b2:1≤b)(b3:b≤16):Calls prog 82 #[.agg #[b,s,.slice A n c]] w (kc w (currF b h)):=by{
 obtain⟨u,rfl⟩:∃u:Nat,b=(u:Int):=⟨b.toNat,by omega⟩;have b4:u≤16:=by omega
 have HE:=hI (show currF (u:Int) h=fd h u 12 from rfl);obtain⟨B,J,G,F,bp⟩:=ae w #[(u:Int),s,.slice A n c] 32;have T:=hI F;have W:=hI G;have HH:=hI (λ(race boat:Int) (L:World) (M:BL B L)=>k_ (u:Int) s race boat A n c h L ((N.below F).below M) a2 I H);have a':=hI (λrace boat=>qM (yH h race boat) (by rw[N.1.len_ent];exact a2));clear N F G I H;have G:(B.alloc (.cells #[] 25)).ownsRow B.heap.size 25 7 (.slice (some ⟨B.heap.size,0,none⟩) 0 0) 0 (ents (fd h u 0)):=cG B B.heap.size 25 7 (qA _);have F:BL B (B.alloc (.cells #[] 25)):=(qB _ _).alloc (qA _) _;go_enter func82,ntmps82;have I:=W.f3;go_wp2_with fail
 rw[←J];clear J;go_wp2_with fail
 go_loopw [3,8] (λs' i wr=>∃(r m M:Nat) (L:OA),r≤12∧m≤r*16∧i=.int .i64 r∧s'=.slice L m M∧Hid (wr.ownsRow B.heap.size 25 7 (.slice L m M) m (ents (fd h u r)))∧Hid (BL B wr)) (λ_ i _=>12-(intOf i).toNat)
 case atStart=>exact⟨0,0,_,_,qH _,qH _,rfl,rfl,hI (by simpa only[bp] using G),hI F⟩
 case round=>(
 clear G F I;obtain⟨r,m,M,L,N,_,rfl,rfl,H,F⟩:=hrel;obtain⟨wo,bt⟩:∃wo:World,wo=wr:=⟨_,rfl⟩;subst bt;have I:=(W.below F).f3;by_cases a6:r<12
 {
 have J:=hI (show wo.ownsRow B.heap.size 25 7 (.slice L m M) m (ents (fd h u r++iw h (r:Int) 0)) from by have:=H.out;unfold iw;simpa using this);have G:((r:Int)<12)=True:=by simp;omega
 go_wp2_with fail
 have U:=hI a6;clear a6 G;go_loopw [3,13] (λs' i wr=>∃(k G Y:Nat) (R:OA),k≤u∧G≤m+k∧i=.int .i64 k∧s'=.slice R G Y∧Hid (wr.ownsRow B.heap.size 25 7 (.slice R G Y) G (ents (fd h u r++iw h (r:Int) k)))∧Hid (BL B wr)) (λ_ i _=>u-(intOf i).toNat)
 case atStart=>exact⟨0,m,_,_,qH _,qA _,rfl,rfl,J,F⟩
 case round=>(
 clear J H F I;obtain⟨k,G,Y,R,hk,_,rfl,rfl,H,F⟩:=hrel;obtain⟨wi,bs⟩:∃wi:World,wi=wr:=⟨_,rfl⟩;subst bs;have bk:=hI (W.below F);have I:=bk.f3;by_cases b5:k<u
 {
 have a1:=hI (pw h (r:Int) k);have HC:=hI (HH (r:Int) (k:Int) wi F);go_wp2_with fail
 refine HC.mono ?_;rintro e w3⟨_,O,_,rfl,ar,_,Z⟩;have ad:=aN bw (by decide) ar;have av:=hI ad;have b6:O≤400:=by rw[←ad];exact a' (r:Int) (k:Int)
 have ba:=hI ar;have J:=zb F Z;have V:=hI (aa H Z);clear ar Z ad HC I;by_cases h0:O=0
 {
 subst h0;have I:=hI (show iw h (r:Int) (k+1)=iw h (r:Int) k from by rw[a1.out,List.eq_nil_of_length_eq_zero av.out,vw,qa]);go_wp2_with fail
 go_roundw
 case rel=>exact⟨k+1,G,_,_,by omega,by omega,by go_num,rfl,hI (by rw[I.out];exact V),J⟩
 case measure=>simp[intOf]<;>omega}
 {
 obtain⟨j,rfl⟩:∃j,O=j+1:=⟨O-1,by omega⟩;obtain⟨_,z0,z1,z2,z3,z4,z5,z6,rfl,_,_,Z,b1,bv,bN,bO,bP,bR,bW,b0,_⟩:=bU ba (k:=j) (by omega);have I:=hI (show fd h u r++iw h (r:Int) (k+1)=(fd h u r++iw h (r:Int) k)++[(z0,z1,z2,z3,z4,z5,z6)] from by rw[a1.out,s_ (by rw[av.out];exact Z),qb]);clear Z b1;go_wp2_with(at_builtin;refine kM (x0:=z0) (x1:=z1) (x2:=z2) (x3:=z3) (x4:=z4) (x5:=z5) (x6:=z6) _ rfl _ _ rfl rfl (aa V (za _ _)) rfl (by exact aO.new _ _ _) (by have:=U.out;omega) (by have:=J.size;simp;omega) ?_;intro g4 c4 w4 a7 Z bq bo)
 have bb:=hI a7;have a8:=hI ((J.alloc J.size _).grown Z (by have:=J.size;simp;omega) (λk hk=>(V.lt k hk).1));clear a7 Z bq bo bv bN bO bP bR bW b0;go_roundw
 case rel=>exact⟨k+1,G+1,_,_,by omega,by omega,by go_num,rfl,hI (by rw[I.out];exact bb),a8⟩
 case measure=>simp[intOf]<;>omega}}
 {
 obtain rfl:k=u:=by omega
 rw[←nt] at H;go_wp2_with fail
 go_roundw
 case rel=>exact⟨r+1,G,_,_,by have:=U.out;omega,by omega,by go_num,rfl,H,F⟩
 case measure=>have:=U.out;simp[intOf]<;>omega})}
 {
 obtain rfl:r=12:=by omega
 go_wp2_with fail
 go_ret;exact⟨_,_,_,rfl,an (by rw[HE.out];exact H) T.size,by omega,T.trans (F.mono T.size)⟩})}
theorem kZ (b s:Int)(A:OA)(n c:Nat)(h:List EntryT)(w:World)(N:bA w A n c h)(a2:n≤400)(I:∀x∈h,rL x)(H:h.Pairwise λx y=>bK x y=false)(b2:1≤b)(b3:b≤16):Calls prog 282 #[.agg #[b,s,.slice A n c]] w (kc w (currF b h)):=by{
 obtain⟨u,rfl⟩:∃u:Nat,b=(u:Int):=⟨b.toNat,by omega⟩;have b4:u≤16:=by omega
 have HE:=hI (show currF (u:Int) h=fd h u 12 from rfl);obtain⟨B,J,G,F,bp⟩:=ae w #[(u:Int),s,.slice A n c] 32;have T:=hI F;have W:=hI G;have HH:=hI (λ(race boat:Int) (L:World) (M:BL B L)=>ip (u:Int) s race boat A n c h L ((N.below F).below M) a2 I H);have a':=hI (λrace boat=>qM (yH h race boat) (by rw[N.1.len_ent];exact a2));clear N F G I H;have G:(B.alloc (.cells #[] 25)).ownsRow B.heap.size 25 7 (.slice (some ⟨B.heap.size,0,none⟩) 0 0) 0 (ents (fd h u 0)):=cG B B.heap.size 25 7 (qA _);have F:BL B (B.alloc (.cells #[] 25)):=(qB _ _).alloc (qA _) _;go_enter func282,ntmps282;have I:=W.f3;go_wp2_with fail
 rw[←J];clear J;go_wp2_with fail
 go_loopw [3,4] (λs' i wr=>∃(r m M:Nat) (L:OA),r≤12∧m≤r*16∧i=.int .i64 r∧s'=.slice L m M∧Hid (wr.ownsRow B.heap.size 25 7 (.slice L m M) m (ents (fd h u r)))∧Hid (BL B wr)) (λ_ i _=>12-(intOf i).toNat)
 case atStart=>exact⟨0,0,_,_,qH _,qH _,rfl,rfl,hI (by simpa only[bp] using G),hI F⟩
 case round=>(
 clear G F I;obtain⟨r,m,M,L,N,_,rfl,rfl,H,F⟩:=hrel;obtain⟨wo,bt⟩:∃wo:World,wo=wr:=⟨_,rfl⟩;subst bt;have I:=(W.below F).f3;by_cases a6:r<12
 {
 have J:=hI (show wo.ownsRow B.heap.size 25 7 (.slice L m M) m (ents (fd h u r++iw h (r:Int) 0)) from by have:=H.out;unfold iw;simpa using this);have G:((r:Int)<12)=True:=by simp;omega
 go_wp2_with fail
 have U:=hI a6;clear a6 G;go_loopw [3,5] (λs' i wr=>∃(k G Y:Nat) (R:OA),k≤u∧G≤m+k∧i=.int .i64 k∧s'=.slice R G Y∧Hid (wr.ownsRow B.heap.size 25 7 (.slice R G Y) G (ents (fd h u r++iw h (r:Int) k)))∧Hid (BL B wr)) (λ_ i _=>u-(intOf i).toNat)
 case atStart=>exact⟨0,m,_,_,qH _,qA _,rfl,rfl,J,F⟩
 case round=>(
 clear J H F I;obtain⟨k,G,Y,R,hk,_,rfl,rfl,H,F⟩:=hrel;obtain⟨wi,bs⟩:∃wi:World,wi=wr:=⟨_,rfl⟩;subst bs;have bk:=hI (W.below F);have I:=bk.f3;by_cases b5:k<u
 {
 have a1:=hI (pw h (r:Int) k);have HC:=hI (HH (r:Int) (k:Int) wi F);go_wp2_with fail
 refine HC.mono ?_;rintro e w3⟨_,O,_,rfl,ar,_,Z⟩;have ad:=aN bw (by decide) ar;have av:=hI ad;have b6:O≤400:=by rw[←ad];exact a' (r:Int) (k:Int)
 have ba:=hI ar;have J:=zb F Z;have V:=hI (aa H Z);clear ar Z ad HC I;by_cases h0:O=0
 {
 subst h0;have I:=hI (show iw h (r:Int) (k+1)=iw h (r:Int) k from by rw[a1.out,List.eq_nil_of_length_eq_zero av.out,vw,qa]);go_wp2_with fail
 go_roundw
 case rel=>exact⟨k+1,G,_,_,by omega,by omega,by go_num,rfl,hI (by rw[I.out];exact V),J⟩
 case measure=>simp[intOf]<;>omega}
 {
 obtain⟨j,rfl⟩:∃j,O=j+1:=⟨O-1,by omega⟩;obtain⟨_,z0,z1,z2,z3,z4,z5,z6,rfl,_,_,Z,b1,bv,bN,bO,bP,bR,bW,b0,_⟩:=bU ba (k:=j) (by omega);have I:=hI (show fd h u r++iw h (r:Int) (k+1)=(fd h u r++iw h (r:Int) k)++[(z0,z1,z2,z3,z4,z5,z6)] from by rw[a1.out,s_ (by rw[av.out];exact Z),qb]);clear Z b1;go_wp2_with(at_builtin;refine kM (x0:=z0) (x1:=z1) (x2:=z2) (x3:=z3) (x4:=z4) (x5:=z5) (x6:=z6) _ rfl _ _ rfl rfl (aa V (za _ _)) rfl (by exact aO.new _ _ _) (by have:=U.out;omega) (by have:=J.size;simp;omega) ?_;intro g4 c4 w4 a7 Z bq bo)
 have bb:=hI a7;have a8:=hI ((J.alloc J.size _).grown Z (by have:=J.size;simp;omega) (λk hk=>(V.lt k hk).1));clear a7 Z bq bo bv bN bO bP bR bW b0;go_roundw
 case rel=>exact⟨k+1,G+1,_,_,by omega,by omega,by go_num,rfl,hI (by rw[I.out];exact bb),a8⟩
 case measure=>simp[intOf]<;>omega}}
 {
 obtain rfl:k=u:=by omega
 rw[←nt] at H;go_wp2_with fail
 go_roundw
 case rel=>exact⟨r+1,G,_,_,by have:=U.out;omega,by omega,by go_num,rfl,H,F⟩
 case measure=>have:=U.out;simp[intOf]<;>omega})}
 {
 obtain rfl:r=12:=by omega
 go_wp2_with fail
 go_ret;exact⟨_,_,_,rfl,an (by rw[HE.out];exact H) T.size,by omega,T.trans (F.mono T.size)⟩})}
theorem IR {b s:Int}{u:List EntryT}{x:EntryT}(h:d_ b s u x=0):cE b s u∧fT b x=true∧im (E.rev x)=true∧nD u x=false∧u.length<400:=by{
 unfold d_ at h;by_cases F:dC b s u=true
 {
 rw[if_pos F] at h;by_cases B:(fT b x&&im (E.rev x))=true
 {
 rw[if_pos B] at h;by_cases G:nD u x=true
 {rw[if_pos G] at h;cases h}
 {
 rw[if_neg G] at h;by_cases I:u.length=400
 {rw[if_pos I] at h;cases h}
 {
 have H:=fA F;have:=H.len;rw[Bool.and_eq_true] at B;exact⟨H,B.1,B.2,by simpa using G,by omega⟩}}}
 {rw[if_neg B] at h;cases h}}
 {rw[if_neg F] at h;cases h}}
theorem GU {b s:Int}{F:List EntryT}{x:EntryT}(G:d_ b s F x=0):cE b s (F++[x]):=by{
 obtain⟨h,H,I,B,_⟩:=IR G;refine⟨h.b1,h.b2,h.s0,h.s1,by simp;omega,λy u=>?_,?_⟩
 {
 rcases List.mem_append.1 u with u|u
 {exact h.ent y u}
 {
 rw[List.mem_singleton.1 u];have:=ai.1 I;exact⟨H,this.1,this.2⟩}}
 {
 rw[List.pairwise_append];refine⟨h.key,by simp,λa ha c J=>?_⟩;rw[List.mem_singleton.1 J];unfold nD at B;rw[List.any_eq_false] at B;simpa using B a ha}}
end Go.Proofs.YtnpldahkhaacnaaGreatDoor

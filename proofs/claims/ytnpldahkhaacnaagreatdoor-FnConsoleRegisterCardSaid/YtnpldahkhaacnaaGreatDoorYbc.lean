/- Texts of the walk: Zf. -/
import Derived.Shelf.RegionOpen
import Derived.Test.YtnpldahkhaacnaaGreatDoorYbb
set_option linter.unusedVariables false
set_option linter.unusedSimpArgs false
set_option maxRecDepth 100000
set_option maxHeartbeats 32000000
namespace Go.Proofs.YtnpldahkhaacnaaGreatDoor
open Go.RowKit Go.Sort Go.Proofs.Tryz
section
open Go.Shelf
attribute [local go_sem] Oper.semAt_some
theorem jH {B:Fence}{n:Nat}{P:Program}{u:Func}{h:Ending→World→Prop}{a:Act}{w:World}{v:Value}(H:(results u a.tmps).run P w=.ok v w)(G:a.defers=[])(F:h (.returned v) w):bodyPostM B n P u h .ret a w:=by{
 show LeavesInM B n P u a.tmps h a.defers .returning w;rw[G];exact⟨v,H,F⟩}
theorem uy {P Q:LI}:∀n,(∀j:Nat,j<n→atI P j=atI Q j)→ce P Q n=(0,-1):=by{
 intro n
 induction n with
 | zero=>intro _;rfl
 | succ n u=>intro h;rw[ix,if_pos (h n (by omega))];exact u (λj B=>h j (by omega))}
theorem Cj {P Q:LI}{j:Nat}(B:atI P j≠atI Q j):∀n,j<n→(∀i:Nat,j<i→i<n→atI P i=atI Q i)→ce P Q n=(atI P j-atI Q j,(j:Int)):=by{
 intro n
 induction n with
 | zero=>intro h;omega
 | succ n F=>{
 intro H h;rw[ix];by_cases e:j=n
 {subst e;rw[if_neg B]}
 {
 rw[if_pos (h n (by omega) (by omega))];exact F (by omega) (λi u G=>h i u (by omega))}}}
def iu (h u:LI) {B:Nat} (x:Pl B):Prop:=atI h (x.1:Int)=atI u (x.1:Int)
theorem iJ {n h u B:Nat}{w G:World}(H:Below n w G)(I:n≤h)(J:n≤u)(L:n≤B)(F v2 v3:Value):Below n w (((G.setCell ⟨h,0,none⟩ F).setCell ⟨u,0,none⟩ v2).setCell ⟨B,0,none⟩ v3):=((H.setCell (p:=⟨h,0,none⟩) I F).setCell (p:=⟨u,0,none⟩) J v2).setCell (p:=⟨B,0,none⟩) L v3
theorem gI (u:Nat)(h:World):KeepsFrom u h h.drew:=⟨qA _,λk o _ B _=>B⟩
theorem ES (u:World)(B F G:Nat)(I v2 v3:Value){D:Nat}{o:Obj}(H:u.heap[D]?=some o)(h:o.isCells=false):(((u.setCell ⟨B,0,none⟩ I).setCell ⟨F,0,none⟩ v2).setCell ⟨G,0,none⟩ v3).heap[D]?=some o:=(KeepsOthers.setCell _ _ _).same D _ ((KeepsOthers.setCell _ _ _).same D _ ((KeepsOthers.setCell _ _ _).same D _ H h) h) h
set_option linter.unusedSimpArgs false in
theorem vO {F:World}{h u B:Nat}{v1 v2 v3 u1 u2 u3:Value}(J:F.cell? ⟨h,0,none⟩=some u1)(L:F.cell? ⟨u,0,none⟩=some u2)(M:F.cell? ⟨B,0,none⟩=some u3)(G:h≠u)(H:h≠B)(I:u≠B):(((F.setCell ⟨h,0,none⟩ v1).setCell ⟨u,0,none⟩ v2).setCell ⟨B,0,none⟩ v3).cell? ⟨h,0,none⟩=some v1∧(((F.setCell ⟨h,0,none⟩ v1).setCell ⟨u,0,none⟩ v2).setCell ⟨B,0,none⟩ v3).cell? ⟨u,0,none⟩=some v2∧(((F.setCell ⟨h,0,none⟩ v1).setCell ⟨u,0,none⟩ v2).setCell ⟨B,0,none⟩ v3).cell? ⟨B,0,none⟩=some v3:=by{
 have N:u≠h:=Ne.symm G;have O:B≠h:=Ne.symm H;have R:B≠u:=Ne.symm I;simp[go_sem,J,L,M,N,O,R,G,H,I]}
theorem jl {h:World}{F G H:Addr}{I v2 v3:Value}{D:Nat}(u:h.cell? F=some I∧h.cell? G=some v2∧h.cell? H=some v3)(B:h.heap[D]?=some (Obj.deferred (some []))):(h.putObj D (.deferred none)).cell? F=some I∧(h.putObj D (.deferred none)).cell? G=some v2∧(h.putObj D (.deferred none)).cell? H=some v3:=⟨cell_kept u.1 (grownBy_putObj' _ D (.deferred none)) (λr e=>by cases e;exact⟨_,B,rfl⟩),cell_kept u.2.1 (grownBy_putObj' _ D (.deferred none)) (λr e=>by cases e;exact⟨_,B,rfl⟩),cell_kept u.2.2 (grownBy_putObj' _ D (.deferred none)) (λr e=>by cases e;exact⟨_,B,rfl⟩)⟩
theorem qs (P:OA)(n c:Nat)(C:OA)(m d:Nat)(t:Tb)(h:bl t)(A:OA)(l cl:Nat)(T:LI)(F:T.length≤3)(a b:Nat)(ha:(a:Int)<t.boats)(hb:(b:Int)<t.boats)(w:World)(Z:RdT w P n C m t)(B:Rd w 1 A l (ints T)):Calls prog 79 #[.agg #[t.boats,.slice P n c,.slice C m d],.slice A l cl,a,.int .i64 b] w (Jd w (iB t T a b)):=by{
 have hX:n≤12:=by have:=h.many;have:=Z.pts.len;omega
 have gx:=Z.pts.len;obtain rfl:n=m:=by have:=Z.cds.len;have:=h.same;omega
 obtain⟨wa,g3,XT,XA,XB,M,gy⟩:=da w #[t.boats,.slice P n c,.slice C n d] #[a] #[.int .i64 b] 76 2 2;obtain⟨wb,g4,I,J,L,u,hE⟩:=da wa #[(0:Int)] #[(0:Int)] #[(0:Int)] 2 2 2;rw[gy] at I J L;have Y:=hI g3;have gs:=hI g4;have bN:=hI (XT.below u);have c5:=hI (XA.below u);have c6:=hI (XB.below u);have a6:=hI I;have a7:=hI J;have a8:=hI L;have bP:=hI (M.trans (u.mono M.size));have G:=hI (λdq os=>jm P n c C n d t h A l cl T F a ha (grow (redrawn wb dq) os) (Z.below (bP.trans ((below_regrown wb dq os).mono bP.size))) (B.below (bP.trans ((below_regrown wb dq os).mono bP.size))));have H:=hI (λdq os=>jm P n c C n d t h A l cl T F b hb (grow (redrawn wb dq) os) (Z.below (bP.trans ((below_regrown wb dq os).mono bP.size))) (B.below (bP.trans ((below_regrown wb dq os).mono bP.size))));have U:=hI (λw' (b6:BL w w')=>lO P n c C n d t h A l cl T F a ha w' (Z.below b6) (B.below b6));have V:=hI (λw' (b6:BL w w')=>lO P n c C n d t h A l cl T F b hb w' (Z.below b6) (B.below b6));have gm:=hI (show ∀x∈fu t T a,0≤x∧x≤10000 from λx hx=>gS h (jO.1 hx));have gn:=hI (show ∀x∈fu t T b,0≤x∧x≤10000 from λx hx=>gS h (jO.1 hx));have hp:=cT h T a;have ht:=cT h T b;have hZ:=kw h T a;have h4:=kw h T b;have N:=hI (ez t T a);have O:=hI (ez t T b);have R:=hI (λZ=>BV (t:=t) (rule:=T) (a:=a) (b:=b) Z);have c3:=hI (λd Z h2 hd=>zO (t:=t) (rule:=T) (a:=a) (b:=b) (d:=d) Z h2 hd);have co:=hI (λd k Z h2 h3 hd=>xS (t:=t) (rule:=T) (a:=a) (b:=b) (d:=d) (k:=k) Z h2 h3 hd);have cp:=hI (λk Z h2 h3=>zf (t:=t) (rule:=T) (a:=a) (b:=b) (k:=k) Z h2 h3);rw[gx] at co cp;have HT:=hI Z;have ek:=hI h;have gg:=hI ha;have gl:=hI hb;generalize iB t T a b=hV at *;generalize fu t T a=X at *;generalize fu t T b=b5 at *;generalize cz t T a=NA at *;generalize cz t T b=NB at *;have W:=hI (show IntKind.i64.wrap (NA-NB)=NA-NB from IntWalk.i64_in _ (by omega));have h5:w.heap.size+1+1+1+1+1+1≤wb.heap.size:=by omega
 clear g3 g4 M u XT XA XB I J L Z B h ha hb gx F gy hE;refine(callsIn_wide (n:=3)).1 ?_;refine callsIn_of_wp_marks func79 rfl trivial ?_ rfl;simp only[ntmps79,List.size_toArray,qO,qT,Nat.reduceAdd,Nat.reduceSub,Array.replicate_succ,Array.replicate_zero,List.push_toArray,List.append_toArray,List.nil_append,List.cons_append];refine wpIn_wide.2 ?_;go_wp2_with fail
 rw[←Y.out];rw[←gs.out];clear Y gs;have B:=W.out;have F:=cell_regrown (bN.cell (i:=0) rfl);have I:=cell_regrown (bN.cell (i:=1) rfl);have J:=cell_regrown (bN.cell (i:=2) rfl);have L:=cell_regrown (c5.cell (i:=0) rfl);have M:=cell_regrown (c6.cell (i:=0) rfl);refine wp_region_quiet_below (by kernel_rfl) (by kernel_rfl) ?_;repeat (first|go_big_quiet_step ((first|(go_at_call 121;(with_reducible exact Calls.regrown_of (G.out _ _)))|(go_at_call 121;(with_reducible exact Calls.regrown_of (H.out _ _)))))|quiet_step ((first|(go_at_call 121;(with_reducible exact Calls.regrown_of (G.out _ _)))|(go_at_call 121;(with_reducible exact Calls.regrown_of (H.out _ _))))))
 refine wpQuiet_nil ?_;intro _ hF;obtain⟨⟨dq,hN⟩,hG⟩:=hF;subst hG;obtain⟨wq,u,h⟩:∃g5,g5=grow (redrawn wb dq) hN∧BL wb g5:=⟨_,rfl,below_regrown _ _ _⟩;rw[←u];clear u F I J L M;clear B;have bk:=zb bP h;have h6:=h.size;replace bN:=hI (bN.below h);replace c5:=hI (c5.below h);replace c6:=hI (c6.below h);replace a6:=hI (a6.below h);replace a7:=hI (a7.below h);replace a8:=hI (a8.below h);clear h G H;by_cases bO:NA=NB
 rotate_left
 {
 have h:((NA-NB) !=0)=true:=by simp;omega
 have HR:=hI (R bO);have F1:=a6.cell (i:=0) rfl;have F2:=a7.cell (i:=0) rfl;have F3:=a8.cell (i:=0) rfl;have G1:wq.frozen? ⟨w.heap.size+1+1+1,0,none⟩=false:=a6.fz;have G2:wq.frozen? ⟨w.heap.size+1+1+1+1,0,none⟩=false:=a7.fz;have G3:wq.frozen? ⟨w.heap.size+1+1+1+1+1,0,none⟩=false:=a8.fz;clear bO;go_wp2_with fail
 refine(gR _ _).mono ?_;rintro e w5⟨rfl,rfl⟩;go_wp2_with fail
 refine jH (v:=.tuple #[.int .i64 (dY (NA-NB)),(1:Int),(0:Int)]) (by simp[results,results79,go_sem,F1,F2,F3]) rfl ?_;exact⟨by rw[HR.out],iJ bk (by omega) (by omega) (by omega) _ _ _⟩}
 have h:((NA-NB) !=0)=false:=by simp;omega
 have c4:=hI bO;have F:=hI (show ∀B,BL wq B→(B.cell? ⟨w.heap.size,0,none⟩=some (.int .i64 t.boats)∧B.cell? ⟨w.heap.size,1,none⟩=some (.slice P n c)∧B.cell? ⟨w.heap.size,2,none⟩=some (.slice C n d)∧B.cell? ⟨w.heap.size+1,0,none⟩=some (.int .i64 a)∧B.cell? ⟨w.heap.size+1+1,0,none⟩=some (.int .i64 b)) from λB hb=>⟨(bN.below hb).cell (i:=0) rfl,(bN.below hb).cell (i:=1) rfl,(bN.below hb).cell (i:=2) rfl,(c5.below hb).cell (i:=0) rfl,(c6.below hb).cell (i:=0) rfl⟩);have J:=hI (λw' (b6:BL wq w')=>U w' (bk.trans (b6.mono bk.size)));have L:=hI (λw' (b6:BL wq w')=>V w' (bk.trans (b6.mono bk.size)));clear bO R U V;go_wp2_with fail
 clear h;obtain⟨S,ba,bb⟩:∃S:World→Prop,(∀B,S B→BL wq B)∧(∀B,BL wq B→S B):=⟨λB=>BL wq B,λ_ Z=>Z,λ_ Z=>Z⟩;have H:=hI ba;have av:=hI bb;clear ba bb;refine Hu ?_;refine bz (n:=10) S (λj=>false) (by kernel_rfl) rfl ?_;intro ch h;have u:=av _ (ac _ wq 1);refine zV h 0 (.agg #[t.boats,.slice P n c,.slice C n d]) rfl (by kernel_rfl) (λB u=>by obtain⟨s1,s2,s3,s4,s5⟩:=F _ (H _ u);go_simp) u ?_;go_simp;refine zN h 1 u ?_;go_simp;refine zV h 2 (.int .i64 (a:Int)) rfl (by kernel_rfl) (λB u=>by obtain⟨s1,s2,s3,s4,s5⟩:=F _ (H _ u);go_simp) u ?_;go_simp;refine zV h 4 (.agg #[t.boats,.slice P n c,.slice C n d]) rfl (by kernel_rfl) (λB u=>by obtain⟨s1,s2,s3,s4,s5⟩:=F _ (H _ u);go_simp) u ?_;go_simp;refine zN h 5 u ?_;go_simp;refine zV h 6 (.int .i64 (b:Int)) rfl (by kernel_rfl) (λB u=>by obtain⟨s1,s2,s3,s4,s5⟩:=F _ (H _ u);go_simp) u ?_;go_simp;refine zo h 3 λK' I=>?_
 go_simp;go_at_call 122;refine(J _ (ac _ wq 1)).mono ?_;rintro e hR⟨g1,n1,c1,rfl,R,V,M⟩;have ee:=hI (show BL wq hR from(ac wq.heap.size wq 1).trans M);refine I _ _ (.inr (av _ ee)) ?_;clear I;go_simp;refine zo h 7 λK' I=>?_
 go_simp;go_at_call 122;refine(L _ (ee)).mono ?_;rintro e gc⟨g2,n2,c2,rfl,U,Y,G⟩;have ck:=hI (show BL wq gc from ee.trans (G.mono ee.size));refine I _ _ (.inr (av _ ck)) ?_;clear I;go_simp;refine zN h 8 (av _ ck) ?_;go_simp;refine zN h 9 (av _ ck) ?_;go_simp;refine zd h ?_;simp only[mV];have eR:=hI (az (aa R G));have eT:=hI (az U);have gp:=hI eR.len_int;have gr:=hI eT.len_int;have hW:n1≤12:=by have:=gp.out;have:=N.out;omega
 have hY:n2≤12:=by have:=gr.out;have:=O.out;omega
 have hT:=hI (bk.trans (ck.mono bk.size));have g0:=ck.size;have eg:=hI (show bH X b5=bH (X.drop 0) (b5.drop 0) from by rw[qd,qd]);clear R U M G V Y J L F H av u h hp ht N O W;rcases Nat.lt_or_ge n2 n1 with hu|hu
 {
 have hv:min (n1:Int) (n2:Int)=(n2:Int):=by omega
 go_wp2_with fail
 go_loopw [43] (λi wr=>∃k:Nat,k≤n2∧i=.int .i64 k∧Hid (bH X b5=bH (X.drop k) (b5.drop k))∧Hid (bI gc wr)) (λi _=>n2-(intOf i).toNat)
 case atStart=>exact⟨0,qH _,rfl,eg,hI (bI.refl _)⟩
 case round=>(
 clear eg;obtain⟨k,ho,rfl,HI,HQ⟩:=hrel;obtain⟨W,f4⟩:∃W:World,W=wr:=⟨_,rfl⟩;subst f4;have bq:=hI (ck.trans (HQ.below.mono g0));by_cases cL:k<n2
 {
 have fs:decide ((k:Int)<(n2:Int))=true:=by simpa using cL
 obtain⟨b1,o1,x,e1,hx,hd,b9⟩:=(eR.drawn HQ).int (k:=k) (by omega);obtain⟨b2,o2,y,Y,hy,bv,ca⟩:=(eT.drawn HQ).int (k:=k) (by omega);injection e1 with e1;injection e1 with N V;subst N V;injection Y with Y;injection Y with N V;subst N V;simp only[Nat.zero_add] at b9 ca;obtain⟨f5,f7⟩:=gm x (qF hx);obtain⟨hL,hM⟩:=gn y (qF hy);have U:=HI.out;rw[hd,bv,qn] at U;have bW:=hI U;have hk:k<n1:=by omega
 have hn:k<n2:=by omega
 clear U HI hd bv hx hy;by_cases M:x=y
 {
 have c0:(x !=y)=false:=by simp[M]
 have U:=bW.out;rw[if_pos M] at U;have eP:=hI U;clear U bW M;go_wp2_with fail
 go_quiet (fail)
 go_wp2_with fail
 go_roundw
 case rel=>exact⟨k+1,by omega,by go_num,eP,hI (HQ.step _)⟩
 case measure=>simp[intOf]<;>omega}
 {
 have c0:(x !=y)=true:=by simp[M]
 have U:=bW.out;rw[if_neg M] at U;have HR:=hI (c3 (x-y) c4 U (by omega));have cv:=hI (show IntKind.i64.wrap (x-y)=x-y from IntWalk.i64_in _ (by omega));clear U bW M c3 co cp;go_wp2_with fail
 go_quiet (fail)
 obtain⟨wz,d6,cb⟩:∃wz,wz=W.drewN nq∧BL W wz:=⟨_,rfl,ac _ _ _⟩;rw[←d6];have g':=(cb.cell (p:=⟨g1,k,none⟩) (au b9)).trans b9;have he:=(cb.cell (p:=⟨g2,k,none⟩) (au ca)).trans ca;have a2:=bq.trans (cb.mono bq.size);have en:=zb bk a2;have F1:=(a6.below a2).cell (i:=0) rfl;have F2:=(a7.below a2).cell (i:=0) rfl;have F3:=(a8.below a2).cell (i:=0) rfl;have G1:wz.frozen? ⟨w.heap.size+1+1+1,0,none⟩=false:=(a6.below a2).fz;have G2:wz.frozen? ⟨w.heap.size+1+1+1+1,0,none⟩=false:=(a7.below a2).fz;have G3:wz.frozen? ⟨w.heap.size+1+1+1+1+1,0,none⟩=false:=(a8.below a2).fz;clear d6 cb b9 ca a2;have d5:=cv.out;go_wp2_with fail
 go_still_tail 9,(by kernel_rfl);clear d5;go_wp2_with fail
 refine(gR _ _).mono ?_;rintro e w5⟨rfl,rfl⟩;go_wp2_with fail
 refine jH (v:=.tuple #[.int .i64 (dY (x-y)),(2:Int),(0:Int)]) (by simp[results,results79,go_sem,F1,F2,F3]) rfl ?_;exact⟨by rw[HR.out],iJ en.drew (by omega) (by omega) (by omega) _ _ _⟩}}
 {
 obtain rfl:k=n2:=by omega
 have hz:bH X b5=0:=by rw[HI.out,show b5.drop k=[] from qK (by rw[gr.out];exact qA _),pE]
 have HZ:=hI hz;have eA:=hI (bk.trans (bq.mono bk.size));have FX:=(bN.below bq).f3;have fs:decide ((k:Int)<(k:Int))=false:=by simp
 clear hz HI c3 cL;go_wp2_with fail
 refine(callsIn_wide.1 (rj Fence.wide 2 trivial rfl P n c W)).mono ?_;rintro e w6⟨rfl,d4⟩;obtain⟨cC,d2,f1⟩:BL W w6∧w6.cell? ⟨W.heap.size,0,none⟩=some (.slice P n c)∧w6.heap.size=W.heap.size+1:=by{
 rw[d4];exact⟨(qB _ _).alloc (qA _) _,dv _ _ _,by simp⟩}
 clear d4 FX;go_wp2_with fail
 have a1:=zb eA cC;have bR:=zb bq cC;have eE:=hI d2;have g6:=hI f1;have cd:∃rv:Nat→Value,(∀b o,P=some ⟨b,o,none⟩→∀j,j<n→b<w6.heap.size∧w6.cell? ⟨b,o+j,none⟩=some (rv j)):=by{
 refine⟨λj=>match P with|some ad=>(w6.cell? ⟨ad.block,ad.off+j,none⟩).getD undef|none=>undef,?_⟩;rintro b0 o0 rfl j hj;obtain⟨b',o',A',c',p,e,-,-,d1,-⟩:=((HT.below a1).pts).row hj;injection e with e;injection e with e1 Y;subst e1 Y;refine⟨au d1,?_⟩;show _=some ((w6.cell? ⟨b0,o0+j,none⟩).getD undef);rw[d1];rfl}
 obtain⟨rv,cd⟩:=cd;have c8:=hI cd;have d0:0<n→∃b o,P=some ⟨b,o,none⟩:=λh0=>by{
 obtain⟨b',o',A',c',p,e,-⟩:=((HT.below a1).pts).row h0;exact⟨b',o',e⟩}
 have cf:=lT Fence.wide 2 trivial rfl (by omega) W.heap.size w6.heap.size P n c (by omega) rv w6 (by omega) (qA _) eE c8 d0;clear cC d2 cd d0;obtain⟨O,cx⟩:∃O,O=ax t.pts (a:Int):=⟨_,rfl⟩;obtain⟨R,cy⟩:∃R,R=ax t.pts (b:Int):=⟨_,rfl⟩;have eH:=hI cx;have eK:=hI cy;rw[←cx,←cy] at co cp;clear cx cy;refine(wpIn_wide (n:=3)).1 ?_;refine wpIn_rangeFunc_ownG rfl (by omega) (gf:=179) (lb:=#[.pointer (some ⟨W.heap.size,0,none⟩)]) rfl trivial (enters_of func179 (by kernel_rfl) rfl) cf belowK_t (belowK_b (qA _)) (qB _ _) (λ_=>rfl) (λbo F=>(∀y∈bo,iu O R y)∧BL w6 F) (λc bo F=>(c=.ret∧∃bn J,bo=bn++[J]∧(∀y∈bn,iu O R y)∧¬iu O R J∧F.cell? ⟨w.heap.size+1+1+1,0,none⟩=some (.int .i64 (dY (atI O (J.1:Int)-atI R (J.1:Int))))∧F.cell? ⟨w.heap.size+1+1+1+1,0,none⟩=some (.int .i64 3)∧F.cell? ⟨w.heap.size+1+1+1+1+1,0,none⟩=some (.int .i64 (J.1:Int)))∧BL w F) (OwnFrom.and (Own.from (λs A em gb hs hg hr=>hs) _) (ownFrom_below (qA _) (qA _))) (λc=>OwnFrom.and (Own.from (λs A em gb hs hg hr=>by obtain⟨hc,bn,J,e1,Y,e3,e4,e5,e6⟩:=hs;exact⟨hc,bn,J,e1,Y,e3,cell_kept e4 hg hr,cell_kept e5 hg hr,cell_kept e6 hg hr⟩) _) (ownFrom_below (qA _) a1.size)) ⟨by simp,qB _ _⟩ (λx=>{ tmps:=#[.agg #[.int .i64 t.boats,.slice P n c,.slice C n d],.slice A l cl,.int .i64 ↑a,.int .i64 ↑b,.pointer (some ⟨w.heap.size,0,none⟩),undef,.pointer (some ⟨w.heap.size+1,0,none⟩),.pointer (some ⟨w.heap.size+1+1,0,none⟩),.pointer (some ⟨w.heap.size+1+1+1,0,none⟩),.pointer (some ⟨w.heap.size+1+1+1+1,0,none⟩),.pointer (some ⟨w.heap.size+1+1+1+1+1,0,none⟩),.int .i64 (NA-NB),.slice (some ⟨g1,0,none⟩) n1 c1,.slice (some ⟨g2,0,none⟩) k c2,u14,.int .i64 (x.1:Int),rv x.1,.agg #[.int .i64 t.boats,.slice P n c,.slice C n d],.slice A l cl,.int .i64 ↑a,.int .i64 NA,.agg #[.int .i64 t.boats,.slice P n c,.slice C n d],.slice A l cl,.int .i64 ↑b,.int .i64 NB,.int .i64 (NA-NB),.int .i64 (NA-NB),.bool false,undef,undef,.agg #[.int .i64 t.boats,.slice P n c,.slice C n d],.slice A l cl,.int .i64 ↑a,.slice (some ⟨g1,0,none⟩) n1 c1,.agg #[.int .i64 t.boats,.slice P n c,.slice C n d],.slice A l cl,.int .i64 ↑b,.slice (some ⟨g2,0,none⟩) k c2,.slice (some ⟨g1,0,none⟩) n1 c1,.int .i64 ↑n1,.slice (some ⟨g2,0,none⟩) k c2,.int .i64 ↑k,.int .i64 ↑k,.int .i64 ↑k,.bool false,u45,u46,u47,u48,u49,u50,u51,u52,u53,u54,u55,u56,u57,u58,u59,u60,u61,u62,u63,u64,u65,.pointer (some ⟨w.heap.size,1,none⟩),.slice P n c,.func (.func 179) #[] #[.pointer (some ⟨W.heap.size,0,none⟩)],.int .i64 (x.1:Int),rv x.1,undef,undef,undef,undef,undef,undef,undef,undef,undef,undef,undef,undef,undef,undef,undef,undef,undef,undef,undef,undef],defers:=[] }) ?assign ?body ?done ?stop
 case assign=>(
 intro l x F K hK;simp only[Fw];gi_wp2
 exact hK)
 case body=>(
 rintro l bo x F⟨bt,L⟩ cL;have a':=a1.trans (L.mono a1.size);have G:=bR.trans (L.mono bR.size);obtain⟨bp,op,A',c',p,b',o',A2,cw,q,px,py,b3,o3,b4,o4,rfl,rfl,hd,fn,hc,fc,rfl,rfl,g7,e9,hw,fv,hx,hy,f5,f7,d8,f9⟩:=dB (HT.below a') ek (k:=x.1) x.2 gg;obtain⟨e,hQ,B',f',r,e',u',B2,f2,s,ar,hO,e3,u3,e4,u4,hP,hC,bv,fr,b7,fl,e8,rfl,g8,fb,hA,f0,d7,f8,hH,hJ,d9,ga⟩:=dB (HT.below a') ek (k:=x.1) x.2 gl;injection hP with hP;injection hP with e0 e7;subst e0 e7;rw[hc] at b7;injection b7 with b7;injection b7 with N V q3;subst e8;injection N with N;injection N with q4 q5;subst q4 q5;have cq:=hI (show atI O (x.1:Int)=px from by rw[eH.out];exact gd hd hx);have cr:=hI (show atI R (x.1:Int)=ar from by rw[eK.out];exact gd bv d7);have g9:b<p.length:=by omega
 have d3:rv x.1=.slice (some ⟨b3,o3,none⟩) p.length c':=by{
 obtain⟨h1,h2⟩:=c8 bp op rfl x.1 x.2;have h3:=(L.cell (p:=⟨bp,op+x.1,none⟩) h1).trans h2;rw[hc] at h3;injection h3 with h3;exact h3.symm}
 have FA:=(c5.below G).cell (i:=0) rfl;have FB:=(c6.below G).cell (i:=0) rfl;have c7:=hI bt;have er:=hI L;have eD:=hI a';simp only[d3];have cR:prog.follows .mixedOrders=true:=by kernel_rfl
 have hf:1≤3-1-1:=by omega
 clear hd fn bv fr hx hy d7 f8 hC fc fl f9 ga V q3 e9 fb fv f0 bt hc d3 cf;have F1:=(a6.below G).cell (i:=0) rfl;have F2:=(a7.below G).cell (i:=0) rfl;have F3:=(a8.below G).cell (i:=0) rfl;have c9:=hI (And.intro FA (And.intro FB (And.intro d8 d9)));obtain⟨S,ba,bb⟩:∃S:World→Prop,(∀B,S B→(B.cell? ⟨w.heap.size+1,0,none⟩=some (.int .i64 a)∧B.cell? ⟨w.heap.size+1+1,0,none⟩=some (.int .i64 b)∧B.cell? ⟨b3,o3+a,none⟩=some (.int .i64 px)∧B.cell? ⟨b3,o3+b,none⟩=some (.int .i64 ar)))∧S F.drew:=by{
 refine⟨λB=>B=F.drew,?_,rfl⟩;rintro B e;subst e;obtain⟨N,V,q3,q4⟩:=c9.out;exact⟨((ac _ _ 1).cell (au N)).trans N,((ac _ _ 1).cell (au V)).trans V,((ac _ _ 1).cell (au q3)).trans q3,((ac _ _ 1).cell (au q4)).trans q4⟩}
 have H:=hI ba;have av:=hI bb;clear ba bb;clear FA FB d8 d9;by_cases M:px=ar
 {
 have c0:(px !=ar)=false:=by simp[M]
 have cs:=hI (show iu O R x from by unfold iu;rw[cq.out,cr.out,M]);clear M L a' G F1 F2 F3;gi_wp2
 refine ej (n:=9) S (λj=>false) cR rfl (by kernel_rfl) ?_;intro ch h;have u:=av.out;refine zN h 0 u ?_;go_simp;refine zS h H 1 u ?_;go_simp;refine zN h 2 u ?_;go_simp;refine zS h H 3 u ?_;go_simp;refine zN h 4 u ?_;go_simp;refine zS h H 5 u ?_;go_simp;refine zN h 6 u ?_;go_simp;refine zS h H 7 u ?_;go_simp;refine zN h 8 u ?_;go_simp;refine zd h ?_;simp only[mV];gi_wp2
 exact⟨gI _ _,ac _ F 1,λy hy=>(List.mem_append.1 hy).elim (c7 y) (λe=>by rw[List.mem_singleton.1 e];exact cs),er.trans (ac _ F 1)⟩}
 {
 have c0:(px !=ar)=true:=by simp[M]
 have cs:=hI (show ¬iu O R x from by unfold iu;rw[cq.out,cr.out];exact M);have cv:=hI (show IntKind.i64.wrap (px-ar)=px-ar from IntWalk.i64_in _ (by omega));have G1:F.frozen? ⟨w.heap.size+1+1+1,0,none⟩=false:=(a6.below G).fz;have G2:F.frozen? ⟨w.heap.size+1+1+1+1,0,none⟩=false:=(a7.below G).fz;have G3:F.frozen? ⟨w.heap.size+1+1+1+1+1,0,none⟩=false:=(a8.below G).fz;have HF:=hI (And.intro F1 (And.intro F2 F3));have HG:=hI (And.intro G1 (And.intro G2 G3));clear M L a' G F1 F2 F3 G1 G2 G3;gi_wp2
 refine ej (n:=9) S (λj=>false) cR rfl (by kernel_rfl) ?_;intro ch h;have u:=av.out;refine zN h 0 u ?_;go_simp;refine zS h H 1 u ?_;go_simp;refine zN h 2 u ?_;go_simp;refine zS h H 3 u ?_;go_simp;refine zN h 4 u ?_;go_simp;refine zS h H 5 u ?_;go_simp;refine zN h 6 u ?_;go_simp;refine zS h H 7 u ?_;go_simp;refine zN h 8 u ?_;go_simp;refine zd h ?_;simp only[mV];clear h u H av S ch;obtain⟨S,ba,bb⟩:∃S:World→Prop,(∀B,S B→(B.cell? ⟨w.heap.size+1,0,none⟩=some (.int .i64 a)∧B.cell? ⟨w.heap.size+1+1,0,none⟩=some (.int .i64 b)∧B.cell? ⟨b3,o3+a,none⟩=some (.int .i64 px)∧B.cell? ⟨b3,o3+b,none⟩=some (.int .i64 ar)))∧S F.drew.drew:=by{
 refine⟨λB=>B=F.drew.drew,?_,rfl⟩;rintro B e;subst e;obtain⟨N,V,q3,q4⟩:=c9.out;exact⟨((ac _ _ 2).cell (au N)).trans N,((ac _ _ 2).cell (au V)).trans V,((ac _ _ 2).cell (au q3)).trans q3,((ac _ _ 2).cell (au q4)).trans q4⟩}
 have H:=hI ba;have av:=hI bb;clear ba bb;gi_wp2
 refine ej (n:=14) (λ_=>True) (λ_=>false) cR rfl (by kernel_rfl) ?_;intro ch h;have u:=av.out;have d5:=cv.out;refine zN h 10 trivial ?_;go_simp;refine wpAnyT_weaken (S:=S) (late:=λj=>j==11||j==12||j==13) _ _ _ _ ?_;refine zN h 0 u ?_;go_simp;refine zS h H 1 u ?_;go_simp;refine zN h 2 u ?_;go_simp;refine zS h H 3 u ?_;go_simp;refine zN h 4 u ?_;go_simp;refine zS h H 5 u ?_;go_simp;refine zN h 6 u ?_;go_simp;refine zS h H 7 u ?_;go_simp;refine zN h 8 u ?_;go_simp;refine zo h 9 λK' I=>?_
 go_simp;go_at_call 89;refine(gR _ _).mono ?_;rintro e w5⟨rfl,rfl⟩;refine I _ _ (.inr u) ?_;clear I;go_simp;obtain⟨F1,F2,F3⟩:=HF.out;obtain⟨G1,G2,G3⟩:=HG.out;refine zo h 11 λK' I=>?_
 go_simp;refine I _ _ (.inl rfl) ?_;clear I;go_simp;refine zo h 12 λK' I=>?_
 go_simp;refine I _ _ (.inl rfl) ?_;clear I;go_simp;refine zo h 13 λK' I=>?_
 go_simp;refine I _ _ (.inl rfl) ?_;clear I;go_simp;refine zd h ?_;simp only[mV];gi_wp2
 obtain⟨k1,k2,k3⟩:=HF.out;obtain⟨k1,k2,k3⟩:=vO (v1:=.int .i64 (dY (px-ar))) (v2:=.int .i64 3) (v3:=.int .i64 (x.1:Int)) k1 k2 k3 (by omega) (by omega) (by omega);exact⟨(((gI _ _).trans (gI _ _)).trans ((KeepsOthers.setCell _ _ _).from _)).trans (((KeepsOthers.setCell _ _ _).from _).trans ((KeepsOthers.setCell _ _ _).from _)),⟨rfl,bo,x,rfl,c7,cs,by rw[cq.out,cr.out];simpa[go_sem] using k1,by simpa[go_sem] using k2,by simpa[go_sem] using k3⟩,iJ (eD.trans (ac _ F 2)) (by omega) (by omega) (by omega) _ _ _⟩})
 case done=>(
 rintro D ys F hD d'⟨bO,L⟩ hK;have G:=bR.trans (L.mono bR.size);have a':=zb a1 L;have F1:=(a6.below G).cell (i:=0) rfl;have F2:=(a7.below G).cell (i:=0) rfl;have F3:=(a8.below G).cell (i:=0) rfl;have G1:F.frozen? ⟨w.heap.size+1+1+1,0,none⟩=false:=(a6.below G).fz;have G2:F.frozen? ⟨w.heap.size+1+1+1+1,0,none⟩=false:=(a7.below G).fz;have G3:F.frozen? ⟨w.heap.size+1+1+1+1+1,0,none⟩=false:=(a8.below G).fz;have bt:∀j:Nat,j<n→atI O j=atI R j:=λj hj=>by{
 have hm:j∈ys.map (·.1):=by rw[d'];exact nS.2 ⟨n-1-j,by omega,by omega⟩
 obtain⟨y,hy,e⟩:=List.mem_map.1 hm;rw[←e];exact bO y hy}
 have HR:=hI (cp (-1) c4 HZ (uy n bt));have bs:=hI hK;have cm:=hI hD;have cn:=hI (vO (v1:=.int .i64 0) (v2:=.int .i64 0) (v3:=.int .i64 0) F1 F2 F3 (by omega) (by omega) (by omega));clear bt d' bO L G hK hD cf;go_wp2_with fail
 have cB:=ES F (w.heap.size+1+1+1) (w.heap.size+1+1+1+1) (w.heap.size+1+1+1+1+1) (.int .i64 0) (.int .i64 0) (.int .i64 0) bs rfl;refine⟨by simp,.inl ⟨_,_,rfl,run_takeDeferred cB,?_⟩⟩;obtain⟨k1,k2,k3⟩:=jl cn cB;refine⟨.tuple #[(0:Int),(0:Int),(0:Int)],?_,by rw[HR.out],(iJ a' (by omega) (by omega) (by omega) _ _ _).trans (belowK_b (w:=w) (qA _) _ D _ _ (by have:=cm.out;have:=a1.size;omega) cB rfl rfl)⟩;simp[results,results79,go_sem,k1,k2,k3])
 case stop=>(
 rintro D cc bo F hD⟨k',hh,cN⟩⟨⟨rfl,bn,J,rfl,Y,e3,dc,cw,dA⟩,L⟩ hK;rw[qf,pH] at cN;obtain⟨m1,m2⟩:=List.append_inj' cN rfl;have ft:J.1=n-1-k':=by simpa using m2
 have HR:=hI (co _ _ c4 HZ (Cj (P:=O) (Q:=R) (j:=J.1) e3 n J.2 (λi h1 h2=>by{
 have hm:i∈bn.map (·.1):=by rw[m1];exact nS.2 ⟨n-1-i,by omega,by omega⟩
 obtain⟨y,hy,e⟩:=List.mem_map.1 hm;rw[←e];exact Y y hy})) (by have:=e3;unfold iu at this;omega))
 have bs:=hI hK;have cm:=hI hD;have eC:=hI L;have cn:=hI (And.intro dc (And.intro cw dA));clear cN m1 m2 ft Y e3 dc cw dA L hK hD cf;gi_wp2
 refine⟨by simp,.inl ⟨_,_,rfl,run_takeDeferred bs,?_⟩⟩;obtain⟨k1,k2,k3⟩:=jl cn bs;refine⟨.tuple #[.int .i64 (dY (atI O (J.1:Int)-atI R (J.1:Int))),(3:Int),.int .i64 (J.1:Int)],?_,by rw[HR.out],eC.trans (belowK_b (w:=w) (qA _) F D _ _ (by have:=cm.out;have:=a1.size;omega) bs rfl rfl)⟩;simp[results,results79,go_sem,k1,k2,k3])})}
 {
 have hv:min (n1:Int) (n2:Int)=(n1:Int):=by omega
 go_wp2_with fail
 go_loopw [43] (λi wr=>∃k:Nat,k≤n1∧i=.int .i64 k∧Hid (bH X b5=bH (X.drop k) (b5.drop k))∧Hid (bI gc wr)) (λi _=>n1-(intOf i).toNat)
 case atStart=>exact⟨0,qH _,rfl,eg,hI (bI.refl _)⟩
 case round=>(
 clear eg;obtain⟨k,ho,rfl,HI,HQ⟩:=hrel;obtain⟨W,f4⟩:∃W:World,W=wr:=⟨_,rfl⟩;subst f4;have bq:=hI (ck.trans (HQ.below.mono g0));by_cases cL:k<n1
 {
 have fs:decide ((k:Int)<(n1:Int))=true:=by simpa using cL
 obtain⟨b1,o1,x,e1,hx,hd,b9⟩:=(eR.drawn HQ).int (k:=k) (by omega);obtain⟨b2,o2,y,Y,hy,bv,ca⟩:=(eT.drawn HQ).int (k:=k) (by omega);injection e1 with e1;injection e1 with N V;subst N V;injection Y with Y;injection Y with N V;subst N V;simp only[Nat.zero_add] at b9 ca;obtain⟨f5,f7⟩:=gm x (qF hx);obtain⟨hL,hM⟩:=gn y (qF hy);have U:=HI.out;rw[hd,bv,qn] at U;have bW:=hI U;have hk:k<n1:=by omega
 have hn:k<n2:=by omega
 clear U HI hd bv hx hy;by_cases M:x=y
 {
 have c0:(x !=y)=false:=by simp[M]
 have U:=bW.out;rw[if_pos M] at U;have eP:=hI U;clear U bW M;go_wp2_with fail
 go_quiet (fail)
 go_wp2_with fail
 go_roundw
 case rel=>exact⟨k+1,by omega,by go_num,eP,hI (HQ.step _)⟩
 case measure=>simp[intOf]<;>omega}
 {
 have c0:(x !=y)=true:=by simp[M]
 have U:=bW.out;rw[if_neg M] at U;have HR:=hI (c3 (x-y) c4 U (by omega));have cv:=hI (show IntKind.i64.wrap (x-y)=x-y from IntWalk.i64_in _ (by omega));clear U bW M c3 co cp;go_wp2_with fail
 go_quiet (fail)
 obtain⟨wz,d6,cb⟩:∃wz,wz=W.drewN nq∧BL W wz:=⟨_,rfl,ac _ _ _⟩;rw[←d6];have g':=(cb.cell (p:=⟨g1,k,none⟩) (au b9)).trans b9;have he:=(cb.cell (p:=⟨g2,k,none⟩) (au ca)).trans ca;have a2:=bq.trans (cb.mono bq.size);have en:=zb bk a2;have F1:=(a6.below a2).cell (i:=0) rfl;have F2:=(a7.below a2).cell (i:=0) rfl;have F3:=(a8.below a2).cell (i:=0) rfl;have G1:wz.frozen? ⟨w.heap.size+1+1+1,0,none⟩=false:=(a6.below a2).fz;have G2:wz.frozen? ⟨w.heap.size+1+1+1+1,0,none⟩=false:=(a7.below a2).fz;have G3:wz.frozen? ⟨w.heap.size+1+1+1+1+1,0,none⟩=false:=(a8.below a2).fz;clear d6 cb b9 ca a2;have d5:=cv.out;go_wp2_with fail
 go_still_tail 9,(by kernel_rfl);clear d5;go_wp2_with fail
 refine(gR _ _).mono ?_;rintro e w5⟨rfl,rfl⟩;go_wp2_with fail
 refine jH (v:=.tuple #[.int .i64 (dY (x-y)),(2:Int),(0:Int)]) (by simp[results,results79,go_sem,F1,F2,F3]) rfl ?_;exact⟨by rw[HR.out],iJ en.drew (by omega) (by omega) (by omega) _ _ _⟩}}
 {
 obtain rfl:k=n1:=by omega
 have hz:bH X b5=0:=by rw[HI.out,show X.drop k=[] from qK (by rw[gp.out];exact qA _),n_]
 have HZ:=hI hz;have eA:=hI (bk.trans (bq.mono bk.size));have FX:=(bN.below bq).f3;have fs:decide ((k:Int)<(k:Int))=false:=by simp
 clear hz HI c3 cL;go_wp2_with fail
 refine(callsIn_wide.1 (rj Fence.wide 2 trivial rfl P n c W)).mono ?_;rintro e w6⟨rfl,d4⟩;obtain⟨cC,d2,f1⟩:BL W w6∧w6.cell? ⟨W.heap.size,0,none⟩=some (.slice P n c)∧w6.heap.size=W.heap.size+1:=by{
 rw[d4];exact⟨(qB _ _).alloc (qA _) _,dv _ _ _,by simp⟩}
 clear d4 FX;go_wp2_with fail
 have a1:=zb eA cC;have bR:=zb bq cC;have eE:=hI d2;have g6:=hI f1;have cd:∃rv:Nat→Value,(∀b o,P=some ⟨b,o,none⟩→∀j,j<n→b<w6.heap.size∧w6.cell? ⟨b,o+j,none⟩=some (rv j)):=by{
 refine⟨λj=>match P with|some ad=>(w6.cell? ⟨ad.block,ad.off+j,none⟩).getD undef|none=>undef,?_⟩;rintro b0 o0 rfl j hj;obtain⟨b',o',A',c',p,e,-,-,d1,-⟩:=((HT.below a1).pts).row hj;injection e with e;injection e with e1 Y;subst e1 Y;refine⟨au d1,?_⟩;show _=some ((w6.cell? ⟨b0,o0+j,none⟩).getD undef);rw[d1];rfl}
 obtain⟨rv,cd⟩:=cd;have c8:=hI cd;have d0:0<n→∃b o,P=some ⟨b,o,none⟩:=λh0=>by{
 obtain⟨b',o',A',c',p,e,-⟩:=((HT.below a1).pts).row h0;exact⟨b',o',e⟩}
 have cf:=lT Fence.wide 2 trivial rfl (by omega) W.heap.size w6.heap.size P n c (by omega) rv w6 (by omega) (qA _) eE c8 d0;clear cC d2 cd d0;obtain⟨O,cx⟩:∃O,O=ax t.pts (a:Int):=⟨_,rfl⟩;obtain⟨R,cy⟩:∃R,R=ax t.pts (b:Int):=⟨_,rfl⟩;have eH:=hI cx;have eK:=hI cy;rw[←cx,←cy] at co cp;clear cx cy;refine(wpIn_wide (n:=3)).1 ?_;refine wpIn_rangeFunc_ownG rfl (by omega) (gf:=179) (lb:=#[.pointer (some ⟨W.heap.size,0,none⟩)]) rfl trivial (enters_of func179 (by kernel_rfl) rfl) cf belowK_t (belowK_b (qA _)) (qB _ _) (λ_=>rfl) (λbo F=>(∀y∈bo,iu O R y)∧BL w6 F) (λc bo F=>(c=.ret∧∃bn J,bo=bn++[J]∧(∀y∈bn,iu O R y)∧¬iu O R J∧F.cell? ⟨w.heap.size+1+1+1,0,none⟩=some (.int .i64 (dY (atI O (J.1:Int)-atI R (J.1:Int))))∧F.cell? ⟨w.heap.size+1+1+1+1,0,none⟩=some (.int .i64 3)∧F.cell? ⟨w.heap.size+1+1+1+1+1,0,none⟩=some (.int .i64 (J.1:Int)))∧BL w F) (OwnFrom.and (Own.from (λs A em gb hs hg hr=>hs) _) (ownFrom_below (qA _) (qA _))) (λc=>OwnFrom.and (Own.from (λs A em gb hs hg hr=>by obtain⟨hc,bn,J,e1,Y,e3,e4,e5,e6⟩:=hs;exact⟨hc,bn,J,e1,Y,e3,cell_kept e4 hg hr,cell_kept e5 hg hr,cell_kept e6 hg hr⟩) _) (ownFrom_below (qA _) a1.size)) ⟨by simp,qB _ _⟩ (λx=>{ tmps:=#[.agg #[.int .i64 t.boats,.slice P n c,.slice C n d],.slice A l cl,.int .i64 ↑a,.int .i64 ↑b,.pointer (some ⟨w.heap.size,0,none⟩),undef,.pointer (some ⟨w.heap.size+1,0,none⟩),.pointer (some ⟨w.heap.size+1+1,0,none⟩),.pointer (some ⟨w.heap.size+1+1+1,0,none⟩),.pointer (some ⟨w.heap.size+1+1+1+1,0,none⟩),.pointer (some ⟨w.heap.size+1+1+1+1+1,0,none⟩),.int .i64 (NA-NB),.slice (some ⟨g1,0,none⟩) k c1,.slice (some ⟨g2,0,none⟩) n2 c2,u14,.int .i64 (x.1:Int),rv x.1,.agg #[.int .i64 t.boats,.slice P n c,.slice C n d],.slice A l cl,.int .i64 ↑a,.int .i64 NA,.agg #[.int .i64 t.boats,.slice P n c,.slice C n d],.slice A l cl,.int .i64 ↑b,.int .i64 NB,.int .i64 (NA-NB),.int .i64 (NA-NB),.bool false,undef,undef,.agg #[.int .i64 t.boats,.slice P n c,.slice C n d],.slice A l cl,.int .i64 ↑a,.slice (some ⟨g1,0,none⟩) k c1,.agg #[.int .i64 t.boats,.slice P n c,.slice C n d],.slice A l cl,.int .i64 ↑b,.slice (some ⟨g2,0,none⟩) n2 c2,.slice (some ⟨g1,0,none⟩) k c1,.int .i64 ↑k,.slice (some ⟨g2,0,none⟩) n2 c2,.int .i64 ↑n2,.int .i64 ↑k,.int .i64 ↑k,.bool false,u45,u46,u47,u48,u49,u50,u51,u52,u53,u54,u55,u56,u57,u58,u59,u60,u61,u62,u63,u64,u65,.pointer (some ⟨w.heap.size,1,none⟩),.slice P n c,.func (.func 179) #[] #[.pointer (some ⟨W.heap.size,0,none⟩)],.int .i64 (x.1:Int),rv x.1,undef,undef,undef,undef,undef,undef,undef,undef,undef,undef,undef,undef,undef,undef,undef,undef,undef,undef,undef,undef],defers:=[] }) ?assign ?body ?done ?stop
 case assign=>(
 intro l x F K hK;simp only[Fw];gi_wp2
 exact hK)
 case body=>(
 rintro l bo x F⟨bt,L⟩ cL;have a':=a1.trans (L.mono a1.size);have G:=bR.trans (L.mono bR.size);obtain⟨bp,op,A',c',p,b',o',A2,cw,q,px,py,b3,o3,b4,o4,rfl,rfl,hd,fn,hc,fc,rfl,rfl,g7,e9,hw,fv,hx,hy,f5,f7,d8,f9⟩:=dB (HT.below a') ek (k:=x.1) x.2 gg;obtain⟨e,hQ,B',f',r,e',u',B2,f2,s,ar,hO,e3,u3,e4,u4,hP,hC,bv,fr,b7,fl,e8,rfl,g8,fb,hA,f0,d7,f8,hH,hJ,d9,ga⟩:=dB (HT.below a') ek (k:=x.1) x.2 gl;injection hP with hP;injection hP with e0 e7;subst e0 e7;rw[hc] at b7;injection b7 with b7;injection b7 with N V q3;subst e8;injection N with N;injection N with q4 q5;subst q4 q5;have cq:=hI (show atI O (x.1:Int)=px from by rw[eH.out];exact gd hd hx);have cr:=hI (show atI R (x.1:Int)=ar from by rw[eK.out];exact gd bv d7);have g9:b<p.length:=by omega
 have d3:rv x.1=.slice (some ⟨b3,o3,none⟩) p.length c':=by{
 obtain⟨h1,h2⟩:=c8 bp op rfl x.1 x.2;have h3:=(L.cell (p:=⟨bp,op+x.1,none⟩) h1).trans h2;rw[hc] at h3;injection h3 with h3;exact h3.symm}
 have FA:=(c5.below G).cell (i:=0) rfl;have FB:=(c6.below G).cell (i:=0) rfl;have c7:=hI bt;have er:=hI L;have eD:=hI a';simp only[d3];have cR:prog.follows .mixedOrders=true:=by kernel_rfl
 have hf:1≤3-1-1:=by omega
 clear hd fn bv fr hx hy d7 f8 hC fc fl f9 ga V q3 e9 fb fv f0 bt hc d3 cf;have F1:=(a6.below G).cell (i:=0) rfl;have F2:=(a7.below G).cell (i:=0) rfl;have F3:=(a8.below G).cell (i:=0) rfl;have c9:=hI (And.intro FA (And.intro FB (And.intro d8 d9)));obtain⟨S,ba,bb⟩:∃S:World→Prop,(∀B,S B→(B.cell? ⟨w.heap.size+1,0,none⟩=some (.int .i64 a)∧B.cell? ⟨w.heap.size+1+1,0,none⟩=some (.int .i64 b)∧B.cell? ⟨b3,o3+a,none⟩=some (.int .i64 px)∧B.cell? ⟨b3,o3+b,none⟩=some (.int .i64 ar)))∧S F.drew:=by{
 refine⟨λB=>B=F.drew,?_,rfl⟩;rintro B e;subst e;obtain⟨N,V,q3,q4⟩:=c9.out;exact⟨((ac _ _ 1).cell (au N)).trans N,((ac _ _ 1).cell (au V)).trans V,((ac _ _ 1).cell (au q3)).trans q3,((ac _ _ 1).cell (au q4)).trans q4⟩}
 have H:=hI ba;have av:=hI bb;clear ba bb;clear FA FB d8 d9;by_cases M:px=ar
 {
 have c0:(px !=ar)=false:=by simp[M]
 have cs:=hI (show iu O R x from by unfold iu;rw[cq.out,cr.out,M]);clear M L a' G F1 F2 F3;gi_wp2
 refine ej (n:=9) S (λj=>false) cR rfl (by kernel_rfl) ?_;intro ch h;have u:=av.out;refine zN h 0 u ?_;go_simp;refine zS h H 1 u ?_;go_simp;refine zN h 2 u ?_;go_simp;refine zS h H 3 u ?_;go_simp;refine zN h 4 u ?_;go_simp;refine zS h H 5 u ?_;go_simp;refine zN h 6 u ?_;go_simp;refine zS h H 7 u ?_;go_simp;refine zN h 8 u ?_;go_simp;refine zd h ?_;simp only[mV];gi_wp2
 exact⟨gI _ _,ac _ F 1,λy hy=>(List.mem_append.1 hy).elim (c7 y) (λe=>by rw[List.mem_singleton.1 e];exact cs),er.trans (ac _ F 1)⟩}
 {
 have c0:(px !=ar)=true:=by simp[M]
 have cs:=hI (show ¬iu O R x from by unfold iu;rw[cq.out,cr.out];exact M);have cv:=hI (show IntKind.i64.wrap (px-ar)=px-ar from IntWalk.i64_in _ (by omega));have G1:F.frozen? ⟨w.heap.size+1+1+1,0,none⟩=false:=(a6.below G).fz;have G2:F.frozen? ⟨w.heap.size+1+1+1+1,0,none⟩=false:=(a7.below G).fz;have G3:F.frozen? ⟨w.heap.size+1+1+1+1+1,0,none⟩=false:=(a8.below G).fz;have HF:=hI (And.intro F1 (And.intro F2 F3));have HG:=hI (And.intro G1 (And.intro G2 G3));clear M L a' G F1 F2 F3 G1 G2 G3;gi_wp2
 refine ej (n:=9) S (λj=>false) cR rfl (by kernel_rfl) ?_;intro ch h;have u:=av.out;refine zN h 0 u ?_;go_simp;refine zS h H 1 u ?_;go_simp;refine zN h 2 u ?_;go_simp;refine zS h H 3 u ?_;go_simp;refine zN h 4 u ?_;go_simp;refine zS h H 5 u ?_;go_simp;refine zN h 6 u ?_;go_simp;refine zS h H 7 u ?_;go_simp;refine zN h 8 u ?_;go_simp;refine zd h ?_;simp only[mV];clear h u H av S ch;obtain⟨S,ba,bb⟩:∃S:World→Prop,(∀B,S B→(B.cell? ⟨w.heap.size+1,0,none⟩=some (.int .i64 a)∧B.cell? ⟨w.heap.size+1+1,0,none⟩=some (.int .i64 b)∧B.cell? ⟨b3,o3+a,none⟩=some (.int .i64 px)∧B.cell? ⟨b3,o3+b,none⟩=some (.int .i64 ar)))∧S F.drew.drew:=by{
 refine⟨λB=>B=F.drew.drew,?_,rfl⟩;rintro B e;subst e;obtain⟨N,V,q3,q4⟩:=c9.out;exact⟨((ac _ _ 2).cell (au N)).trans N,((ac _ _ 2).cell (au V)).trans V,((ac _ _ 2).cell (au q3)).trans q3,((ac _ _ 2).cell (au q4)).trans q4⟩}
 have H:=hI ba;have av:=hI bb;clear ba bb;gi_wp2
 refine ej (n:=14) (λ_=>True) (λ_=>false) cR rfl (by kernel_rfl) ?_;intro ch h;have u:=av.out;have d5:=cv.out;refine zN h 10 trivial ?_;go_simp;refine wpAnyT_weaken (S:=S) (late:=λj=>j==11||j==12||j==13) _ _ _ _ ?_;refine zN h 0 u ?_;go_simp;refine zS h H 1 u ?_;go_simp;refine zN h 2 u ?_;go_simp;refine zS h H 3 u ?_;go_simp;refine zN h 4 u ?_;go_simp;refine zS h H 5 u ?_;go_simp;refine zN h 6 u ?_;go_simp;refine zS h H 7 u ?_;go_simp;refine zN h 8 u ?_;go_simp;refine zo h 9 λK' I=>?_
 go_simp;go_at_call 89;refine(gR _ _).mono ?_;rintro e w5⟨rfl,rfl⟩;refine I _ _ (.inr u) ?_;clear I;go_simp;obtain⟨F1,F2,F3⟩:=HF.out;obtain⟨G1,G2,G3⟩:=HG.out;refine zo h 11 λK' I=>?_
 go_simp;refine I _ _ (.inl rfl) ?_;clear I;go_simp;refine zo h 12 λK' I=>?_
 go_simp;refine I _ _ (.inl rfl) ?_;clear I;go_simp;refine zo h 13 λK' I=>?_
 go_simp;refine I _ _ (.inl rfl) ?_;clear I;go_simp;refine zd h ?_;simp only[mV];gi_wp2
 obtain⟨k1,k2,k3⟩:=HF.out;obtain⟨k1,k2,k3⟩:=vO (v1:=.int .i64 (dY (px-ar))) (v2:=.int .i64 3) (v3:=.int .i64 (x.1:Int)) k1 k2 k3 (by omega) (by omega) (by omega);exact⟨(((gI _ _).trans (gI _ _)).trans ((KeepsOthers.setCell _ _ _).from _)).trans (((KeepsOthers.setCell _ _ _).from _).trans ((KeepsOthers.setCell _ _ _).from _)),⟨rfl,bo,x,rfl,c7,cs,by rw[cq.out,cr.out];simpa[go_sem] using k1,by simpa[go_sem] using k2,by simpa[go_sem] using k3⟩,iJ (eD.trans (ac _ F 2)) (by omega) (by omega) (by omega) _ _ _⟩})
 case done=>(
 rintro D ys F hD d'⟨bO,L⟩ hK;have G:=bR.trans (L.mono bR.size);have a':=zb a1 L;have F1:=(a6.below G).cell (i:=0) rfl;have F2:=(a7.below G).cell (i:=0) rfl;have F3:=(a8.below G).cell (i:=0) rfl;have G1:F.frozen? ⟨w.heap.size+1+1+1,0,none⟩=false:=(a6.below G).fz;have G2:F.frozen? ⟨w.heap.size+1+1+1+1,0,none⟩=false:=(a7.below G).fz;have G3:F.frozen? ⟨w.heap.size+1+1+1+1+1,0,none⟩=false:=(a8.below G).fz;have bt:∀j:Nat,j<n→atI O j=atI R j:=λj hj=>by{
 have hm:j∈ys.map (·.1):=by rw[d'];exact nS.2 ⟨n-1-j,by omega,by omega⟩
 obtain⟨y,hy,e⟩:=List.mem_map.1 hm;rw[←e];exact bO y hy}
 have HR:=hI (cp (-1) c4 HZ (uy n bt));have bs:=hI hK;have cm:=hI hD;have cn:=hI (vO (v1:=.int .i64 0) (v2:=.int .i64 0) (v3:=.int .i64 0) F1 F2 F3 (by omega) (by omega) (by omega));clear bt d' bO L G hK hD cf;go_wp2_with fail
 have cB:=ES F (w.heap.size+1+1+1) (w.heap.size+1+1+1+1) (w.heap.size+1+1+1+1+1) (.int .i64 0) (.int .i64 0) (.int .i64 0) bs rfl;refine⟨by simp,.inl ⟨_,_,rfl,run_takeDeferred cB,?_⟩⟩;obtain⟨k1,k2,k3⟩:=jl cn cB;refine⟨.tuple #[(0:Int),(0:Int),(0:Int)],?_,by rw[HR.out],(iJ a' (by omega) (by omega) (by omega) _ _ _).trans (belowK_b (w:=w) (qA _) _ D _ _ (by have:=cm.out;have:=a1.size;omega) cB rfl rfl)⟩;simp[results,results79,go_sem,k1,k2,k3])
 case stop=>(
 rintro D cc bo F hD⟨k',hh,cN⟩⟨⟨rfl,bn,J,rfl,Y,e3,dc,cw,dA⟩,L⟩ hK;rw[qf,pH] at cN;obtain⟨m1,m2⟩:=List.append_inj' cN rfl;have ft:J.1=n-1-k':=by simpa using m2
 have HR:=hI (co _ _ c4 HZ (Cj (P:=O) (Q:=R) (j:=J.1) e3 n J.2 (λi h1 h2=>by{
 have hm:i∈bn.map (·.1):=by rw[m1];exact nS.2 ⟨n-1-i,by omega,by omega⟩
 obtain⟨y,hy,e⟩:=List.mem_map.1 hm;rw[←e];exact Y y hy})) (by have:=e3;unfold iu at this;omega))
 have bs:=hI hK;have cm:=hI hD;have eC:=hI L;have cn:=hI (And.intro dc (And.intro cw dA));clear cN m1 m2 ft Y e3 dc cw dA L hK hD cf;gi_wp2
 refine⟨by simp,.inl ⟨_,_,rfl,run_takeDeferred bs,?_⟩⟩;obtain⟨k1,k2,k3⟩:=jl cn bs;refine⟨.tuple #[.int .i64 (dY (atI O (J.1:Int)-atI R (J.1:Int))),(3:Int),.int .i64 (J.1:Int)],?_,by rw[HR.out],eC.trans (belowK_b (w:=w) (qA _) F D _ _ (by have:=cm.out;have:=a1.size;omega) bs rfl rfl)⟩;simp[results,results79,go_sem,k1,k2,k3])})}}
end
end Go.Proofs.YtnpldahkhaacnaaGreatDoor

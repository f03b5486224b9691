/- Texts of the walk: Ft Fx. -/
import Derived.BigRegion
import Derived.Test.YtnpldahkhaacnaaGreatDoorYab
set_option linter.unusedVariables false
set_option linter.unusedSimpArgs false
set_option maxRecDepth 100000
set_option maxHeartbeats 32000000
namespace Go.Proofs.YtnpldahkhaacnaaGreatDoor
open Go.RowKit Go.Sort Go.Proofs.Tryz
def IX (w:World) (r:LI×LI) (e:Ending) (h:World):Prop:=∃A n c u B,e=.returned (.tuple #[.slice A n c,.slice u n B])∧h.ownsRow w.heap.size 2 1 (.slice A n c) n (ints r.1)∧h.ownsRow w.heap.size 2 1 (.slice u n B) n (ints r.2)∧BL w h
def dO (g:ah→Int) (h:List ah) (k:Nat):LI:=(h.map g).take k++List.replicate (h.length-k) 0
theorem mA (g:ah→Int)(h:List ah)(k:Nat)(u:k≤h.length):(dO g h k).length=h.length:=by unfold dO;simp;omega
theorem ey (g:ah→Int){h:List ah}{k:Nat}{f:ah}(u:h[k]?=some f)(B:k<h.length):dO g h (k+1)=(dO g h k).set k (g f):=by{
 unfold dO;exact(sV 0 (h.map g) h.length k (g f) (by simp) (by rw[qZ,u];rfl) B).symm}
theorem gM (g:ah→Int){h:List ah}{k:Nat}(u:k<h.length):(dO g h k)[k]?=some 0:=by{
 unfold dO;rw[qR (by simp;omega),List.getElem?_replicate,if_pos (by simp;omega)]}
theorem iX {α:Type}{h:List α}{k:Nat}{x:α}(u:h[k]?=some x):h.set k x=h:=by{
 obtain⟨F,B⟩:=List.getElem?_eq_some_iff.1 u;subst B;exact List.set_getElem_self F}
theorem ec (t:Int)(h:List ah)(g:ah):ltN t (h++[g])=ltN t h+(if (g.2.1==0&&decide (g.2.2<t))=true then 1 else 0):=by{
 unfold ltN;rw[List.filter_append,qJ,List.filter_cons];split<;>simp_all}
theorem eb (t:Int)(h:List ah)(g:ah):eqN t (h++[g])=eqN t h+(if (g.2.1==0&&(g.2.2==t))=true then 1 else 0):=by{
 unfold eqN;rw[List.filter_append,qJ,List.filter_cons];split<;>simp_all}
theorem Db (w:World)(n:Nat)(F:n≤1048576):∃h,h=((w.alloc (.cells (madeCells #[(0:Int)] n) 2)).alloc (.cells (madeCells #[(0:Int)] n) 2)).drew∧h.ownsRow w.heap.size 2 1 (.slice (some ⟨w.heap.size,0,none⟩) n n) n (ints (List.replicate n 0))∧h.ownsRow w.heap.size 2 1 (.slice (some ⟨w.heap.size+1,0,none⟩) n n) n (ints (List.replicate n 0))∧BL w h:=by{
 have B:=jM w w.heap.size 2 n (.int .i64 0) (qA _) (by omega);have u:=jM (w.alloc (.cells (madeCells #[(0:Int)] n) 2)) w.heap.size 2 n (.int .i64 0) (by simp) (by omega);rw[World.size_alloc] at u;rw[←fZ] at B u;refine⟨_,rfl,jW (aa B (za _ _)) 1,jW u 1,bx ((za _ _).alloc (by simp) _) 1⟩}
theorem wO (A:OA)(n c:Nat)(h:List ah)(hn:n≤16)(w:World)(u:Rd w 3 A n (fins h)):Calls prog 180 #[.slice A n c] w (IX w (h.map λf=>(ci h f).1,h.map λf=>(ci h f).2)):=by{
 have F:=hI u.len_fin;have ca:=hI (λG (B:BL w G)=>u.below B);have c0:=λw=>kB n (by omega) w
 obtain⟨w1,cb,G,H,B⟩:=Db w n (by omega);have cR:=hI G;have b9:=hI H;have cN:=hI B;clear u G H B;go_enter func180,ntmps180;go_wp2_with fail
 go_region
 {
 rw[←cb];clear cb c0;go_wp2_with fail
 have cn:=hI (show w.heap.size+1<w1.heap.size from(b9.lt (w.heap.size+1) rfl).2);go_loopw [18] (λi wr=>∃k:Nat,k≤n∧i=.int .i64 k∧Hid (wr.ownsRow w.heap.size 2 1 (.slice (some ⟨w.heap.size,0,none⟩) n n) n (ints (dO (λf=>(ci h f).1) h k)))∧Hid (wr.ownsRow w.heap.size 2 1 (.slice (some ⟨w.heap.size+1,0,none⟩) n n) n (ints (dO (λf=>(ci h f).2) h k)))∧Hid (BL w wr)∧Hid (w1.heap.size≤wr.heap.size)) (λi _=>n-(intOf i).toNat)
 case atStart=>exact⟨0,qH _,rfl,hI (by unfold dO;rw[F.out];simpa using cR.out),hI (by unfold dO;rw[F.out];simpa using b9.out),cN,hI (qA _)⟩
 case round=>(
 obtain⟨k,hk,rfl,ar,bn,a8,bo⟩:=hrel;obtain⟨J,cL⟩:∃J:World,J=wr:=⟨_,rfl⟩;subst cL;by_cases H:k<n
 {
 obtain⟨b,o,x0,x1,B,rfl,hx,_,cq,cr,cs⟩:=(ca _ a8).fin H;have HX:=hI hx;clear hx;have u:BL J (J.alloc (.cells #[x0,x1,B] 53)):=(qB _ _).alloc (qA _) _;have av:=hI (aa ar u);have a1:=hI (aa bn u);have Z:=zb a8 u;have b0:=hI (show w1.heap.size≤(J.alloc (.cells #[x0,x1,B] 53)).heap.size from qM bo u.size);clear u;by_cases g0:x1=0
 {
 subst g0;obtain⟨gx,yp,N,_,b4,_,b5,b6⟩:=aY ar H;obtain rfl:w.heap.size=gx:=by injection N with N;injection N
 clear N;go_wp2_with fail
 have bp:=hI (show w.heap.size+1<J.heap.size from qe cn bo);have bO:=hI (dn (k:=k) ar 1);have bR:=hI (bn.kept (ar.stored k (.int .i64 1)).2 (.inr (by simp[Value.ownBlock])));have bk:=hI (a8.setCell (p:=⟨w.heap.size,k,none⟩) (ar.lt (w.heap.size) rfl).1 (.int .i64 1));have bW:=hI (gV J ⟨w.heap.size,k,none⟩ (.int .i64 1));generalize J.setCell ⟨w.heap.size,k,none⟩ (.int .i64 1)=wz at *;obtain⟨wa,b7,XA,a',cB⟩:=ae wz #[x0,(0:Int),B] 53;rw[←b7];have bN:=hI (aa bO a');have bP:=hI (aa bR a');have bv:=hI (bk.trans (a'.mono bk.size));have b1:Hid (aO wa J.heap.size #[x0,(0:Int),B] 53):=hI (by rw[←bW.out];exact XA);clear b7 XA a' cB b4 b5 b6 av a1 Z b0 bO bR bk bW;generalize wa=ws at *;clear cq cr cs;go_loopw [31] (λi wr=>∃j:Nat,j≤n∧i=.int .i64 j∧Hid (wr.ownsRow w.heap.size 2 1 (.slice (some ⟨w.heap.size,0,none⟩) n n) n (ints ((dO (λf=>(ci h f).1) h k).set k (1+(ltN B (h.take j):Int)))))∧Hid (wr.ownsRow w.heap.size 2 1 (.slice (some ⟨w.heap.size+1,0,none⟩) n n) n (ints ((dO (λf=>(ci h f).2) h k).set k (eqN B (h.take j):Int))))∧Hid (BL w wr)∧Hid (aO wr J.heap.size #[x0,(0:Int),B] 53)) (λi _=>n-(intOf i).toNat)
 case atStart=>exact⟨0,qH _,rfl,hI (by simpa[ltN] using bN.out),hI (by rw[iX (by simpa[eqN] using gM _ (by rw[F.out];exact H))];exact bP),bv,b1⟩
 case round=>(
 clear bN bP bv b1;obtain⟨j,hj,rfl,L,M,Y,XF⟩:=hrel;obtain⟨I,cC⟩:∃I:World,I=wr:=⟨_,rfl⟩;subst cC;have FA:=XF.f3;by_cases cv:j<n
 {
 obtain⟨b',o',y0,y1,G,bs,hy,_,c1,c2,c3⟩:=(ca _ Y).fin cv;injection bs with bs;injection bs with co cp;subst co;subst cp;have O:=hI hy;clear hy;by_cases q1:y1=0
 {
 subst q1;by_cases q2:G<B
 {
 have hq:decide (G<B)=true:=by simpa using q2
 have ad:=hI (show(((0:Int)==0)&&decide (G<B))=true from by simp[q2]);have T:=hI (show ¬(((0:Int)==0)&&(G==B))=true from by simp;omega);obtain⟨gx,yp,N,_,b4,a2,b5,b6⟩:=aY L H;obtain rfl:w.heap.size=gx:=by injection N with N;injection N
 have bt:yp=1+(ltN B (h.take j):Int):=by rw[List.getElem?_set_self (by rw[mA _ _ _ (by rw[F.out];omega),F.out];exact H)] at a2;injection a2 with a2;exact a2.symm
 subst bt;clear a2 N;have cw:=pO B (h.take j);have cx:(h.take j).length≤16:=by rw[qS,F.out];omega
 generalize b3:ltN B (h.take j)=ln at *;have ch:=hI b3;clear b3;go_wp2_with fail
 have av:=hI (dn (k:=k) L (1+(ln:Int)+1));have a1:=hI (M.kept (L.stored k (.int .i64 (1+(ln:Int)+1))).2 (.inr (by simp[Value.ownBlock])));have Z:=hI (Y.setCell (p:=⟨w.heap.size,k,none⟩) (L.lt (w.heap.size) rfl).1 (.int .i64 (1+(ln:Int)+1)));have bq:=hI (XF.other (c:=w.heap.size) (i:=k) (by have:=bp.out;omega) (.int .i64 (1+(ln:Int)+1)));have cl:=hI (gV I ⟨w.heap.size,k,none⟩ (.int .i64 (1+(ln:Int)+1)));generalize I.setCell ⟨w.heap.size,k,none⟩ (.int .i64 (1+(ln:Int)+1))=a7 at *;have u:BL a7 (a7.alloc (.cells #[y0,(0:Int),G] 53)):=(qB _ _).alloc (qA _) _;have U:=hI (aa av u);have V:=hI (aa a1 u);have R:=zb Z u;have W:=hI (bq.below u);clear u;go_roundw
 case rel=>exact⟨j+1,by omega,by go_num,hI (by rw[am O.out,ec,if_pos ad.out];rw[ch.out];have h9:=U.out;rw[List.set_set] at h9;simpa[Int.add_assoc] using h9),hI (by rw[am O.out,eb,if_neg T.out];simpa using V.out),R,W⟩
 case measure=>simp[intOf]<;>omega}
 {
 have hq:decide (G<B)=false:=by simpa using q2
 have ad:=hI (show ¬(((0:Int)==0)&&decide (G<B))=true from by simp[q2]);by_cases q3:G=B
 {
 have cy:(G==B)=true:=by simpa using q3
 have T:=hI (show(((0:Int)==0)&&(G==B))=true from by simp[q3]);clear q3;obtain⟨gx,ys,bb,_,c4,a6,c5,c6⟩:=aY M H;obtain rfl:w.heap.size+1=gx:=by injection bb with bb;injection bb
 have bt:ys=(eqN B (h.take j):Int):=by rw[List.getElem?_set_self (by rw[mA _ _ _ (by rw[F.out];omega),F.out];exact H)] at a6;injection a6 with a6;exact a6.symm
 subst bt;clear a6 bb;have cw:=pI B (h.take j);have cx:(h.take j).length≤16:=by rw[qS,F.out];omega
 generalize b2:eqN B (h.take j)=en at *;have cc:=hI b2;clear b2;go_wp2_with fail
 have a1:=hI (dn (k:=k) M ((en:Int)+1));have av:=hI (L.kept (M.stored k (.int .i64 ((en:Int)+1))).2 (.inr (by simp[Value.ownBlock])));have Z:=hI (Y.setCell (p:=⟨w.heap.size+1,k,none⟩) (M.lt (w.heap.size+1) rfl).1 (.int .i64 ((en:Int)+1)));have bq:=hI (XF.other (c:=w.heap.size+1) (i:=k) (by have:=bp.out;omega) (.int .i64 ((en:Int)+1)));have cl:=hI (gV I ⟨w.heap.size+1,k,none⟩ (.int .i64 ((en:Int)+1)));generalize I.setCell ⟨w.heap.size+1,k,none⟩ (.int .i64 ((en:Int)+1))=a7 at *;have u:BL a7 (a7.alloc (.cells #[y0,(0:Int),G] 53)):=(qB _ _).alloc (qA _) _;have U:=hI (aa av u);have V:=hI (aa a1 u);have R:=zb Z u;have W:=hI (bq.below u);clear u;go_roundw
 case rel=>exact⟨j+1,by omega,by go_num,hI (by rw[am O.out,ec,if_neg ad.out];simpa using U.out),hI (by rw[am O.out,eb,if_pos T.out];rw[cc.out];have h9:=V.out;rw[List.set_set] at h9;simpa using h9),R,W⟩
 case measure=>simp[intOf]<;>omega}
 {
 have cy:(G==B)=false:=by simpa using q3
 have T:=hI (show ¬(((0:Int)==0)&&(G==B))=true from by simp[q3]);clear q3;have u:BL I (I.alloc (.cells #[y0,(0:Int),G] 53)):=(qB _ _).alloc (qA _) _;have U:=hI (aa L u);have V:=hI (aa M u);have R:=zb Y u;have W:=hI (XF.below u);clear u;go_wp2_with fail
 go_roundw
 case rel=>exact⟨j+1,by omega,by go_num,hI (by rw[am O.out,ec,if_neg ad.out];simpa using U.out),hI (by rw[am O.out,eb,if_neg T.out];simpa using V.out),R,W⟩
 case measure=>simp[intOf]<;>omega}}}
 {
 have hq:(y1==0)=false:=by simpa using q1
 have ad:=hI (show ¬((y1==0)&&decide (G<B))=true from by simp[q1]);have T:=hI (show ¬((y1==0)&&(G==B))=true from by simp[q1]);clear q1;have u:BL I (I.alloc (.cells #[y0,y1,G] 53)):=(qB _ _).alloc (qA _) _;have U:=hI (aa L u);have V:=hI (aa M u);have R:=zb Y u;have W:=hI (XF.below u);clear u;go_wp2_with fail
 go_roundw
 case rel=>exact⟨j+1,by omega,by go_num,hI (by rw[am O.out,ec,if_neg ad.out];simpa using U.out),hI (by rw[am O.out,eb,if_neg T.out];simpa using V.out),R,W⟩
 case measure=>simp[intOf]<;>omega}}
 {
 obtain rfl:j=n:=by omega
 have cm:=hI (show h.take j=h from qI (by rw[F.out];exact qA _));rw[cm.out] at L M;have ck:=hI (show w1.heap.size≤I.heap.size from by have:=FA.2.2.2.2.2.2;have:=bp.out;have:=bo.out;omega);clear FA;go_wp2_with fail
 go_roundw
 case rel=>exact⟨k+1,by omega,by go_num,hI (by rw[ey _ HX.out (by rw[F.out];exact H)];exact L),hI (by rw[ey _ HX.out (by rw[F.out];exact H)];exact M),Y,ck⟩
 case measure=>simp[intOf]<;>omega})}
 {
 have e0:(x1 !=0)=true:=by simp[g0]
 have HZ:=hI (show ci h (x0,x1,B)=(0,0) from by unfold ci;rw[if_neg g0]);go_wp2_with fail
 go_roundw
 case rel=>exact⟨k+1,by omega,by go_num,hI (by rw[ey _ HX.out (by rw[F.out];exact H),iX (by rw[HZ.out];exact gM _ (by rw[F.out];exact H))];exact av),hI (by rw[ey _ HX.out (by rw[F.out];exact H),iX (by rw[HZ.out];exact gM _ (by rw[F.out];exact H))];exact a1),Z,b0⟩
 case measure=>simp[intOf]<;>omega}}
 {
 obtain rfl:k=n:=by omega
 have cd:=hI (show dO (λf=>(ci h f).1) h k=h.map (λf=>(ci h f).1) from by unfold dO;rw[F.out,qI (by simp[F.out]),Nat.sub_self];simp);have cf:=hI (show dO (λf=>(ci h f).2) h k=h.map (λf=>(ci h f).2) from by unfold dO;rw[F.out,qI (by simp[F.out]),Nat.sub_self];simp);go_wp2_with fail
 go_ret2;exact⟨_,_,_,_,_,rfl,by rw[←cd.out];exact ar,by rw[←cf.out];exact bn,a8⟩})}
 {
 rw[←cb];clear cb c0;go_wp2_with fail
 have cn:=hI (show w.heap.size+1<w1.heap.size from(b9.lt (w.heap.size+1) rfl).2);go_loopw [18] (λi wr=>∃k:Nat,k≤n∧i=.int .i64 k∧Hid (wr.ownsRow w.heap.size 2 1 (.slice (some ⟨w.heap.size+1,0,none⟩) n n) n (ints (dO (λf=>(ci h f).1) h k)))∧Hid (wr.ownsRow w.heap.size 2 1 (.slice (some ⟨w.heap.size,0,none⟩) n n) n (ints (dO (λf=>(ci h f).2) h k)))∧Hid (BL w wr)∧Hid (w1.heap.size≤wr.heap.size)) (λi _=>n-(intOf i).toNat)
 case atStart=>exact⟨0,qH _,rfl,hI (by unfold dO;rw[F.out];simpa using b9.out),hI (by unfold dO;rw[F.out];simpa using cR.out),cN,hI (qA _)⟩
 case round=>(
 obtain⟨k,hk,rfl,ar,bn,a8,bo⟩:=hrel;obtain⟨J,cL⟩:∃J:World,J=wr:=⟨_,rfl⟩;subst cL;by_cases H:k<n
 {
 obtain⟨b,o,x0,x1,B,rfl,hx,_,cq,cr,cs⟩:=(ca _ a8).fin H;have HX:=hI hx;clear hx;have u:BL J (J.alloc (.cells #[x0,x1,B] 53)):=(qB _ _).alloc (qA _) _;have av:=hI (aa ar u);have a1:=hI (aa bn u);have Z:=zb a8 u;have b0:=hI (show w1.heap.size≤(J.alloc (.cells #[x0,x1,B] 53)).heap.size from qM bo u.size);clear u;by_cases g0:x1=0
 {
 subst g0;obtain⟨gx,yp,N,_,b4,_,b5,b6⟩:=aY ar H;obtain rfl:w.heap.size+1=gx:=by injection N with N;injection N
 clear N;go_wp2_with fail
 have bp:=hI (show w.heap.size+1<J.heap.size from qe cn bo);have bO:=hI (dn (k:=k) ar 1);have bR:=hI (bn.kept (ar.stored k (.int .i64 1)).2 (.inr (by simp[Value.ownBlock])));have bk:=hI (a8.setCell (p:=⟨w.heap.size+1,k,none⟩) (ar.lt (w.heap.size+1) rfl).1 (.int .i64 1));have bW:=hI (gV J ⟨w.heap.size+1,k,none⟩ (.int .i64 1));generalize J.setCell ⟨w.heap.size+1,k,none⟩ (.int .i64 1)=wz at *;obtain⟨wa,b7,XA,a',cB⟩:=ae wz #[x0,(0:Int),B] 53;rw[←b7];have bN:=hI (aa bO a');have bP:=hI (aa bR a');have bv:=hI (bk.trans (a'.mono bk.size));have b1:Hid (aO wa J.heap.size #[x0,(0:Int),B] 53):=hI (by rw[←bW.out];exact XA);clear b7 XA a' cB b4 b5 b6 av a1 Z b0 bO bR bk bW;generalize wa=ws at *;clear cq cr cs;go_loopw [31] (λi wr=>∃j:Nat,j≤n∧i=.int .i64 j∧Hid (wr.ownsRow w.heap.size 2 1 (.slice (some ⟨w.heap.size+1,0,none⟩) n n) n (ints ((dO (λf=>(ci h f).1) h k).set k (1+(ltN B (h.take j):Int)))))∧Hid (wr.ownsRow w.heap.size 2 1 (.slice (some ⟨w.heap.size,0,none⟩) n n) n (ints ((dO (λf=>(ci h f).2) h k).set k (eqN B (h.take j):Int))))∧Hid (BL w wr)∧Hid (aO wr J.heap.size #[x0,(0:Int),B] 53)) (λi _=>n-(intOf i).toNat)
 case atStart=>exact⟨0,qH _,rfl,hI (by simpa[ltN] using bN.out),hI (by rw[iX (by simpa[eqN] using gM _ (by rw[F.out];exact H))];exact bP),bv,b1⟩
 case round=>(
 clear bN bP bv b1;obtain⟨j,hj,rfl,L,M,Y,XF⟩:=hrel;obtain⟨I,cC⟩:∃I:World,I=wr:=⟨_,rfl⟩;subst cC;have FA:=XF.f3;by_cases cv:j<n
 {
 obtain⟨b',o',y0,y1,G,bs,hy,_,c1,c2,c3⟩:=(ca _ Y).fin cv;injection bs with bs;injection bs with co cp;subst co;subst cp;have O:=hI hy;clear hy;by_cases q1:y1=0
 {
 subst q1;by_cases q2:G<B
 {
 have hq:decide (G<B)=true:=by simpa using q2
 have ad:=hI (show(((0:Int)==0)&&decide (G<B))=true from by simp[q2]);have T:=hI (show ¬(((0:Int)==0)&&(G==B))=true from by simp;omega);obtain⟨gx,yp,N,_,b4,a2,b5,b6⟩:=aY L H;obtain rfl:w.heap.size+1=gx:=by injection N with N;injection N
 have bt:yp=1+(ltN B (h.take j):Int):=by rw[List.getElem?_set_self (by rw[mA _ _ _ (by rw[F.out];omega),F.out];exact H)] at a2;injection a2 with a2;exact a2.symm
 subst bt;clear a2 N;have cw:=pO B (h.take j);have cx:(h.take j).length≤16:=by rw[qS,F.out];omega
 generalize b3:ltN B (h.take j)=ln at *;have ch:=hI b3;clear b3;go_wp2_with fail
 have av:=hI (dn (k:=k) L (1+(ln:Int)+1));have a1:=hI (M.kept (L.stored k (.int .i64 (1+(ln:Int)+1))).2 (.inr (by simp[Value.ownBlock])));have Z:=hI (Y.setCell (p:=⟨w.heap.size+1,k,none⟩) (L.lt (w.heap.size+1) rfl).1 (.int .i64 (1+(ln:Int)+1)));have bq:=hI (XF.other (c:=w.heap.size+1) (i:=k) (by have:=bp.out;omega) (.int .i64 (1+(ln:Int)+1)));have cl:=hI (gV I ⟨w.heap.size+1,k,none⟩ (.int .i64 (1+(ln:Int)+1)));generalize I.setCell ⟨w.heap.size+1,k,none⟩ (.int .i64 (1+(ln:Int)+1))=a7 at *;have u:BL a7 (a7.alloc (.cells #[y0,(0:Int),G] 53)):=(qB _ _).alloc (qA _) _;have U:=hI (aa av u);have V:=hI (aa a1 u);have R:=zb Z u;have W:=hI (bq.below u);clear u;go_roundw
 case rel=>exact⟨j+1,by omega,by go_num,hI (by rw[am O.out,ec,if_pos ad.out];rw[ch.out];have h9:=U.out;rw[List.set_set] at h9;simpa[Int.add_assoc] using h9),hI (by rw[am O.out,eb,if_neg T.out];simpa using V.out),R,W⟩
 case measure=>simp[intOf]<;>omega}
 {
 have hq:decide (G<B)=false:=by simpa using q2
 have ad:=hI (show ¬(((0:Int)==0)&&decide (G<B))=true from by simp[q2]);by_cases q3:G=B
 {
 have cy:(G==B)=true:=by simpa using q3
 have T:=hI (show(((0:Int)==0)&&(G==B))=true from by simp[q3]);clear q3;obtain⟨gx,ys,bb,_,c4,a6,c5,c6⟩:=aY M H;obtain rfl:w.heap.size=gx:=by injection bb with bb;injection bb
 have bt:ys=(eqN B (h.take j):Int):=by rw[List.getElem?_set_self (by rw[mA _ _ _ (by rw[F.out];omega),F.out];exact H)] at a6;injection a6 with a6;exact a6.symm
 subst bt;clear a6 bb;have cw:=pI B (h.take j);have cx:(h.take j).length≤16:=by rw[qS,F.out];omega
 generalize b2:eqN B (h.take j)=en at *;have cc:=hI b2;clear b2;go_wp2_with fail
 have a1:=hI (dn (k:=k) M ((en:Int)+1));have av:=hI (L.kept (M.stored k (.int .i64 ((en:Int)+1))).2 (.inr (by simp[Value.ownBlock])));have Z:=hI (Y.setCell (p:=⟨w.heap.size,k,none⟩) (M.lt (w.heap.size) rfl).1 (.int .i64 ((en:Int)+1)));have bq:=hI (XF.other (c:=w.heap.size) (i:=k) (by have:=bp.out;omega) (.int .i64 ((en:Int)+1)));have cl:=hI (gV I ⟨w.heap.size,k,none⟩ (.int .i64 ((en:Int)+1)));generalize I.setCell ⟨w.heap.size,k,none⟩ (.int .i64 ((en:Int)+1))=a7 at *;have u:BL a7 (a7.alloc (.cells #[y0,(0:Int),G] 53)):=(qB _ _).alloc (qA _) _;have U:=hI (aa av u);have V:=hI (aa a1 u);have R:=zb Z u;have W:=hI (bq.below u);clear u;go_roundw
 case rel=>exact⟨j+1,by omega,by go_num,hI (by rw[am O.out,ec,if_neg ad.out];simpa using U.out),hI (by rw[am O.out,eb,if_pos T.out];rw[cc.out];have h9:=V.out;rw[List.set_set] at h9;simpa using h9),R,W⟩
 case measure=>simp[intOf]<;>omega}
 {
 have cy:(G==B)=false:=by simpa using q3
 have T:=hI (show ¬(((0:Int)==0)&&(G==B))=true from by simp[q3]);clear q3;have u:BL I (I.alloc (.cells #[y0,(0:Int),G] 53)):=(qB _ _).alloc (qA _) _;have U:=hI (aa L u);have V:=hI (aa M u);have R:=zb Y u;have W:=hI (XF.below u);clear u;go_wp2_with fail
 go_roundw
 case rel=>exact⟨j+1,by omega,by go_num,hI (by rw[am O.out,ec,if_neg ad.out];simpa using U.out),hI (by rw[am O.out,eb,if_neg T.out];simpa using V.out),R,W⟩
 case measure=>simp[intOf]<;>omega}}}
 {
 have hq:(y1==0)=false:=by simpa using q1
 have ad:=hI (show ¬((y1==0)&&decide (G<B))=true from by simp[q1]);have T:=hI (show ¬((y1==0)&&(G==B))=true from by simp[q1]);clear q1;have u:BL I (I.alloc (.cells #[y0,y1,G] 53)):=(qB _ _).alloc (qA _) _;have U:=hI (aa L u);have V:=hI (aa M u);have R:=zb Y u;have W:=hI (XF.below u);clear u;go_wp2_with fail
 go_roundw
 case rel=>exact⟨j+1,by omega,by go_num,hI (by rw[am O.out,ec,if_neg ad.out];simpa using U.out),hI (by rw[am O.out,eb,if_neg T.out];simpa using V.out),R,W⟩
 case measure=>simp[intOf]<;>omega}}
 {
 obtain rfl:j=n:=by omega
 have cm:=hI (show h.take j=h from qI (by rw[F.out];exact qA _));rw[cm.out] at L M;have ck:=hI (show w1.heap.size≤I.heap.size from by have:=FA.2.2.2.2.2.2;have:=bp.out;have:=bo.out;omega);clear FA;go_wp2_with fail
 go_roundw
 case rel=>exact⟨k+1,by omega,by go_num,hI (by rw[ey _ HX.out (by rw[F.out];exact H)];exact L),hI (by rw[ey _ HX.out (by rw[F.out];exact H)];exact M),Y,ck⟩
 case measure=>simp[intOf]<;>omega})}
 {
 have e0:(x1 !=0)=true:=by simp[g0]
 have HZ:=hI (show ci h (x0,x1,B)=(0,0) from by unfold ci;rw[if_neg g0]);go_wp2_with fail
 go_roundw
 case rel=>exact⟨k+1,by omega,by go_num,hI (by rw[ey _ HX.out (by rw[F.out];exact H),iX (by rw[HZ.out];exact gM _ (by rw[F.out];exact H))];exact av),hI (by rw[ey _ HX.out (by rw[F.out];exact H),iX (by rw[HZ.out];exact gM _ (by rw[F.out];exact H))];exact a1),Z,b0⟩
 case measure=>simp[intOf]<;>omega}}
 {
 obtain rfl:k=n:=by omega
 have cd:=hI (show dO (λf=>(ci h f).1) h k=h.map (λf=>(ci h f).1) from by unfold dO;rw[F.out,qI (by simp[F.out]),Nat.sub_self];simp);have cf:=hI (show dO (λf=>(ci h f).2) h k=h.map (λf=>(ci h f).2) from by unfold dO;rw[F.out,qI (by simp[F.out]),Nat.sub_self];simp);go_wp2_with fail
 go_ret2;exact⟨_,_,_,_,_,rfl,by rw[←cd.out];exact ar,by rw[←cf.out];exact bn,a8⟩})}}
theorem yD (u h B:Int)(w:World):Calls prog 246 #[.agg #[u,h,B]] w λe I=>e=.returned (.bool (h==0))∧BL w I:=by{
 obtain⟨_,H,F,G,_⟩:=ae w #[u,h,B] 53;go_enter func246,ntmps246;have J:=F.f3;go_wp2_with fail
 rw[←H];go_wp2_with fail
 go_ret;exact⟨rfl,G⟩}
theorem db (h u:Int){x1:Int}{r:Bool}(B:(x1==0)=r)(w:World):Calls prog 246 #[.agg #[h,x1,u]] w λe F=>e=.returned (.bool r)∧BL w F:=by{subst B;exact yD h x1 u w}
theorem wX (u:Int)(f:ah)(x:Int):∀(h:List ah) (l:LI),h.length=l.length→bh u (h++[f]) (l++[x])=bh u h l++(if x=u then [f] else []):=by{
 intro h
 induction h with
 | nil=>{
 intro l B
 cases l with
 | nil=>simp only[List.nil_append,bh]
 | cons y l=>simp at B}
 | cons g r G=>{
 intro l B
 cases l with
 | nil=>simp at B
 | cons y l=>{
 simp only[List.cons_append,bh];rw[G l (by simpa using B)];by_cases F:y=u
 {rw[if_pos F,if_pos F];rfl}
 {rw[if_neg F,if_neg F]}}}}
theorem vQ (A:OA)(n c:Nat)(u:List ah)(bN:OA)(m d:Nat)(B:LI)(q:Nat)(y0 y1 h lb:Int)(w:World)(G:Rd w 3 A n (fins u))(H:Rd w 1 bN m (ints B))(F:u[q]?=some (y0,y1,h))(V:B[q]?=some lb)(b7:n=m)(hn:n≤16):Calls prog 323 #[.agg #[.slice A n c],.slice bN m d,q] w λe R=>e=.returned (.tuple #[.int .i64 (1+ltN h (bh lb u B)),.int .i64 (eqN h (bh lb u B))])∧BL w R:=by{
 subst b7;have HN:=hI G.len_fin;have HM:=hI H.len_int;have bP:q<n:=by have:=(List.getElem?_eq_some_iff.1 F).1;rw[HN.out] at this;exact this
 obtain⟨b,o,z0,_,_,I,J,_,Y,Z,M⟩:=G.fin bP;subst I;rw[F] at J;injection J with J;injection J with ca J;injection J with cb cc;subst ca;subst cb;subst cc;obtain⟨b2,o2,z,I,J,_,N⟩:=H.int bP;subst I;rw[V] at J;injection J with J;subst J;have b0:=hI (λR (hb:BL w R)=>G.below hb);have b1:=hI (λR (hb:BL w R)=>H.below hb);obtain⟨_,W,T,U,_⟩:=ae w #[.slice (some ⟨b,o,none⟩) n c] 157;have bW:=hI (λR (hb:BL w R)=>(hb.cell (p:=⟨b,o+q*3+2,none⟩) (au M)).trans M);have bR:=hI (λR (hb:BL w R)=>(hb.cell (p:=⟨b2,o2+q,none⟩) (au N)).trans N);have O:=hI U;have L:=hI T;clear G H F V Y Z M N U T;go_enter func323,ntmps323;go_wp2_with fail
 rw[←W];clear W;have G:=L.l1;go_wp2_with fail
 go_loopw [8,9,10] (λp s i wr=>∃j:Nat,j≤n∧i=.int .i64 j∧p=.int .i64 (1+ltN h (bh lb (u.take j) (B.take j)))∧s=.int .i64 (eqN h (bh lb (u.take j) (B.take j)))∧Hid (aO wr w.heap.size #[.slice (some ⟨b,o,none⟩) n c] 157)∧Hid (BL w wr)) (λ_ _ i _=>n-(intOf i).toNat)
 case atStart=>exact⟨0,qH _,rfl,by simp[bh,ltN],by simp[bh,eqN],L,O⟩
 case round=>(
 clear G L O;obtain⟨j,_,rfl,rfl,rfl,HX,HB⟩:=hrel;obtain⟨wo,b9⟩:∃wo:World,wo=wr:=⟨_,rfl⟩;subst b9;have G:=HX.l1;have cf:(bh lb (u.take j) (B.take j)).length≤16:=qM (zI _ _ _) (by rw[qS,HN.out];omega);have ch:=pO h (bh lb (u.take j) (B.take j));have ck:=pI h (bh lb (u.take j) (B.take j));by_cases bO:j<n
 {
 obtain⟨_,_,x0,x1,L,I,U,_,b4,b5,b6⟩:=(b0 _ HB).fin bO;injection I with I;injection I with bt bv;subst bt;subst bv;obtain⟨_,_,M,I,H,_,O⟩:=(b1 _ HB).int bO;injection I with I;injection I with bt bv;subst bt;subst bv;have V:=bW _ HB;have N:=bR _ HB;have T:=hI (show bh lb (u.take (j+1)) (B.take (j+1))=bh lb (u.take j) (B.take j)++(if M=lb then [(x0,x1,L)] else []) from by rw[am U,am H];exact wX _ _ _ _ _ (by rw[qS,qS,HN.out,HM.out]));generalize bh lb (u.take j) (B.take j)=bs at *;clear U H;generalize U:ltN h bs=ln at *;generalize H:eqN h bs=en at *;have a1:=hI U;have av:=hI H;clear U H;obtain⟨wa,Z,H,a8,_⟩:=ae wo #[x0,x1,L] 53;have ar:=zb HB a8;have a2:=hI (HX.below a8);have U:=au O;have W:=au N;have Y:=au V;replace O:=(a8.cell (p:=⟨b2,o2+j,none⟩) U).trans O;replace N:=(a8.cell (p:=⟨b2,o2+q,none⟩) W).trans N;replace V:=(a8.cell (p:=⟨b,o+q*3+2,none⟩) Y).trans V;clear U W Y;go_wp2_with fail
 rw[←Z];clear Z G b4 b5 b6;by_cases e1:x1=0
 {
 have h0:(x1==0)=true:=by simp[e1]
 by_cases e2:M=lb
 {
 have h2:(M !=lb)=false:=by simp[e2]
 have G:=hI (show bh lb (u.take (j+1)) (B.take (j+1))=bs++[(x0,x1,L)] from by rw[T.out,if_pos e2]);subst e2;subst e1;have bb:=cell_regrown (H.cell (i:=0) rfl);have bk:=cell_regrown (H.cell (i:=1) rfl);have bn:=cell_regrown (H.cell (i:=2) rfl);have bo:=cell_regrown (O);have bp:=cell_regrown (N);refine wp_region_quiet_below (by kernel_rfl) (by kernel_rfl) ?_;repeat (first|go_big_quiet_step ((first|(go_at_call 246;(with_reducible exact Calls.regrown_of (db _ _ h0 _)))))|quiet_step ((first|(go_at_call 246;(with_reducible exact Calls.regrown_of (db _ _ h0 _))))))
 refine wpQuiet_nil ?_;intro _ a';obtain⟨⟨dq,bq⟩,ba⟩:=a';subst ba;obtain⟨wq,Y,F⟩:∃Z,Z=grow (redrawn wa dq) bq∧BL wa Z:=⟨_,rfl,below_regrown _ _ _⟩;rw[←Y];clear Y bb bk bn bo bp;have ad:=zb ar F;have U:=hI (a2.below F);have XQ:=H.below F;have cd:=(F.cell (p:=⟨b,o+q*3+2,none⟩) (au V)).trans V;have F1:=U.l1;have F2:=XQ.f3;clear F;by_cases g1:L<h
 {
 have gb:decide (L<h)=true:=by simpa using g1
 have g2:¬L=h:=by omega
 have gc:(L==h)=false:=by simpa using g2
 have a7:=hI (show ltN h (bh M (u.take (j+1)) (B.take (j+1)))=ln+1 from by rw[G.out,ec,a1.out,if_pos (by simpa using g1)]);have a6:=hI (show eqN h (bh M (u.take (j+1)) (B.take (j+1)))=en+0 from by rw[G.out,eb,av.out,if_neg (by simpa using g2)]);clear G T;clear O N V H a2 ar;go_wp2_with fail
 go_region
 go_wp2_with fail
 go_region
 go_wp2_with fail
 have W:BL wq wq.drew.drew:=bx (bx (qB _ _) 1) 1;go_roundw
 case rel=>exact⟨j+1,by omega,by go_num,by rw[a7.out];first|done|(congr 1<;>omega),by rw[a6.out];first|done|(congr 1<;>omega),hI (U.below W),zb ad W⟩
 case measure=>simp[intOf]<;>omega}
 {
 have gb:decide (L<h)=false:=by simpa using g1
 by_cases g2:L=h
 {
 have gc:(L==h)=true:=by simpa using g2
 have a7:=hI (show ltN h (bh M (u.take (j+1)) (B.take (j+1)))=ln+0 from by rw[G.out,ec,a1.out,if_neg (by simpa using g1)]);have a6:=hI (show eqN h (bh M (u.take (j+1)) (B.take (j+1)))=en+1 from by rw[G.out,eb,av.out,if_pos (by simpa using g2)]);clear G T;clear O N V H a2 ar;go_wp2_with fail
 go_region
 go_wp2_with fail
 go_region
 go_wp2_with fail
 have W:BL wq wq.drew.drew:=bx (bx (qB _ _) 1) 1;go_roundw
 case rel=>exact⟨j+1,by omega,by go_num,by rw[a7.out];first|done|(congr 1<;>omega),by rw[a6.out];first|done|(congr 1<;>omega),hI (U.below W),zb ad W⟩
 case measure=>simp[intOf]<;>omega}
 {
 have gc:(L==h)=false:=by simpa using g2
 have a7:=hI (show ltN h (bh M (u.take (j+1)) (B.take (j+1)))=ln+0 from by rw[G.out,ec,a1.out,if_neg (by simpa using g1)]);have a6:=hI (show eqN h (bh M (u.take (j+1)) (B.take (j+1)))=en+0 from by rw[G.out,eb,av.out,if_neg (by simpa using g2)]);clear G T;clear O N V H a2 ar;go_wp2_with fail
 go_region
 go_wp2_with fail
 go_region
 go_wp2_with fail
 have W:BL wq wq.drew.drew:=bx (bx (qB _ _) 1) 1;go_roundw
 case rel=>exact⟨j+1,by omega,by go_num,by rw[a7.out];first|done|(congr 1<;>omega),by rw[a6.out];first|done|(congr 1<;>omega),hI (U.below W),zb ad W⟩
 case measure=>simp[intOf]<;>omega}}}
 {
 have h2:(M !=lb)=true:=by simp[e2]
 have G:=hI (show bh lb (u.take (j+1)) (B.take (j+1))=bs from by rw[T.out,if_neg e2,qa]);subst e1;clear e2 T;have bb:=cell_regrown (H.cell (i:=0) rfl);have bk:=cell_regrown (H.cell (i:=1) rfl);have bn:=cell_regrown (H.cell (i:=2) rfl);have bo:=cell_regrown (O);have bp:=cell_regrown (N);refine wp_region_quiet_below (by kernel_rfl) (by kernel_rfl) ?_;repeat (first|go_big_quiet_step ((first|(go_at_call 246;(with_reducible exact Calls.regrown_of (db _ _ h0 _)))))|quiet_step ((first|(go_at_call 246;(with_reducible exact Calls.regrown_of (db _ _ h0 _))))))
 refine wpQuiet_nil ?_;intro _ a';obtain⟨⟨dq,bq⟩,ba⟩:=a';subst ba;obtain⟨wq,Y,F⟩:∃Z,Z=grow (redrawn wa dq) bq∧BL wa Z:=⟨_,rfl,below_regrown _ _ _⟩;rw[←Y];clear Y bb bk bn bo bp;have ad:=zb ar F;have U:=hI (a2.below F);clear F;go_wp2_with fail
 go_roundw
 case rel=>exact⟨j+1,by omega,by go_num,by rw[G.out,a1.out],by rw[G.out,av.out],U,ad⟩
 case measure=>simp[intOf]<;>omega}}
 {
 have h0:(x1==0)=false:=by simp[e1]
 have G:=hI (show ltN h (bh lb (u.take (j+1)) (B.take (j+1)))=ln∧eqN h (bh lb (u.take (j+1)) (B.take (j+1)))=en from by{
 rw[T.out];split
 {rw[ec,eb,if_neg (by simp[e1]),if_neg (by simp[e1])];exact⟨a1,av⟩}
 {rw[qa];exact⟨a1,av⟩}})
 clear e1 T;have bb:=cell_regrown (H.cell (i:=0) rfl);have bk:=cell_regrown (H.cell (i:=1) rfl);have bn:=cell_regrown (H.cell (i:=2) rfl);have bo:=cell_regrown (O);have bp:=cell_regrown (N);refine wp_region_quiet_below (by kernel_rfl) (by kernel_rfl) ?_;repeat (first|go_big_quiet_step ((first|(go_at_call 246;(with_reducible exact Calls.regrown_of (db _ _ h0 _)))))|quiet_step ((first|(go_at_call 246;(with_reducible exact Calls.regrown_of (db _ _ h0 _))))))
 refine wpQuiet_nil ?_;intro _ a';obtain⟨⟨dq,bq⟩,ba⟩:=a';subst ba;obtain⟨wq,Y,F⟩:∃Z,Z=grow (redrawn wa dq) bq∧BL wa Z:=⟨_,rfl,below_regrown _ _ _⟩;rw[←Y];clear Y bb bk bn bo bp;have ad:=zb ar F;have U:=hI (a2.below F);clear F;go_wp2_with fail
 go_roundw
 case rel=>exact⟨j+1,by omega,by go_num,by rw[G.out.1],by rw[G.out.2],U,ad⟩
 case measure=>simp[intOf]<;>omega}}
 {
 obtain rfl:j=n:=by omega
 rw[qI (by rw[HN.out];exact qA _),qI (by rw[HM.out];exact qA _)];go_wp2_with fail
 go_ret2;exact⟨rfl,HB⟩})}
end Go.Proofs.YtnpldahkhaacnaaGreatDoor

/- Texts of the walk: Nk Nm. -/
import Derived.Test.YtnpldahkhaacnaaGreatDoorYaj
import Derived.Test.YtnpldahkhaacnaaGreatDoorYax
set_option linter.unusedVariables false
set_option linter.unusedSimpArgs false
set_option maxRecDepth 100000
set_option maxHeartbeats 32000000
namespace Go.Proofs.YtnpldahkhaacnaaGreatDoor
open Go.RowKit Go.Sort Go.Proofs.Tryz
theorem aO.f2 {w:World}{b:Nat}{t:TypeId}{x y:Value}(h:aO w b #[x,y] t):w.cell? ⟨b,0,none⟩=some x∧w.cell? ⟨b,1,none⟩=some y∧w.frozen? ⟨b,0,none⟩=false∧w.frozen? ⟨b,1,none⟩=false∧b<w.heap.size:=⟨h.cell rfl,h.cell rfl,h.fz,h.fz,h.lt⟩
theorem EB {st h k t:Int}(u:0≤h∧h≤1000000000)(B:0≤t∧t≤1000000000):0≤(aV (st,h) (k,t)).1.2∧(aV (st,h) (k,t)).1.2≤1000000000:=by{
 unfold aV;(repeat' split)<;>simp only<;>omega}
theorem GE {st p m k t:Int}(B:0≤p∧p≤1000000000)(h:0≤m∧m≤1000000000)(u:0≤t∧t≤1000000000):(0≤(aM (st,p,m) (k,t)).1.2.1∧(aM (st,p,m) (k,t)).1.2.1≤1000000000)∧0≤(aM (st,p,m) (k,t)).1.2.2∧(aM (st,p,m) (k,t)).1.2.2≤1000000000:=by{
 unfold aM;(repeat' split)<;>simp only<;>omega}
def Ja (w:World) (h:List du) (n:Nat) (e:Ending) (F:World):Prop:=∃(B u:Int) (k:Nat),e=.returned (.tuple #[.agg #[B,u],(k:Int)])∧(mE (0,0) h=true→k=n)∧(mE (0,0) h=false→k<n)∧BL w F
def Je (w:World) (h:List du) (e:Ending) (u:World):Prop:=∃(a p m r:Int),e=.returned (.tuple #[.agg #[a,p,m],r])∧(kn (0,0,0) h=true→r=-1∧(a,p,m)=nH (0,0,0) h)∧(kn (0,0,0) h=false→0≤r)∧BL w u
theorem Fz (A:OA)(n c:Nat)(N:List du)(h:∀x∈N,dR x=true)(w:World)(B:Rd w 2 A n (winds N)):Calls prog 273 #[.slice A n c] w (Ja w N n):=by{
 have HN:=hI B.len_wind;have hm:=B.le;have HR:=hI B;have bt:=hI h;clear B h;obtain⟨w1,O,H,h,M⟩:=ae w #[(0:Int),(0:Int)] 240;obtain⟨w2,R,I,u,_⟩:=ae w1 #[(0:Int),(0:Int)] 240;have J:=hI (H.below u);have L:=hI I;have F:=hI (h.trans (u.mono h.size));have G:=hI (show w2=(w.alloc (.cells #[(0:Int),(0:Int)] 240)).alloc (.cells #[(0:Int),(0:Int)] 240) from by rw[R,O]);rw[M] at L;clear H I h u O R M;go_enter func273,ntmps273;go_wp2_with fail
 rw[←G.out];clear G;go_loopw [12] (λi wr=>∃(k:Nat) (u h:Int),k≤n∧i=.int .i64 k∧Hid (mE (u,h) (N.drop k)=mE (0,0) N)∧(0≤h∧h≤1000000000)∧Hid (aO wr w.heap.size #[(0:Int),(0:Int)] 240)∧Hid (aO wr (w.heap.size+1) #[u,h] 240)∧Hid (BL w wr)) (λi _=>n-(intOf i).toNat)
 case atStart=>exact⟨0,0,0,qH _,rfl,hI rfl,by omega,J,L,F⟩
 case round=>(
 clear J L F;obtain⟨k,u,h,_,rfl,I,bn,J,L,HB⟩:=hrel;obtain⟨Z,bP⟩:∃Z:World,Z=wr:=⟨_,rfl⟩;subst bP;by_cases a6:k<n
 {
 have bv:decide ((k:Int)<(n:Int))=true:=by simpa using a6
 obtain⟨b,o,x,y,rfl,hx,hd,_,_⟩:=(HR.below HB).wind a6;have U:=cV.1 (bt (x,y) (qF hx));simp only at U;have F:=I.out;rw[hd,mE] at F;have I:=hI F;have ad:=hI (λG=>Dr u h x y U.1 bn U.2 G);have bk:=EB (st:=u) (k:=x) bn U.2;generalize aV (u,h) (x,y)=sr at *;obtain⟨⟨a8,a7⟩,bR⟩:=sr;simp only at ad bk F;obtain⟨_,bp,XA,Y,bO⟩:=ae Z #[x,y] 197;have FA:=XA.f2;have a1:=L.below Y;have FX:=a1.f2;have bb:=hI a1;have ba:=hI (J.below Y);have O:=zb HB Y;have ar:=hI bp;have I:=hI F;clear hx hd XA Y bp F a1 U L J bO;rw[ar.out] at FA FX;go_wp2_with fail
 rw[←ar.out];clear ar;refine(ad _).mono ?_;rintro e w4⟨rfl,T⟩;obtain⟨w5,bo,X5,W,bN⟩:=ae w4 #[a8,a7] 240;have V:=hI ((ba.below T).below W);have av:=hI ((bb.below T).below W);have a':=hI ((O.trans (T.mono O.size)).trans (W.mono (O.trans (T.mono O.size)).size));have M:=hI bo;have bW:=V.lt;have b0:=av.lt;have F5:=X5.f2;have F0:=V.f2;have F1:=av.f2;clear FA FX T W X5 bo bN ad bb ba O
 cases bR with
 | false=>{
 have bq:=hI (show mE (0,0) N=false from by rw[←I.out];rfl);rw[M.out] at F0 F1 F5;go_wp2_with fail
 rw[←M.out];clear M;obtain⟨H,G⟩:∃H:World,H=(w5.setCell ⟨w.heap.size,0,none⟩ (.int .i64 u)).setCell ⟨w.heap.size,1,none⟩ (.int .i64 h):=⟨_,rfl⟩;have R:aO H w.heap.size #[u,h] 240:=by rw[G];have:=(V.set 0 (.int .i64 u)).set 1 (.int .i64 h);simpa using this
 have a2:BL w H:=by rw[G];exact(a'.setCell (p:=⟨w.heap.size,0,none⟩) (qA _) _).setCell (p:=⟨w.heap.size,1,none⟩) (qA _) _
 have FF:=R.f2;rw[←G];clear G R;refine bodyPost_ret (v:=.tuple #[.agg #[u,h],(k:Int)]) (by simp[results,results273,go_sem,FF]) rfl ?_;exact⟨u,h,k,rfl,(λB=>by rw[bq.out] at B;cases B),λ_=>a6,a2⟩}
 | true=>{
 rw[M.out] at F0 F1 F5;go_wp2_with fail
 rw[←M.out];clear M;go_roundw
 case rel=>exact⟨k+1,a8,a7,by omega,by go_num,hI (by rw[←I.out];rfl),bk,hI ((V.other (c:=w.heap.size+1) (by omega) _).other (c:=w.heap.size+1) (by omega) _),hI (by have:=(av.set 0 (.int .i64 a8)).set 1 (.int .i64 a7);simpa using this),hI ((a'.setCell (p:=⟨w.heap.size+1,0,none⟩) (by show w.heap.size≤w.heap.size+1;omega) _).setCell (p:=⟨w.heap.size+1,1,none⟩) (by show w.heap.size≤w.heap.size+1;omega) _)⟩
 case measure=>simp[intOf]<;>omega}}
 {
 obtain rfl:k=n:=by omega
 have bv:decide ((k:Int)<(k:Int))=false:=by simp
 have F:=I.out;rw[qK (by rw[HN.out];omega),mE] at F;have bs:=hI F.symm;have F0:=J.f2;have F1:=L.f2;clear F I;go_wp2_with fail
 obtain⟨H,G⟩:∃H:World,H=(Z.setCell ⟨w.heap.size,0,none⟩ (.int .i64 u)).setCell ⟨w.heap.size,1,none⟩ (.int .i64 h):=⟨_,rfl⟩;have R:aO H w.heap.size #[u,h] 240:=by rw[G];have:=(J.set 0 (.int .i64 u)).set 1 (.int .i64 h);simpa using this
 have a2:BL w H:=by rw[G];exact(HB.setCell (p:=⟨w.heap.size,0,none⟩) (qA _) _).setCell (p:=⟨w.heap.size,1,none⟩) (qA _) _
 have FF:=R.f2;rw[←G];clear G R;refine bodyPost_ret (v:=.tuple #[.agg #[u,h],(k:Int)]) (by simp[results,results273,go_sem,FF]) rfl ?_;exact⟨u,h,k,rfl,λ_=>rfl,(λB=>by rw[bs.out] at B;cases B),a2⟩})}
theorem Gq (A:OA)(n c:Nat)(U:List du)(h:∀x∈U,dR x=true)(w:World)(T:Rd w 2 A n (winds U)):Calls prog 278 #[.slice A n c] w (Je w U):=by{
 have HN:=hI T.len_wind;have hm:=T.le;have HR:=hI T;have b0:=hI h;clear T h;obtain⟨w1,J,G,h,I⟩:=ae w #[(0:Int),(0:Int),(0:Int)] 199;obtain⟨w2,L,H,u,_⟩:=ae w1 #[(0:Int),(0:Int),(0:Int)] 199;have av:=hI (G.below u);have Z:=hI H;have B:=hI (h.trans (u.mono h.size));have F:=hI (show w2=(w.alloc (.cells #[(0:Int),(0:Int),(0:Int)] 199)).alloc (.cells #[(0:Int),(0:Int),(0:Int)] 199) from by rw[L,J]);rw[I] at Z;clear G H h u J L I;go_enter func278,ntmps278;go_wp2_with fail
 rw[←F.out];clear F;go_loopw [5] (λi wr=>∃(k:Nat) (a p m:Int),k≤n∧i=.int .i64 k∧Hid (kn (a,p,m) (U.drop k)=kn (0,0,0) U)∧Hid (nH (a,p,m) (U.drop k)=nH (0,0,0) U)∧((0≤p∧p≤1000000000)∧0≤m∧m≤1000000000)∧Hid (aO wr w.heap.size #[(0:Int),(0:Int),(0:Int)] 199)∧Hid (aO wr (w.heap.size+1) #[a,p,m] 199)∧Hid (BL w wr)) (λi _=>n-(intOf i).toNat)
 case atStart=>exact⟨0,0,0,0,qH _,rfl,hI rfl,hI rfl,by omega,av,Z,B⟩
 case round=>(
 clear av Z B;obtain⟨k,a,p,m,_,rfl,HI,HE,bn,av,Z,HB⟩:=hrel;obtain⟨wo,b7⟩:∃wo:World,wo=wr:=⟨_,rfl⟩;subst b7;by_cases bO:k<n
 {
 have b3:decide ((k:Int)<(n:Int))=true:=by simpa using bO
 obtain⟨b,o,x,y,rfl,hx,hd,b1,b2⟩:=(HR.below HB).wind bO;have bb:=cV.1 (b0 (x,y) (qF hx));simp only at bb;have hi:=HI.out;have he:=HE.out;rw[hd,kn] at hi;rw[hd,nH] at he;have bq:=hI (λh=>sL a p m x y bb.1 bn.1 bn.2 bb.2 h);have bv:=GE (st:=a) (k:=x) bn.1 bn.2 bb.2;generalize aM (a,p,m) (x,y)=sr at *;obtain⟨⟨L,O,N⟩,bP⟩:=sr;simp only at bq bv hi he;have FX:=Z.f3;have HI:=hI hi;have HE:=hI he;have b':=av.lt;have ca:=Z.lt;have b9:=HB.size;clear hx hd hi he bb;go_wp2_with fail
 refine zR 12 (λ_=>false) (λu h=>zA (ab FX.1 h) (zA (ab FX.2.1 h) (zA (ab FX.2.2.1 h) (zA (ab b1 h) (ab b2 h))))) λS I J cb h H Y u=>?_
 refine zS h I 0 u ?_;go_simp;refine zS h I 1 u ?_;go_simp;refine zS h I 2 u ?_;go_simp;refine zS h I 3 u ?_;go_simp;refine zS h I 4 u ?_;go_simp;have a1:=hI Y;clear Y;refine zt h 5 9 ?_ ?_
 {
 skip;intro K' G;go_simp;go_at_call 175;refine(bq _).mono ?_;rintro e F⟨rfl,a7⟩;have Y:=a1.trans (a7.mono a1.size);clear a7;refine G _ _ (.inr (J _ Y)) ?_;clear G;have u:=J _ Y;go_simp;refine zS h I 6 u ?_;go_simp;refine zS h I 7 u ?_;go_simp;refine zS h I 8 u ?_;go_simp;refine zo h 9 λK' G=>?_
 go_simp;refine G _ _ (.inr (J _ (Y.alloc Y.size _))) ?_;clear G;obtain⟨wa,bk,XZ,bt,b6⟩:=ae F #[(0:Int),(0:Int),(0:Int)] 199;rw[←bk];clear bk;have W:=Y.trans (bt.mono Y.size);have u:=J _ W;go_simp;have FZ:=XZ.f3;have B:wo.heap.size≤F.heap.size:=Y.size;refine zo h 10 λK' G=>?_
 go_simp;refine G _ _ (.inr (J _ (((W.setCell (p:=⟨F.heap.size,0,none⟩) B _).setCell (p:=⟨F.heap.size,1,none⟩) B _).setCell (p:=⟨F.heap.size,2,none⟩) B _))) ?_;clear G;have u:=J _ (((W.setCell (p:=⟨F.heap.size,0,none⟩) B (.int .i64 L)).setCell (p:=⟨F.heap.size,1,none⟩) B (.int .i64 O)).setCell (p:=⟨F.heap.size,2,none⟩) B (.int .i64 N));go_simp;refine zS h I 11 u ?_;go_simp;refine zd h ?_;obtain⟨V,ar⟩:∃V:World,V=((wa.setCell ⟨F.heap.size,0,none⟩ (.int .i64 L)).setCell ⟨F.heap.size,1,none⟩ (.int .i64 O)).setCell ⟨F.heap.size,2,none⟩ (.int .i64 N):=⟨_,rfl⟩;have ad:BL wo V:=by rw[ar];exact((W.setCell (p:=⟨F.heap.size,0,none⟩) B _).setCell (p:=⟨F.heap.size,1,none⟩) B _).setCell (p:=⟨F.heap.size,2,none⟩) B _
 have XN:aO V (F.heap.size) #[L,O,N] 199:=by rw[ar];have:=((XZ.set 0 (.int .i64 L)).set 1 (.int .i64 O)).set 2 (.int .i64 N);simpa using this
 rw[←ar];clear ar u FZ XZ h I J FX;have a6:=hI (av.below ad);have a':=hI (Z.below ad);have a8:=zb HB ad;have F5:=XN.f3;have F0:=a6.f3;have F1:=a'.f3;have b4:F.heap.size≠w.heap.size:=by omega
 have b5:F.heap.size≠w.heap.size+1:=by omega
 clear XN ad
 cases bP with
 | false=>{
 have bp:=hI (show kn (0,0,0) U=false from by rw[←HI.out];rfl);go_wp2_with fail
 obtain⟨R,M⟩:∃R:World,R=((V.setCell ⟨w.heap.size,0,none⟩ (.int .i64 a)).setCell ⟨w.heap.size,1,none⟩ (.int .i64 p)).setCell ⟨w.heap.size,2,none⟩ (.int .i64 m):=⟨_,rfl⟩;have XG:aO R w.heap.size #[a,p,m] 199:=by rw[M];have:=((a6.set 0 (.int .i64 a)).set 1 (.int .i64 p)).set 2 (.int .i64 m);simpa using this
 have ba:BL w R:=by rw[M];exact((a8.setCell (p:=⟨w.heap.size,0,none⟩) (qA _) _).setCell (p:=⟨w.heap.size,1,none⟩) (qA _) _).setCell (p:=⟨w.heap.size,2,none⟩) (qA _) _
 have FG:=XG.f3;rw[←M];clear M XG;refine bodyPost_ret (v:=.tuple #[.agg #[a,p,m],(k:Int)]) (by simp[results,results278,go_sem,FG]) rfl ?_;exact⟨a,p,m,(k:Int),rfl,(λT=>by rw[bp.out] at T;cases T),λ_=>by omega,ba⟩}
 | true=>{
 have bo:=hI (show kn (L,O,N) (U.drop (k+1))=kn (0,0,0) U from by rw[←HI.out];rfl);go_wp2_with fail
 go_roundw
 case rel=>exact⟨k+1,L,O,N,by omega,by go_num,bo,HE,bv,hI (((a6.other (c:=w.heap.size+1) (by omega) _).other (c:=w.heap.size+1) (by omega) _).other (c:=w.heap.size+1) (by omega) _),hI (by have:=((a'.set 0 (.int .i64 L)).set 1 (.int .i64 O)).set 2 (.int .i64 N);simpa using this),hI (((a8.setCell (p:=⟨w.heap.size+1,0,none⟩) (by show w.heap.size≤w.heap.size+1;omega) _).setCell (p:=⟨w.heap.size+1,1,none⟩) (by show w.heap.size≤w.heap.size+1;omega) _).setCell (p:=⟨w.heap.size+1,2,none⟩) (by show w.heap.size≤w.heap.size+1;omega) _)⟩
 case measure=>simp[intOf]<;>omega}}
 {
 skip;intro K' G;go_simp;refine G _ _ (.inr (J _ (a1.alloc a1.size _))) ?_;clear G;obtain⟨wa,bk,bN,bt,b6⟩:=ae H #[(0:Int),(0:Int),(0:Int)] 199;rw[←bk];clear bk;have bs:=a1.trans (bt.mono a1.size);have u:=J _ bs;go_simp;refine zo h 5 λK' G=>?_
 go_simp;go_at_call 175;refine(bq _).mono ?_;rintro e F⟨rfl,a7⟩;have XZ:=bN.below a7;have W:=bs.trans (a7.mono bs.size);clear a7 bN;refine G _ _ (.inr (J _ W)) ?_;clear G;have u:=J _ W;go_simp;refine zS h I 6 u ?_;go_simp;refine zS h I 7 u ?_;go_simp;refine zS h I 8 u ?_;go_simp;have FZ:=XZ.f3;have B:wo.heap.size≤H.heap.size:=a1.size;refine zo h 10 λK' G=>?_
 go_simp;refine G _ _ (.inr (J _ (((W.setCell (p:=⟨H.heap.size,0,none⟩) B _).setCell (p:=⟨H.heap.size,1,none⟩) B _).setCell (p:=⟨H.heap.size,2,none⟩) B _))) ?_;clear G;have u:=J _ (((W.setCell (p:=⟨H.heap.size,0,none⟩) B (.int .i64 L)).setCell (p:=⟨H.heap.size,1,none⟩) B (.int .i64 O)).setCell (p:=⟨H.heap.size,2,none⟩) B (.int .i64 N));go_simp;refine zS h I 11 u ?_;go_simp;refine zd h ?_;obtain⟨V,ar⟩:∃V:World,V=((F.setCell ⟨H.heap.size,0,none⟩ (.int .i64 L)).setCell ⟨H.heap.size,1,none⟩ (.int .i64 O)).setCell ⟨H.heap.size,2,none⟩ (.int .i64 N):=⟨_,rfl⟩;have ad:BL wo V:=by rw[ar];exact((W.setCell (p:=⟨H.heap.size,0,none⟩) B _).setCell (p:=⟨H.heap.size,1,none⟩) B _).setCell (p:=⟨H.heap.size,2,none⟩) B _
 have XN:aO V (H.heap.size) #[L,O,N] 199:=by rw[ar];have:=((XZ.set 0 (.int .i64 L)).set 1 (.int .i64 O)).set 2 (.int .i64 N);simpa using this
 rw[←ar];clear ar u FZ XZ h I J FX;have a6:=hI (av.below ad);have a':=hI (Z.below ad);have a8:=zb HB ad;have F5:=XN.f3;have F0:=a6.f3;have F1:=a'.f3;have b4:H.heap.size≠w.heap.size:=by omega
 have b5:H.heap.size≠w.heap.size+1:=by omega
 clear XN ad
 cases bP with
 | false=>{
 have bp:=hI (show kn (0,0,0) U=false from by rw[←HI.out];rfl);go_wp2_with fail
 obtain⟨R,M⟩:∃R:World,R=((V.setCell ⟨w.heap.size,0,none⟩ (.int .i64 a)).setCell ⟨w.heap.size,1,none⟩ (.int .i64 p)).setCell ⟨w.heap.size,2,none⟩ (.int .i64 m):=⟨_,rfl⟩;have XG:aO R w.heap.size #[a,p,m] 199:=by rw[M];have:=((a6.set 0 (.int .i64 a)).set 1 (.int .i64 p)).set 2 (.int .i64 m);simpa using this
 have ba:BL w R:=by rw[M];exact((a8.setCell (p:=⟨w.heap.size,0,none⟩) (qA _) _).setCell (p:=⟨w.heap.size,1,none⟩) (qA _) _).setCell (p:=⟨w.heap.size,2,none⟩) (qA _) _
 have FG:=XG.f3;rw[←M];clear M XG;refine bodyPost_ret (v:=.tuple #[.agg #[a,p,m],(k:Int)]) (by simp[results,results278,go_sem,FG]) rfl ?_;exact⟨a,p,m,(k:Int),rfl,(λT=>by rw[bp.out] at T;cases T),λ_=>by omega,ba⟩}
 | true=>{
 have bo:=hI (show kn (L,O,N) (U.drop (k+1))=kn (0,0,0) U from by rw[←HI.out];rfl);go_wp2_with fail
 go_roundw
 case rel=>exact⟨k+1,L,O,N,by omega,by go_num,bo,HE,bv,hI (((a6.other (c:=w.heap.size+1) (by omega) _).other (c:=w.heap.size+1) (by omega) _).other (c:=w.heap.size+1) (by omega) _),hI (by have:=((a'.set 0 (.int .i64 L)).set 1 (.int .i64 O)).set 2 (.int .i64 N);simpa using this),hI (((a8.setCell (p:=⟨w.heap.size+1,0,none⟩) (by show w.heap.size≤w.heap.size+1;omega) _).setCell (p:=⟨w.heap.size+1,1,none⟩) (by show w.heap.size≤w.heap.size+1;omega) _).setCell (p:=⟨w.heap.size+1,2,none⟩) (by show w.heap.size≤w.heap.size+1;omega) _)⟩
 case measure=>simp[intOf]<;>omega}}}
 {
 obtain rfl:k=n:=by omega
 have b3:decide ((k:Int)<(k:Int))=false:=by simp
 have hi:=HI.out;have he:=HE.out;rw[qK (by rw[HN.out];omega),kn] at hi;rw[qK (by rw[HN.out];omega),nH] at he;have bW:=hI hi.symm;have bR:=hI he;have F0:=av.f3;have F1:=Z.f3;clear hi HI he HE;go_wp2_with fail
 obtain⟨R,M⟩:∃R:World,R=((wo.setCell ⟨w.heap.size,0,none⟩ (.int .i64 a)).setCell ⟨w.heap.size,1,none⟩ (.int .i64 p)).setCell ⟨w.heap.size,2,none⟩ (.int .i64 m):=⟨_,rfl⟩;have XG:aO R w.heap.size #[a,p,m] 199:=by rw[M];have:=((av.set 0 (.int .i64 a)).set 1 (.int .i64 p)).set 2 (.int .i64 m);simpa using this
 have ba:BL w R:=by rw[M];exact((HB.setCell (p:=⟨w.heap.size,0,none⟩) (qA _) _).setCell (p:=⟨w.heap.size,1,none⟩) (qA _) _).setCell (p:=⟨w.heap.size,2,none⟩) (qA _) _
 have FG:=XG.f3;rw[←M];clear M XG;refine bodyPost_ret (v:=.tuple #[.agg #[a,p,m],.int .i64 (-1)]) (by simp[results,results278,go_sem,FG]) rfl ?_;exact⟨a,p,m,-1,rfl,λ_=>⟨rfl,bR⟩,(λT=>by rw[bW.out] at T;cases T),ba⟩})}
def jr (h:List du):Int:=if ed h=true then(if mE (0,0) h=true then 0 else 5) else 1
def j_ (h:List du):Int:=if ed h=true then(if kn (0,0,0) h=true then 0 else 5) else 1
def Ig (w:World) (F:List du) (e:Ending) (B:World):Prop:=∃(u h:Int),e=.returned (.tuple #[.agg #[u,h],.int .i64 (jr F)])∧BL w B
def Iu (w:World) (h:List du) (e:Ending) (u:World):Prop:=∃(a p m:Int),e=.returned (.tuple #[.agg #[a,p,m],.int .i64 (j_ h)])∧(j_ h=0→(a,p,m)=nH (0,0,0) h)∧BL w u
theorem zm (A:OA)(n c:Nat)(B:List du)(w:World)(I:Rd w 2 A n (winds B)):Calls prog 214 #[.slice A n c] w (Ig w B):=by{
 obtain⟨w1,W,V,U,_⟩:=ae w #[(0:Int),(0:Int)] 240;have a1:=hI V;have ar:=hI U;have T:=hI W;have O:=hI (oz A n c B w1 (I.below U));have H2:=hI (λ(u:∀x∈B,dR x=true) h (F:BL w h)=>Fz A n c B u h (I.below F));have HN:=hI I.len_wind;have a6:=I.le
 cases G:ed B with
 | false=>{
 have R:=hI (show jr B=1 from by unfold jr;rw[G];rfl);rw[G] at O;clear I G V U W;go_enter func214,ntmps214;go_wp2_with fail
 rw[←T.out];clear T;refine O.mono ?_;rintro e w2⟨rfl,H⟩;have L:=zb ar H;have M:=hI (a1.below H);have Y:=M.f2;clear H;go_wp2_with fail
 obtain⟨u,h⟩:∃u:World,u=(w2.setCell ⟨w.heap.size,0,none⟩ (.int .i64 0)).setCell ⟨w.heap.size,1,none⟩ (.int .i64 0):=⟨_,rfl⟩;have F:aO u w.heap.size #[(0:Int),(0:Int)] 240:=by rw[h];have:=(M.set 0 (.int .i64 0)).set 1 (.int .i64 0);simpa using this
 have N:BL w u:=by rw[h];exact(L.setCell (p:=⟨w.heap.size,0,none⟩) (qA _) _).setCell (p:=⟨w.heap.size,1,none⟩) (qA _) _
 have J:=F.f2;rw[←h];clear h F;refine bodyPost_ret (v:=.tuple #[.agg #[(0:Int),(0:Int)],(1:Int)]) (by simp[results,results214,go_sem,J]) rfl ?_;exact⟨0,0,by rw[R.out],N⟩}
 | true=>{
 have HM:=hI (fJ G);have R:=hI (show jr B=if mE (0,0) B=true then 0 else 5 from by unfold jr;rw[if_pos G]);rw[G] at O;clear I G V U W;go_enter func214,ntmps214;go_wp2_with fail
 rw[←T.out];clear T;refine O.mono ?_;rintro e w2⟨rfl,H⟩;have L:=zb ar H;have M:=hI (a1.below H);clear H;go_wp2_with fail
 refine(H2 HM _ L).mono ?_;rintro e w3⟨I,H,k,rfl,ad,Y,V⟩;obtain⟨w4,Z,X4,W,a2⟩:=ae w3 #[I,H] 240;have U:=hI ((M.below V).below W);have G:=L.trans (V.mono L.size);have av:=hI (G.trans (W.mono G.size));have T:=hI Z;have F4:=U.f2;have FX:=X4.f2;rw[Z] at F4 FX;clear V W Z X4 M G a2
 cases G:mE (0,0) B with
 | true=>{
 have M:=hI (show jr B=0 from by rw[R.out,G];rfl);obtain rfl:=ad G;clear G ad Y;go_wp2_with fail
 rw[←T.out];clear T;obtain⟨u,h⟩:∃u:World,u=(w4.setCell ⟨w.heap.size,0,none⟩ (.int .i64 I)).setCell ⟨w.heap.size,1,none⟩ (.int .i64 H):=⟨_,rfl⟩;have F:aO u w.heap.size #[I,H] 240:=by rw[h];have:=(U.set 0 (.int .i64 I)).set 1 (.int .i64 H);simpa using this
 have N:BL w u:=by rw[h];exact(av.setCell (p:=⟨w.heap.size,0,none⟩) (qA _) _).setCell (p:=⟨w.heap.size,1,none⟩) (qA _) _
 have J:=F.f2;rw[←h];clear h F;refine bodyPost_ret (v:=.tuple #[.agg #[I,H],(0:Int)]) (by simp[results,results214,go_sem,J]) rfl ?_;exact⟨I,H,by rw[M.out],N⟩}
 | false=>{
 have M:=hI (show jr B=5 from by rw[R.out,G];rfl);have V:=Y G;have W:decide ((k:Int)<(n:Int))=true:=by simpa using V
 clear G ad Y;go_wp2_with fail
 rw[←T.out];clear T;obtain⟨u,h⟩:∃u:World,u=(w4.setCell ⟨w.heap.size,0,none⟩ (.int .i64 0)).setCell ⟨w.heap.size,1,none⟩ (.int .i64 0):=⟨_,rfl⟩;have F:aO u w.heap.size #[(0:Int),(0:Int)] 240:=by rw[h];have:=(U.set 0 (.int .i64 0)).set 1 (.int .i64 0);simpa using this
 have N:BL w u:=by rw[h];exact(av.setCell (p:=⟨w.heap.size,0,none⟩) (qA _) _).setCell (p:=⟨w.heap.size,1,none⟩) (qA _) _
 have J:=F.f2;rw[←h];clear h F;refine bodyPost_ret (v:=.tuple #[.agg #[(0:Int),(0:Int)],(5:Int)]) (by simp[results,results214,go_sem,J]) rfl ?_;exact⟨0,0,by rw[M.out],N⟩}}}
theorem yd (A:OA)(n c:Nat)(F:List du)(w:World)(B:Rd w 2 A n (winds F)):Calls prog 226 #[.slice A n c] w (Iu w F):=by{
 obtain⟨w1,W,V,U,_⟩:=ae w #[(0:Int),(0:Int),(0:Int)] 199;have av:=hI V;have ad:=hI U;have T:=hI W;have R:=hI (nR A n c F w1 (B.below U));have H2:=hI (λ(u:∀x∈F,dR x=true) h (G:BL w h)=>Gq A n c F u h (B.below G));have HN:=hI B.len_wind;have a2:=B.le
 cases H:ed F with
 | false=>{
 have M:=hI (show j_ F=1 from by unfold j_;rw[H];rfl);rw[H] at R;clear B H V U W;go_enter func226,ntmps226;go_wp2_with fail
 rw[←T.out];clear T;refine R.mono ?_;rintro e w2⟨rfl,I⟩;have L:=zb ad I;have N:=hI (av.below I);have Y:=N.f3;clear I;go_wp2_with fail
 obtain⟨u,h⟩:∃u:World,u=((w2.setCell ⟨w.heap.size,0,none⟩ (.int .i64 0)).setCell ⟨w.heap.size,1,none⟩ (.int .i64 0)).setCell ⟨w.heap.size,2,none⟩ (.int .i64 0):=⟨_,rfl⟩;have G:aO u w.heap.size #[(0:Int),(0:Int),(0:Int)] 199:=by rw[h];have:=((N.set 0 (.int .i64 0)).set 1 (.int .i64 0)).set 2 (.int .i64 0);simpa using this
 have O:BL w u:=by rw[h];exact((L.setCell (p:=⟨w.heap.size,0,none⟩) (qA _) _).setCell (p:=⟨w.heap.size,1,none⟩) (qA _) _).setCell (p:=⟨w.heap.size,2,none⟩) (qA _) _
 have J:=G.f3;rw[←h];clear h G;refine bodyPost_ret (v:=.tuple #[.agg #[(0:Int),(0:Int),(0:Int)],(1:Int)]) (by simp[results,results226,go_sem,J]) rfl ?_;exact⟨0,0,0,by rw[M.out],(λB=>by rw[M.out] at B;cases B),O⟩}
 | true=>{
 have HM:=hI (fJ H);have M:=hI (show j_ F=if kn (0,0,0) F=true then 0 else 5 from by unfold j_;rw[if_pos H]);rw[H] at R;clear B H V U W;go_enter func226,ntmps226;go_wp2_with fail
 rw[←T.out];clear T;refine R.mono ?_;rintro e w2⟨rfl,I⟩;have L:=zb ad I;have N:=hI (av.below I);clear I;go_wp2_with fail
 refine(H2 HM _ L).mono ?_;rintro e w3⟨a,p,m,r,rfl,Z,W,I⟩;obtain⟨w4,Y,X4,V,a1⟩:=ae w3 #[a,p,m] 199;have U:=hI ((N.below I).below V);have H:=L.trans (I.mono L.size);have ar:=hI (H.trans (V.mono H.size));have T:=hI Y;have F4:=U.f3;have FX:=X4.f3;rw[Y] at F4 FX;clear I V Y X4 N H a1
 cases H:kn (0,0,0) F with
 | true=>{
 have I:=hI (show j_ F=0 from by rw[M.out,H];rfl);obtain⟨rfl,N⟩:=Z H;have V:=hI N;clear H Z W N;go_wp2_with fail
 rw[←T.out];clear T;obtain⟨u,h⟩:∃u:World,u=((w4.setCell ⟨w.heap.size,0,none⟩ (.int .i64 a)).setCell ⟨w.heap.size,1,none⟩ (.int .i64 p)).setCell ⟨w.heap.size,2,none⟩ (.int .i64 m):=⟨_,rfl⟩;have G:aO u w.heap.size #[a,p,m] 199:=by rw[h];have:=((U.set 0 (.int .i64 a)).set 1 (.int .i64 p)).set 2 (.int .i64 m);simpa using this
 have O:BL w u:=by rw[h];exact((ar.setCell (p:=⟨w.heap.size,0,none⟩) (qA _) _).setCell (p:=⟨w.heap.size,1,none⟩) (qA _) _).setCell (p:=⟨w.heap.size,2,none⟩) (qA _) _
 have J:=G.f3;rw[←h];clear h G;refine bodyPost_ret (v:=.tuple #[.agg #[a,p,m],(0:Int)]) (by simp[results,results226,go_sem,J]) rfl ?_;exact⟨a,p,m,by rw[I.out],λ_=>V,O⟩}
 | false=>{
 have I:=hI (show j_ F=5 from by rw[M.out,H];rfl);have N:=W H;have V:decide (0≤r)=true:=by simpa using N
 clear H Z W;go_wp2_with fail
 rw[←T.out];clear T;obtain⟨u,h⟩:∃u:World,u=((w4.setCell ⟨w.heap.size,0,none⟩ (.int .i64 0)).setCell ⟨w.heap.size,1,none⟩ (.int .i64 0)).setCell ⟨w.heap.size,2,none⟩ (.int .i64 0):=⟨_,rfl⟩;have G:aO u w.heap.size #[(0:Int),(0:Int),(0:Int)] 199:=by rw[h];have:=((U.set 0 (.int .i64 0)).set 1 (.int .i64 0)).set 2 (.int .i64 0);simpa using this
 have O:BL w u:=by rw[h];exact((ar.setCell (p:=⟨w.heap.size,0,none⟩) (qA _) _).setCell (p:=⟨w.heap.size,1,none⟩) (qA _) _).setCell (p:=⟨w.heap.size,2,none⟩) (qA _) _
 have J:=G.f3;rw[←h];clear h G;refine bodyPost_ret (v:=.tuple #[.agg #[(0:Int),(0:Int),(0:Int)],(5:Int)]) (by simp[results,results226,go_sem,J]) rfl ?_;exact⟨0,0,0,by rw[I.out],(λB=>by rw[I.out] at B;cases B),O⟩}}}
theorem yz (h:List du):(jr h=0∧cD h=if bG (-1) h<0 then(0,4) else(bG (-1) h,0))∨((jr h=1∨jr h=5)∧cD h=(0,jr h)):=by{
 unfold jr cD;split
 {
 split
 {exact .inl ⟨rfl,rfl⟩}
 {exact .inr ⟨.inr rfl,rfl⟩}}
 {exact .inr ⟨.inl rfl,rfl⟩}}
theorem Ay {u:List du}(h:jr u=0):ed u=true:=by{
 unfold jr at h;split at h
 {assumption}
 {cases h}}
theorem zy (h:List du):(j_ h=0∧cD h=if (nH (0,0,0) h).1=4 then((nH (0,0,0) h).2.2,0) else(0,4))∨((j_ h=1∨j_ h=5)∧cD h=(0,j_ h)):=by{
 rw[yO];unfold j_ Bt;split
 {
 split
 {exact .inl ⟨rfl,rfl⟩}
 {exact .inr ⟨.inr rfl,rfl⟩}}
 {exact .inr ⟨.inl rfl,rfl⟩}}
theorem AU (A:OA)(n c:Nat)(h:List du)(w:World)(M:Rd w 2 A n (winds h)):Calls prog 145 #[.slice A n c] w λe w'=>e=.returned (.tuple #[.int .i64 (cD h).1,.int .i64 (cD h).2])∧BL w w':=by{
 have O:=hI (zm A n c h w M);have HR:=hI M;have HN:=hI M.len_wind;have a':=M.le;unfold Ig at O;rcases yz h with⟨G,U⟩|⟨G,U⟩
 {
 rw[G] at O;have HM:=hI (fJ (Ay G));have Z:=hI U;clear M G U;go_enter func145,ntmps145;go_wp2_with fail
 refine O.mono ?_;rintro e w2⟨st,si,rfl,L⟩;obtain⟨w3,V,X3,T,a7⟩:=ae w2 #[st,si] 240;have Y:=hI (L.trans (T.mono L.size));have R:=hI V;clear L T V X3;go_wp2_with fail
 rw[←R.out];clear R;go_loopw [6,19] (λs i wr=>∃(k:Nat) (a:Int),k≤n∧s=.int .i64 a∧i=.int .i64 k∧Hid (bG a (h.drop k)=bG (-1) h)∧Hid (BL w wr)) (λ_ i _=>n-(intOf i).toNat)
 case atStart=>exact⟨0,-1,qH _,rfl,rfl,hI rfl,Y⟩
 case round=>(
 clear Y;obtain⟨k,a,_,rfl,rfl,u,W⟩:=hrel;obtain⟨wo,a8⟩:∃wo:World,wo=wr:=⟨_,rfl⟩;subst a8;by_cases a1:k<n
 {
 have a6:decide ((k:Int)<(n:Int))=true:=by simpa using a1
 obtain⟨b,o,x,y,rfl,hx,hd,_,_⟩:=(HR.below W).wind a1;have ad:=cV.1 (HM (x,y) (qF hx));simp only at ad;have H:=u.out;rw[hd,bG] at H;obtain⟨_,ar,XA,av,_⟩:=ae wo #[x,y] 197;have FA:=XA.f2;have J:=zb W av;have B:=hI ar;have u:=hI H;have I:=ad.1;rw[ar] at FA;clear hx hd XA av ar H ad;rcases cX I with rfl|rfl|rfl|rfl|rfl|rfl|rfl|rfl
 {
 have F:=hI (show bG a (h.drop (k+1))=bG (-1) h from u);clear u I;go_wp2_with fail
 rw[←B.out];clear B;go_roundw
 case rel=>exact⟨k+1,a,by omega,rfl,by go_num,F,J⟩
 case measure=>simp[intOf]<;>omega}
 {
 have F:=hI (show bG a (h.drop (k+1))=bG (-1) h from u);clear u I;go_wp2_with fail
 rw[←B.out];clear B;go_roundw
 case rel=>exact⟨k+1,a,by omega,rfl,by go_num,F,J⟩
 case measure=>simp[intOf]<;>omega}
 {
 have F:=hI (show bG a (h.drop (k+1))=bG (-1) h from u);clear u I;go_wp2_with fail
 rw[←B.out];clear B;go_roundw
 case rel=>exact⟨k+1,a,by omega,rfl,by go_num,F,J⟩
 case measure=>simp[intOf]<;>omega}
 {
 have F:=hI (show bG y (h.drop (k+1))=bG (-1) h from u);clear u I;go_wp2_with fail
 rw[←B.out];clear B;go_roundw
 case rel=>exact⟨k+1,y,by omega,rfl,by go_num,F,J⟩
 case measure=>simp[intOf]<;>omega}
 {
 have F:=hI (show bG a (h.drop (k+1))=bG (-1) h from u);clear u I;go_wp2_with fail
 rw[←B.out];clear B;go_roundw
 case rel=>exact⟨k+1,a,by omega,rfl,by go_num,F,J⟩
 case measure=>simp[intOf]<;>omega}
 {
 have F:=hI (show bG a (h.drop (k+1))=bG (-1) h from u);clear u I;go_wp2_with fail
 rw[←B.out];clear B;go_roundw
 case rel=>exact⟨k+1,a,by omega,rfl,by go_num,F,J⟩
 case measure=>simp[intOf]<;>omega}
 {
 have F:=hI (show bG (-1) (h.drop (k+1))=bG (-1) h from u);clear u I;go_wp2_with fail
 rw[←B.out];clear B;go_roundw
 case rel=>exact⟨k+1,(-1),by omega,rfl,by go_num,F,J⟩
 case measure=>simp[intOf]<;>omega}
 {
 have F:=hI (show bG (-1) (h.drop (k+1))=bG (-1) h from u);clear u I;go_wp2_with fail
 rw[←B.out];clear B;go_roundw
 case rel=>exact⟨k+1,(-1),by omega,rfl,by go_num,F,J⟩
 case measure=>simp[intOf]<;>omega}}
 {
 obtain rfl:k=n:=by omega
 have a6:decide ((k:Int)<(k:Int))=false:=by simp
 have H:=u.out;rw[qK (by rw[HN.out];omega),bG] at H;by_cases N:a<0
 {
 have a2:decide (a<0)=true:=by simpa using N
 have HE:=hI (show cD h=(0,4) from by rw[Z.out,if_pos (by rw[←H];exact N)]);clear H u N;go_wp2_with fail
 go_ret2;exact⟨by rw[HE.out];rfl,W⟩}
 {
 have a2:decide (a<0)=false:=by simpa using N
 have HE:=hI (show cD h=(a,0) from by rw[Z.out,if_neg (by rw[←H];exact N),H]);clear H u N;go_wp2_with fail
 go_ret2;exact⟨by rw[HE.out];rfl,W⟩}})}
 {
 have Z:=hI U;clear M U;rcases G with G|G
 all_goals{
 rw[G] at O;have u:=hI G;clear G;go_enter func145,ntmps145;go_wp2_with fail
 refine O.mono ?_;rintro e w2⟨st,si,rfl,L⟩;obtain⟨w3,V,X3,T,a7⟩:=ae w2 #[st,si] 240;have Y:=hI (L.trans (T.mono L.size));have R:=hI V;clear L T V X3;go_wp2_with fail
 rw[←R.out];clear R;go_ret2;exact⟨by rw[Z.out,u.out];rfl,Y⟩}}}
theorem AW (A:OA)(n c:Nat)(G:List du)(w:World)(R:Rd w 2 A n (winds G)):Calls prog 156 #[.slice A n c] w λe Y=>e=.returned (.tuple #[.int .i64 (cD G).1,.int .i64 (cD G).2])∧BL w Y:=by{
 have I:=hI (yd A n c G w R);unfold Iu at I;rcases zy G with⟨u,h⟩|⟨u,h⟩
 {
 rw[u] at I;have O:=hI h;clear R u h;go_enter func156,ntmps156;go_wp2_with fail
 refine I.mono ?_;rintro e U⟨a,p,m,rfl,N,F⟩;obtain⟨Z,H,M,J,W⟩:=ae U #[a,p,m] 199;have L:=hI (F.trans (J.mono F.size));have B:=hI H;have V:=M.f3;have h:=O.out;rw[←N trivial] at h;rw[H] at V;clear F J H M N;by_cases T:a=4
 {
 subst T;have N:=hI (show cD G=(m,0) from h);clear h;go_wp2_with fail
 rw[←B.out];clear B;go_ret2;exact⟨by rw[N.out];rfl,L⟩}
 {
 have ad:(a !=4)=true:=by simp[T]
 have N:=hI (show cD G=(0,4) from by rw[h];exact if_neg T);clear h;go_wp2_with fail
 rw[←B.out];clear B;go_ret2;exact⟨by rw[N.out];rfl,L⟩}}
 {
 have O:=hI h;clear R h;rcases u with u|u
 all_goals{
 rw[u] at I;have h:=hI u;clear u;go_enter func156,ntmps156;go_wp2_with fail
 refine I.mono ?_;rintro e U⟨a,p,m,rfl,-,F⟩;obtain⟨Z,H,M,J,W⟩:=ae U #[a,p,m] 199;have L:=hI (F.trans (J.mono F.size));have B:=hI H;clear F J H M;go_wp2_with fail
 rw[←B.out];clear B;go_ret2;exact⟨by rw[O.out,h.out];rfl,L⟩}}}
end Go.Proofs.YtnpldahkhaacnaaGreatDoor

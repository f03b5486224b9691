/- Texts of the walk: Od Oi. -/
import Derived.Test.YtnpldahkhaacnaaGreatDoorYbh
set_option linter.unusedVariables false
set_option linter.unusedSimpArgs false
set_option maxRecDepth 100000
set_option maxHeartbeats 32000000
namespace Go.Proofs.YtnpldahkhaacnaaGreatDoor
open Go.RowKit Go.Sort Go.Proofs.Tryz
theorem kr {k:Nat}(h:k<9):k=0∨k=1∨k=2∨k=3∨k=4∨k=5∨k=6∨k=7∨k=8:=by omega
theorem Hm {h:List LB}{k:Nat}{F B:LB}{u:Int}{n:Nat}(G:h.getD 0 []=F)(J:h.length=n)(H:cW.getD k []=B)(I:cF.getD k 0=u):es h k=((F==B)&&aT (h.drop 1)&&(decide (u<0)||(u==(n:Int)-1))):=by{
 unfold es;rw[G,H,I,J]}
theorem zu (A:OA)(n c:Nat)(h:List LB)(bv:n≤c)(bO:1≤n)(hn:n≤4194304)(G:∀x∈h,x.length≤2097152)(w:World)(u:Rd w 1 A n (strs h)):Calls prog 110 #[.slice A n c] w λe w'=>e=.returned (.int .i64 (dh h))∧BL w w':=by{
 have HN:=hI u.len_str;obtain⟨bb,oo,F,rfl,H,-,B⟩:=u.str (k:=0) (by omega);simp only[qW] at B;have bo:=hI B;have bq:=hI (show h.getD 0 []=F from by rw[qC,H];rfl);have bW:¬(n:Int)≤0:=by omega
 have b0:0<n:=by omega
 obtain⟨At,bt⟩:∃A',(if c=1 then(some ⟨bb,oo,none⟩:OA) else some ⟨bb,oo+1,none⟩)=A':=⟨_,rfl⟩;have bp:=hI (gW u bv bO bt);have bk:=hI (λw' (u:Rd w' 1 At (n-1) (strs (h.drop 1)))=>qD At (n-1) (c-1) (h.drop 1) w' u (by omega) (λx I=>G x (qc I)));unfold Is at bk;clear u B H G;go_enter func110,ntmps110;go_wp2_with fail
 obtain⟨w1,M,H,u,L⟩:=ae w #[.string (ag eL),.string (ag dr),.string (ag aq),.string (ag bM),.string (ag ff),.string (ag bf),.string (ag cP),.string (ag aW),.string (ag cY)] 9;obtain⟨w2,N,J,B,O⟩:=ae w1 #[(2:Int),.int .i64 (-1),(0:Int),(0:Int),(1:Int),(1:Int),(1:Int),(2:Int),(0:Int)] 3;have bs:=hI (H.below B);have bn:=hI J;have I:=hI (u.trans (B.mono u.size));have G:=hI (show w2=(w.alloc (.cells #[.string (ag eL),.string (ag dr),.string (ag aq),.string (ag bM),.string (ag ff),.string (ag bf),.string (ag cP),.string (ag aW),.string (ag cY)] 9)).alloc (.cells #[(2:Int),.int .i64 (-1),(0:Int),(0:Int),(1:Int),(1:Int),(1:Int),(2:Int),(0:Int)] 3) from by rw[N,M]);rw[L] at bn;clear H J u B M N L O;rw[show(w.alloc (.cells #[.string ⟨#[111,112,101,110]⟩,.string ⟨#[114,117,108,101]⟩,.string ⟨#[115,116,97,110,100,105,110,103]⟩,.string ⟨#[114,97,110,107,115]⟩,.string ⟨#[110,101,116]⟩,.string ⟨#[112,111,105,110,116,115]⟩,.string ⟨#[114,97,99,101]⟩,.string ⟨#[104,105,115,116,111,114,121]⟩,.string ⟨#[108,101,97,100]⟩] 9)).alloc (.cells #[(2:Int),.int .i64 (-1),(0:Int),(0:Int),(1:Int),(1:Int),(1:Int),(2:Int),(0:Int)] 3)=w2 from G.out.symm];clear G;go_loopw [5] (λi wr=>∃k:Nat,k≤9∧i=.int .i64 k∧Hid (∀j,j<k→es h j=false)∧Hid (BL w2 wr)) (λi _=>9-(intOf i).toNat)
 case atStart=>exact⟨0,by omega,rfl,hI (λj O=>by omega),hI (qB _ _)⟩
 case round=>(
 obtain⟨k,_,rfl,W,U⟩:=hrel;obtain⟨T,bP⟩:∃T:World,T=wr:=⟨_,rfl⟩;subst bP;have ar:=hI (I.trans (U.mono I.size));by_cases ad:k<9
 {
 have bN:decide ((k:Int)<9)=true:=by simp;omega
 have a1:T.cell? ⟨w.heap.size,k,none⟩=some (.string (ag (cW.getD k []))):=(bs.below U).cell (i:=k) (by rcases kr ad with rfl|rfl|rfl|rfl|rfl|rfl|rfl|rfl|rfl<;>rfl);have a2:T.cell? ⟨w.heap.size+1,k,none⟩=some (.int .i64 (cF.getD k 0)):=(bn.below U).cell (i:=k) (by rcases kr ad with rfl|rfl|rfl|rfl|rfl|rfl|rfl|rfl|rfl<;>rfl);have G:=hI (Hm (k:=k) bq HN rfl rfl);have a8:=hI a1;have a':=hI a2;have ba:=hI (bk T (bp.below ar));generalize cW.getD k []=H at *;generalize cF.getD k 0=M at *;clear a1 a2;go_wp2_with fail
 refine ba.mono ?_;rintro e w4⟨_,_,_,rfl,-,N⟩;have B:=zb U N;have a1:=ab a8 N;have a2:=ab a' N;have bR:=ab (ab bo ar) N;clear N ba a8 a';rw[dz];by_cases L:F=H
 {
 have hz:((ag F).toList==(ag H).toList)=true:=by rw[L];simp
 have R:(F==H)=true:=by simp[L]
 have J:=hI R;generalize ag F=z0 at *;generalize ag H=z1 at *;clear L R
 cases Y:aT (h.drop 1) with
 | false=>{
 rw[Y] at G;clear Y;have u:=hI (show es h k=false from by rw[G.out];rw[J.out];rfl);go_wp2_with fail
 go_quiet (fail)
 go_wp2_with fail
 go_roundw
 case rel=>exact⟨k+1,by omega,by go_num,hI (λj O=>by{
 by_cases e:j=k
 {subst e;exact u}
 {exact W j (by omega)}}),hI (B.trans ((ac _ _ _).mono B.size))⟩
 case measure=>simp[intOf]<;>omega}
 | true=>{
 rw[Y] at G;clear Y;by_cases Z:M<0
 {
 have a6:decide (M<0)=true:=by simpa using Z
 have V:=hI a6;clear Z;have u:=hI (show dh h=(k:Int) from ow ad (by rw[G.out];rw[J.out,V.out];rfl));go_wp2_with fail
 go_quiet (fail)
 go_wp2_with fail
 go_ret;exact⟨by rw[u.out];rfl,I.trans ((B.trans ((ac _ _ _).mono B.size)).mono I.size)⟩}
 {
 have a6:decide (M<0)=false:=by simpa using Z
 have V:=hI a6;have e9:IntKind.i64.wrap ((n:Int)-1)=(n:Int)-1:=IntWalk.i64_in _ (by omega);clear Z;by_cases Z:M=(n:Int)-1
 {
 have a7:(M==(n:Int)-1)=true:=by simpa using Z
 have av:=hI a7;clear Z;have u:=hI (show dh h=(k:Int) from ow ad (by rw[G.out];rw[J.out,V.out,av.out];rfl));go_wp2_with fail
 go_quiet (fail)
 go_wp2_with fail
 go_ret;exact⟨by rw[u.out];rfl,I.trans ((B.trans ((ac _ _ _).mono B.size)).mono I.size)⟩}
 {
 have a7:(M==(n:Int)-1)=false:=by simpa using Z
 have av:=hI a7;clear Z;have u:=hI (show es h k=false from by rw[G.out];rw[J.out,V.out,av.out];rfl);go_wp2_with fail
 go_quiet (fail)
 go_wp2_with fail
 go_roundw
 case rel=>exact⟨k+1,by omega,by go_num,hI (λj O=>by{
 by_cases e:j=k
 {subst e;exact u}
 {exact W j (by omega)}}),hI (B.trans ((ac _ _ _).mono B.size))⟩
 case measure=>simp[intOf]<;>omega}}}}
 {
 have hz:((ag F).toList==(ag H).toList)=false:=by{rw[beq_eq_false_iff_ne,ByteArray.toList_eq,ByteArray.toList_eq,aw,aw];exact L}
 have R:(F==H)=false:=by simp[L]
 have J:=hI R;generalize ag F=z0 at *;generalize ag H=z1 at *;clear L R;have u:=hI (show es h k=false from by rw[G.out];rw[J.out];rfl);go_wp2_with fail
 go_quiet (fail)
 go_wp2_with fail
 go_roundw
 case rel=>exact⟨k+1,by omega,by go_num,hI (λj O=>by{
 by_cases e:j=k
 {subst e;exact u}
 {exact W j (by omega)}}),hI (B.trans ((ac _ _ _).mono B.size))⟩
 case measure=>simp[intOf]<;>omega}}
 {
 obtain rfl:k=9:=by omega
 have bN:decide ((9:Int)<9)=false:=by decide
 have u:=hI (show dh h=-1 from rX (λj O=>W j O));go_wp2_with fail
 go_ret;exact⟨by rw[u.out];rfl,ar⟩})}
theorem sS {h:LB}{n:Nat}{x:LB}(B:(aL h).length=n)(G:1≤n)(F:(aL h)[n-1]?=some x):(aL h).getLast (gK h)=x:=by{
 have u:=List.getLast?_eq_getElem? (l:=aL h);rw[List.getLast?_eq_some_getLast (gK h),B,F] at u;injection u}
theorem Bi {L:LB}{n:Nat}(h:(aL L).length=n)(u:1≤n)(B:(aL L)[n-1]?=some []):bE L=(aL L).take (n-1):=by{
 unfold bE;rw[if_pos (sS h u B),List.dropLast_eq_take,h]}
theorem AJ {L:LB}{n:Nat}{x:LB}(B:(aL L).length=n)(u:1≤n)(F:(aL L)[n-1]?=some x)(h:x≠[]):bE L=aL L:=by{
 unfold bE;rw[if_neg (by rw[sS B u F];exact h)]}
theorem kI (h:LB)(F:h.length≤2097152)(w:World):Calls prog 43 #[.string (ag h)] w (jG w (bE h)):=by{
 have u:=hI (v_ 10 (ag h) (by rw[aj];exact F) w);rw[aw,tZ] at u;rw[show(((10:UInt8).toNat:Nat):Int)=10 from rfl] at u;have a1:(aL h).length≤2097153:=by rw[nG];have B:h.count 10≤h.length:=List.count_le_length;omega
 have ar:0<(aL h).length:=List.length_pos_iff.2 (gK h);have HC:=hI (λn B I J=>Bi (L:=h) (n:=n) B I J);have Z:=hI (λn x B I J G=>AJ (L:=h) (n:=n) (x:=x) B I J G);generalize bE h=av at *;generalize aL h=ws at *;generalize ag h=s at *;clear F;go_enter func43,ntmps43;go_wp2_with fail
 refine u.mono ?_;rintro e w2⟨A,n,c,rfl,F,U,ad⟩;have V:=F.len_str;have W:1≤n:=by omega
 obtain⟨T,Y,x,rfl,M,-,hc⟩:=F.str (k:=n-1) (by omega);have N:=hI U;have R:=hI F;have H:=hI M;have O:=hI V;have e1:IntKind.i64.wrap ((n:Int)-1)=((n-1:Nat):Int):=by rw[IntWalk.i64_in _ (by omega)];omega
 have e2:(n-1:Nat)<n:=by omega
 have e3:(n-1:Nat)≤c:=by omega
 obtain⟨m,L⟩:∃m,m=n-1:=⟨_,rfl⟩;rw[←L] at e1 e2 e3 hc M H;have G:=hI L;clear F U M V ar u L;by_cases u:x=[]
 {
 subst u;have L:(ag ([]:LB)).toList.isEmpty=true:=by rw[ByteArray.toList_eq,aw];rfl
 have F:=hI (HC n O W (by rw[←G.out];exact H));generalize ag ([]:LB)=z at *;go_wp2_with fail
 go_ret;exact⟨some ⟨T,Y,none⟩,m,c,rfl,by rw[F.out,←G.out];exact R.takeS m (by omega),N,by omega⟩}
 {
 have L:(ag x).toList.isEmpty=false:=by rw[ByteArray.toList_eq,aw];cases x with|nil=>exact absurd rfl u|cons a r=>rfl
 have F:=hI (Z n x O W (by rw[←G.out];exact H) u);generalize ag x=z at *;clear u;go_wp2_with fail
 go_ret;exact⟨some ⟨T,Y,none⟩,n,c,rfl,by rw[F.out];exact R,N,ad⟩}}
theorem rf (h:LB)(N:h.length≤2097152)(w:World):Calls prog 41 #[.string (ag h)] w λe T=>e=.returned (.bool (dU h))∧BL w T:=by{
 have M:=hI (kI h N w);have U:(ag h).size=h.length:=aj h;by_cases B:h.length≤6000
 {
 have R:decide ((h.length:Int)≤6000)=true:=by simp;omega
 have I:=hI (show dU h=decide ((bE h).length≤150) from by unfold dU;rw[decide_eq_true B];rfl);generalize ag h=s at *;clear B;go_enter func41,ntmps41;go_wp2_with fail
 refine M.mono ?_;rintro e V⟨A,n,c,rfl,G,F,-⟩;have L:=G.len_str;have H:=hI F;by_cases J:n≤150
 {
 have O:decide ((n:Int)≤150)=true:=by simp;omega
 have u:=hI (show dU h=true from by rw[I.out];exact decide_eq_true (by omega));clear G F L J;go_wp2_with fail
 go_ret;exact⟨by rw[u.out];rfl,H⟩}
 {
 have O:decide ((n:Int)≤150)=false:=by simp;omega
 have u:=hI (show dU h=false from by rw[I.out];exact decide_eq_false (by omega));clear G F L J;go_wp2_with fail
 go_ret;exact⟨by rw[u.out];rfl,H⟩}}
 {
 have R:decide ((h.length:Int)≤6000)=false:=by simp;omega
 have u:=hI (show dU h=false from by unfold dU;rw[decide_eq_false B];rfl);generalize ag h=s at *;clear B;go_enter func41,ntmps41;go_wp2_with fail
 go_ret;exact⟨by rw[u.out];rfl,qB _ _⟩}}
end Go.Proofs.YtnpldahkhaacnaaGreatDoor

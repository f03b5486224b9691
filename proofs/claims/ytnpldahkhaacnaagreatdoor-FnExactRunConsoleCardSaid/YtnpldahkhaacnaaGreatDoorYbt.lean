/- Texts of the walk: Oq_R. -/
import Derived.Test.YtnpldahkhaacnaaGreatDoorYab
set_option linter.unusedVariables false
set_option linter.unusedSimpArgs false
set_option maxRecDepth 100000
set_option maxHeartbeats 32000000
namespace Go.Proofs.YtnpldahkhaacnaaGreatDoor
open Go.RowKit Go.Sort Go.Proofs.Tryz
def ui (k:Nat):LB:=109::aP k
def mH (k:Nat):Nat→List LB|0=>[]|n+1=>ui k::mH (k+1) n
theorem xg (k n:Nat):(mH k n).length=n:=by{
 induction n generalizing k with
 | zero=>rfl
 | succ n h=>simp[mH,h]}
theorem FW (k n i:Nat)(u:i<n):(mH k n)[i]?=some (ui (k+i)):=by{
 induction n generalizing k i with
 | zero=>omega
 | succ n h=>{
 cases i with
 | zero=>simp[mH]
 | succ i=>simp only[mH,qk];rw[h _ _ (by omega)];congr 2;omega}}
theorem Dc (k j:Nat):mH k (j+1)=mH k j++[ui (k+j)]:=by{
 induction j generalizing k with
 | zero=>simp[mH]
 | succ j h=>rw[mH,h,mH,show k+1+j=k+(j+1) from by omega];rfl}
theorem DY (k j:Nat)(h:List LB)(u:j<h.length):(mH k j++h.drop j).set j (ui (k+j))=mH k (j+1)++h.drop (j+1):=by{
 rw[List.set_append,if_neg (by simp[xg]),Dc,List.drop_eq_getElem_cons u,xg,Nat.sub_self,List.set_cons_zero,qb];rfl}
theorem CN (h:List LB)(j:Nat)(y:LB):strs (h.set j y)=(strs h).set j (.string (ag y)):=by{
 unfold strs;rw[List.map_set]}
theorem Eb {q k:Nat}{l:LB}(u:(q=0→l=aP k)∧(0<q→aP q++l=aP k))(F:0<q):(q/10=0→dgt q::l=aP k)∧(0<q/10→aP (q/10)++(dgt q::l)=aP k):=by{
 have h:=u.2 F;refine⟨λB=>?_,λB=>?_⟩
 {
 rw[bZ (show q<10 by omega)] at h;exact h}
 {
 rw[fY (show ¬q<10 by omega),qb] at h;exact h}}
theorem Fa {q k:Nat}{l:LB}(G:k≤1000000000000)(u:(q=0→l=aP k)∧(0<q→aP q++l=aP k)):l.length≤13:=by{
 have F:=bd 12 k (by omega);rcases Nat.eq_zero_or_pos q with h|h
 {rw[u.1 h];exact F}
 {
 have B:=congrArg List.length (u.2 h);rw[qJ] at B;omega}}
theorem vG (k:Nat)(V:1≤k)(M:k≤1000000000000)(w:World):Calls prog 44 #[(k:Int)] w λe T=>e=.returned (.string (ag (ui k)))∧BL w T:=by{
 have W:decide ((k:Int)≤0)=false:=by simp;omega
 go_enter func44,ntmps44;go_wp2_with fail
 go_loopw [0,3] (λm s wr=>∃(q:Nat) (l:LB),q≤k∧m=.int .i64 (q:Int)∧s=.string (ag l)∧Hid ((q=0→l=aP k)∧(0<q→aP q++l=aP k))∧Hid (BL w wr)) (λm _ _=>(intOf m).toNat)
 case atStart=>exact⟨k,[],qA _,rfl,rfl,hI ⟨λU=>by omega,λ_=>qa _⟩,hI (qB _ _)⟩
 case round=>(
 obtain⟨q,l,_,rfl,rfl,h,u⟩:=hrel;obtain⟨B,R⟩:∃B:World,B=wr:=⟨_,rfl⟩;subst R;have F:=Fa M h;have H:=aj l;have Y:(ag l).size≤13:=by omega
 by_cases G:0<q
 {
 have N:decide ((0:Int)<(q:Int))=true:=by simp;omega
 have L:=iG B (48+(q:Int)%10);have O:(ag [UInt8.ofNat (48+(q:Int)%10).toNat]).size≤1:=by rw[aj];exact qA _
 rw[wW] at L O;have J:=hI (Eb h G);clear h F H;go_wp2_with fail
 go_roundw
 case rel=>exact⟨q/10,dgt q::l,by omega,by go_num,by rw[aA];rfl,J,hI (u.alloc u.size _)⟩
 case measure=>simp[intOf]<;>omega}
 {
 obtain rfl:q=0:=by omega
 have N:decide ((0:Int)<((0:Nat):Int))=false:=by decide
 have I:=hI (h.1 rfl);clear h F H G;go_wp2_with fail
 go_ret;exact⟨by rw[I.out];exact congrArg (λz=>Ending.returned (.string z)) (aA [109] (aP k)),u⟩})}
theorem qL (k j:Nat)(B:1≤k)(h:k+j≤1000000000000)(w:World):Calls prog 44 #[.int .i64 ((k:Int)+(j:Int))] w λe u=>e=.returned (.string (ag (ui (k+j))))∧BL w u:=by{
 have:=vG (k+j) (by omega) h w;rwa [show(((k+j:Nat):Int))=(k:Int)+(j:Int) from by omega] at this}
theorem lE (A G:OA)(n c h N:Nat)(J:List LB)(w:World)(u:Rd w 1 A n (strs J))(B:Rd w 1 G h (strs J)):Calls prog 16 #[.slice A n c,.slice G h N] w λe T=>e=.returned (.bool true)∧BL w T:=by{
 have V:=hI u.len_str;obtain rfl:h=n:=by have:=u.len_str;have:=B.len_str;omega
 have W:=u.le;have L:=hI u;have M:=hI B;clear u B;go_enter func16,ntmps16;go_wp2_with fail
 go_loopw [5] (λi wr=>∃k:Nat,k≤h∧i=.int .i64 k∧Hid (BL w wr)) (λi _=>h - (intOf i).toNat)
 case atStart=>exact⟨0,qH _,rfl,hI (qB _ _)⟩
 case round=>(
 obtain⟨k,_,rfl,u⟩:=hrel;obtain⟨I,R⟩:∃I:World,I=wr:=⟨_,rfl⟩;subst R;by_cases B:k<h
 {
 have O:decide ((k:Int)<(h:Int))=true:=by simpa using B
 obtain⟨b,o,x,rfl,H,-,_⟩:=(L.below u).str B;obtain⟨_,_,U,rfl,F,-,_⟩:=(M.below u).str B;obtain rfl:x=U:=by rw[H] at F;injection F
 clear H F;generalize ag x=s at *;have Y:(s.toList==s.toList)=true:=by simp
 go_wp2_with fail
 go_quiet (fail)
 go_wp2_with fail
 go_roundw
 case rel=>exact⟨k+1,by omega,by go_num,hI (u.trans ((ac _ _ _).mono u.size))⟩
 case measure=>simp[intOf]<;>omega}
 {
 obtain rfl:k=h:=by omega
 have O:decide ((k:Int)<(k:Int))=false:=by simp
 go_wp2_with fail
 go_ret;exact⟨rfl,u⟩})}
theorem rx (I N L e:Nat)(A:OA)(n c:Nat)(F:List LB)(k:Nat)(w:World)(h:w.ownsRow I e 1 (.slice A n c) n (strs F))(G:∀b,(Value.slice A n c).ownBlock=some b→N≤b∧b<L)(a1:1≤k)(a2:k≤1000000000)(hn:n≤1048576):Calls prog 17 #[.slice A n c,(k:Int)] w λe' Y=>e'=.returned (.int .i64 ((k+n:Nat):Int))∧Y.ownsRow I e 1 (.slice A n c) n (strs (mH k n))∧aK N L w Y:=by{
 have R:=hI (show F.length=n from by have:=h.1;rw[gi] at this;omega);have B:=hI h;have HV:=hI G;clear h G;go_enter func17,ntmps17;go_wp2_with fail
 go_loopw [1,5] (λt i wr=>∃j:Nat,j≤n∧i=.int .i64 j∧t=.int .i64 ((k:Int)+(j:Int))∧Hid (wr.ownsRow I e 1 (.slice A n c) n (strs (mH k j++F.drop j)))∧Hid (aK N L w wr)) (λ_ i _=>n-(intOf i).toNat)
 case atStart=>exact⟨0,qH _,rfl,by simp,B,hI (aK.refl _ _ _)⟩
 case round=>(
 clear B;obtain⟨j,_,rfl,rfl,h,H⟩:=hrel;obtain⟨O,av⟩:∃O:World,O=wr:=⟨_,rfl⟩;subst av;by_cases G:j<n
 {
 have ar:decide ((j:Int)<(n:Int))=true:=by simpa using G
 have V:=hI (qL k j (by omega) (by omega) O);obtain⟨g,_,rfl,_,_,-,hc,hf⟩:=je h G;go_wp2_with fail
 refine V.mono ?_;rintro e1 w1⟨rfl,J⟩;have T:=hI (aa h J);obtain⟨_,_,B,-,_,-,_,_⟩:=je T G;injection B with B;injection B with B;subst B;have W:=HV g rfl;have U:=hI (T.stored j (.string (ag (ui (k+j))))).1;rw[←CN,DY k j F (by rw[R.out];exact G)] at U;have Z:=hI (bD (H.trans (aK.of_below J)) W.1 W.2 (i:=j) (.string (ag (ui (k+j)))));clear J hc hf h H V;generalize ag (ui (k+j))=s at *;go_wp2_with fail
 go_roundw
 case rel=>exact⟨j+1,by omega,by go_num,by go_num,U,Z⟩
 case measure=>simp[intOf]<;>omega}
 {
 obtain rfl:j=n:=by omega
 have ar:decide ((j:Int)<(j:Int))=false:=by simp
 have M:=h.out;rw[qK (show F.length≤j by rw[R.out];omega),qa] at M;have ad:=hI M;clear M h;go_wp2_with fail
 go_ret;exact⟨rfl,ad,H⟩})}
theorem lc (A:OA)(n c:Nat)(k:Nat)(w:World)(h:Rd w 1 A n (strs (mH k n)))(ad:1≤k)(ar:k≤1000000000)(hn:n≤1048576):Calls prog 18 #[.slice A n c,(k:Int)] w λe G=>e=.returned (.int .i64 ((k+n:Nat):Int))∧BL w G:=by{
 have M:=hI h;clear h;go_enter func18,ntmps18;go_wp2_with fail
 go_loopw [1,5] (λt i wr=>∃j:Nat,j≤n∧i=.int .i64 j∧t=.int .i64 ((k:Int)+(j:Int))∧Hid (BL w wr)) (λ_ i _=>n-(intOf i).toNat)
 case atStart=>exact⟨0,qH _,rfl,by simp,hI (qB _ _)⟩
 case round=>(
 obtain⟨j,_,rfl,rfl,B⟩:=hrel;obtain⟨u,W⟩:∃u:World,u=wr:=⟨_,rfl⟩;subst W;by_cases F:j<n
 {
 have R:decide ((j:Int)<(n:Int))=true:=by simpa using F
 have H:=hI (λG=>qL k j (by omega) (by omega) G);obtain⟨b,o,x,rfl,h,-,O⟩:=(M.below B).str F;rw[FW k n j F] at h;injection h with h;subst h;have L:=hI O;generalize ag (ui (k+j))=s at *;have av:(s.toList==s.toList)=true:=by simp
 go_wp2_with fail
 have Y:=cell_regrown (L);refine wp_region_quiet_below (by kernel_rfl) (by kernel_rfl) ?_;repeat (first|go_big_quiet_step ((first|(go_at_call 44;(with_reducible exact Calls.regrown_of (H.out _)))))|quiet_step ((first|(go_at_call 44;(with_reducible exact Calls.regrown_of (H.out _))))))
 refine wpQuiet_nil ?_;intro _ U;obtain⟨⟨N,Z⟩,V⟩:=U;subst V;obtain⟨_,I,T⟩:∃J,J=grow (redrawn u N) Z∧BL u J:=⟨_,rfl,below_regrown _ _ _⟩;rw[←I];clear I Y;go_wp2_with fail
 go_roundw
 case rel=>exact⟨j+1,by omega,by go_num,by go_num,zb B T⟩
 case measure=>simp[intOf]<;>omega}
 {
 obtain rfl:j=n:=by omega
 have R:decide ((j:Int)<(j:Int))=false:=by simp
 go_wp2_with fail
 go_ret;exact⟨rfl,B⟩})}
end Go.Proofs.YtnpldahkhaacnaaGreatDoor

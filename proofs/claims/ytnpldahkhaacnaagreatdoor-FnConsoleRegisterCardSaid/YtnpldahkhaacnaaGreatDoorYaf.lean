/- Texts of the walk: Rg. -/
import Derived.Test.YtnpldahkhaacnaaGreatDoorYad
set_option linter.unusedVariables false
set_option linter.unusedSimpArgs false
set_option maxRecDepth 100000
set_option maxHeartbeats 32000000
namespace Go.Proofs.YtnpldahkhaacnaaGreatDoor
open Go.RowKit Go.Proofs.Tryz
theorem uk (J L h I:Int)(w:World):Calls prog 85 #[.agg #[J,L,h,I]] w λe B=>e=.returned (.bool (iW h I))∧BL w B:=by{
 have F:=hI (show ∀o,BL w (w.alloc o) from λo=>(qB _ _).alloc (qA _) o);unfold iW;by_cases H:h=3
 {
 subst H;rw[if_pos rfl];go_enter func85,ntmps85;go_wp2_with(go_at_call 30;refine(bc _ _ _ _).mono ?_;rintro e B⟨rfl,rfl⟩)
 go_ret;exact⟨rfl,F _⟩}
 {
 rw[if_neg H];have M:(h==3)=false:=by simp[H]
 cases u:af h 1 2 with
 | false=>{
 have G:=hI (λw=>ct u w);clear u;go_enter func85,ntmps85;go_wp2_with(go_at_call 30;refine(G _).mono ?_;rintro e B⟨rfl,rfl⟩)
 go_ret;exact⟨rfl,F _⟩}
 | true=>{
 have G:=hI (λw=>ct u w);clear u;go_enter func85,ntmps85;go_wp2_with(go_at_call 30;refine(G _).mono ?_;rintro e B⟨rfl,rfl⟩)
 go_ret;exact⟨ak (by simp),F _⟩}}}
theorem lM (n:Int)(w:World):Calls prog 54 #[n] w λe h=>e=.returned (.bool (im n))∧w=h:=by{
 unfold im;go_enter func54,ntmps54;go_wp2_with(go_at_call 30;refine(bc _ _ _ _).mono ?_;rintro e h⟨rfl,rfl⟩)
 go_ret;exact⟨rfl,rfl⟩}
theorem gk {n:Int}{r:Bool}(h:im n=r)(w:World):Calls prog 54 #[n] w λe u=>e=.returned (.bool r)∧w=u:=by{subst h;exact lM n w}
theorem Cx (b:Int)(G h I u H B F:Int):fT b (G,h,I,u,H,B,F)=(af G 0 11&&af h 0 (b-1)&&dP (h,u,H)&&(if B=0 then(F==0) else(u==9)&&iW B F)):=rfl
theorem ED {b h u B:Int}(H:b≤16)(F:af h 0 (b-1)=true):nF (h,u,B)=dP (h,u,B):=by{
 have G:=ai.1 F;unfold nF;rw[ai.2 ⟨G.1,by omega⟩,Bool.true_and]}
theorem yJ (b:Int)(a2:1≤b)(h:b≤16)(Z R x2 L V T x6:Int)(w:World):Calls prog 53 #[b,.agg #[Z,R,x2,L,V,T,x6]] w λe u=>e=.returned (.bool (fT b (Z,R,x2,L,V,T,x6)))∧BL w u:=by{
 have ad:=hI (show ∀o,BL w (w.alloc o) from λo=>(qB _ _).alloc (qA _) o);have W:=hI (show ∀o J,Below (w.alloc o).heap.size (w.alloc o) J→BL w J from λo J B=>((qB _ _).alloc (qA _) o).trans (B.mono (by simp)));have M:=hI (Cx b Z R x2 L V T x6)
 cases ha:af Z 0 11 with
 | false=>{
 have B:=hI (λw=>ct ha w);have F:=B;have I:=hI ha;clear ha;go_enter func53,ntmps53;go_wp2_with(first|(go_at_call 30;(with_reducible refine(B.out _).mono ?_);rintro e u⟨rfl,rfl⟩)|(go_at_call 30;(with_reducible refine(F.out _).mono ?_);rintro e u⟨rfl,rfl⟩))
 go_ret;exact⟨ak (by rw[M.out,I.out];rfl),ad _⟩}
 | true=>{
 have B:=hI (λw=>ct ha w);have I:=hI ha;clear ha
 cases G:af R 0 (b-1) with
 | false=>{
 have F:=hI (λw=>ct G w);have N:=hI G;clear G;go_enter func53,ntmps53;go_wp2_with(first|(go_at_call 30;(with_reducible refine(B.out _).mono ?_);rintro e u⟨rfl,rfl⟩)|(go_at_call 30;(with_reducible refine(F.out _).mono ?_);rintro e u⟨rfl,rfl⟩))
 go_ret;exact⟨ak (by rw[M.out,I.out,N.out];rfl),ad _⟩}
 | true=>{
 have F:=hI (λw=>ct G w);have N:=hI G;have H:=hI (λw=>kK R L V w);rw[ED h G] at H;clear G
 cases O:dP (R,L,V) with
 | false=>{
 rw[O] at H;have U:=hI O;clear O;go_enter func53,ntmps53;go_wp2_with(first|(go_at_call 30;(with_reducible refine(B.out _).mono ?_);rintro e u⟨rfl,rfl⟩)|(go_at_call 30;(with_reducible refine(F.out _).mono ?_);rintro e u⟨rfl,rfl⟩))
 refine(H _).mono ?_;rintro e J⟨rfl,h⟩;have G:=hI (W _ _ h);have F0:=((aO.new _ _ _).below h).f7;clear h;go_wp2_with fail
 go_ret;exact⟨ak (by rw[M.out,I.out,N.out,U.out];rfl),G⟩}
 | true=>{
 rw[O] at H;have U:=hI O;clear O;by_cases O:T=0
 {
 subst O;go_enter func53,ntmps53;go_wp2_with(first|(go_at_call 30;(with_reducible refine(B.out _).mono ?_);rintro e u⟨rfl,rfl⟩)|(go_at_call 30;(with_reducible refine(F.out _).mono ?_);rintro e u⟨rfl,rfl⟩))
 refine(H _).mono ?_;rintro e J⟨rfl,h⟩;have G:=hI (W _ _ h);have F0:=((aO.new _ _ _).below h).f7;clear h;go_wp2_with fail
 go_ret;exact⟨ak (by rw[M.out,I.out,N.out,U.out];simp),G⟩}
 {
 have e4:(T==0)=false:=by simp[O]
 by_cases Y:L=9
 {
 subst Y;have HR:=hI (λw=>uk 0 0 T x6 w);have HZ:=hI O;clear O;go_enter func53,ntmps53;go_wp2_with(first|(go_at_call 30;(with_reducible refine(B.out _).mono ?_);rintro e u⟨rfl,rfl⟩)|(go_at_call 30;(with_reducible refine(F.out _).mono ?_);rintro e u⟨rfl,rfl⟩))
 refine(H _).mono ?_;rintro e J⟨rfl,h⟩;have G:=hI (W _ _ h);have F0:=((aO.new _ _ _).below h).f7;clear h;go_wp2_with fail
 refine(HR _).mono ?_;rintro e w3⟨rfl,ar⟩;have av:=zb G ar;clear ar;go_wp2_with fail
 go_ret;exact⟨ak (by rw[M.out,I.out,N.out,U.out,if_neg HZ.out];simp),av⟩}
 {
 have e5:(L==9)=false:=by simp[Y]
 have HZ:=hI O;have a1:=hI Y;clear O Y;go_enter func53,ntmps53;go_wp2_with(first|(go_at_call 30;(with_reducible refine(B.out _).mono ?_);rintro e u⟨rfl,rfl⟩)|(go_at_call 30;(with_reducible refine(F.out _).mono ?_);rintro e u⟨rfl,rfl⟩))
 refine(H _).mono ?_;rintro e J⟨rfl,h⟩;have G:=hI (W _ _ h);have F0:=((aO.new _ _ _).below h).f7;clear h;go_wp2_with fail
 go_ret;exact⟨ak (by rw[M.out,I.out,N.out,U.out,if_neg HZ.out];simp[a1.out]),G⟩}}}}}}
theorem ib {b:Int}(L:1≤b)(M:b≤16){h u B F G H I:Int}{r:Bool}(J:fT b (h,u,B,F,G,H,I)=r)(w:World):Calls prog 53 #[b,.agg #[h,u,B,F,G,H,I]] w λe N=>e=.returned (.bool r)∧BL w N:=by{subst J;exact yJ b L M h u B F G H I w}
theorem FM {k p:Int}(h:af k 1 3=false):iW k p=false:=by{
 rw[gY] at h;unfold iW;rw[if_neg (by omega),gY.2 (by omega:¬(1≤k∧k≤2))];rfl}
theorem Gj {k p:Int}(h:af p 0 10000=false):iW k p=false:=by{
 unfold iW;by_cases u:k=3
 {rw[if_pos u,h]}
 {
 rw[if_neg u];rw[gY] at h;have:(p==0)=false:=by simp;omega
 rw[this,Bool.and_false]}}
theorem tI {k p:Int}(B:af k 1 3=true)(u:af p 0 10000=true):iW k p=(k==3||p==0):=by{
 unfold iW;have F:=ai.1 B;by_cases h:k=3
 {rw[if_pos h,u,h];rfl}
 {
 rw[if_neg h,ai.2 (by omega:1≤k∧k≤2)];simp[h]}}
theorem wN (b:Int)(a':1≤b)(ba:b≤16)(x0 Y x2 T W V x6:Int)(w:World):Calls prog 232 #[.agg #[x0,Y,x2,T,W,V,x6],b] w λe h=>e=.returned (.bool (fT b (x0,Y,x2,T,W,V,x6)&&im x2))∧BL w h:=by{
 have L:=hI (show ∀o,BL w (w.alloc o) from λo=>(qB _ _).alloc (qA _) o);have M:=hI (Cx b x0 Y x2 T W V x6)
 cases N:af x0 0 11 with
 | false=>{
 have u:=hI (λw=>bj N w);have R:=hI N;clear N;have J:=u;have H:=u;have G:=u;have F:=u;have B:=u;have I:=hI (λw=>lq 0 w);go_enter func232,ntmps232;go_wp2_with(first|(go_at_call 34;(with_reducible refine(u.out _).mono ?_);rintro e h⟨rfl,rfl⟩)|(go_at_call 34;(with_reducible refine(J.out _).mono ?_);rintro e h⟨rfl,rfl⟩)|(go_at_call 34;(with_reducible refine(H.out _).mono ?_);rintro e h⟨rfl,rfl⟩)|(go_at_call 34;(with_reducible refine(G.out _).mono ?_);rintro e h⟨rfl,rfl⟩)|(go_at_call 34;(with_reducible refine(F.out _).mono ?_);rintro e h⟨rfl,rfl⟩)|(go_at_call 34;(with_reducible refine(B.out _).mono ?_);rintro e h⟨rfl,rfl⟩)|(go_at_call 279;(with_reducible refine(I.out _).mono ?_);rintro e h⟨rfl,rfl⟩))
 go_ret;exact⟨ak (by rw[M.out,R.out];rfl),L _⟩}
 | true=>{
 have u:=hI (λw=>bj N w);have R:=hI N;clear N
 cases N:af Y 0 (b-1) with
 | false=>{
 have J:=hI (λw=>bj N w);have U:=hI N;clear N;have H:=u;have G:=u;have F:=u;have B:=u;have I:=hI (λw=>lq 0 w);go_enter func232,ntmps232;go_wp2_with(first|(go_at_call 34;(with_reducible refine(u.out _).mono ?_);rintro e h⟨rfl,rfl⟩)|(go_at_call 34;(with_reducible refine(J.out _).mono ?_);rintro e h⟨rfl,rfl⟩)|(go_at_call 34;(with_reducible refine(H.out _).mono ?_);rintro e h⟨rfl,rfl⟩)|(go_at_call 34;(with_reducible refine(G.out _).mono ?_);rintro e h⟨rfl,rfl⟩)|(go_at_call 34;(with_reducible refine(F.out _).mono ?_);rintro e h⟨rfl,rfl⟩)|(go_at_call 34;(with_reducible refine(B.out _).mono ?_);rintro e h⟨rfl,rfl⟩)|(go_at_call 279;(with_reducible refine(I.out _).mono ?_);rintro e h⟨rfl,rfl⟩))
 go_ret;exact⟨ak (by rw[M.out,R.out,U.out];rfl),L _⟩}
 | true=>{
 have J:=hI (λw=>bj N w);have U:=hI N;clear N
 cases N:af T 0 9 with
 | false=>{
 have I:=hI (λw=>jC N w);have O:=hI (vl (x0:=Y) (x2:=W) N);clear N;have H:=u;have G:=u;have F:=u;have B:=u;go_enter func232,ntmps232;go_wp2_with(first|(go_at_call 34;(with_reducible refine(u.out _).mono ?_);rintro e h⟨rfl,rfl⟩)|(go_at_call 34;(with_reducible refine(J.out _).mono ?_);rintro e h⟨rfl,rfl⟩)|(go_at_call 34;(with_reducible refine(H.out _).mono ?_);rintro e h⟨rfl,rfl⟩)|(go_at_call 34;(with_reducible refine(G.out _).mono ?_);rintro e h⟨rfl,rfl⟩)|(go_at_call 34;(with_reducible refine(F.out _).mono ?_);rintro e h⟨rfl,rfl⟩)|(go_at_call 34;(with_reducible refine(B.out _).mono ?_);rintro e h⟨rfl,rfl⟩)|(go_at_call 279;(with_reducible refine(I.out _).mono ?_);rintro e h⟨rfl,rfl⟩))
 go_ret;exact⟨ak (by rw[M.out,R.out,U.out,O.out];rfl),L _⟩}
 | true=>{
 have I:=hI (λw=>jC N w);have ad:=ai.1 N;clear N
 cases N:im x2 with
 | false=>{
 have H:=hI (λw=>bj N w);have eR:=hI N;clear N ad;have G:=u;have F:=u;have B:=u;go_enter func232,ntmps232;go_wp2_with(first|(go_at_call 34;(with_reducible refine(u.out _).mono ?_);rintro e h⟨rfl,rfl⟩)|(go_at_call 34;(with_reducible refine(J.out _).mono ?_);rintro e h⟨rfl,rfl⟩)|(go_at_call 34;(with_reducible refine(H.out _).mono ?_);rintro e h⟨rfl,rfl⟩)|(go_at_call 34;(with_reducible refine(G.out _).mono ?_);rintro e h⟨rfl,rfl⟩)|(go_at_call 34;(with_reducible refine(F.out _).mono ?_);rintro e h⟨rfl,rfl⟩)|(go_at_call 34;(with_reducible refine(B.out _).mono ?_);rintro e h⟨rfl,rfl⟩)|(go_at_call 279;(with_reducible refine(I.out _).mono ?_);rintro e h⟨rfl,rfl⟩))
 go_ret;exact⟨ak (by rw[Bool.and_false]),L _⟩}
 | true=>{
 have H:=hI (λw=>bj N w);have eR:=hI N;clear N;by_cases h0:T=0
 {
 subst h0;clear ad;have ar:=hI (show((0:Int)==9)=false from rfl)
 cases O:af W 1 1000000000 with
 | false=>{
 have G:=hI (λw=>bj O w);have N:=hI (show dP (Y,0,W)=false from by unfold dP;rw[if_pos rfl];exact O);clear O;have F:=u;have B:=u;go_enter func232,ntmps232;go_wp2_with(first|(go_at_call 34;(with_reducible refine(u.out _).mono ?_);rintro e h⟨rfl,rfl⟩)|(go_at_call 34;(with_reducible refine(J.out _).mono ?_);rintro e h⟨rfl,rfl⟩)|(go_at_call 34;(with_reducible refine(H.out _).mono ?_);rintro e h⟨rfl,rfl⟩)|(go_at_call 34;(with_reducible refine(G.out _).mono ?_);rintro e h⟨rfl,rfl⟩)|(go_at_call 34;(with_reducible refine(F.out _).mono ?_);rintro e h⟨rfl,rfl⟩)|(go_at_call 34;(with_reducible refine(B.out _).mono ?_);rintro e h⟨rfl,rfl⟩)|(go_at_call 279;(with_reducible refine(I.out _).mono ?_);rintro e h⟨rfl,rfl⟩))
 go_ret;exact⟨ak (by rw[M.out,N.out];simp),L _⟩}
 | true=>{
 have G:=hI (λw=>bj O w);have N:=hI (show dP (Y,0,W)=true from by unfold dP;rw[if_pos rfl];exact O);clear O;by_cases O:V=0
 {
 subst O;have B:=u;have F:=u;go_enter func232,ntmps232;go_wp2_with(first|(go_at_call 34;(with_reducible refine(u.out _).mono ?_);rintro e h⟨rfl,rfl⟩)|(go_at_call 34;(with_reducible refine(J.out _).mono ?_);rintro e h⟨rfl,rfl⟩)|(go_at_call 34;(with_reducible refine(H.out _).mono ?_);rintro e h⟨rfl,rfl⟩)|(go_at_call 34;(with_reducible refine(G.out _).mono ?_);rintro e h⟨rfl,rfl⟩)|(go_at_call 34;(with_reducible refine(F.out _).mono ?_);rintro e h⟨rfl,rfl⟩)|(go_at_call 34;(with_reducible refine(B.out _).mono ?_);rintro e h⟨rfl,rfl⟩)|(go_at_call 279;(with_reducible refine(I.out _).mono ?_);rintro e h⟨rfl,rfl⟩))
 go_ret;exact⟨ak (by rw[M.out,R.out,U.out,N.out];simp),L _⟩}
 {
 have e5:(V==0)=false:=by simp[O]
 have B:=u;have F:=u;have Z:=hI O;clear O;go_enter func232,ntmps232;go_wp2_with(first|(go_at_call 34;(with_reducible refine(u.out _).mono ?_);rintro e h⟨rfl,rfl⟩)|(go_at_call 34;(with_reducible refine(J.out _).mono ?_);rintro e h⟨rfl,rfl⟩)|(go_at_call 34;(with_reducible refine(H.out _).mono ?_);rintro e h⟨rfl,rfl⟩)|(go_at_call 34;(with_reducible refine(G.out _).mono ?_);rintro e h⟨rfl,rfl⟩)|(go_at_call 34;(with_reducible refine(F.out _).mono ?_);rintro e h⟨rfl,rfl⟩)|(go_at_call 34;(with_reducible refine(B.out _).mono ?_);rintro e h⟨rfl,rfl⟩)|(go_at_call 279;(with_reducible refine(I.out _).mono ?_);rintro e h⟨rfl,rfl⟩))
 go_ret;exact⟨ak (by rw[M.out,R.out,U.out,N.out,if_neg Z.out,ar.out];rfl),L _⟩}}}
 {
 have e0:(T==0)=false:=by simp[h0]
 have a6:(T !=0)=true:=by simp[h0]
 have G:=u;have a1:af T 1 9=true:=ai.2 (by omega);by_cases h4:W=0
 {
 subst h4;have N:=hI (show dP (Y,T,0)=true from by unfold dP;rw[if_neg h0,a1];rfl);clear a1 ad h0;by_cases h9:T=9
 {
 subst h9;clear e0 a6;by_cases O:V=0
 {
 subst O;have B:=u;have F:=u;go_enter func232,ntmps232;go_wp2_with(first|(go_at_call 34;(with_reducible refine(u.out _).mono ?_);rintro e h⟨rfl,rfl⟩)|(go_at_call 34;(with_reducible refine(J.out _).mono ?_);rintro e h⟨rfl,rfl⟩)|(go_at_call 34;(with_reducible refine(H.out _).mono ?_);rintro e h⟨rfl,rfl⟩)|(go_at_call 34;(with_reducible refine(G.out _).mono ?_);rintro e h⟨rfl,rfl⟩)|(go_at_call 34;(with_reducible refine(F.out _).mono ?_);rintro e h⟨rfl,rfl⟩)|(go_at_call 34;(with_reducible refine(B.out _).mono ?_);rintro e h⟨rfl,rfl⟩)|(go_at_call 279;(with_reducible refine(I.out _).mono ?_);rintro e h⟨rfl,rfl⟩))
 go_ret;exact⟨ak (by rw[M.out,R.out,U.out,N.out];simp),L _⟩}
 {
 have e5:(V==0)=false:=by simp[O]
 have Z:=hI O;clear O
 cases hK:af V 1 3 with
 | false=>{
 have F:=hI (λw=>bj hK w);have eK:=hI hK;clear hK;have B:=u;go_enter func232,ntmps232;go_wp2_with(first|(go_at_call 34;(with_reducible refine(u.out _).mono ?_);rintro e h⟨rfl,rfl⟩)|(go_at_call 34;(with_reducible refine(J.out _).mono ?_);rintro e h⟨rfl,rfl⟩)|(go_at_call 34;(with_reducible refine(H.out _).mono ?_);rintro e h⟨rfl,rfl⟩)|(go_at_call 34;(with_reducible refine(G.out _).mono ?_);rintro e h⟨rfl,rfl⟩)|(go_at_call 34;(with_reducible refine(F.out _).mono ?_);rintro e h⟨rfl,rfl⟩)|(go_at_call 34;(with_reducible refine(B.out _).mono ?_);rintro e h⟨rfl,rfl⟩)|(go_at_call 279;(with_reducible refine(I.out _).mono ?_);rintro e h⟨rfl,rfl⟩))
 go_ret;exact⟨ak (by rw[M.out,R.out,U.out,N.out,if_neg Z.out,FM eK.out];rfl),L _⟩}
 | true=>{
 have F:=hI (λw=>bj hK w);have eK:=hI hK;clear hK
 cases hP:af x6 0 10000 with
 | false=>{
 have B:=hI (λw=>bj hP w);have eP:=hI hP;clear hP;go_enter func232,ntmps232;go_wp2_with(first|(go_at_call 34;(with_reducible refine(u.out _).mono ?_);rintro e h⟨rfl,rfl⟩)|(go_at_call 34;(with_reducible refine(J.out _).mono ?_);rintro e h⟨rfl,rfl⟩)|(go_at_call 34;(with_reducible refine(H.out _).mono ?_);rintro e h⟨rfl,rfl⟩)|(go_at_call 34;(with_reducible refine(G.out _).mono ?_);rintro e h⟨rfl,rfl⟩)|(go_at_call 34;(with_reducible refine(F.out _).mono ?_);rintro e h⟨rfl,rfl⟩)|(go_at_call 34;(with_reducible refine(B.out _).mono ?_);rintro e h⟨rfl,rfl⟩)|(go_at_call 279;(with_reducible refine(I.out _).mono ?_);rintro e h⟨rfl,rfl⟩))
 go_ret;exact⟨ak (by rw[M.out,R.out,U.out,N.out,if_neg Z.out,Gj eP.out];rfl),L _⟩}
 | true=>{
 have B:=hI (λw=>bj hP w);have eP:=hI hP;clear hP;by_cases av:V=3
 {
 subst av;clear e5;go_enter func232,ntmps232;go_wp2_with(first|(go_at_call 34;(with_reducible refine(u.out _).mono ?_);rintro e h⟨rfl,rfl⟩)|(go_at_call 34;(with_reducible refine(J.out _).mono ?_);rintro e h⟨rfl,rfl⟩)|(go_at_call 34;(with_reducible refine(H.out _).mono ?_);rintro e h⟨rfl,rfl⟩)|(go_at_call 34;(with_reducible refine(G.out _).mono ?_);rintro e h⟨rfl,rfl⟩)|(go_at_call 34;(with_reducible refine(F.out _).mono ?_);rintro e h⟨rfl,rfl⟩)|(go_at_call 34;(with_reducible refine(B.out _).mono ?_);rintro e h⟨rfl,rfl⟩)|(go_at_call 279;(with_reducible refine(I.out _).mono ?_);rintro e h⟨rfl,rfl⟩))
 go_ret;exact⟨ak (by rw[M.out,R.out,U.out,N.out,if_neg Z.out,tI eK.out eP.out];rfl),L _⟩}
 {
 have a7:(V==3)=false:=by simp[av]
 have a2:=hI a7;clear av;go_enter func232,ntmps232;go_wp2_with(first|(go_at_call 34;(with_reducible refine(u.out _).mono ?_);rintro e h⟨rfl,rfl⟩)|(go_at_call 34;(with_reducible refine(J.out _).mono ?_);rintro e h⟨rfl,rfl⟩)|(go_at_call 34;(with_reducible refine(H.out _).mono ?_);rintro e h⟨rfl,rfl⟩)|(go_at_call 34;(with_reducible refine(G.out _).mono ?_);rintro e h⟨rfl,rfl⟩)|(go_at_call 34;(with_reducible refine(F.out _).mono ?_);rintro e h⟨rfl,rfl⟩)|(go_at_call 34;(with_reducible refine(B.out _).mono ?_);rintro e h⟨rfl,rfl⟩)|(go_at_call 279;(with_reducible refine(I.out _).mono ?_);rintro e h⟨rfl,rfl⟩))
 go_ret;exact⟨ak (by rw[M.out,R.out,U.out,N.out,if_neg Z.out,tI eK.out eP.out,a2.out];simp),L _⟩}}}}}
 {
 have e9:(T==9)=false:=by simp[h9]
 have a8:(T !=9)=true:=by simp[h9]
 have ar:=hI e9;clear h9;by_cases O:V=0
 {
 subst O;have B:=u;have F:=u;go_enter func232,ntmps232;go_wp2_with(first|(go_at_call 34;(with_reducible refine(u.out _).mono ?_);rintro e h⟨rfl,rfl⟩)|(go_at_call 34;(with_reducible refine(J.out _).mono ?_);rintro e h⟨rfl,rfl⟩)|(go_at_call 34;(with_reducible refine(H.out _).mono ?_);rintro e h⟨rfl,rfl⟩)|(go_at_call 34;(with_reducible refine(G.out _).mono ?_);rintro e h⟨rfl,rfl⟩)|(go_at_call 34;(with_reducible refine(F.out _).mono ?_);rintro e h⟨rfl,rfl⟩)|(go_at_call 34;(with_reducible refine(B.out _).mono ?_);rintro e h⟨rfl,rfl⟩)|(go_at_call 279;(with_reducible refine(I.out _).mono ?_);rintro e h⟨rfl,rfl⟩))
 go_ret;exact⟨ak (by rw[M.out,R.out,U.out,N.out];simp),L _⟩}
 {
 have e5:(V==0)=false:=by simp[O]
 have B:=u;have F:=u;have Z:=hI O;clear O;go_enter func232,ntmps232;go_wp2_with(first|(go_at_call 34;(with_reducible refine(u.out _).mono ?_);rintro e h⟨rfl,rfl⟩)|(go_at_call 34;(with_reducible refine(J.out _).mono ?_);rintro e h⟨rfl,rfl⟩)|(go_at_call 34;(with_reducible refine(H.out _).mono ?_);rintro e h⟨rfl,rfl⟩)|(go_at_call 34;(with_reducible refine(G.out _).mono ?_);rintro e h⟨rfl,rfl⟩)|(go_at_call 34;(with_reducible refine(F.out _).mono ?_);rintro e h⟨rfl,rfl⟩)|(go_at_call 34;(with_reducible refine(B.out _).mono ?_);rintro e h⟨rfl,rfl⟩)|(go_at_call 279;(with_reducible refine(I.out _).mono ?_);rintro e h⟨rfl,rfl⟩))
 go_ret;exact⟨ak (by rw[M.out,R.out,U.out,N.out,if_neg Z.out,ar.out];rfl),L _⟩}}}
 {
 have O:(W !=0)=true:=by simp[h4]
 have N:=hI (show dP (Y,T,W)=false from by unfold dP;rw[if_neg h0];simp[h4]);clear a1 ad h0 h4;have F:=u;have B:=u;go_enter func232,ntmps232;go_wp2_with(first|(go_at_call 34;(with_reducible refine(u.out _).mono ?_);rintro e h⟨rfl,rfl⟩)|(go_at_call 34;(with_reducible refine(J.out _).mono ?_);rintro e h⟨rfl,rfl⟩)|(go_at_call 34;(with_reducible refine(H.out _).mono ?_);rintro e h⟨rfl,rfl⟩)|(go_at_call 34;(with_reducible refine(G.out _).mono ?_);rintro e h⟨rfl,rfl⟩)|(go_at_call 34;(with_reducible refine(F.out _).mono ?_);rintro e h⟨rfl,rfl⟩)|(go_at_call 34;(with_reducible refine(B.out _).mono ?_);rintro e h⟨rfl,rfl⟩)|(go_at_call 279;(with_reducible refine(I.out _).mono ?_);rintro e h⟨rfl,rfl⟩))
 go_ret;exact⟨ak (by rw[M.out,N.out];simp),L _⟩}}}}}}}
end Go.Proofs.YtnpldahkhaacnaaGreatDoor

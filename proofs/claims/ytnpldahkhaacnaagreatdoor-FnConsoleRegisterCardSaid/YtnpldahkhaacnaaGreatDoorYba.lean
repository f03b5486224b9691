/- Texts of the walk: Zx Zy Zd Zk. -/
import Derived.RangeFuncNested
import Derived.RangeFuncBound
import Derived.RangeFuncCalls
import Derived.RangeFuncLeaves
import Derived.Shelf.Abstract
import Derived.TacticsInMore
import Derived.LoopNIn
import Derived.LoopIn
import Derived.Test.YtnpldahkhaacnaaGreatDoorYaz
set_option linter.unusedVariables false
set_option linter.unusedSimpArgs false
set_option maxRecDepth 100000
set_option maxHeartbeats 32000000
namespace Go.Proofs.YtnpldahkhaacnaaGreatDoor
open Go.RowKit Go.Sort Go.Proofs.Tryz
def gO (v:Int):Nat→LI→Int|_,[]=>-1|i,x::r=>if v=x then(i:Int) else gO v (i+1) r
theorem Bz {v:Int}{u:LI}(h:v∈u)(i:Nat):∃j:Nat,u[j]?=some v∧gO v i u=((i+j:Nat):Int):=by{
 induction u generalizing i with
 | nil=>cases h
 | cons x r G=>{
 unfold gO;by_cases e:v=x
 {
 subst e;exact⟨0,rfl,by rw[if_pos rfl];rfl⟩}
 {
 rw[if_neg e];obtain⟨j,B,F⟩:=G (by rcases List.mem_cons.1 h with h|h;exact absurd h e;exact h) (i+1);exact⟨j+1,by simpa using B,by rw[F];omega⟩}}}
theorem yS {v:Int}{h:LI}(u:v∉h)(i:Nat):gO v i h=-1:=by{
 induction h generalizing i with
 | nil=>rfl
 | cons x r F=>{
 unfold gO;rw[if_neg (λe=>u (by rw[e];exact List.mem_cons_self)),F (λB=>u (List.mem_cons_of_mem _ B))]}}
theorem AQ (v:Int)(u:LI):0≤gO v 0 u↔v∈u:=by{
 by_cases h:v∈u
 {
 obtain⟨j,_,e⟩:=Bz h 0;rw[e];exact⟨λ_=>h,λ_=>by omega⟩}
 {
 rw[yS h 0];exact⟨λB=>by omega,λB=>absurd B h⟩}}
theorem Eo (A:OA)(n c:Nat)(B:LI)(v:Int)(w:World)(G:Rd w 1 A n (ints B)):Calls prog 292 #[.slice A n c,v] w λe M=>e=.returned (.int .i64 (gO v 0 B))∧bI w M:=by{
 have I:=hI G.len_int;have N:=G.le;go_enter func292,ntmps292;go_wp2_with fail
 go_loopw [5,8] (λ_ i wr=>∃k:Nat,k≤n∧i=.int .i64 k∧Hid (gO v k (B.drop k)=gO v 0 B)∧bI w wr) (λ_ i _=>n-(intOf i).toNat)
 case atStart=>exact⟨0,qH _,rfl,rfl,bI.refl _⟩
 case round=>(
 obtain⟨k,_,rfl,F,h⟩:=hrel;by_cases L:k<n
 {
 obtain⟨b,o,x,rfl,J,u,_⟩:=(G.drawn h).int L;have H:=hI u;clear J u;by_cases u:v=x
 {
 subst u;go_wp2_with fail
 go_ret;exact⟨dK (by rw[←F.out,H.out,gO,if_pos rfl]),h⟩}
 {
 have O:(v==x)=false:=by simpa using u
 have J:=hI u;clear u;go_wp2_with fail
 go_roundw
 case rel=>exact⟨k+1,by omega,by go_num,by unfold Hid;rw[←F.out,H.out,gO,if_neg J.out],h⟩
 case measure=>simp[intOf];omega}}
 {
 obtain rfl:k=n:=by omega
 go_wp2;go_ret;exact⟨dK (by rw[←F.out,qK (by rw[I.out];omega)];rfl),h⟩})}
theorem xc (A:OA)(n c:Nat)(h:LI)(v:Int)(w:World)(F:Rd w 1 A n (ints h)):Calls prog 251 #[.slice A n c,v] w λe G=>e=.returned (.bool (decide (v∈h)))∧bI w G:=by{
 have B:=hI (Eo A n c h v w F);have u:decide (0≤gO v 0 h)=decide (v∈h):=by rw[decide_eq_decide];exact AQ v h
 rw[←u];clear u;generalize gO v 0 h=r at *;go_enter func251,ntmps251;go_wp2_with fail
 refine B.mono ?_;rintro e H⟨rfl,u⟩;go_wp2_with fail
 go_ret;exact⟨rfl,u⟩}
theorem CD (x:Int)(w:World):Calls prog 322 #[x] w λe h=>e=.returned (.bool false)∧w=h:=by{
 go_enter func322,ntmps322;go_wp2;go_ret;exact⟨rfl,rfl⟩}
theorem zD (x y:Int)(w:World):Calls prog 299 #[x,y] w λe h=>e=.returned (.bool (decide (x<y)))∧h=w:=by{
 go_enter func299,ntmps299;go_wp2_with(go_at_call 322;refine(CD _ _).mono ?_;rintro e h⟨rfl,rfl⟩)
 go_ret;exact⟨rfl,rfl⟩}
theorem sD (g c n M:Nat)(I:LI)(w:World)(bn:n≤16)(u:w.ownsRow M 2 1 (.slice (some ⟨g,0,none⟩) n c) n (ints I)):Calls prog 293 #[.slice (some ⟨g,0,none⟩) n c,(0:Int),(n:Int)] w λe w'=>e=.returned (.tuple #[])∧w'.ownsRow M 2 1 (.slice (some ⟨g,0,none⟩) n c) n (ints (aU ll I))∧aK g (g+1) w w':=by{
 have HN:=hI (eU u);have hg:=u.lt g rfl;go_enter func293,ntmps293;go_wp2_with fail
 go_loopw [6] (λi wr=>∃(k:Nat) (H:LI),1≤k∧k≤n+1∧k≤17∧i=.int .i64 k∧cK ll (n-k) k H=aU ll I∧(∀x∈H,x∈I)∧wr.ownsRow M 2 1 (.slice (some ⟨g,0,none⟩) n c) n (ints H)∧aK g (g+1) w wr) (λi _=>n-(intOf i).toNat)
 case atStart=>exact⟨1,I,by omega,by omega,by omega,rfl,by unfold aU;rw[HN.out],λx a2=>a2,u,aK.refl _ _ _⟩
 case round=>(
 obtain⟨k,H,_,_,_,rfl,G,F,h,B⟩:=hrel;clear u;have L:=hI G;have HM:=hI F;clear G F;by_cases bk:k<n
 {
 have e:n-k=(n-(k+1))+1:=by omega
 rw[e,cK] at L;clear e;go_wp2_with fail
 go_loopw [7] (λi wr=>∃(j:Nat) (u:LI),j≤k∧i=.int .i64 j∧Hid (dE ll j u=dE ll k H)∧(∀x∈u,x∈I)∧wr.ownsRow M 2 1 (.slice (some ⟨g,0,none⟩) n c) n (ints u)∧aK g (g+1) w wr) (λi _=>(intOf i).toNat)
 case atStart=>exact⟨k,H,qA _,rfl,rfl,HM,h,B⟩
 case round=>(
 clear h B;obtain⟨j,u,_,rfl,T,F,h,B⟩:=hrel;have J:=hI F;clear F;by_cases hj:j=0
 {
 subst hj;go_wp2_with fail
 go_quiet (fail)
 go_wp2_with fail
 go_roundw
 case rel=>exact⟨k+1,u,by omega,by omega,by omega,by go_num,by rw[←L.out,←T.out,dE],J,(bI.refl _).own h,lS B _⟩
 case measure=>simp[intOf];omega}
 {
 obtain⟨p,rfl⟩:∃p,j=p+1:=⟨j-1,by omega⟩;obtain⟨g1,x,O,_,_,F,W,Z⟩:=aY h (k:=p+1) (by omega);obtain rfl:g=g1:=by injection O with e;injection e
 obtain⟨g2,y,R,_,_,G,Y,ad⟩:=aY h (k:=p) (by omega);obtain rfl:g=g2:=by injection R with e;injection e
 have a6:=J x (qF F);have a7:=J y (qF G);have U:dE ll (p+1) u=if ll x y then dE ll p ((u.set (p+1) y).set p x) else u:=by{rw[dE,kF,qC,qC,F,G];rfl}
 have N:=hI U;have HX:=hI F;have HY:=hI G;clear O R U F G;have bo:IntKind.i64.wrap (((p+1:Nat):Int)-1)=(p:Int):=by rw[IntWalk.i64_in _ (by omega)];omega
 by_cases O:x<y
 {
 have R:decide (x<y)=true:=decide_eq_true O;rw[if_pos (by unfold ll;exact R)] at N;clear O;go_wp2_with fail
 go_quiet ((go_at_call 299;exact Calls.quiet_of_same (zD _ _ _)))
 go_wp2_with fail
 obtain⟨G,F⟩:∃G,G=wr.drewN nq:=⟨_,rfl⟩;have av:G.ownsRow M 2 1 (.slice (some ⟨g,0,none⟩) n c) n (ints u):=by rw[F];exact h
 have V:aK g (g+1) w G:=by rw[F];exact lS B nq
 have a8:G.cell? ⟨g,p+1,none⟩=some (.int .i64 x):=by rw[F];exact W
 have a':G.cell? ⟨g,p,none⟩=some (.int .i64 y):=by rw[F];exact Y
 have ba:G.frozen? ⟨g,p+1,none⟩=false:=by rw[F];exact Z
 have bb:G.frozen? ⟨g,p,none⟩=false:=by rw[F];exact ad
 rw[←F];have HO:=hI av;have a1:=hI V;clear F av V W Y Z ad h B R;go_region
 have ar:=dn (k:=p) (dn (k:=p+1) HO y) x;have U:=lS (vM (i:=p) (vM (i:=p+1) a1 (qA _) (qj _) (.int .i64 y)) (qA _) (qj _) (.int .i64 x)) 1;have O3:=hI ar;have C3:=hI U;clear ar U;go_wp2_with fail
 go_roundw
 case rel=>exact⟨p,_,by omega,by go_num,by unfold Hid;rw[←T.out,N.out],yW J a6 a7,(bI.refl _).own O3,C3⟩
 case measure=>simp[intOf]}
 {
 have R:decide (x<y)=false:=decide_eq_false O;rw[if_neg (by unfold ll;rw[R];simp)] at N;clear O;go_wp2_with fail
 go_quiet ((go_at_call 299;exact Calls.quiet_of_same (zD _ _ _)))
 go_wp2_with fail
 go_roundw
 case rel=>exact⟨k+1,u,by omega,by omega,by omega,by go_num,by rw[←L.out,←T.out,N.out],J,(bI.refl _).own h,lS B _⟩
 case measure=>simp[intOf];omega}})}
 {
 have e:n-k=0:=by omega
 rw[e,cK] at L;go_wp2_with fail
 go_end0;exact⟨rfl,by rw[←L.out];exact h,B⟩})}
theorem Hs (g c n h:Nat)(u:LI)(F:Int)(w:World)(L:n≤12)(B:w.ownsRow h 2 1 (.slice (some ⟨g,0,none⟩) n c) n (ints u)):Calls prog 252 #[.slice (some ⟨g,0,none⟩) n c,(0:Int),(n:Int),F] w λe G=>e=.returned (.tuple #[])∧G.ownsRow h 2 1 (.slice (some ⟨g,0,none⟩) n c) n (ints (aU ll u))∧aK g (g+1) w G:=by{
 have H:=hI (sD g c n h u w (by omega) B);have J:decide ((n:Int)≤12)=true:=by simp;omega
 clear B;go_enter func252,ntmps252;go_wp2_with fail
 go_loopw [1,2,3,8,9] (λp q r a b wr=>p=.int .i64 0∧q=.int .i64 (n:Int)∧r=.int .i64 F∧a=.bool true∧b=.bool true∧wr=w) (λ_ _ _ _ _ _=>0)
 case atStart=>exact⟨rfl,rfl,rfl,rfl,rfl,rfl⟩
 case round=>(
 obtain⟨rfl,rfl,rfl,rfl,rfl,rfl⟩:=hrel;go_wp2_with fail
 refine H.mono ?_;rintro e M⟨rfl,I,B⟩;go_wp2_with fail
 refine bodyPost_ret (v:=.tuple #[]) (by simp[results,results252,go_sem]) rfl ?_;exact⟨rfl,I,B⟩)}
theorem Da (n:Nat)(B:n≤12)(w:World):Calls prog 192 #[.int .u64 (n:Int)] w λe u=>(∃k,e=.returned (.int .i64 k))∧w=u:=by{
 have h:n=0∨n=1∨n=2∨n=3∨n=4∨n=5∨n=6∨n=7∨n=8∨n=9∨n=10∨n=11∨n=12:=by omega
 rcases h with rfl|rfl|rfl|rfl|rfl|rfl|rfl|rfl|rfl|rfl|rfl|rfl|rfl
 all_goals{
 go_enter func192,ntmps192;go_wp2_with fail
 go_ret;exact⟨⟨_,rfl⟩,rfl⟩}}
theorem yn (n:Nat)(B:n≤12)(w:World):Calls prog 130 #[.int .u64 (n:Int)] w λe h=>(∃k,e=.returned (.int .i64 k))∧w=h:=by{
 have u:=hI (λh=>Da n B h);go_enter func130,ntmps130;go_wp2_with fail
 refine(u _).mono ?_;rintro e F⟨⟨k,rfl⟩,rfl⟩;go_wp2_with fail
 go_ret;exact⟨⟨_,rfl⟩,rfl⟩}
theorem re (g c n h:Nat)(u:LI)(w:World)(B:n≤12)(F:w.ownsRow h 2 1 (.slice (some ⟨g,0,none⟩) n c) n (ints u)):Calls prog 178 #[.slice (some ⟨g,0,none⟩) n c] w λe G=>e=.returned (.tuple #[])∧G.ownsRow h 2 1 (.slice (some ⟨g,0,none⟩) n c) n (ints (aU ll u))∧aK g (g+1) w G:=by{
 have H:=hI (λk=>Hs g c n h u k w B F);have I:=hI (yn n B w);clear F;go_enter func178,ntmps178;go_wp2_with fail
 refine I.mono ?_;rintro e L⟨⟨k,rfl⟩,rfl⟩;go_wp2_with fail
 refine(H _).mono ?_;rintro e L⟨rfl,J,F⟩;go_wp2_with fail
 go_end0;exact⟨rfl,J,F⟩}
theorem Gu:(prog.info? 2).map (λi=>(i.zero,i.size,i.bytes))=some (some (.int .i64 0),1,8):=by kernel_rfl
theorem rS {H:Array Oper}{rest:List Oper}{o:Oper}{a:Act}{Q:Exit→Act→World→Prop}(w:World)(M:o.guard=none)(s x:Operand)(O:o.op=.call { callee:=.builtin .append,args:=#[s,x],argTypes:=#[44,44] }){u n c:Nat}{A:OA}{h:LI}{y:Int}(T:a.eval s=.slice A n c)(R:w.ownsRow u 2 1 (.slice A n c) n (ints h)){b:Nat}(V:a.eval x=.slice (some ⟨b,0,none⟩) 1 1)(hc:w.heap[b]?=some (.cells #[y] 2 (0,0)))(Y:n≤1099511627776)(L:u≤w.heap.size)(I:∀g F B,B.ownsRow u 2 1 (.slice (some ⟨g,0,none⟩) (n+1) F) (n+1) (ints (h++[y]))→w.grownBy B (Value.slice A n c).ownBlock→((Value.slice A n c).ownBlock=some g∨g=w.heap.size)→g<B.heap.size→wpList prog H Q rest (a.put o.dst (.slice (some ⟨g,0,none⟩) (n+1) F)) B):wpList prog H Q (o::rest) a w:=by{
 obtain⟨i,N,W,U,J⟩:=info_parts Gu;have e:ints h++[.int .i64 y]=ints (h++[y]):=by rw[jx];rfl
 exact wpList_append_lies w M s x 44 O u 2 i (.int .i64 0) 1 8 underlying44 N W U J rfl (by decide) (.slice A n c) n (ints h) T R ⟨b,0,none⟩ 1 1 [.int .i64 y] V rfl (World.news_of_block (cs:=#[y]) hc) (by intro Z G;simp at G;subst G;rfl) (by decide) (by unfold maxLen;omega) (by omega) L _ rfl (by rw[e];exact I)}
theorem ql {a w G:World}{B g:Nat}{v:Value}(h:aK B (B+1) a w)(u:w.grownBy G v.ownBlock)(J:v.ownBlock=some g)(L:g=B∨a.heap.size≤g):aK B (B+1) a G:=by{
 rw[J] at u;refine⟨u.os.trans h.os,u.tape.trans h.tape,u.output.trans h.output,qM h.size u.size,λk F H=>?_⟩;have I:¬(some k=some g):=by intro e;injection e with e;omega
 exact(u.block k (qe F h.size) I).trans (h.block k F H)}
theorem jn {u h:Nat}{a w B:World}(F:aK u h a w)(k:BL w B):aK u h a B:=F.trans (aK.of_below k)
def Fq (w:World) (u:LI) (e:Ending) (h:World):Prop:=∃g n c,e=.returned (.slice (some ⟨g,0,none⟩) n c)∧h.ownsRow w.heap.size 2 1 (.slice (some ⟨g,0,none⟩) n c) n (ints u)∧n≤1000∧BL w h
theorem gd {h:List LI}{k u:Nat}{p:LI}{x:Int}(F:h.drop k=p::h.drop (k+1))(G:p.getD u 0=x):atI (ax h (u:Int)) (k:Int)=x:=by{
 have B:(h.drop k)[0]?=some p:=by rw[F];rfl
 rw[qg,qW] at B;unfold atI ax;rw[qP,qC,qZ,B];show(some (atI p (u:Int))).getD 0=x;unfold atI;rw[qP,←G];rfl}
theorem tX (P:OA)(n c:Nat)(C:OA)(m d:Nat)(t:Tb)(H:bl t)(h:Nat)(O:(h:Int)<t.boats)(w:World)(F:RdT w P n C m t)(M N:Nat)(J:aO w M #[t.boats,.slice P n c,.slice C m d] 76)(L:aO w N #[h] 2)(i j:Int)(a2:0≤i)(ba:i<n)(a6:0≤j)(bk:j<n):Calls prog 291 #[i,j,.pointer (some ⟨M,0,none⟩),.pointer (some ⟨N,0,none⟩)] w λe w'=>e=.returned (.int .i64 (atI (ax t.pts h) j-atI (ax t.pts h) i))∧BL w w':=by{
 obtain⟨W,rfl⟩:=aC i a2;obtain⟨Y,rfl⟩:=aC j a6;obtain⟨b,o,_,_,p,_,_,_,_,q,x,y,_,_,_,_,rfl,rfl,R,av,_,ad,rfl,rfl,_,_,_,_,U,hy,_,_,_,a8⟩:=dB F H (k:=W) (by omega) O;obtain⟨e,_,_,_,r,_,_,_,_,s,B,_,_,u3,_,u4,G,hC,T,a1,_,ar,rfl,rfl,_,_,_,_,V,a7,_,_,_,a'⟩:=dB F H (k:=Y) (by omega) O;injection G with G;injection G with e1 e2;subst e1 e2;rw[gd R U,gd T V];have I:=hI (show IntKind.i64.wrap (B - x)=B - x from IntWalk.i64_in _ (by omega));have Z:=hI (show wrap64 (B - x)=B - x from IntWalk.wrap64_in _ (by omega));have FX:=J.f3;have FY:=L.cell (i:=0) rfl;have bb:W<n:=by omega
 have bn:Y<n:=by omega
 clear R av T a1 U hy V a7 hC F J L ad ar a8 a' H;go_enter func291,ntmps291;go_wp2_with fail
 have F:=I.out;go_quiet (fail)
 clear F;go_wp2_with fail
 go_ret;exact⟨dK (by first|rfl|rw[Z.out]|rw[I.out]),((bI.refl _).step _).below⟩}
theorem BF (K:LI):∀(l:LI) (h:Nat),(fU K h l).length≤h:=by{
 intro l h;rw[vx];exact List.length_take_le _ _}
theorem pJ (P:OA)(n c:Nat)(C:OA)(m d:Nat)(t:Tb)(G:bl t)(A:OA)(l cl:Nat)(J:LI)(c5:J.length≤3)(h:Nat)(a7:(h:Int)<t.boats)(w:World)(u:RdT w P n C m t)(hl:Rd w 1 A l (ints J)):Calls prog 250 #[.agg #[t.boats,.slice P n c,.slice C m d],.slice A l cl,h] w (Fq w (aU ll (tj (ax t.pts h) (ax t.cds h) (leN t.pts.length J)))):=by{
 have d7:n≤12:=by have:=G.many;have:=u.pts.len;omega
 have ba:=u.pts.len;obtain rfl:n=m:=by have:=u.cds.len;have:=G.same;omega
 obtain⟨wa,ca,L,V,M,bb⟩:=cI w #[t.boats,.slice P n c,.slice C n d] #[h] 76 2;have bN:=hI ca;have bk:=hI (λB hb=>un A l cl J n B (hl.below (w':=B) hb));have c3:=Fg (n:Int) J;have b0:(tj (ax t.pts h) (ax t.cds h) (leN t.pts.length J))=fU (ax t.cds h) (leN (n:Int) J) (aU (ic (ax t.pts h)) (ij n)):=by{
 unfold tj fa;rw[vx,dN,ba]}
 rw[b0];generalize leN (n:Int) J=N at *;have cL:(ax t.pts h).length=n:=by rw[dN,ba]
 have bn:=hI (λar hW=>tX P n c C n d t G h a7 ar (u.below (w':=ar) hW) w.heap.size (w.heap.size+1));have R:=iQ (ic (ax t.pts h)) (ij n);rw[dg] at R;have a':∀x∈aU (ic (ax t.pts h)) (ij n),0≤x∧x<n:=λx U=>ki.1 ((gC _ _).mem_iff.1 U)
 have Z:=hI (λB hc=>mW n (by omega) (some ⟨w.heap.size,0,none⟩) (some ⟨w.heap.size+1,0,none⟩) (λa b=>atI (ax t.pts h) b-atI (ax t.pts h) a) (ic (ax t.pts h)) (λa b=>rfl) B hc);obtain⟨I,hO⟩:∃I,I=aU (ic (ax t.pts h)) (ij n):=⟨_,rfl⟩;rw[←hO] at Z R a' ⊢;have bv:=hI R;have cp:=hI a';have cx:=hI L;have cv:=hI V;have d1:=hI M;have HT:=hI u;have cn:=hI G;have cd:=hI a7;have d2:N≤3:=by omega
 obtain⟨wb,F⟩:∃wb,wb=wa.alloc (.cells #[] 2):=⟨_,rfl⟩;have a8:=df wa wa.heap.size 2 (qA _);rw[←F,bb] at a8;have O:BL wa wb:=by rw[F];exact(qB _ _).alloc (qA _) _
 have b9:wb.heap.size=wa.heap.size+1:=by rw[F];simp
 have bO:=hI F;have B:=hI (M.trans (O.mono M.size));have H:=hI (L.below O);have a6:=hI (V.below O);have bs:=hI a8;have Y:=L.f3;have T:=hI bb;have W:=hI b9;clear ca L V M F O a8 c3 b0 cL R a' hO u hl G a7 bb b9 ba c5;go_enter func250,ntmps250;go_wp2_with fail
 rw[←bN.out];clear bN;go_wp2_with fail
 rw[←bO.out];clear bO Y;have Y:=H.f3;go_wp2_with fail
 refine(bk _ B).mono ?_;rintro e w1⟨rfl,rfl⟩;go_wp2_with fail
 refine(Z _ ?hc).mono ?_
 case hc=>(
 intro ar hW a b u F G L;exact bn ar (B.trans (hW.mono B.size)) (H.below hW) (a6.below hW) a b u F G L)
 rintro e w2⟨_,V,_,rfl,L,O,u⟩;have c4:V=n:=by have:=eU L;have:=bv.out;omega
 subst c4;have bp:=hI L;have cc:=zb B u;have cy:=hI (H.below u);have cw:=hI (a6.below u);have R:=hI (aa bs u);have M:=hI (aK.refl (w.heap.size+1+1) (w.heap.size+1+1+1) w2);have ee:w.heap.size+1+1+1≤w2.heap.size:=by have:=u.size;have:=W.out;have:=T.out;omega
 have cs:=hI (show w.heap.size+1+1+1≤wb.heap.size from by have:=W.out;have:=T.out;omega);have F:=hI (show fU (ax t.cds h) N I=[]++fU (ax t.cds h) N (I.drop 0) from by simp);have bo:=hI (BF (ax t.cds h) I N);obtain⟨D,G⟩:∃D,D=fU (ax t.cds h) N I:=⟨_,rfl⟩;rw[←G] at F bo;have ch:=hI G;clear L u H a6 bs Z bk bn Y O B G cx cv W T;go_wp2_with fail
 go_loopw [7,8,23] (λv q i wr=>∃(k G B O:Nat) (u:LI),k≤V∧G≤N∧i=.int .i64 k∧q=.int .i64 G∧v=.slice (some ⟨B,0,none⟩) u.length O∧(B=w.heap.size+1+1∨w2.heap.size≤B)∧Hid (D=u++fU (ax t.cds h) G (I.drop k))∧Hid (wr.ownsRow (w.heap.size+1+1) 2 1 (.slice (some ⟨B,0,none⟩) u.length O) u.length (ints u))∧Hid (aK (w.heap.size+1+1) (w.heap.size+1+1+1) w2 wr)) (λ_ _ i _=>V-(intOf i).toNat)
 case atStart=>exact⟨0,N,_,0,[],qH _,qA _,rfl,rfl,rfl,.inl rfl,F,R,M⟩
 case round=>(
 clear R M F;obtain⟨k,G,B,O,u,_,_,rfl,rfl,rfl,F,Z,M,H⟩:=hrel;obtain⟨W,c6⟩:∃W:World,W=wr:=⟨_,rfl⟩;subst c6;have HG:=hI F;clear F;have a1:=hI (ao cc H (by omega) (by omega));have d8:u.length≤3:=by have:=bo.out;have:=congrArg List.length Z;rw[qJ] at this;omega
 by_cases b2:k<V
 {
 have c1:decide ((k:Int)<(V:Int))=true:=by simpa using b2
 have b6:=aE bp H (λb hb=>.inr (by have:=(bp.lt b hb).1;have:=cs.out;omega));obtain⟨b,o,x,rfl,U,hd,hc⟩:=(az b6).int b2;obtain⟨c8,_⟩:=cp x (qF U);obtain⟨L,rfl⟩:=aC x c8;have R:=Z.out;rw[hd,fU] at R;have T:=hI R;clear R Z U hd b6;have Y:=(cy.chg H (.inl (by omega))).f3;have FY:=(cw.chg H (.inl (by omega))).cell (i:=0) rfl;rcases Nat.eq_zero_or_pos G with bR|bR
 {
 subst bR;have F:=T.out;rw[if_neg (by simp)] at F;have ad:=hI F;clear F T;go_wp2_with fail
 go_quiet (fail)
 go_wp2_with fail
 go_roundw
 case rel=>exact⟨k+1,0,B,O,u,by omega,by omega,by go_num,rfl,rfl,HG,ad,hI ((bI.refl _).own M),hI (lS H _)⟩
 case measure=>simp[intOf]<;>omega}
 {
 have d3:decide ((0:Int)<(G:Int))=true:=by simp;omega
 have d4:decide (0<G)=true:=by simp;omega
 obtain⟨_,_,_,_,p,_,_,_,_,q,x,y,_,_,_,_,hP,rfl,hd,bW,cN,cR,cC,rfl,_,_,_,_,U,hy,dc,dq,dA,d0⟩:=dB (HT.below a1) cn (k:=L) (by omega) cd;have HY:=hI (show atI (ax t.cds (h:Int)) (L:Int)=y from gd bW hy);clear hP hd bW cN cC U hy dA dc dq;by_cases U:y=7
 {
 have cB:(y !=7)=false:=by simp[U]
 have F:=T.out;rw[if_neg (by unfold tL;rw[HY.out];simp[U])] at F;have ad:=hI F;clear F T HY U;go_wp2_with fail
 go_quiet (fail)
 go_wp2_with fail
 go_roundw
 case rel=>exact⟨k+1,G,B,O,u,by omega,by omega,by go_num,rfl,rfl,HG,ad,hI ((bI.refl _).own M),hI (lS H _)⟩
 case measure=>simp[intOf]<;>omega}
 {
 have cB:(y !=7)=true:=by simp[U]
 have F:=T.out;rw[if_pos (by unfold tL;rw[HY.out];simp[U];omega)] at F;have ad:=hI (show D=(u++[(L:Int)])++fU (ax t.cds (h:Int)) (G-1) (I.drop (k+1)) from by rw[F];simp);have d9:u.length+1≤4:=by omega
 clear F T HY U;go_wp2_with fail
 go_quiet (fail)
 obtain⟨wq,cb,av⟩:∃wq,wq=W.drewN nq∧BL W wq:=⟨_,rfl,bx (qB _ _) _⟩;have d':=av.size;have cr:=hI (aa M av);have a2:=hI (jn H av);rw[←cb];have d5:=a2.size;clear cb av Y FY M H d0 cR hc;go_wp2_with(at_builtin;refine rS (y:=(L:Int)) _ rfl _ _ rfl rfl (aa cr (za _ _)) rfl (heap_alloc_new _ _) (by omega) ?cBa ?_;rotate_left;intro Y c9 w9 b7 b1 b5 d6)
 {
 have cf:=hI (ql (jn a2 (za _ _)) b1 rfl HG);have cm:=hI (show w9.ownsRow (w.heap.size+1+1) 2 1 (.slice (some ⟨Y,0,none⟩) (u++[(L:Int)]).length c9) (u++[(L:Int)]).length (ints (u++[(L:Int)])) from by rw[qJ];exact b7);have ck:=hI (show Y=w.heap.size+1+1∨w2.heap.size≤Y from by{
 rcases b5 with e|e
 {
 have e2:B=Y:=by simpa[Value.ownBlock] using e
 rw[←e2];exact HG}
 {
 rw[e];have h1:=a2.size;simp;omega}})
 clear b7 b1 b5;go_roundw
 case rel=>exact⟨k+1,G-1,Y,c9,u++[(L:Int)],by omega,by omega,by go_num,by go_num,by rw[qJ];rfl,ck,ad,cm,cf⟩
 case measure=>simp[intOf]<;>omega}
 {first|omega|(simp;omega)}}}}
 {
 obtain rfl:k=V:=by omega
 have R:=Z.out;rw[qK (by rw[bv.out];exact qA _)] at R;have bP:D=u:=by rw[R,fU,qa]
 have HD:=hI bP;have c0:w.heap.size≤B:=by have:=(M.lt B rfl).1;omega
 have HS:=hI (re B O u.length (w.heap.size+1+1) u W (by omega) M);have c7:w.heap.size≤W.heap.size:=a1.size;clear R bP Z M H;have c1:decide ((k:Int)<(k:Int))=false:=by simp
 go_wp2_with fail
 refine HS.mono ?_;rintro e w3⟨rfl,M,H⟩;have R:=hI (ao a1 H c0 c7);have Z:=hI (an M (show w.heap.size≤w.heap.size+1+1 by omega));clear M H HS;go_wp2_with fail
 go_ret;exact⟨B,u.length,O,rfl,by rw[←ch.out,HD.out];exact Z,by omega,R⟩})}
def jw (h:LI):Nat→LI→LI|_,[]=>[]|k,p::P=>(if (k:Int)∈h then [] else [p])++jw h (k+1) P
theorem Gv (P:LI)(h:LI):jw h 0 P=rF P h:=by{
 have H:∀(m k:Nat),k+m=P.length→jw h k (P.drop k)=(((List.range' k m).map λ(i:Nat)=>(i:Int)).filter λk=>!decide (k∈h)).map (atI P):=by{
 intro m
 induction m with
 | zero=>{
 intro k F;rw[qK (by omega:P.length≤k)];rfl}
 | succ m G=>{
 intro k F;have B:k<P.length:=by omega
 rw[List.drop_eq_getElem_cons B,jw,G (k+1) (by omega),List.range'_succ,List.map_cons,List.filter_cons];have ha:atI P (k:Int)=P[k]:=by{
 unfold atI;rw[qP,qC,qG B];rfl}
 by_cases u:(k:Int)∈h
 {simp[u]}
 {simp[u,ha]}}}
 have:=H P.length 0 (by omega);rw[qd] at this;rw[this];unfold rF ij;rw[List.range_eq_range']}
theorem DT (h:LI):∀(P:LI) (k:Nat),(jw h k P).length≤P.length:=by{
 intro P
 induction P with
 | nil=>intro k;simp[jw]
 | cons p P u=>{
 intro k;have:=u (k+1);rw[jw,qJ,qO];split<;>simp<;>omega}}
theorem Er (P:LI){g h:LI}(u:g.Perm h):rF P g=rF P h:=by{
 unfold rF;simp only[u.mem_iff]}
theorem zH {h:List LI}{k u:Nat}{p:LI}{x:Int}(B:h.drop k=p::h.drop (k+1))(F:p.getD u 0=x):(ax h (u:Int)).drop k=x::(ax h (u:Int)).drop (k+1):=by{
 unfold ax;rw[←List.map_drop,B,List.map_cons,List.map_drop];unfold atI;rw[qP,F]}
theorem kW (P:OA)(n c:Nat)(C:OA)(m d:Nat)(t:Tb)(G:bl t)(A:OA)(l cl:Nat)(M:LI)(bO:M.length≤3)(h:Nat)(T:(h:Int)<t.boats)(w:World)(u:RdT w P n C m t)(hl:Rd w 1 A l (ints M)):Calls prog 177 #[.agg #[t.boats,.slice P n c,.slice C m d],.slice A l cl,h] w (Fq w (cntT t M h)):=by{
 have cC:n≤12:=by have:=G.many;have:=u.pts.len;omega
 have bN:=u.pts.len;obtain rfl:n=m:=by have:=u.cds.len;have:=G.same;omega
 obtain⟨Z,bR,N,O,bP⟩:=ae w #[t.boats,.slice P n c,.slice C n d] 76;have Y:=hI bR;obtain⟨wb,B⟩:∃wb,wb=Z.alloc (.cells #[] 2):=⟨_,rfl⟩;have U:=df Z Z.heap.size 2 (qA _);rw[←B,bP] at U;have R:BL Z wb:=by rw[B];exact(qB _ _).alloc (qA _) _
 have co:wb.heap.size=Z.heap.size+1:=by rw[B];simp
 have ba:=hI B;have J:=hI (O.trans (R.mono O.size));have L:=hI (N.below R);have a8:=hI U;have a':=hI (show w.heap.size+1+1≤wb.heap.size from by omega);have W:=hI (λF (hb:BL w F)=>pJ P n c C n d t G A l cl M bO h T F (u.below hb) (hl.below hb));have bb:(ax t.pts h).length=n:=by rw[dN,bN]
 have bk:cntT t M h=jw (aU ll (tj (ax t.pts h) (ax t.cds h) (leN t.pts.length M))) 0 (ax t.pts h):=by{
 unfold cntT;rw[Gv,Er _ (gC ll _)]}
 rw[bk];generalize aU ll (tj (ax t.pts h) (ax t.cds h) (leN t.pts.length M))=H at *;have b2:=hI bb;have HT:=hI u;have b9:=hI G;have b0:=hI T;have F:=N.f3;have ck:=DT H (ax t.pts h) 0;obtain⟨D,I⟩:∃D,D=jw H 0 (ax t.pts h):=⟨_,rfl⟩;have cc:D.length≤12:=by rw[I];omega
 have V:=hI (show D=[]++jw H 0 ((ax t.pts h).drop 0) from by rw[I];simp);have b5:=hI I;clear bR O B R U bP co u hl G T N bN bb bk ck I bO;go_enter func177,ntmps177;go_wp2_with fail
 rw[←Y.out];clear Y;go_wp2_with fail
 rw[←ba.out];clear ba F;have F:=L.f3;go_wp2_with fail
 refine(W _ J).mono ?_;rintro e Y⟨gg,gn,gc,rfl,G,N,u⟩;have a7:=hI G;have bW:=zb J u;have a2:=hI (L.below u);have I:=hI (aa a8 u);have B:=hI (aK.refl (w.heap.size+1) (w.heap.size+1+1) Y);have cR:w.heap.size+1+1≤Y.heap.size:=by have:=u.size;have:=a'.out;omega
 clear G u L a8 W F N J;have F:=a2.f3;go_wp2_with fail
 clear F;go_loopw [7,18] (λv i wr=>∃(k G W:Nat) (u:LI),k≤n∧i=.int .i64 k∧v=.slice (some ⟨G,0,none⟩) u.length W∧(G=w.heap.size+1∨Y.heap.size≤G)∧Hid (D=u++jw H k ((ax t.pts h).drop k))∧Hid (wr.ownsRow (w.heap.size+1) 2 1 (.slice (some ⟨G,0,none⟩) u.length W) u.length (ints u))∧Hid (aK (w.heap.size+1) (w.heap.size+1+1) Y wr)) (λ_ i _=>n-(intOf i).toNat)
 case atStart=>exact⟨0,_,0,[],qH _,rfl,rfl,.inl rfl,V,I,B⟩
 case round=>(
 clear I B V;obtain⟨k,G,W,u,_,rfl,rfl,B,U,R,I⟩:=hrel;obtain⟨wo,cp⟩:∃wo:World,wo=wr:=⟨_,rfl⟩;subst cp;have HG:=hI B;clear B;have a6:=hI (ao bW I (by omega) (by omega));have cL:u.length≤12:=by have:=cc;have:=congrArg List.length U;rw[qJ] at this;omega
 by_cases bp:k<n
 {
 have cm:decide ((k:Int)<(n:Int))=true:=by simpa using bp
 have bn:=aE a7 I (λb hb=>.inr (by have:=(a7.lt b hb).1;have:=a'.out;omega));have O:=hI (xc (some ⟨gg,0,none⟩) gn gc H (k:Int) wo (az bn));obtain⟨bq,oq,_,_,p,_,_,_,_,q,x,y,b3,o3,_,_,rfl,cb,hd,ch,ar,cf,rfl,ca,_,cd,_,cn,hx,hy,cr,cs,av,cv⟩:=dB (HT.below a6) b9 (k:=k) bp b0;have L:=U.out;rw[zH hd hx,jw] at L;have ad:=hI L;clear L U bn hd ch hx hy cb ca cf cv cr cs cd cn;have F:=(a2.chg I (.inl (by omega))).f3;by_cases T:(k:Int)∈H
 {
 rw[decide_eq_true T] at O;have J:=ad.out;rw[if_pos T,List.nil_append] at J;have a1:=hI J;clear J ad T;go_wp2_with fail
 refine O.mono ?_;rintro e w3⟨rfl,B⟩;have V:=hI (aa R B.below);have N:=hI (jn I B.below);clear B R I O F ar av;go_wp2_with fail
 go_roundw
 case rel=>exact⟨k+1,G,W,u,by omega,by go_num,rfl,HG,a1,V,N⟩
 case measure=>simp[intOf]<;>omega}
 {
 rw[decide_eq_false T] at O;have J:=ad.out;rw[if_neg T] at J;have a1:=hI (show D=(u++[x])++jw H (k+1) ((ax t.pts (h:Int)).drop (k+1)) from by rw[J];simp);clear J ad T;go_wp2_with fail
 refine O.mono ?_;rintro e w3⟨rfl,B⟩;have V:=hI (aa R B.below);have N:=hI (jn I B.below);have cN:=B.below.size;have cx:=(B.below.cell (p:=⟨bq,oq+k,none⟩) (au ar)).trans ar;have c0:=(B.below.cell (p:=⟨b3,o3+h,none⟩) (au av)).trans av;have cw:=(a2.chg N (.inl (by omega))).f3;have cy:=N.size;clear B R I O F ar av;go_wp2_with(at_builtin;refine rS (y:=x) _ rfl _ _ rfl rfl (aa V (za _ _)) rfl (heap_alloc_new _ _) (by omega) ?cBb ?_;rotate_left;intro F c9 w9 bv bo bs cB)
 {
 have b1:=hI (ql (jn N (za _ _)) bo rfl HG);have b7:=hI (show w9.ownsRow (w.heap.size+1) 2 1 (.slice (some ⟨F,0,none⟩) (u++[x]).length c9) (u++[x]).length (ints (u++[x])) from by rw[qJ];exact bv);have b6:=hI (show F=w.heap.size+1∨Y.heap.size≤F from by{
 rcases bs with e|e
 {
 have e2:G=F:=by simpa[Value.ownBlock] using e
 rw[←e2];exact HG}
 {
 rw[e];have h1:=N.size;simp;omega}})
 clear bv bo bs;go_roundw
 case rel=>exact⟨k+1,F,c9,u++[x],by omega,by go_num,by rw[qJ];rfl,b6,a1,b7,b1⟩
 case measure=>simp[intOf]<;>omega}
 {first|omega|(simp;omega)}}}
 {
 obtain rfl:k=n:=by omega
 have L:=U.out;rw[qK (by rw[b2.out];exact qA _)] at L;have F:D=u:=by rw[L,jw,qa]
 have HD:=hI F;have V:=hI (an R (show w.heap.size≤w.heap.size+1 by omega));clear L F U R;have cm:decide ((k:Int)<(k:Int))=false:=by simp
 go_wp2_with fail
 go_ret;exact⟨G,u.length,W,rfl,by rw[←b5.out,HD.out];exact V,by omega,a6⟩})}
theorem jm (P:OA)(n c:Nat)(C:OA)(m d:Nat)(t:Tb)(F:bl t)(A:OA)(l M:Nat)(u:LI)(V:u.length≤3)(h:Nat)(R:(h:Int)<t.boats)(w:World)(N:RdT w P n C m t)(T:Rd w 1 A l (ints u)):Calls prog 121 #[.agg #[t.boats,.slice P n c,.slice C m d],.slice A l M,h] w λe w'=>e=.returned (.int .i64 (cz t u h))∧BL w w':=by{
 obtain⟨wa,W,L,B,ad⟩:=ae w #[t.boats,.slice P n c,.slice C m d] 76;have J:=hI W;have G:=hI B;have H:=hI (kW P n c C m d t F A l M u V h R wa (N.below B) (T.below B));have O:∀x∈cntT t u h,0≤x∧x≤10000:=λx I=>gS F I
 have av:=cT F u h;have U:cz t u h=de (cntT t u h):=rfl;rw[U];generalize cntT t u h=X at *;have Z:=hI O;have Y:=L.f3;clear W B ad N T F R L U O V;go_enter func121,ntmps121;go_wp2_with fail
 rw[←J.out];clear J;go_wp2_with fail
 refine H.mono ?_;rintro e w2⟨_,B,_,rfl,F,N,J⟩;have R:=zb G J;have L:=hI (eU F);have ar:B≤12:=by have:=L.out;omega
 have W:=az F;clear F J Y H N G;go_wp2_with fail
 have F:=hI (show de X=0+de (X.drop 0) from by simp);go_loop [7,15] (λv i=>∃(k:Nat) (S:Int),k≤B∧i=.int .i64 k∧v=.int .i64 S∧0≤S∧S≤10000*k∧Hid (de X=S+de (X.drop k))) (λ_ i=>B-(intOf i).toNat)
 case atStart=>exact⟨0,0,qH _,rfl,rfl,by omega,by omega,F⟩
 case round=>(
 clear F;obtain⟨k,S,_,rfl,rfl,_,_,H⟩:=hrel;by_cases O:k<B
 {
 have V:decide ((k:Int)<(B:Int))=true:=by simpa using O
 obtain⟨b,o,x,G,I,N,U⟩:=W.int O;injection G with G;injection G with G T;subst G T;obtain⟨_,_⟩:=Z x (qF I);simp only[Nat.zero_add] at U;have F:=H.out;rw[N,de] at F;have J:=hI (show de X=(S+x)+de (X.drop (k+1)) from by omega);clear F H I N;go_wp2_with fail
 go_round
 case rel=>exact⟨k+1,S+x,by omega,by go_num,by go_num,by omega,by omega,J⟩
 case measure=>simp[intOf]<;>omega}
 {
 obtain rfl:k=B:=by omega
 have V:decide ((k:Int)<(k:Int))=false:=by simp
 have F:=H.out;rw[qK (by rw[L.out];exact qA _),de] at F;have J:=hI F;clear F H;go_wp2_with fail
 go_ret;exact⟨dK (by rw[J.out];omega),R⟩})}
theorem lO (P:OA)(n c:Nat)(C:OA)(m d:Nat)(t:Tb)(G:bl t)(A:OA)(l M:Nat)(u:LI)(T:u.length≤3)(h:Nat)(N:(h:Int)<t.boats)(w:World)(L:RdT w P n C m t)(O:Rd w 1 A l (ints u)):Calls prog 122 #[.agg #[t.boats,.slice P n c,.slice C m d],.slice A l M,h] w (Fq w (fu t u h)):=by{
 obtain⟨wa,U,I,F,W⟩:=ae w #[t.boats,.slice P n c,.slice C m d] 76;have H:=hI U;have B:=hI F;have J:=hI (kW P n c C m d t G A l M u T h N wa (L.below F) (O.below F));have ad:=cT G u h;have R:fu t u h=aU ll (cntT t u h):=rfl;rw[R];generalize cntT t u h=X at *;have V:=I.f3;clear U F W L O G N I R T;go_enter func122,ntmps122;go_wp2_with fail
 rw[←H.out];clear H;go_wp2_with fail
 refine J.mono ?_;rintro e Z⟨F,H,N,rfl,G,U,O⟩;have I:=zb B O;have R:=hI (eU G);have T:H≤12:=by have:=R.out;omega
 have L:=hI (re F N H _ X Z T G);have Y:w.heap.size≤F:=by have:=(G.lt F rfl).1;have:=B.size;omega
 have W:=B.size;clear G O V J U B;go_wp2_with fail
 refine L.mono ?_;rintro e U⟨rfl,G,B⟩;have J:=hI (ao I B Y I.size);have O:=hI (an G W);clear G B L;go_wp2_with fail
 go_ret;exact⟨F,H,N,rfl,O,by omega,J⟩}
section
open Go.Shelf
attribute [local go_sem] Oper.semAt_some
def pi (h k:Nat):List Nat:=(List.range k).map λj=>h-1-j
theorem pH (h k:Nat):pi h (k+1)=pi h k++[h-1-k]:=by unfold pi;rw[List.range_succ,qf];rfl
theorem EF (h k:Nat):(pi h k).length=k:=by simp[pi]
theorem nS {u k x:Nat}:x∈pi u k↔∃j,j<k∧x=u-1-j:=by{
 unfold pi;rw[List.mem_map];constructor
 {
 rintro⟨j,h,rfl⟩;exact⟨j,List.mem_range.1 h,rfl⟩}
 {
 rintro⟨j,h,rfl⟩;exact⟨j,List.mem_range.2 h,rfl⟩}}
abbrev Pl (h:Nat):={ k:Nat // k<h }
def Fw (h:Nat) (u:Nat→Value) (x:Pl h):Array Value:=#[.int .i64 (x.1:Int),u x.1]
theorem Gt (I:Fence)(n:Nat)(hF:I.fn 179)(a6:I.round=none)(hn:1≤n)(l H N:Nat)(A:OA)(h ar:Nat)(ba:h≤1048576)(Z:Nat→Value)(G T:List (Pl h)→World→Prop)(B:World)(hY:∀u x B,G u B→u.length<h→YieldAt I (n-1) prog l (Fw h Z x) B λe F=>(e=.returned (.bool true)∧G (u++[x]) F∧Below N B F)∨(e=.returned (.bool false)∧T (u++[x]) F))(av:H<N)(a1:B.cell? ⟨H,0,none⟩=some (.slice A h ar))(hc:∀b o,A=some ⟨b,o,none⟩→∀j,j<h→b<N∧B.cell? ⟨b,o+j,none⟩=some (Z j))(hA:0<h→∃b o,A=some ⟨b,o,none⟩)(h0:G [] B):CallsIn I n prog 179 #[.func (.yield l) #[] #[],.pointer (some ⟨H,0,none⟩)] B λe F=>(∃v,e=.returned v)∧((∃J,J.map (·.1)=pi h h∧G J F)∨(∃u,(∃k,k<h∧u.map (·.1)=pi h (k+1))∧T u F)):=by{
 refine callsIn_of_wp func179 rfl hF ?_ a6;simp only[ntmps179,List.size_toArray,qO,qT,Nat.reduceAdd,Nat.reduceSub,Array.replicate_succ,Array.replicate_zero,List.push_toArray,List.append_toArray,List.nil_append,List.cons_append];gi_wp2
 gi_loopw [3] (λi wr=>∃(z:Int) (u:List (Pl h)),i=.int .i64 z∧-1≤z∧z≤(h:Int)-1∧u.map (·.1)=pi h ((h:Int)-1-z).toNat∧G u wr∧Below N B wr) (λi _=>(intOf i+1).toNat)
 case atStart=>exact⟨(h:Int)-1,[],by first|rfl|go_num,by omega,by omega,by rw[show((h:Int)-1-((h:Int)-1)).toNat=0 by omega];rfl,h0,qB _ _⟩
 case round=>(
 obtain⟨z,u,rfl,_,_,L,O,M⟩:=hrel;have J:=hI L;clear L;have a7:=(M.cell (p:=⟨H,0,none⟩) av).trans a1;by_cases Y:0≤z
 {
 obtain⟨j,rfl⟩:=aC z Y;have L:j<h:=by omega
 obtain⟨b,o,rfl⟩:=hA (by omega);obtain⟨a2,U⟩:=hc b o rfl j L;have a8:=(M.cell (p:=⟨b,o+j,none⟩) a2).trans U;have V:u.length<h:=by{
 have:=congrArg List.length J;rw[qV,EF] at this;omega}
 obtain⟨_,tmps,assign,body,hy,hR⟩:=hY u ⟨j,L⟩ wr O V;have W:(u++[(⟨j,L⟩:Pl h)]).map (·.1)=pi h (h-1-j+1):=by{
 rw[qf,J.out,show((h:Int)-1-(j:Int)).toNat=h-1-j by omega,pH];congr 1;show [j]=[h-1-(h-1-j)];congr 1;omega}
 have R:=hI W;have ad:=hI M;simp only[Fw] at hy;have a':decide ((0:Int)≤(j:Int))=true:=by simp
 clear U V W M Y O;gi_wp2
 refine hR.mono ?_;rintro e W3 (⟨rfl,U,W⟩|⟨rfl,V⟩)
 {
 gi_wp2
 go_roundw
 case rel=>exact⟨(j:Int)-1,u++[⟨j,L⟩],by first|rfl|go_num,by omega,by omega,by rw[R.out];congr 1;omega,U,ad.trans W⟩
 case measure=>simp[intOf]<;>omega}
 {
 gi_wp2
 refine bodyPost_ret (results_none rfl _ _ _) rfl ?_;exact⟨⟨_,rfl⟩,.inr ⟨_,⟨h-1-j,by omega,R⟩,V⟩⟩}}
 {
 have U:z=-1:=by omega
 subst U;have L:=J.out;rw[show((h:Int)-1-(-1)).toNat=h by omega] at L;have R:=hI L;clear L J;gi_wp2
 go_end0;exact⟨⟨_,rfl⟩,.inl ⟨_,R,O⟩⟩})}
theorem rj (h:Fence)(n:Nat)(F:h.fn 123)(G:h.round=none)(A:OA)(B u:Nat)(w:World):CallsIn h n prog 123 #[.slice A B u] w λe H=>e=.returned (.func (.func 179) #[] #[.pointer (some ⟨w.heap.size,0,none⟩)])∧H=w.alloc (.cells #[.slice A B u] 74):=by{
 refine callsIn_of_wp func123 rfl F ?_ G;simp only[ntmps123,List.size_toArray,qO,qT,Nat.reduceAdd,Nat.reduceSub,Array.replicate_succ,Array.replicate_zero,List.push_toArray,List.append_toArray,List.nil_append,List.cons_append];gi_wp2
 go_ret;exact⟨rfl,rfl⟩}
theorem lT (F:Fence)(n:Nat)(V:F.fn 179)(ad:F.round=none)(Z:1≤n)(u B:Nat)(A:OA)(h I:Nat)(Y:h≤1048576)(H:Nat→Value)(w:World)(T:u<B)(ar:B≤w.heap.size)(U:w.cell? ⟨u,0,none⟩=some (.slice A h I))(hc:∀b o,A=some ⟨b,o,none⟩→∀j,j<h→b<B∧w.cell? ⟨b,o+j,none⟩=some (H j))(R:0<h→∃b o,A=some ⟨b,o,none⟩):SeqStopsK F n prog 179 #[.pointer (some ⟨u,0,none⟩)] (Fw h H) (Below B) (λG=>G.map (·.1)=pi h h) (λG=>∃k,k<h∧G.map (·.1)=pi h (k+1)) h w:=λl L M N J hJ _ W O=>Gt F n V ad Z l u B A h I Y H L M N W T ((J.cell (p:=⟨u,0,none⟩) (show u<w.heap.size by omega)).trans U) (λb o e j G=>⟨(hc b o e j G).1,(J.cell (p:=⟨b,o+j,none⟩) (show b<w.heap.size by have:=(hc b o e j G).1;omega)).trans (hc b o e j G).2⟩) R O
end
end Go.Proofs.YtnpldahkhaacnaaGreatDoor

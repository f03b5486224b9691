/- Texts of the walk: Zw. -/
import Derived.BigRegion
import Derived.Test.YtnpldahkhaacnaaGreatDoorYaq
set_option linter.unusedVariables false
set_option linter.unusedSimpArgs false
set_option maxRecDepth 100000
set_option maxHeartbeats 32000000
namespace Go.Proofs.YtnpldahkhaacnaaGreatDoor
open Go.RowKit Go.Sort Go.Proofs.Tryz
theorem lS {B u:Nat}{w F:World}(h:aK B u w F)(q:Nat):aK B u w (F.drewN q):=⟨h.os,h.tape,h.output,h.size,h.block⟩
theorem vM {u h:Nat}{w B:World}(F:aK u h w B){g i:Nat}(G:u≤g)(H:g<h)(v:Value):aK u h w (B.setCell ⟨g,i,none⟩ v):=F.trans ⟨rfl,rfl,rfl,by simp[World.setCell],λk I J=>Below.heap_setCell _ _ _ _ (by simp;omega)⟩
theorem yW {u B:LI}{p:Nat}{x y:Int}(F:∀z∈B,z∈u)(G:x∈u)(H:y∈u):∀z∈(B.set (p+1) y).set p x,z∈u:=by{
 intro z h;rcases List.mem_or_eq_of_mem_set h with h|rfl
 {
 rcases List.mem_or_eq_of_mem_set h with h|rfl
 {exact F z h}
 {exact H}}
 {exact G}}
theorem tq (g c n ad:Nat)(H:LI)(P:OA)(cf:Int→Int→Int)(F:Int→Int→Bool)(h:∀a b,decide (cf a b<0)=F a b)(w:World)(b0:n≤16)(B:w.ownsRow ad 2 1 (.slice (some ⟨g,0,none⟩) n c) n (ints H))(hc:∀V,aK g (g+1) w V→∀a b:Int,a∈H→b∈H→Calls prog 120 #[.int .i64 a,.int .i64 b,.pointer P] V λe w'=>e=.returned (.int .i64 (cf a b))∧BL V w'):Calls prog 248 #[.slice (some ⟨g,0,none⟩) n c,(0:Int),(n:Int),.func (.func 120) #[] #[.pointer P]] w λe w'=>e=.returned (.tuple #[])∧w'.ownsRow ad 2 1 (.slice (some ⟨g,0,none⟩) n c) n (ints (aU F H))∧aK g (g+1) w w':=by{
 have bs:=hI h;have HC:=hI hc;have HN:=hI (eU B);have hg:=B.lt g rfl;clear h hc;go_enter func248,ntmps248;go_wp2_with fail
 go_loopw [8] (λi wr=>∃(k:Nat) (M:LI),1≤k∧k≤n+1∧k≤17∧i=.int .i64 k∧cK F (n-k) k M=aU F H∧(∀x∈M,x∈H)∧wr.ownsRow ad 2 1 (.slice (some ⟨g,0,none⟩) n c) n (ints M)∧aK g (g+1) w wr) (λi _=>17-(intOf i).toNat)
 case atStart=>exact⟨1,H,by omega,by omega,by omega,rfl,by unfold aU;rw[HN.out],λx av=>av,B,aK.refl _ _ _⟩
 case round=>(
 obtain⟨k,M,_,_,_,rfl,I,G,u,h⟩:=hrel;clear B;have U:=hI I;have HM:=hI G;clear I G;by_cases bW:k<n
 {
 have e:n-k=(n-(k+1))+1:=by omega
 rw[e,cK] at U;clear e;go_wp2_with fail
 go_loopw [9] (λi wr=>∃(j:Nat) (G:LI),j≤k∧i=.int .i64 j∧Hid (dE F j G=dE F k M)∧(∀x∈G,x∈H)∧wr.ownsRow ad 2 1 (.slice (some ⟨g,0,none⟩) n c) n (ints G)∧aK g (g+1) w wr) (λi _=>(intOf i).toNat)
 case atStart=>exact⟨k,M,qA _,rfl,rfl,HM,u,h⟩
 case round=>(
 clear u h;obtain⟨j,G,_,rfl,HI,B,u,h⟩:=hrel;have R:=hI B;clear B;by_cases hj:j=0
 {
 subst hj;go_wp2_with fail
 go_quiet (fail)
 go_wp2_with fail
 go_roundw
 case rel=>exact⟨k+1,G,by omega,by omega,by omega,by go_num,by rw[←U.out,←HI.out,dE],R,(bI.refl _).own u,lS h _⟩
 case measure=>simp[intOf];omega}
 {
 obtain⟨p,rfl⟩:∃p,j=p+1:=⟨j-1,by omega⟩;obtain⟨g1,x,O,_,_,B,I,bb⟩:=aY u (k:=p+1) (by omega);obtain rfl:g=g1:=by injection O with e;injection e
 obtain⟨g2,y,T,_,_,N,L,bk⟩:=aY u (k:=p) (by omega);obtain rfl:g=g2:=by injection T with e;injection e
 have bp:=R x (qF B);have bq:=R y (qF N);have ar:=λV av=>HC V av x y bp bq
 have W:dE F (p+1) G=if F x y then dE F p ((G.set (p+1) y).set p x) else G:=by{rw[dE,kF,qC,qC,B,N];rfl}
 have bn:=bs x y;have J:=hI W;have HX:=hI B;have HY:=hI N;clear O T W B N;have b1:IntKind.i64.wrap (((p+1:Nat):Int)-1)=(p:Int):=by rw[IntWalk.i64_in _ (by omega)];omega
 by_cases hb:F x y=true
 {
 rw[hb] at bn J;rw[if_pos rfl] at J;generalize cf x y=v at *;have N:=hI (λd Y=>ar (grow (redrawn wr d) Y) (h.trans (aK.of_below (below_regrown wr d Y))));clear ar;have bt:decide (0<p+1)=true:=by simp
 have T:=hI u;have O:=hI h;clear u h;go_wp2_with fail
 have a6:=cell_regrown (I);have a7:=cell_regrown (L);refine wp_region_quiet_below (by kernel_rfl) (by kernel_rfl) ?_;repeat (first|go_big_quiet_step ((first|(go_at_call 120;(with_reducible exact Calls.regrown_of (N.out _ _)))))|quiet_step ((first|(go_at_call 120;(with_reducible exact Calls.regrown_of (N.out _ _))))))
 refine wpQuiet_nil ?_;intro _ a1;obtain⟨⟨dq,a8⟩,a2⟩:=a1;subst a2;obtain⟨wq,W,B⟩:∃Z,Z=grow (redrawn wr dq) a8∧BL wr Z:=⟨_,rfl,below_regrown _ _ _⟩;rw[←W];clear W a6 a7;go_wp2_with fail
 have bv:=(B.cell (p:=⟨g,p+1,none⟩) (au I)).trans I;have bN:=(B.cell (p:=⟨g,p,none⟩) (au L)).trans L;have bO:=(B.frozen (p:=⟨g,p+1,none⟩) (au I)).trans bb;have bP:=(B.frozen (p:=⟨g,p,none⟩) (au L)).trans bk;replace T:=hI (aa T B);replace O:=hI (O.trans (aK.of_below B));have bR:=qe (au I) B.size;clear I L bb bk B;go_region
 have bo:=dn (k:=p) (dn (k:=p+1) T y) x;have ba:=lS (vM (i:=p) (vM (i:=p+1) O (qA _) (qj _) (.int .i64 y)) (qA _) (qj _) (.int .i64 x)) 1;have O3:=hI bo;have C3:=hI ba;clear bo ba;go_wp2_with fail
 go_roundw
 case rel=>exact⟨p,_,by omega,by go_num,by unfold Hid;rw[←HI.out,J.out],yW R bp bq,(bI.refl _).own O3,C3⟩
 case measure=>simp[intOf]}
 {
 have a':F x y=false:=by simpa using hb
 rw[a'] at bn J;rw[if_neg (by simp)] at J;clear hb a';generalize cf x y=v at *;have N:=hI (λd Y=>ar (grow (redrawn wr d) Y) (h.trans (aK.of_below (below_regrown wr d Y))));clear ar;have bt:decide (0<p+1)=true:=by simp
 have T:=hI u;have O:=hI h;clear u h;go_wp2_with fail
 have a6:=cell_regrown (I);have a7:=cell_regrown (L);refine wp_region_quiet_below (by kernel_rfl) (by kernel_rfl) ?_;repeat (first|go_big_quiet_step ((first|(go_at_call 120;(with_reducible exact Calls.regrown_of (N.out _ _)))))|quiet_step ((first|(go_at_call 120;(with_reducible exact Calls.regrown_of (N.out _ _))))))
 refine wpQuiet_nil ?_;intro _ a1;obtain⟨⟨dq,a8⟩,a2⟩:=a1;subst a2;obtain⟨wq,W,B⟩:∃Z,Z=grow (redrawn wr dq) a8∧BL wr Z:=⟨_,rfl,below_regrown _ _ _⟩;rw[←W];clear W a6 a7;go_wp2_with fail
 go_roundw
 case rel=>exact⟨k+1,G,by omega,by omega,by omega,by go_num,by rw[←U.out,←HI.out,J.out],R,aa T B,O.trans (aK.of_below B)⟩
 case measure=>simp[intOf];omega}})}
 {
 have e:n-k=0:=by omega
 rw[e,cK] at U;go_wp2_with fail
 go_end0;exact⟨rfl,by rw[←U.out];exact u,h⟩})}
theorem ra (g c n B:Nat)(u:LI)(P:OA)(H:Int→Int→Int)(F:Int→Int→Bool)(I:∀a b,decide (H a b<0)=F a b)(w:World)(R:n≤16)(J:w.ownsRow B 2 1 (.slice (some ⟨g,0,none⟩) n c) n (ints u))(hc:∀G,aK g (g+1) w G→∀a b:Int,a∈u→b∈u→Calls prog 120 #[.int .i64 a,.int .i64 b,.pointer P] G λe h=>e=.returned (.int .i64 (H a b))∧BL G h):Calls prog 119 #[.slice (some ⟨g,0,none⟩) n c,.func (.func 120) #[] #[.pointer P]] w λe h=>e=.returned (.tuple #[])∧h.ownsRow B 2 1 (.slice (some ⟨g,0,none⟩) n c) n (ints (aU F u))∧aK g (g+1) w h:=by{
 have N:=hI (tq g c n B u P H F I w R J hc);clear J hc I;have L:Calls prog 176 #[.slice (some ⟨g,0,none⟩) n c,(n:Int),.func (.func 120) #[] #[.pointer P]] w λe h=>e=.returned (.tuple #[])∧h.ownsRow B 2 1 (.slice (some ⟨g,0,none⟩) n c) n (ints (aU F u))∧aK g (g+1) w h:=by{
 have T:decide ((20:Int)≤(n:Int))=false:=by simp;omega
 have U:decide ((20:Int)<(n:Int))=false:=by simp;omega
 go_enter func176,ntmps176;go_wp2_with fail
 go_loopw [7,8] (λa b wr=>a=.int .i64 0∧b=.int .i64 20∧wr=w) (λ_ _ _=>0)
 case atStart=>exact⟨rfl,rfl,rfl⟩
 case round=>(
 obtain⟨rfl,rfl,rfl⟩:=hrel;go_wp2_with fail
 refine N.mono ?_;rintro e M⟨rfl,J,I⟩;go_wp2_with fail
 go_loopw [6] (λa wr=>a=.int .i64 20∧wr=M) (λ_ _=>0)
 case atStart=>exact⟨rfl,rfl⟩
 case round=>(
 obtain⟨rfl,rfl⟩:=hrel;go_wp2_with fail
 go_end0;exact⟨rfl,J,I⟩))}
 have O:=hI L;clear L;go_enter func119,ntmps119;go_wp2_with fail
 refine O.mono ?_;rintro e M⟨rfl,J,I⟩;go_wp2_with fail
 go_end0;exact⟨rfl,J,I⟩}
theorem vr (v:Int):decide (dY v<0)=decide (v<0):=by simp only[oF]
theorem gR (v:Int)(w:World):Calls prog 89 #[v] w λe B=>e=.returned (.int .i64 (dY v))∧w=B:=by{
 by_cases h:v<0
 {
 have e:dY v=-1:=by unfold dY;rw[if_pos h]
 rw[e];go_enter func89,ntmps89;go_wp2_with fail
 go_ret;refine⟨dK ?_,rfl⟩;omega}
 {
 by_cases u:0<v
 {
 have e:dY v=1:=by unfold dY;rw[if_neg h,if_pos u]
 rw[e];go_enter func89,ntmps89;go_wp2_with fail
 go_ret;refine⟨dK ?_,rfl⟩;omega}
 {
 have e:dY v=0:=by unfold dY;rw[if_neg h,if_neg u]
 obtain rfl:v=0:=by omega
 rw[e];go_enter func89,ntmps89;go_wp2_with fail
 go_ret;exact⟨rfl,rfl⟩}}}
theorem Fc (B:Nat)(a b v:Int)(G H:OA)(h:World)(L:h.cell? ⟨B,0,none⟩=some (.func (.func 291) #[] #[.pointer G,.pointer H]))(hc:Calls prog 291 #[a,b,.pointer G,.pointer H] h λe u=>e=.returned (.int .i64 v)∧BL h u):Calls prog 120 #[a,b,.pointer (some ⟨B,0,none⟩)] h λe u=>e=.returned (.int .i64 (dY v))∧BL h u:=by{
 have I:=hI hc;clear hc;go_enter func120,ntmps120;go_wp2_with fail
 refine I.mono ?_;rintro e M⟨rfl,F⟩;have J:=hI F;clear F;go_wp2_with fail
 refine(gR _ _).mono ?_;rintro e F⟨rfl,rfl⟩;go_wp2_with fail
 go_ret;exact⟨rfl,J⟩}
theorem mW (n:Nat)(hn:n≤16)(H I:OA)(L:Int→Int→Int)(O:Int→Int→Bool)(V:∀a b,decide (L a b<0)=O a b)(w:World)(hc:∀u,BL w u→∀a b:Int,0≤a→a<n→0≤b→b<n→Calls prog 291 #[.int .i64 a,.int .i64 b,.pointer H,.pointer I] u λe w'=>e=.returned (.int .i64 (L a b))∧BL u w'):Calls prog 77 #[(n:Int),.func (.func 291) #[] #[.pointer H,.pointer I]] w (pf w (aU O (ij n))):=by{
 have Z:=hI hc;clear hc;go_enter func77,ntmps77;go_wp2_with fail
 obtain⟨h,B⟩:∃h,h=w.alloc (.cells #[.func (.func 291) #[] #[.pointer H,.pointer I]] 105):=⟨_,rfl⟩;have N:h.cell? ⟨w.heap.size,0,none⟩=some (.func (.func 291) #[] #[.pointer H,.pointer I]):=by rw[B];exact dv _ _ _
 have G:h.heap.size=w.heap.size+1:=by rw[B];simp
 have J:BL w h:=by rw[B];exact(qB _ _).alloc (qA _) _
 have R:=df h h.heap.size 2 (qA _);have M:BL h (h.alloc (.cells #[] 2)):=(qB _ _).alloc (qA _) _;rw[←B];rw[show w.heap.size+1=h.heap.size from G.symm];have F:=hI J;have ad:=hI N;have a1:=hI G;clear B J N G;go_loopw [5,6,9] (λv _ i wr=>∃(k G J:Nat),k≤n∧i=.int .i64 k∧v=.slice (some ⟨G,0,none⟩) k J∧wr.ownsRow h.heap.size 2 1 (.slice (some ⟨G,0,none⟩) k J) k (ints ((ij n).take k))∧BL h wr) (λ_ _ i _=>n-(intOf i).toNat)
 case atStart=>exact⟨0,_,0,qH _,rfl,rfl,R,M⟩
 case round=>(
 clear R M;obtain⟨k,G,J,_,rfl,rfl,B,M⟩:=hrel;have N:=M.size;by_cases av:k<n
 {
 go_wp2_with(at_builtin;refine nP _ rfl _ _ rfl rfl (B.alloc _) rfl (dv _ _ _) (by omega) ?cB ?_;rotate_left;intro U W w1 R T)
 {
 obtain⟨_,_,rfl,_,_,_⟩:=je R (k:=0) (by omega);go_roundw
 case rel=>(exact⟨k+1,_,_,by omega,by go_num,rfl,by rw[am (ww av)];exact R,iF M N (qA _) B T⟩)
 case measure=>simp[intOf];omega}
 {simp;omega}}
 {
 obtain rfl:k=n:=by omega
 rw[qI (by rw[dg];omega)] at B;have W:=B.lt G rfl;have Y:=ra G J k h.heap.size (ij k) (some ⟨w.heap.size,0,none⟩) (λa b=>dY (L a b)) O (λa b=>by rw[vr];exact V a b) wr hn B (λu hW a b ha ar=>by{
 have R:=ki.1 ha;have T:=ki.1 ar;have U:BL h u:=ao M hW W.1 N;refine Fc w.heap.size a b (L a b) H I u ?_ (Z u (F.trans (U.mono F.size)) a b R.1 R.2 T.1 T.2);exact fW.below U _ _ ad})
 have R:=hI Y;clear Y B V;go_wp2_with fail
 refine R.mono ?_;rintro e w1⟨rfl,B,Y⟩;have U:=ao M Y W.1 N;have V:=F.trans (U.mono F.size);have T:=hI (an B F.size);clear B;go_wp2_with fail
 go_ret;exact⟨_,_,_,rfl,T,by omega,V⟩})}
theorem Gf (B:Nat)(a b v:Int)(G H:OA)(h:World)(L:h.cell? ⟨B,0,none⟩=some (.func (.func 78) #[] #[.pointer G,.pointer H]))(hc:Calls prog 78 #[a,b,.pointer G,.pointer H] h λe u=>e=.returned (.int .i64 v)∧BL h u):Calls prog 120 #[a,b,.pointer (some ⟨B,0,none⟩)] h λe u=>e=.returned (.int .i64 (dY v))∧BL h u:=by{
 have I:=hI hc;clear hc;go_enter func120,ntmps120;go_wp2_with fail
 refine I.mono ?_;rintro e M⟨rfl,F⟩;have J:=hI F;clear F;go_wp2_with fail
 refine(gR _ _).mono ?_;rintro e F⟨rfl,rfl⟩;go_wp2_with fail
 go_ret;exact⟨rfl,J⟩}
theorem nr (n:Nat)(hn:n≤16)(H I:OA)(L:Int→Int→Int)(O:Int→Int→Bool)(V:∀a b,decide (L a b<0)=O a b)(w:World)(hc:∀u,BL w u→∀a b:Int,0≤a→a<n→0≤b→b<n→Calls prog 78 #[.int .i64 a,.int .i64 b,.pointer H,.pointer I] u λe w'=>e=.returned (.int .i64 (L a b))∧BL u w'):Calls prog 77 #[(n:Int),.func (.func 78) #[] #[.pointer H,.pointer I]] w (pf w (aU O (ij n))):=by{
 have Z:=hI hc;clear hc;go_enter func77,ntmps77;go_wp2_with fail
 obtain⟨h,B⟩:∃h,h=w.alloc (.cells #[.func (.func 78) #[] #[.pointer H,.pointer I]] 105):=⟨_,rfl⟩;have N:h.cell? ⟨w.heap.size,0,none⟩=some (.func (.func 78) #[] #[.pointer H,.pointer I]):=by rw[B];exact dv _ _ _
 have G:h.heap.size=w.heap.size+1:=by rw[B];simp
 have J:BL w h:=by rw[B];exact(qB _ _).alloc (qA _) _
 have R:=df h h.heap.size 2 (qA _);have M:BL h (h.alloc (.cells #[] 2)):=(qB _ _).alloc (qA _) _;rw[←B];rw[show w.heap.size+1=h.heap.size from G.symm];have F:=hI J;have ad:=hI N;have a1:=hI G;clear B J N G;go_loopw [5,6,9] (λv _ i wr=>∃(k G J:Nat),k≤n∧i=.int .i64 k∧v=.slice (some ⟨G,0,none⟩) k J∧wr.ownsRow h.heap.size 2 1 (.slice (some ⟨G,0,none⟩) k J) k (ints ((ij n).take k))∧BL h wr) (λ_ _ i _=>n-(intOf i).toNat)
 case atStart=>exact⟨0,_,0,qH _,rfl,rfl,R,M⟩
 case round=>(
 clear R M;obtain⟨k,G,J,_,rfl,rfl,B,M⟩:=hrel;have N:=M.size;by_cases av:k<n
 {
 go_wp2_with(at_builtin;refine nP _ rfl _ _ rfl rfl (B.alloc _) rfl (dv _ _ _) (by omega) ?cB ?_;rotate_left;intro U W w1 R T)
 {
 obtain⟨_,_,rfl,_,_,_⟩:=je R (k:=0) (by omega);go_roundw
 case rel=>(exact⟨k+1,_,_,by omega,by go_num,rfl,by rw[am (ww av)];exact R,iF M N (qA _) B T⟩)
 case measure=>simp[intOf];omega}
 {simp;omega}}
 {
 obtain rfl:k=n:=by omega
 rw[qI (by rw[dg];omega)] at B;have W:=B.lt G rfl;have Y:=ra G J k h.heap.size (ij k) (some ⟨w.heap.size,0,none⟩) (λa b=>dY (L a b)) O (λa b=>by rw[vr];exact V a b) wr hn B (λu hW a b ha ar=>by{
 have R:=ki.1 ha;have T:=ki.1 ar;have U:BL h u:=ao M hW W.1 N;refine Gf w.heap.size a b (L a b) H I u ?_ (Z u (F.trans (U.mono F.size)) a b R.1 R.2 T.1 T.2);exact fW.below U _ _ ad})
 have R:=hI Y;clear Y B V;go_wp2_with fail
 refine R.mono ?_;rintro e w1⟨rfl,B,Y⟩;have U:=ao M Y W.1 N;have V:=F.trans (U.mono F.size);have T:=hI (an B F.size);clear B;go_wp2_with fail
 go_ret;exact⟨_,_,_,rfl,T,by omega,V⟩})}
end Go.Proofs.YtnpldahkhaacnaaGreatDoor

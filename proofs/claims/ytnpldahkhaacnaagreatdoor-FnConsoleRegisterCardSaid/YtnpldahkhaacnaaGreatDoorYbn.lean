/- Texts of the walk: Nx Ok Ob. -/
import Derived.Test.YtnpldahkhaacnaaGreatDoorYay
import Derived.Test.YtnpldahkhaacnaaGreatDoorYbm
import Derived.Test.YtnpldahkhaacnaaGreatDoorYbk
set_option linter.unusedVariables false
set_option linter.unusedSimpArgs false
set_option maxRecDepth 100000
set_option maxHeartbeats 32000000
namespace Go.Proofs.YtnpldahkhaacnaaGreatDoor
open Go.RowKit Go.Sort Go.Proofs.Tryz
theorem jy:bL 6=[101,114,114,111,114,32,54]:=by{
 unfold bL;rw[show((6:Int).toNat)=6 from rfl,bZ (by decide)];decide}
theorem pY (t f:Int):∃c:Nat,eB t f=(c:Int)∧c≤9:=by{
 unfold eB;split
 {exact⟨0,rfl,by omega⟩}
 {exact⟨2,rfl,by omega⟩}}
theorem se (l:List du):∃c:Nat,(cD l).2=(c:Int)∧c≤9:=by{
 unfold cD;split
 {
 split
 {
 split
 {exact⟨4,rfl,by omega⟩}
 {exact⟨0,rfl,by omega⟩}}
 {exact⟨5,rfl,by omega⟩}}
 {exact⟨1,rfl,by omega⟩}}
theorem uq (h:LB)(hL:h.length≤2097152)(w:World)(N:∀B,BL w B→gu B):Calls prog 100 #[.string (ag h)] w λe B=>e=.returned (.string (ag (fX h)))∧BL w B:=by{
 have H:=hI (tJ h hL w N);have O:=hI N;unfold eN at H;by_cases F:h=[]
 {
 have hE:(ag h).toList.isEmpty=true:=by rw[F,ByteArray.toList_eq,aw];rfl
 have G:=hI (show ag (fX h)=⟨#[101,114,114,111,114,32,54]⟩ from by unfold fX;rw[if_pos F,jy];rfl);rw[show fm h=some [] from by rw[F];rfl] at H;clear F;generalize ag h=s at *;go_enter func100,ntmps100;go_wp2_with fail
 refine H.mono ?_;rintro e W⟨A,n,c,rfl,-,u⟩;have J:=hI u;clear u;go_wp2_with fail
 go_ret;exact⟨by rw[G.out];rfl,J⟩}
 have hE:(ag h).toList.isEmpty=false:=by rw[ByteArray.toList_eq,aw];cases h with|nil=>exact absurd rfl F|cons c r=>rfl
 cases I:fm h with
 | none=>{
 have G:=hI (show ag (fX h)=⟨#[101,114,114,111,114,32,54]⟩ from by unfold fX;rw[if_neg F,I];show ag (bL 6)=_;rw[jy];rfl);rw[I] at H;clear F I;generalize ag h=s at *;go_enter func100,ntmps100;go_wp2_with fail
 refine H.mono ?_;rintro e W⟨A,n,c,rfl,-,u⟩;have J:=hI u;clear u;simp only[Option.isSome_none];go_wp2_with fail
 go_ret;exact⟨by rw[G.out];rfl,J⟩}
 | some l=>{
 have G:=hI (show fX h=dG (aX (cD l).1.toNat) (cD l).2 from by unfold fX;rw[if_neg F,I]);rw[I] at H;obtain⟨U,ar⟩:=vt l;obtain⟨cN,L,T⟩:=se l;have R:=hI (λA n c B M=>AU A n c l B M);rw[L] at G;obtain⟨V,M⟩:=aC (cD l).1 U;have ad:=hI (λB (u:BL w B)=>kH V (by omega) B (λY Z=>(O Y (u.trans (Z.mono u.size))).pow));have Z:=hI (λB (u:BL w B)=>fG (aX V) cN T B (O B u).pow);rw[M,qP] at G;rw[L,M] at R;generalize fX h=SO at *;clear F I U ar L M T;generalize ag h=s at *;go_enter func100,ntmps100;go_wp2_with fail
 refine H.mono ?_;rintro e W⟨A,n,c,rfl,F,u⟩;have J:=hI u;have M:=hI (F l rfl);clear u F;simp only[Option.isSome_some];go_wp2_with fail
 refine(R _ _ _ _ M).mono ?_;rintro e Y⟨rfl,F⟩;have u:=zb J F;clear F;go_wp2_with fail
 refine(ad _ u).mono ?_;rintro e T⟨rfl,I⟩;have F:=zb u I;clear I;go_wp2_with fail
 refine(Z _ F).mono ?_;rintro e U⟨rfl,I⟩;have L:=zb F I;clear I;go_wp2_with fail
 go_ret;exact⟨by rw[G.out];rfl,L⟩}}
theorem rD (A:OA)(n c:Nat)(J:List LB)(w:World)(I:Rd w 1 A n (strs J))(L:∀x∈J,x.length≤2097152)(H:∀h,BL w h→gu h):Calls prog 102 #[.slice A n c] w λe h=>e=.returned (.string (ag (cS J)))∧BL w h:=by{
 have R:=I.len_str;have av:=hI H;by_cases bo:n≠2
 {
 have bs:((n:Int) !=2)=true:=by simp;omega
 have G:=hI (show ag (cS J)=⟨#[101,114,114,111,114,32,54]⟩ from by unfold cS;rw[if_neg (by omega),jy];rfl);clear bo I L R H;go_enter func102,ntmps102;go_wp2_with fail
 go_ret;exact⟨by rw[G.out];rfl,qB _ _⟩}
 obtain rfl:n=2:=by omega
 obtain⟨B,u,rfl⟩:∃B u,J=[B,u]:=by{
 match J,R with
 | [a,b],_=>exact⟨a,b,rfl⟩}
 obtain⟨_,_,y0,rfl,a7,-,Z⟩:=I.str (k:=0) (by omega);obtain⟨_,_,y1,W,a8,-,Y⟩:=I.str (k:=1) (by omega);injection W with W;injection W with e1 e2;subst e1 e2;obtain rfl:B=y0:=by simpa using a7
 obtain rfl:u=y1:=by simpa using a8
 simp only[qW] at Z;have ba:=hI Y;have a1:=hI (jV (ag B) (by rw[aj];exact L B (by simp)) w H);rw[aw] at a1;have U:=hI (λh (F:BL w h)=>pD (ag u) (by rw[aj];exact L u (by simp)) h (H h F).pow (H h F).err (λT V=>(H T (F.trans (V.mono F.size))).pow));rw[aw] at U;obtain⟨O,M⟩:∃z,z=cS [B,u]:=⟨_,rfl⟩;have N:O=match dX B with|none=>bL 6|some t=>if (aB u).2=true then dG (aX (dL t (aB u).1).toNat) (eB t (aB u).1) else bL 6:=by{
 rw[M];unfold cS;rw[if_pos (show [B,u].length=2 from rfl)];simp only[List.getD_cons_zero,List.getD_cons_succ];try (generalize dX B=bk;cases bk<;>rfl)}
 rw[←M];clear I L R H a7 a8 M;have L:=hI N;generalize aB u=sf at *;obtain⟨H,bq⟩:=sf;simp only at U N L;clear N;go_enter func102,ntmps102;go_wp2_with fail
 refine a1.mono ?_;rintro e w2⟨t,ok,rfl,M,I⟩;have ad:=hI I;have Y:=ab ba I;clear I;go_wp2_with fail
 refine(U _ ad).mono ?_;rintro e T⟨rfl,I⟩;have R:=zb ad I;clear I Y Z
 cases ok with
 | false=>{
 have G:=hI (show ag O=⟨#[101,114,114,111,114,32,54]⟩ from by rw[L.out,AZ M];show ag (bL 6)=_;rw[jy];rfl);clear M;go_wp2_with fail
 go_ret;exact⟨by rw[G.out];rfl,R⟩}
 | true=>{
 obtain⟨N,bp,_⟩:=wK M;obtain⟨I,rfl⟩:=aC t bp;rw[qP] at N
 cases bq with
 | false=>{
 have G:=hI (show ag O=⟨#[101,114,114,111,114,32,54]⟩ from by rw[L.out,N];show ag (bL 6)=_;rw[jy];rfl);clear M N;go_wp2_with fail
 go_ret;exact⟨by rw[G.out];rfl,R⟩}
 | true=>{
 have G:=hI (show O=dG (aX (dL I H).toNat) (eB I H) from by rw[L.out,N];rfl);have ar:=hI (λh=>uo (I:Int) H h);obtain⟨a6,bn⟩:=tp (I:Int) H;obtain⟨cN,Y,a2⟩:=pY (I:Int) H;obtain⟨kN,Z⟩:=aC (dL (I:Int) H) a6;have bb:=hI (λh (F:BL w h)=>kH kN (by omega) h (λT V=>(av T (F.trans (V.mono F.size))).pow));have a':=hI (λh (F:BL w h)=>fG (aX kN) cN a2 h (av h F).pow);rw[Y,Z,qP] at G;rw[Y,Z] at ar;clear M N a6 bn Y Z a2 L;go_wp2_with fail
 refine(ar _).mono ?_;rintro e h⟨rfl,rfl⟩;go_wp2_with fail
 refine(bb _ R).mono ?_;rintro e Y⟨rfl,M⟩;have L:=zb R M;clear M;go_wp2_with fail
 refine(a' _ L).mono ?_;rintro e Z⟨rfl,M⟩;have N:=zb L M;clear M;go_wp2_with fail
 go_ret;exact⟨by rw[G.out];rfl,N⟩}}}
def et (x:LB):Int:=if x=aq then 0 else if x=bM then 0 else if x=cY then 0 else if x=ff then 1 else if x=bf then 1 else if x=cP then 1 else if x=eL then 2 else if x=aW then 2 else -1
theorem fD {x m:LB}(h:x≠m):((ag x).toList==m)=false:=(al x m).trans (beq_eq_false_iff_ne.2 h)
theorem lP (x:LB)(w:World):Calls prog 106 #[.string (ag x)] w λe Y=>e=.returned (.int .i64 (et x))∧Y=w:=by{
 by_cases h:x=aq
 {
 subst h;have F:((ag aq).toList==[115,116,97,110,100,105,110,103])=true:=(al aq [115,116,97,110,100,105,110,103]).trans (by decide);have G:((ag aq).toList==[114,97,110,107,115])=false:=(al aq [114,97,110,107,115]).trans (by decide);have H:((ag aq).toList==[108,101,97,100])=false:=(al aq [108,101,97,100]).trans (by decide);have I:((ag aq).toList==[110,101,116])=false:=(al aq [110,101,116]).trans (by decide);have J:((ag aq).toList==[112,111,105,110,116,115])=false:=(al aq [112,111,105,110,116,115]).trans (by decide);have L:((ag aq).toList==[114,97,99,101])=false:=(al aq [114,97,99,101]).trans (by decide);have M:((ag aq).toList==[111,112,101,110])=false:=(al aq [111,112,101,110]).trans (by decide);have N:((ag aq).toList==[104,105,115,116,111,114,121])=false:=(al aq [104,105,115,116,111,114,121]).trans (by decide);go_enter func106,ntmps106;go_wp2_with fail
 go_ret;exact⟨rfl,rfl⟩}
 by_cases u:x=bM
 {
 subst u;have F:((ag bM).toList==[115,116,97,110,100,105,110,103])=false:=(al bM [115,116,97,110,100,105,110,103]).trans (by decide);have G:((ag bM).toList==[114,97,110,107,115])=true:=(al bM [114,97,110,107,115]).trans (by decide);have H:((ag bM).toList==[108,101,97,100])=false:=(al bM [108,101,97,100]).trans (by decide);have I:((ag bM).toList==[110,101,116])=false:=(al bM [110,101,116]).trans (by decide);have J:((ag bM).toList==[112,111,105,110,116,115])=false:=(al bM [112,111,105,110,116,115]).trans (by decide);have L:((ag bM).toList==[114,97,99,101])=false:=(al bM [114,97,99,101]).trans (by decide);have M:((ag bM).toList==[111,112,101,110])=false:=(al bM [111,112,101,110]).trans (by decide);have N:((ag bM).toList==[104,105,115,116,111,114,121])=false:=(al bM [104,105,115,116,111,114,121]).trans (by decide);clear h;go_enter func106,ntmps106;go_wp2_with fail
 go_ret;exact⟨rfl,rfl⟩}
 by_cases B:x=cY
 {
 subst B;have F:((ag cY).toList==[115,116,97,110,100,105,110,103])=false:=(al cY [115,116,97,110,100,105,110,103]).trans (by decide);have G:((ag cY).toList==[114,97,110,107,115])=false:=(al cY [114,97,110,107,115]).trans (by decide);have H:((ag cY).toList==[108,101,97,100])=true:=(al cY [108,101,97,100]).trans (by decide);have I:((ag cY).toList==[110,101,116])=false:=(al cY [110,101,116]).trans (by decide);have J:((ag cY).toList==[112,111,105,110,116,115])=false:=(al cY [112,111,105,110,116,115]).trans (by decide);have L:((ag cY).toList==[114,97,99,101])=false:=(al cY [114,97,99,101]).trans (by decide);have M:((ag cY).toList==[111,112,101,110])=false:=(al cY [111,112,101,110]).trans (by decide);have N:((ag cY).toList==[104,105,115,116,111,114,121])=false:=(al cY [104,105,115,116,111,114,121]).trans (by decide);clear h u;go_enter func106,ntmps106;go_wp2_with fail
 go_ret;exact⟨rfl,rfl⟩}
 by_cases O:x=ff
 {
 subst O;have F:((ag ff).toList==[115,116,97,110,100,105,110,103])=false:=(al ff [115,116,97,110,100,105,110,103]).trans (by decide);have G:((ag ff).toList==[114,97,110,107,115])=false:=(al ff [114,97,110,107,115]).trans (by decide);have H:((ag ff).toList==[108,101,97,100])=false:=(al ff [108,101,97,100]).trans (by decide);have I:((ag ff).toList==[110,101,116])=true:=(al ff [110,101,116]).trans (by decide);have J:((ag ff).toList==[112,111,105,110,116,115])=false:=(al ff [112,111,105,110,116,115]).trans (by decide);have L:((ag ff).toList==[114,97,99,101])=false:=(al ff [114,97,99,101]).trans (by decide);have M:((ag ff).toList==[111,112,101,110])=false:=(al ff [111,112,101,110]).trans (by decide);have N:((ag ff).toList==[104,105,115,116,111,114,121])=false:=(al ff [104,105,115,116,111,114,121]).trans (by decide);clear h u B;go_enter func106,ntmps106;go_wp2_with fail
 go_ret;exact⟨rfl,rfl⟩}
 by_cases R:x=bf
 {
 subst R;have F:((ag bf).toList==[115,116,97,110,100,105,110,103])=false:=(al bf [115,116,97,110,100,105,110,103]).trans (by decide);have G:((ag bf).toList==[114,97,110,107,115])=false:=(al bf [114,97,110,107,115]).trans (by decide);have H:((ag bf).toList==[108,101,97,100])=false:=(al bf [108,101,97,100]).trans (by decide);have I:((ag bf).toList==[110,101,116])=false:=(al bf [110,101,116]).trans (by decide);have J:((ag bf).toList==[112,111,105,110,116,115])=true:=(al bf [112,111,105,110,116,115]).trans (by decide);have L:((ag bf).toList==[114,97,99,101])=false:=(al bf [114,97,99,101]).trans (by decide);have M:((ag bf).toList==[111,112,101,110])=false:=(al bf [111,112,101,110]).trans (by decide);have N:((ag bf).toList==[104,105,115,116,111,114,121])=false:=(al bf [104,105,115,116,111,114,121]).trans (by decide);clear h u B O;go_enter func106,ntmps106;go_wp2_with fail
 go_ret;exact⟨rfl,rfl⟩}
 by_cases T:x=cP
 {
 subst T;have F:((ag cP).toList==[115,116,97,110,100,105,110,103])=false:=(al cP [115,116,97,110,100,105,110,103]).trans (by decide);have G:((ag cP).toList==[114,97,110,107,115])=false:=(al cP [114,97,110,107,115]).trans (by decide);have H:((ag cP).toList==[108,101,97,100])=false:=(al cP [108,101,97,100]).trans (by decide);have I:((ag cP).toList==[110,101,116])=false:=(al cP [110,101,116]).trans (by decide);have J:((ag cP).toList==[112,111,105,110,116,115])=false:=(al cP [112,111,105,110,116,115]).trans (by decide);have L:((ag cP).toList==[114,97,99,101])=true:=(al cP [114,97,99,101]).trans (by decide);have M:((ag cP).toList==[111,112,101,110])=false:=(al cP [111,112,101,110]).trans (by decide);have N:((ag cP).toList==[104,105,115,116,111,114,121])=false:=(al cP [104,105,115,116,111,114,121]).trans (by decide);clear h u B O R;go_enter func106,ntmps106;go_wp2_with fail
 go_ret;exact⟨rfl,rfl⟩}
 by_cases U:x=eL
 {
 subst U;have F:((ag eL).toList==[115,116,97,110,100,105,110,103])=false:=(al eL [115,116,97,110,100,105,110,103]).trans (by decide);have G:((ag eL).toList==[114,97,110,107,115])=false:=(al eL [114,97,110,107,115]).trans (by decide);have H:((ag eL).toList==[108,101,97,100])=false:=(al eL [108,101,97,100]).trans (by decide);have I:((ag eL).toList==[110,101,116])=false:=(al eL [110,101,116]).trans (by decide);have J:((ag eL).toList==[112,111,105,110,116,115])=false:=(al eL [112,111,105,110,116,115]).trans (by decide);have L:((ag eL).toList==[114,97,99,101])=false:=(al eL [114,97,99,101]).trans (by decide);have M:((ag eL).toList==[111,112,101,110])=true:=(al eL [111,112,101,110]).trans (by decide);have N:((ag eL).toList==[104,105,115,116,111,114,121])=false:=(al eL [104,105,115,116,111,114,121]).trans (by decide);clear h u B O R T;go_enter func106,ntmps106;go_wp2_with fail
 go_ret;exact⟨rfl,rfl⟩}
 by_cases V:x=aW
 {
 subst V;have F:((ag aW).toList==[115,116,97,110,100,105,110,103])=false:=(al aW [115,116,97,110,100,105,110,103]).trans (by decide);have G:((ag aW).toList==[114,97,110,107,115])=false:=(al aW [114,97,110,107,115]).trans (by decide);have H:((ag aW).toList==[108,101,97,100])=false:=(al aW [108,101,97,100]).trans (by decide);have I:((ag aW).toList==[110,101,116])=false:=(al aW [110,101,116]).trans (by decide);have J:((ag aW).toList==[112,111,105,110,116,115])=false:=(al aW [112,111,105,110,116,115]).trans (by decide);have L:((ag aW).toList==[114,97,99,101])=false:=(al aW [114,97,99,101]).trans (by decide);have M:((ag aW).toList==[111,112,101,110])=false:=(al aW [111,112,101,110]).trans (by decide);have N:((ag aW).toList==[104,105,115,116,111,114,121])=true:=(al aW [104,105,115,116,111,114,121]).trans (by decide);clear h u B O R T U;go_enter func106,ntmps106;go_wp2_with fail
 go_ret;exact⟨rfl,rfl⟩}
 have F:((ag x).toList==[115,116,97,110,100,105,110,103])=false:=fD h;have G:((ag x).toList==[114,97,110,107,115])=false:=fD u;have H:((ag x).toList==[108,101,97,100])=false:=fD B;have I:((ag x).toList==[110,101,116])=false:=fD O;have J:((ag x).toList==[112,111,105,110,116,115])=false:=fD R;have L:((ag x).toList==[114,97,99,101])=false:=fD T;have M:((ag x).toList==[111,112,101,110])=false:=fD U;have N:((ag x).toList==[104,105,115,116,111,114,121])=false:=fD V;have W:=hI (show et x=-1 from by unfold et;rw[if_neg h,if_neg u,if_neg B,if_neg O,if_neg R,if_neg T,if_neg U,if_neg V]);clear h u B O R T U V;go_enter func106,ntmps106;go_wp2_with fail
 go_ret;exact⟨by rw[W.out];rfl,rfl⟩}
def fo (w:World) (I:Nat) (A:OA) (n c:Nat) (O:List EntryT) (J:OA) (M L:Nat) (N:LI) (r:Dk×LB) (e:Ending) (u:World):Prop:=∃B h G F m H,e=.returned (.string (ag r.2))∧aO u I (be r.1.op r.1.b r.1.s B h G F m H) 61∧((B=A∧h=n∧G=c∧r.1.xs=O)∨u.ownsRow w.heap.size 25 7 (.slice B h G) h (ents r.1.xs))∧((F=J∧m=M∧H=L∧r.1.rule=N)∨u.ownsRow w.heap.size 2 1 (.slice F m H) m (ints r.1.rule))∧aK I (I+1) w u
theorem fo.same {w J:World}{F:Nat}{A:OA}{n c:Nat}{L:List EntryT}{h:OA}{B u:Nat}{I:LI}{H:Bool}{b s:Int}{r:Dk×LB}{t:LB}{e:Ending}(M:aO w F (be H b s A n c h B u) 61)(N:e=.returned (.string (ag t)))(O:r=(⟨H,b,s,L,I⟩,t))(G:BL w J):fo w F A n c L h B u I r e J:=by{
 subst O;exact⟨A,n,c,h,B,u,N,M.below G,.inl ⟨rfl,rfl,rfl,rfl⟩,.inl ⟨rfl,rfl,rfl,rfl⟩,aK.of_below G⟩}
theorem Fk:∀(u:LB),u=(wordsL u).getD 0 []∨∃r,u=(wordsL u).getD 0 []++32::r:=by{
 intro u
 induction u with
 | nil=>exact .inl rfl
 | cons c r h=>{
 by_cases B:c=32
 {
 subst B;rw[dW];exact .inr ⟨r,rfl⟩}
 {
 rw[dQ B]
 cases F:wordsL r with
 | nil=>exact absurd F (bY r)
 | cons a G=>{
 rw[F] at h;simp only[cj,List.getD_cons_zero] at h ⊢;rcases h with h|⟨q,h⟩
 {exact .inl (by rw[←h];rfl)}
 {exact .inr ⟨q,by rw[h];rfl⟩}}}}}
theorem vk (p r:LB):Lib.trimPrefix (p++r) p=r:=by{
 unfold Lib.trimPrefix Lib.hasPrefix;rw[if_pos (by rw[List.isPrefixOf_iff_prefix];exact List.prefix_append p r)];simp}
theorem z_ {h:LB}(u:(wordsL h).getD 0 []=cM):Lib.trimPrefix (Lib.trimPrefix h [115,116,97,114,116]) [32]=h.drop 6:=by{
 rcases Fk h with e|⟨r,e⟩
 {
 rw[u] at e;subst e;decide}
 {
 rw[u] at e;subst e;rw[show cM=[115,116,97,114,116] from rfl,vk,show(32::r:LB)=[32]++r from rfl,vk];rfl}}
theorem sB (h p:LB)(w:World)(P:ByteArray)(B:P.data.toList=p):Calls prog 101 #[.string (ag h),.string P] w λe F=>e=.returned (.string (ag (Lib.trimPrefix h p)))∧F=w:=by{
 have u:=strings_TrimPrefix (ag h) P w;rw[aw,B] at u;exact u}
theorem BO (H:Bool)(b s:Int)(G:List EntryT)(F:LI)(Y:lh ⟨H,b,s,G,F⟩)(M:Nat)(A:OA)(n c:Nat)(J:OA)(O T:Nat)(w:World)(N:aO w M (be H b s A n c J O T) 61)(hr:bA w A n c G)(Z:Rd w 1 J O (ints F))(h:LB)(V:h.length≤2097152)(L:∀u,BL w u→gu u)(B:(wordsL h).getD 0 []=cM):Calls prog 71 #[.pointer (some ⟨M,0,none⟩),.string (ag h)] w (fo w M A n c G J O T F (aZ ⟨H,b,s,G,F⟩ h)):=by{
 have ad:=hI (show aZ ⟨H,b,s,G,F⟩ h=(⟨H,b,s,G,F⟩,fX (h.drop 6)) from by unfold aZ;rw[if_pos B]);have I:=hI (gA (ag h) (by rw[aj];exact V) w (L w (qB _ _)).max);rw[aw] at I;unfold jG at I;have ar:=hI L;have HD:=hI N;have ba:=hI hr;have a':=hI Z;have a7:=hI Y;have bo:=N.lt;have bp:(wordsL h).length≤2097153:=by rw[ev];have h1:h.count 32≤h.length:=List.count_le_length;omega
 have a6:0<(wordsL h).length:=List.length_pos_iff.2 (bY h);have bn:=hI (λx B=>qM (eJ h x B) V);have HX:=hI B;have a1:=hI (λu=>sB h [115,116,97,114,116] u ⟨#[115,116,97,114,116]⟩ rfl);have R:=hI (λu=>sB (Lib.trimPrefix h [115,116,97,114,116]) [32] u ⟨#[32]⟩ rfl);rw[z_ B] at R;have W:(h.drop 6).length≤2097152:=by rw[qX];omega
 have av:=hI (λu (U:BL w u)=>uq (h.drop 6) W u (λw2 h2=>ar w2 (U.trans (h2.mono U.size))));generalize Lib.trimPrefix h [115,116,97,114,116]=L5 at *;clear N hr Z Y L W;have bO:((ag cM).toList==[115,116,97,114,116])=true:=(al cM [115,116,97,114,116]).trans (by decide);have bv:((ag cM).toList==[99,111,114,114,101,99,116])=false:=(al cM [99,111,114,114,101,99,116]).trans (by decide);have bN:((ag cM).toList==[101,110,116,101,114])=false:=(al cM [101,110,116,101,114]).trans (by decide);clear B;go_enter func71,ntmps71;go_wp2_with fail
 refine I.mono ?_;rintro e w1⟨_,L,_,rfl,B,W,_⟩;have Y:=B.len_str;have bs:1≤L:=by omega
 have bt:L≤2097153:=by omega
 obtain⟨_,_,y0,rfl,Z,-,a2⟩:=B.str (k:=0) (by omega);obtain rfl:cM=y0:=by have U:=HX.out;rw[qC,Z] at U;exact U.symm
 simp only[qW] at a2;have bq:0<L:=by omega
 have N:=hI W;have bk:=hI B;have a8:=hI Y;clear W B Z Y I a6;go_wp2_with fail
 refine(a1 _).mono ?_;rintro e u⟨rfl,rfl⟩;go_wp2_with fail
 refine(R _).mono ?_;rintro e w2⟨rfl,rfl⟩;go_wp2_with fail
 refine(av _ N).mono ?_;rintro e W⟨rfl,B⟩;have I:=zb N B;clear B;go_wp2_with fail
 go_ret;exact fo.same HD rfl ad I}
theorem wA (H:Bool)(b s:Int)(G:List EntryT)(B:LI)(Z:lh ⟨H,b,s,G,B⟩)(O:Nat)(A:OA)(n c:Nat)(M:OA)(T W:Nat)(w:World)(R:aO w O (be H b s A n c M T W) 61)(hr:bA w A n c G)(hl:Rd w 1 M T (ints B))(h:LB)(Y:h.length≤2097152)(N:∀F,BL w F→gu F)(u:(wordsL h).getD 0 []=aS):Calls prog 71 #[.pointer (some ⟨O,0,none⟩),.string (ag h)] w (fo w O A n c G M T W B (aZ ⟨H,b,s,G,B⟩ h)):=by{
 have U:=hI (show aZ ⟨H,b,s,G,B⟩ h=(⟨H,b,s,G,B⟩,cS ((wordsL h).drop 1)) from by unfold aZ;rw[if_neg (by rw[u];decide),if_pos u]);have J:=hI (gA (ag h) (by rw[aj];exact Y) w (N w (qB _ _)).max);rw[aw] at J;unfold jG at J;have a1:=hI N;have HD:=hI R;have bq:=hI hr;have bp:=hI hl;have bn:=hI Z;have bs:=R.lt;have bt:(wordsL h).length≤2097153:=by rw[ev];have h1:h.count 32≤h.length:=List.count_le_length;omega
 have bk:0<(wordsL h).length:=List.length_pos_iff.2 (bY h);have a6:=hI (λx u=>qM (eJ h x u) Y);have HX:=hI u;have av:=hI (λI n' c' F (L:Rd F 1 I n' (strs ((wordsL h).drop 1))) (V:BL w F)=>rD I n' c' ((wordsL h).drop 1) F L (λx u=>a6 x (qc u)) (λw2 h2=>a1 w2 (V.trans (h2.mono V.size))));clear R hr hl Z N;have bR:((ag aS).toList==[115,116,97,114,116])=false:=(al aS [115,116,97,114,116]).trans (by decide);have bO:((ag aS).toList==[99,111,114,114,101,99,116])=true:=(al aS [99,111,114,114,101,99,116]).trans (by decide);have bP:((ag aS).toList==[101,110,116,101,114])=false:=(al aS [101,110,116,101,114]).trans (by decide);clear u;go_enter func71,ntmps71;go_wp2_with fail
 refine J.mono ?_;rintro e w1⟨_,N,cw,rfl,u,Z,ba⟩;have ad:=u.len_str;have a':1≤N:=by omega
 have bN:N≤2097153:=by omega
 obtain⟨V,oo,y0,rfl,ar,-,a8⟩:=u.str (k:=0) (by omega);obtain rfl:aS=y0:=by have L:=HX.out;rw[qC,ar] at L;exact L.symm
 simp only[qW] at a8;have bv:0<N:=by omega
 have R:=hI Z;have a2:=hI u;have bo:=hI ad;clear Z u ar ad J bk;obtain⟨_,a7⟩:∃I,(if cw=1 then(some ⟨V,oo,none⟩:OA) else some ⟨V,oo+1,none⟩)=I:=⟨_,rfl⟩;have Z:=hI (gW a2 ba a' a7);go_wp2_with fail
 refine(av _ _ _ _ Z R).mono ?_;rintro e w3⟨rfl,u⟩;have J:=zb R u;clear u;go_wp2_with fail
 go_ret;exact fo.same HD rfl (by first|exact U|(rw[←List.drop_one];exact U)) J}
def gv (h:LB):LB:=if (wordsL h).getD 0 []=cM then fX (h.drop 6) else cS ((wordsL h).drop 1)
def Il (w:World) (h:LB) (e:Ending) (B:World):Prop:=∃(t:LB) (c:Nat) (u:Bool),e=.returned (.tuple #[.string (ag t),(c:Int),.bool u])∧c≤9∧(u=true→((wordsL h).getD 0 []=cM∨(wordsL h).getD 0 []=aS)∧dG t (c:Int)=gv h)∧(u=false→((wordsL h).getD 0 []=cM∨(wordsL h).getD 0 []=aS)→gv h=bL 6)∧BL w B
def A_:LB:=[115,116,97,114,116,32]
theorem DM {h B:LB}(u:(wordsL h).getD 0 []=B):(∃r,h=B++32::r)∨h=B:=by{
 rcases pv 32 h with F|⟨a,b,rfl,ha⟩
 {
 right;rw[←jp,qN F] at u;exact u}
 {
 left;rw[←jp,nh b ha] at u;exact⟨b,by rw[←u];rfl⟩}}
theorem Di {h:LB}(u:h.take 6=A_):(wordsL h).getD 0 []=cM:=by{
 have e:h=cM++32::h.drop 6:=by{
 conv=>lhs;rw[←List.take_append_drop 6 h,u]
 rfl}
 rw[←jp,e,nh _ (by decide)];rfl}
theorem yV {L:LB}(h:(wordsL L).getD 0 []=cM)(u:¬(6<L.length∧L.take 6=A_)):L.drop 6=[]:=by{
 rcases DM h with⟨r,rfl⟩|rfl
 {
 by_cases B:6<(cM++32::r).length
 {exact absurd ⟨B,rfl⟩ u}
 {exact qK (by omega)}}
 {rfl}}
theorem jg {h:LB}(u:(wordsL h).getD 0 []=cM):gv h=fX (h.drop 6):=by unfold gv;rw[if_pos u]
theorem iy {h:LB}(u:(wordsL h).getD 0 []=aS):gv h=cS ((wordsL h).drop 1):=by unfold gv;rw[if_neg (by rw[u];decide)]
theorem lU:dG [] ((6:Nat):Int)=bL 6:=rfl
theorem yj (h:LB)(hL:h.length≤2097152)(A:OA)(n cp:Nat)(w:World)(u:Rd w 1 A n (strs (wordsL h))):Calls prog 109 #[.string (ag h),.slice A n cp] w (Il w h):=by{
 have cx:(ag h).size=h.length:=aj h;by_cases bW:6<h.length∧h.take 6=A_
 {
 obtain⟨h6,M⟩:=bW;have N:=Di M;have cf:decide ((6:Int)<(h.length:Int))=true:=by simp;omega
 have cn:(ag h).extract 0 6=ag (h.take 6):=by rw[bQ _ _ _ (by omega),aw];rfl
 have cv:(ag h).extract 6 h.length=ag (h.drop 6):=by rw[bQ _ _ _ (by omega),aw,qI (by rw[qX];exact qA _)]
 have cm:((ag (h.take 6)).toList==[115,116,97,114,116,32])=true:=(al _ _).trans (by rw[M];decide);have F:=hI (sY (h.drop 6) (by rw[qX];omega) w);unfold eN at F;have L:h.drop 6≠[]:=by intro e;have:=congrArg List.length e;rw[qX] at this;simp at this;omega
 have av:=hI (jg N);have V:=hI N
 cases B:fm (h.drop 6) with
 | none=>{
 have H:=hI (show gv h=bL 6 from by rw[av.out];unfold fX;rw[if_neg L,B]);rw[B] at F;generalize ag (h.drop 6)=sd at *;generalize ag (h.take 6)=ch at *;clear N L B u M;go_enter func109,ntmps109;go_wp2_with fail
 refine F.mono ?_;rintro e w2⟨Y,n5,Z,rfl,-,G⟩;have O:=hI G;clear G;simp only[Option.isSome_none];go_wp2_with fail
 refine bodyPost_ret (v:=.tuple #[.string (ag []),(6:Int),.bool true]) (by simp[results,results109,go_sem];try rfl) rfl ?_;exact⟨[],6,true,rfl,by omega,λ_=>⟨.inl V,by rw[H.out];exact lU⟩,(λu=>by cases u),O⟩}
 | some l=>{
 have H:=hI (show gv h=dG (aX (cD l).1.toNat) (cD l).2 from by rw[av.out];unfold fX;rw[if_neg L,B]);rw[B] at F;obtain⟨W,cq⟩:=vt l;obtain⟨cN,T,a6⟩:=se l;have bq:=hI a6;have U:=hI (λA n c J u=>AW A n c l J u);rw[T] at H;obtain⟨I,R⟩:=aC (cD l).1 W;have bv:=hI (λJ=>f_ I (by omega) J);rw[R,qP] at H;rw[T,R] at U;generalize ag (h.drop 6)=sd at *;generalize ag (h.take 6)=ch at *;clear N L B u M W cq T R a6;go_enter func109,ntmps109;go_wp2_with fail
 refine F.mono ?_;rintro e w2⟨Y,n5,Z,rfl,B,G⟩;have O:=hI G;have L:=hI (B l rfl);clear G B;simp only[Option.isSome_some];go_wp2_with fail
 refine(U _ _ _ _ L).mono ?_;rintro e w3⟨rfl,a1⟩;have ad:=zb O a1;clear a1;go_wp2_with fail
 refine(bv _).mono ?_;rintro e w4⟨rfl,a2⟩;have bp:=zb ad a2;clear a2;go_wp2_with fail
 refine bodyPost_ret (v:=.tuple #[.string (ag (aX I)),(cN:Int),.bool true]) (by simp[results,results109,go_sem]) rfl ?_;exact⟨aX I,cN,true,rfl,bq,λ_=>⟨.inl V,by rw[H.out]⟩,(λu=>by cases u),bp⟩}}
 {
 have b2:=hI (λF=>yV (L:=h) F bW);have cw:=u.len_str;have cy:0<(wordsL h).length:=List.length_pos_iff.2 (bY h);by_cases h6:6<h.length
 {
 have cf:decide ((6:Int)<(h.length:Int))=true:=by simp;omega
 have cn:(ag h).extract 0 6=ag (h.take 6):=by rw[bQ _ _ _ (by omega),aw];rfl
 have cm:((ag (h.take 6)).toList==[115,116,97,114,116,32])=false:=(al _ _).trans (beq_eq_false_iff_ne.2 (λe=>bW ⟨h6,e⟩));generalize ag (h.take 6)=ch at *;clear bW;by_cases U:(wordsL h).length=3
 {
 by_cases O:(wordsL h).getD 0 []=aS
 {
 obtain rfl:n=3:=by omega
 obtain⟨G,B,R⟩:∃G B,wordsL h=[aS,G,B]:=by{
 match hq:wordsL h,U,O with
 | [a,b,c],_,h0=>exact⟨b,c,by rw[show a=aS from h0]⟩}
 rw[R] at u;have ar:=hI (show(wordsL h).getD 0 []=aS from by rw[R];rfl);have av:=hI (show gv h=cS [G,B] from by rw[iy ar.out,R];rfl);have bO:G.length≤2097152:=by have:=eJ h G (by rw[R];simp);omega
 have bR:B.length≤2097152:=by have:=eJ h B (by rw[R];simp);omega
 obtain⟨bP,oP,Z,rfl,Y,-,bb⟩:=u.str (k:=0) (by omega);obtain⟨b9,cc,y1,L,b0,-,cl⟩:=u.str (k:=1) (by omega);injection L with L;injection L with e1 e2;subst e1 e2;obtain⟨b9,cc,y2,L,b1,-,bk⟩:=u.str (k:=2) (by omega);injection L with L;injection L with e1 e2;subst e1 e2;obtain rfl:aS=Z:=by simpa using Y
 obtain rfl:G=y1:=by simpa using b0
 obtain rfl:B=y2:=by simpa using b1
 simp only[qW] at bb;have bn:((ag aS).toList==[99,111,114,114,101,99,116])=true:=(al _ _).trans (by decide);have b':((ag aS).toList !=[99,111,114,114,101,99,116])=false:=by simp only[bne,bn];rfl
 have b4:=hI bk;have bt:=hI (gF (ag G) (by rw[aj];exact bO) w);rw[aw] at bt;have a7:=hI (λJ=>iE (ag B) (by rw[aj];exact bR) J);rw[aw] at a7;have a':=hI (show(cg B).2=true→(cg B).1=(aB B).1 from λhv=>by{
 have h1:=kb.1 (show cg B=((cg B).1,true) from Prod.ext rfl hv);rw[h1]})
 have a8:=hI (kV B);have M:=hI (show cS [G,B]=match dX G with|none=>bL 6|some t=>if (aB B).2=true then dG (aX (dL t (aB B).1).toNat) (eB t (aB B).1) else bL 6 from by{
 unfold cS;rw[if_pos (show [G,B].length=2 from rfl)];simp only[List.getD_cons_zero,List.getD_cons_succ];try (generalize dX G=b7;cases b7<;>rfl)})
 rw[←av.out] at M;generalize cg B=vf at *;obtain⟨N,cd⟩:=vf;simp only at a7 a' a8;generalize aB B=sf at *;obtain⟨ck,cs⟩:=sf;simp only at M a' a8;obtain rfl:=a8.out;generalize ag aS=sC at *;clear u Y b0 b1 bO bR R U O av;go_enter func109,ntmps109;go_wp2_with fail
 refine bt.mono ?_;rintro e w2⟨t,ok,rfl,V,ba⟩;have b3:=hI ba;have bk:=ab b4 ba;clear ba;go_wp2_with fail
 refine(a7 _).mono ?_;rintro e w3⟨rfl,a1⟩;have ad:=zb b3 a1;clear a1 bk
 cases ok with
 | false=>{
 have H:=hI (show gv h=bL 6 from by rw[M.out,AZ V]);clear V;go_wp2_with fail
 refine bodyPost_ret (v:=.tuple #[.string (ag []),(6:Int),.bool true]) (by simp[results,results109,go_sem];try rfl) rfl ?_;exact⟨[],6,true,rfl,by omega,λ_=>⟨.inr ar,by rw[H.out];exact lU⟩,(λu=>by cases u),ad⟩}
 | true=>{
 obtain⟨W,cb,cr⟩:=wK V;obtain⟨I,rfl⟩:=aC t cb;rw[qP] at W
 cases cd with
 | false=>{
 have H:=hI (show gv h=bL 6 from by rw[M.out,W];rfl);clear V W;go_wp2_with fail
 refine bodyPost_ret (v:=.tuple #[.string (ag []),(6:Int),.bool true]) (by simp[results,results109,go_sem];try rfl) rfl ?_;exact⟨[],6,true,rfl,by omega,λ_=>⟨.inr ar,by rw[H.out];exact lU⟩,(λu=>by cases u),ad⟩}
 | true=>{
 obtain rfl:=a' rfl;have H:=hI (show gv h=dG (aX (dL I N).toNat) (eB I N) from by rw[M.out,W];rfl);have bs:=hI (λJ=>mO (I:Int) N J);obtain⟨bN,ca⟩:=tp (I:Int) N;obtain⟨cN,T,a6⟩:=pY (I:Int) N;have bq:=hI a6;obtain⟨kN,bo⟩:=aC (dL (I:Int) N) bN;have bv:=hI (λJ=>f_ kN (by omega) J);rw[T,bo,qP] at H;rw[T,bo] at bs;clear V W bN ca T bo a6 M;go_wp2_with fail
 refine(bs _).mono ?_;rintro e J⟨rfl,rfl⟩;go_wp2_with fail
 refine(bv _).mono ?_;rintro e w4⟨rfl,a2⟩;have bp:=zb ad a2;clear a2;go_wp2_with fail
 refine bodyPost_ret (v:=.tuple #[.string (ag (aX kN)),(cN:Int),.bool true]) (by simp[results,results109,go_sem]) rfl ?_;exact⟨aX kN,cN,true,rfl,bq,λ_=>⟨.inr ar,by rw[H.out]⟩,(λu=>by cases u),bp⟩}}}
 {
 obtain rfl:n=3:=by omega
 have b6:=hI O;obtain⟨bP,oP,Z,rfl,Y,-,bb⟩:=u.str (k:=0) (by omega);have hy:(wordsL h).getD 0 []=Z:=by rw[qC,Y];rfl
 rw[hy] at O;have bn:=fD (m:=[99,111,114,114,101,99,116]) O;have b':((ag Z).toList !=[99,111,114,114,101,99,116])=true:=by simp only[bne,bn];rfl
 simp only[qW] at bb;generalize ag Z=sC at *;clear u hy Y O U;go_enter func109,ntmps109;go_wp2_with fail
 refine bodyPost_ret (v:=.tuple #[.string (ag []),(0:Int),.bool false]) (by simp[results,results109,go_sem];try rfl) rfl ?_;exact⟨[],0,false,rfl,by omega,(λu=>by cases u),λ_ F=>by{
 rcases F with F|F
 {rw[jg F,b2.out F];rfl}
 {exact absurd F b6}},qB _ _⟩}}
 {
 have co:((n:Int) !=3)=true:=by simp;omega
 have b5:=hI U;clear u U;go_enter func109,ntmps109;go_wp2_with fail
 refine bodyPost_ret (v:=.tuple #[.string (ag []),(0:Int),.bool false]) (by simp[results,results109,go_sem];try rfl) rfl ?_;exact⟨[],0,false,rfl,by omega,(λu=>by cases u),λ_ F=>by{
 rcases F with F|F
 {rw[jg F,b2.out F];rfl}
 {rw[iy F];unfold cS;rw[if_neg (by rw[qX];have:=b5.out;omega)]}},qB _ _⟩}}
 {
 have cf:decide ((6:Int)<(h.length:Int))=false:=by simp;omega
 clear bW;by_cases U:(wordsL h).length=3
 {
 by_cases O:(wordsL h).getD 0 []=aS
 {
 obtain rfl:n=3:=by omega
 obtain⟨G,B,R⟩:∃G B,wordsL h=[aS,G,B]:=by{
 match hq:wordsL h,U,O with
 | [a,b,c],_,h0=>exact⟨b,c,by rw[show a=aS from h0]⟩}
 rw[R] at u;have ar:=hI (show(wordsL h).getD 0 []=aS from by rw[R];rfl);have av:=hI (show gv h=cS [G,B] from by rw[iy ar.out,R];rfl);have bO:G.length≤2097152:=by have:=eJ h G (by rw[R];simp);omega
 have bR:B.length≤2097152:=by have:=eJ h B (by rw[R];simp);omega
 obtain⟨bP,oP,Z,rfl,Y,-,bb⟩:=u.str (k:=0) (by omega);obtain⟨b9,cc,y1,L,b0,-,cl⟩:=u.str (k:=1) (by omega);injection L with L;injection L with e1 e2;subst e1 e2;obtain⟨b9,cc,y2,L,b1,-,bk⟩:=u.str (k:=2) (by omega);injection L with L;injection L with e1 e2;subst e1 e2;obtain rfl:aS=Z:=by simpa using Y
 obtain rfl:G=y1:=by simpa using b0
 obtain rfl:B=y2:=by simpa using b1
 simp only[qW] at bb;have bn:((ag aS).toList==[99,111,114,114,101,99,116])=true:=(al _ _).trans (by decide);have b':((ag aS).toList !=[99,111,114,114,101,99,116])=false:=by simp only[bne,bn];rfl
 have b4:=hI bk;have bt:=hI (gF (ag G) (by rw[aj];exact bO) w);rw[aw] at bt;have a7:=hI (λJ=>iE (ag B) (by rw[aj];exact bR) J);rw[aw] at a7;have a':=hI (show(cg B).2=true→(cg B).1=(aB B).1 from λhv=>by{
 have h1:=kb.1 (show cg B=((cg B).1,true) from Prod.ext rfl hv);rw[h1]})
 have a8:=hI (kV B);have M:=hI (show cS [G,B]=match dX G with|none=>bL 6|some t=>if (aB B).2=true then dG (aX (dL t (aB B).1).toNat) (eB t (aB B).1) else bL 6 from by{
 unfold cS;rw[if_pos (show [G,B].length=2 from rfl)];simp only[List.getD_cons_zero,List.getD_cons_succ];try (generalize dX G=b7;cases b7<;>rfl)})
 rw[←av.out] at M;generalize cg B=vf at *;obtain⟨N,cd⟩:=vf;simp only at a7 a' a8;generalize aB B=sf at *;obtain⟨ck,cs⟩:=sf;simp only at M a' a8;obtain rfl:=a8.out;generalize ag aS=sC at *;clear u Y b0 b1 bO bR R U O av;go_enter func109,ntmps109;go_wp2_with fail
 refine bt.mono ?_;rintro e w2⟨t,ok,rfl,V,ba⟩;have b3:=hI ba;have bk:=ab b4 ba;clear ba;go_wp2_with fail
 refine(a7 _).mono ?_;rintro e w3⟨rfl,a1⟩;have ad:=zb b3 a1;clear a1 bk
 cases ok with
 | false=>{
 have H:=hI (show gv h=bL 6 from by rw[M.out,AZ V]);clear V;go_wp2_with fail
 refine bodyPost_ret (v:=.tuple #[.string (ag []),(6:Int),.bool true]) (by simp[results,results109,go_sem];try rfl) rfl ?_;exact⟨[],6,true,rfl,by omega,λ_=>⟨.inr ar,by rw[H.out];exact lU⟩,(λu=>by cases u),ad⟩}
 | true=>{
 obtain⟨W,cb,cr⟩:=wK V;obtain⟨I,rfl⟩:=aC t cb;rw[qP] at W
 cases cd with
 | false=>{
 have H:=hI (show gv h=bL 6 from by rw[M.out,W];rfl);clear V W;go_wp2_with fail
 refine bodyPost_ret (v:=.tuple #[.string (ag []),(6:Int),.bool true]) (by simp[results,results109,go_sem];try rfl) rfl ?_;exact⟨[],6,true,rfl,by omega,λ_=>⟨.inr ar,by rw[H.out];exact lU⟩,(λu=>by cases u),ad⟩}
 | true=>{
 obtain rfl:=a' rfl;have H:=hI (show gv h=dG (aX (dL I N).toNat) (eB I N) from by rw[M.out,W];rfl);have bs:=hI (λJ=>mO (I:Int) N J);obtain⟨bN,ca⟩:=tp (I:Int) N;obtain⟨cN,T,a6⟩:=pY (I:Int) N;have bq:=hI a6;obtain⟨kN,bo⟩:=aC (dL (I:Int) N) bN;have bv:=hI (λJ=>f_ kN (by omega) J);rw[T,bo,qP] at H;rw[T,bo] at bs;clear V W bN ca T bo a6 M;go_wp2_with fail
 refine(bs _).mono ?_;rintro e J⟨rfl,rfl⟩;go_wp2_with fail
 refine(bv _).mono ?_;rintro e w4⟨rfl,a2⟩;have bp:=zb ad a2;clear a2;go_wp2_with fail
 refine bodyPost_ret (v:=.tuple #[.string (ag (aX kN)),(cN:Int),.bool true]) (by simp[results,results109,go_sem]) rfl ?_;exact⟨aX kN,cN,true,rfl,bq,λ_=>⟨.inr ar,by rw[H.out]⟩,(λu=>by cases u),bp⟩}}}
 {
 obtain rfl:n=3:=by omega
 have b6:=hI O;obtain⟨bP,oP,Z,rfl,Y,-,bb⟩:=u.str (k:=0) (by omega);have hy:(wordsL h).getD 0 []=Z:=by rw[qC,Y];rfl
 rw[hy] at O;have bn:=fD (m:=[99,111,114,114,101,99,116]) O;have b':((ag Z).toList !=[99,111,114,114,101,99,116])=true:=by simp only[bne,bn];rfl
 simp only[qW] at bb;generalize ag Z=sC at *;clear u hy Y O U;go_enter func109,ntmps109;go_wp2_with fail
 refine bodyPost_ret (v:=.tuple #[.string (ag []),(0:Int),.bool false]) (by simp[results,results109,go_sem];try rfl) rfl ?_;exact⟨[],0,false,rfl,by omega,(λu=>by cases u),λ_ F=>by{
 rcases F with F|F
 {rw[jg F,b2.out F];rfl}
 {exact absurd F b6}},qB _ _⟩}}
 {
 have co:((n:Int) !=3)=true:=by simp;omega
 have b5:=hI U;clear u U;go_enter func109,ntmps109;go_wp2_with fail
 refine bodyPost_ret (v:=.tuple #[.string (ag []),(0:Int),.bool false]) (by simp[results,results109,go_sem];try rfl) rfl ?_;exact⟨[],0,false,rfl,by omega,(λu=>by cases u),λ_ F=>by{
 rcases F with F|F
 {rw[jg F,b2.out F];rfl}
 {rw[iy F];unfold cS;rw[if_neg (by rw[qX];have:=b5.out;omega)]}},qB _ _⟩}}}}
end Go.Proofs.YtnpldahkhaacnaaGreatDoor

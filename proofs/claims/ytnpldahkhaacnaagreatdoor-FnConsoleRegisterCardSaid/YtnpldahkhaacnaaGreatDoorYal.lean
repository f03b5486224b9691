/- Texts of the walk: Zma_D Zmb_D Qe_D Wd_D Zmc_D Qf_D. -/
import Derived.Test.YtnpldahkhaacnaaGreatDoorYad
set_option linter.unusedVariables false
set_option linter.unusedSimpArgs false
set_option maxRecDepth 100000
set_option maxHeartbeats 32000000
namespace Go.Proofs.YtnpldahkhaacnaaGreatDoor
open Go.RowKit Go.Sort Go.Proofs.Tryz
section
open Go.ChangeShapes Go.WideShapes
theorem vg {t:Nat}(h:t≤1000000000):(aX t).length≤20:=by{
 unfold aX;have:=bd 9 (t/60000) (by omega);simp only[qJ,bV,qO,qT];omega}
def uf (b c t:Int):Bool:=af b 0 15&&af c 0 9&&(if c=0 then af t 1 1000000000 else(t==0))
theorem BZ {b c t:Int}(h:uf b c t=true):(0≤b∧b≤15)∧(0≤c∧c≤9)∧0≤t∧t≤1000000000:=by{
 unfold uf at h;simp only[Bool.and_eq_true] at h;have B:=ai.1 h.1.1;have F:=ai.1 h.1.2;have u:=h.2;split at u
 {have:=ai.1 u;omega}
 {simp at u;omega}}
def Aq (b c t:Int):LB:=aP b.toNat++[32]++aD c++(if c=0 then [32]++aX t.toNat else [])
def sQ (b c t:Int):LB:=if uf b c t=true then Aq b c t else []
def ir (r b c t:Int):LB:=if af r 0 11=true∧uf b c t=true then [101,110,116,101,114,32]++aP r.toNat++[32]++Aq b c t else []
theorem ve (c:Int):(aD c).length≤3:=by{
 unfold aD;split
 {
 rename_i h;have:c=0∨c=1∨c=2∨c=3∨c=4∨c=5∨c=6∨c=7∨c=8∨c=9:=by omega
 rcases this with rfl|rfl|rfl|rfl|rfl|rfl|rfl|rfl|rfl|rfl<;>decide}
 {decide}}
theorem ye {b c t:Int}(h:uf b c t=true):(Aq b c t).length≤40:=by{
 obtain⟨_,_,_⟩:=BZ h;unfold Aq;have a:=bd 1 b.toNat (by omega);have b:=ve c;have d:=vg (t:=t.toNat) (by omega);split
 {simp only[qJ,qO,qT];omega}
 {simp only[qJ,qO,qT];omega}}
end
section
open Go.Lib
def pT:LI→Int→Int|[],h=>h|c::r,h=>pT r ((h*53+c)%2147483647)
def Gy (code:LI):St:=(0,pT (code.take 64) 61657)
def mU (h:Int):Int:=(h*48271+23)%2147483647
def gB (code:LI) (s:St) (n:Int):Int×St:=if n≤1 then(0,s) else if s.1<code.length then((if n≤256∧(s.1+1)%2=0 then code.getD s.1 0 else mU s.2/17+code.getD s.1 0)%n,(s.1+1,mU s.2)) else(mU s.2/17%n,(s.1,mU s.2))
theorem Ex (h:Int):0≤mU h∧mU h<2147483647:=by unfold mU;omega
theorem sO (code:LI)(s:St)(n:Int)(h:1≤n):0≤(gB code s n).1∧(gB code s n).1<n:=by{
 unfold gB;split
 {exact⟨Int.le_refl _,by omega⟩}
 {
 split
 {exact⟨Int.emod_nonneg _ (by omega),Int.emod_lt_of_pos _ (by omega)⟩}
 {exact⟨Int.emod_nonneg _ (by omega),Int.emod_lt_of_pos _ (by omega)⟩}}}
end
theorem jS (b c t:Int)(w:World):Calls prog 35 #[.agg #[b,c,t]] w λe u=>e=.returned (.bool (uf b c t))∧BL w u:=by{
 have F:=hI (λu=>bi b 0 15 u);have I:=hI (λu=>bi t 1 1000000000 u);have G:=hI (λu=>bi c 0 9 u);have B:=hI (λo=>(qB w.heap.size w).alloc (qA _) o);unfold uf;by_cases H:c=0
 {
 subst H;rw[if_pos rfl];rw[show af 0 0 9=true from rfl] at G ⊢;generalize af b 0 15=x at *;generalize af t 1 1000000000=y at *
 cases x
 {
 simp only[Bool.false_and];go_enter func35,ntmps35;go_wp2_with fail
 refine(F _).mono ?_;rintro e h⟨rfl,rfl⟩;go_wp2_with fail
 go_ret;exact⟨rfl,B _⟩}
 {
 simp only[Bool.true_and];go_enter func35,ntmps35;go_wp2_with fail
 refine(F _).mono ?_;rintro e h⟨rfl,rfl⟩;go_wp2_with fail
 refine(G _).mono ?_;rintro e h⟨rfl,rfl⟩;go_wp2_with fail
 refine(I _).mono ?_;rintro e h⟨rfl,rfl⟩;go_wp2_with fail
 go_ret;exact⟨rfl,B _⟩}}
 {
 have J:(c==0)=false:=by simp[H]
 rw[if_neg H];clear H;generalize af b 0 15=x at *;generalize af c 0 9=y at *
 cases x
 {
 simp only[Bool.false_and];go_enter func35,ntmps35;go_wp2_with fail
 refine(F _).mono ?_;rintro e h⟨rfl,rfl⟩;go_wp2_with fail
 go_ret;exact⟨rfl,B _⟩}
 {
 cases y
 {
 simp only[Bool.and_false,Bool.false_and];go_enter func35,ntmps35;go_wp2_with fail
 refine(F _).mono ?_;rintro e h⟨rfl,rfl⟩;go_wp2_with fail
 refine(G _).mono ?_;rintro e h⟨rfl,rfl⟩;go_wp2_with fail
 go_ret;exact⟨rfl,B _⟩}
 {
 simp only[Bool.true_and];go_enter func35,ntmps35;go_wp2_with fail
 refine(F _).mono ?_;rintro e h⟨rfl,rfl⟩;go_wp2_with fail
 refine(G _).mono ?_;rintro e h⟨rfl,rfl⟩;go_wp2_with fail
 go_ret;exact⟨rfl,B _⟩}}}}
theorem kY.seed {B w:World}{A:OA}{n u:Nat}{code:LI}{g:Nat}{s:St}(h:kY B w A n u code g s)(x:Int)(F:0≤x)(G:x<2147483647):kY B (w.setCell ⟨g,2,none⟩ (.int .i64 x)) A n u code g (s.1,x):=⟨by simp[World.setCell,Array.getElem?_modify,h.blk],h.old,h.bel.setCell h.old _,h.ok.1,F,G⟩
theorem kY.at1 {B w:World}{A:OA}{n u:Nat}{code:LI}{g:Nat}{s:St}(h:kY B w A n u code g s)(k:Nat)(F:k≤code.length):kY B (w.setCell ⟨g,1,none⟩ (.int .i64 (k:Int))) A n u code g (k,s.2):=⟨by simp[World.setCell,Array.getElem?_modify,h.blk],h.old,h.bel.setCell h.old _,F,h.ok.2⟩
theorem ms {B u:Nat}{w F:World}(h:aK B u w F)(q:Nat):aK B u w (F.drewN q):=⟨h.os,h.tape,h.output,h.size,h.block⟩
def Jk (B w:World) (A:OA) (n u:Nat) (code:LI) (g:Nat) (r:Int×St) (e:Ending) (h:World):Prop:=e=.returned (.int .i64 r.1)∧kY B h A n u code g r.2∧aK g (g+1) w h
theorem xJ (w0:World)(A:OA)(n a':Nat)(code:LI)(ad:hU w0 A n code)(g:Nat)(s:St)(k:Int)(hk:k≤1099511627776)(w:World)(T:kY w0 w A n a' code g s):Calls prog 29 #[.pointer (some ⟨g,0,none⟩),k] w (Jk w0 w A n a' code g (gB code s k)):=by{
 have U:=hI ad.len;have bO:=ad.n4;obtain⟨h,I⟩:=s;by_cases bq:k≤1
 {
 have B:gB code (h,I) k=(0,(h,I)):=by unfold gB;rw[if_pos bq]
 rw[B];clear B;go_enter func29,ntmps29;go_wp2_with fail
 go_ret;exact⟨rfl,T,aK.refl _ _ _⟩}
 {
 obtain⟨ba,bs,bt⟩:=T.ok;simp only at ba bs bt;obtain⟨av,a1⟩:=Ex I;have H:=T.seed (mU I) av a1;have J:aK g (g+1) w (w.setCell ⟨g,2,none⟩ (.int .i64 (mU I))):=bD (aK.refl _ _ _) (qA _) (by omega) _;have V:=hI (show mU I=(I*48271+23)%2147483647 from rfl);have F:=T.c0;have G:=T.c1;have N:=T.c2;have R:=T.fz 2;simp only at F G N;rw[V.out] at H J av a1;have u:=hI H;have O:=hI J;clear H J;go_enter func29,ntmps29;go_wp2_with fail
 obtain⟨H,M⟩:∃z,z=(I*48271+23)%2147483647:=⟨_,rfl⟩;rw[←M] at u O av a1 V;rw[←M];obtain⟨w1,L⟩:∃x,x=w.setCell ⟨g,2,none⟩ (.int .i64 H):=⟨_,rfl⟩;rw[←L] at u O;rw[←L];clear M L F G N R;have F:=u.c0;have G:=u.c1;have z1:=u.fz 1;simp only at F G;have bN:2≤k:=by omega
 have bv:0≤H/17∧H/17≤126322567:=by omega
 obtain⟨_,_⟩:=bv;have L:=U.out;rw[L] at ba;clear L;by_cases M:h<n
 {
 have hd:decide ((h:Int)<n)=true:=by simpa using M
 obtain⟨b,o,R,rfl,bb,_,_,ar⟩:=ad.at_ u.bel M;have Z:=hI bb;clear bb;go_quiet (fail)
 obtain⟨wq,a7⟩:∃x,x=w1.drewN nq:=⟨_,rfl⟩;replace u:=hI (u.drewN nq);replace O:=hI (ms O nq);rw[←a7] at u O;rw[←a7];clear a7 F G z1 ar nq w1;obtain⟨w1,rfl⟩:∃x,x=wq:=⟨_,rfl⟩;have F:=u.c0;have G:=u.c1;have z1:=u.fz 1;simp only at F G;obtain⟨b',o',c2,L,J,_,_,ar⟩:=ad.at_ u.bel M;obtain⟨rfl,rfl⟩:b=b'∧o=o':=by injection L with L;injection L with B e2;exact⟨B,e2⟩
 obtain rfl:R=c2:=by rw[Z.out] at J;injection J
 clear L J;go_wp2_with fail
 have HS:=hI (show IntKind.i64.wrap (H/17+R)=H/17+R from IntWalk.i64_in _ (by omega));have hs:=HS.out;go_quiet (fail)
 clear hs;obtain⟨w2,a2⟩:∃x,x=w1.drewN nq:=⟨_,rfl⟩;have W:=hI (u.drewN nq);have a8:=hI (ms O nq);rw[←a2] at W a8;rw[←a2];clear a2 F G z1 ar;have F:=W.c0;have G:=W.c1;have z1:=W.fz 1;simp only at F G;have N:=hI (W.at1 (h+1) (by rw[U.out];omega));have Y:=hI (bD (i:=1) a8 (qA _) (by omega) (.int .i64 ((h+1:Nat):Int)));simp only[Int.natCast_add,Int.cast_ofNat_Int] at N Y;by_cases bo:k≤256
 {
 by_cases bk:((h:Int)+1)%2=0
 {
 have bp:(((h:Int)+1)%2==0)=true:=by simpa using bk
 go_wp2_with fail
 obtain⟨_,a6⟩:∃x,x=w2.setCell ⟨g,1,none⟩ (.int .i64 ((h:Int)+1)):=⟨_,rfl⟩;rw[←a6] at N Y;rw[←a6];clear a6 F G z1;have F:=N.c0;have G:=N.c1;simp only[Int.natCast_add,Int.cast_ofNat_Int] at F G;obtain⟨b',o',c2,L,J,_,_,ar⟩:=ad.at_ N.bel M;obtain⟨rfl,rfl⟩:b=b'∧o=o':=by injection L with L;injection L with B e2;exact⟨B,e2⟩
 obtain rfl:R=c2:=by rw[Z.out] at J;injection J
 clear L J;have bn:=hI (show IntKind.i64.wrap ((h:Int)+1-1)=(h:Int) by rw[IntWalk.i64_in _ (by omega)];omega);have hs:=bn.out;go_quiet (fail)
 clear hs;go_wp2_with fail
 go_ret;have B:gB code (h,I) k=(R%k,(h+1,H)):=by{
 unfold gB;rw[if_neg (by omega),if_pos (by rw[U.out];exact M),if_pos ⟨bo,by simp only;omega⟩,V.out];simp only[qC];rw[Z.out];rfl}
 rw[B];exact⟨rfl,N.drewN _,ms Y _⟩}
 {
 have bp:(((h:Int)+1)%2==0)=false:=by simpa using bk
 go_wp2_with fail
 go_ret;have B:gB code (h,I) k=((H/17+R)%k,(h+1,H)):=by{
 unfold gB;rw[if_neg (by omega),if_pos (by rw[U.out];exact M),if_neg (by simp only;omega),V.out];simp only[qC];rw[Z.out];rfl}
 rw[B];exact⟨rfl,N,Y⟩}}
 {
 go_wp2_with fail
 go_ret;have B:gB code (h,I) k=((H/17+R)%k,(h+1,H)):=by{
 unfold gB;rw[if_neg (by omega),if_pos (by rw[U.out];exact M),if_neg (by omega),V.out];simp only[qC];rw[Z.out];rfl}
 rw[B];exact⟨rfl,N,Y⟩}}
 {
 have hd:decide ((h:Int)<n)=false:=by simpa using M
 go_quiet (fail)
 go_wp2_with fail
 go_ret;have B:gB code (h,I) k=(H/17%k,(h,H)):=by{
 unfold gB;rw[if_neg (by omega),if_neg (by rw[U.out];exact M),V.out]}
 rw[B];exact⟨rfl,u.drewN _,ms O _⟩}}}
def AE (B w:World) (A:OA) (n u:Nat) (code:LI) (s:St) (e:Ending) (h:World):Prop:=∃g,e=.returned (.pointer (some ⟨g,0,none⟩))∧kY B h A n u code g s∧w.heap.size≤g∧BL w h
theorem xz (F:World)(A:OA)(n u:Nat)(code:LI)(L:hU F A n code)(w:World)(I:BL F w):Calls prog 27 #[.slice A n u] w (AE F w A n u code (Gy code)):=by{
 have N:=hI L.len;have ar:=L.n4;have H:kY F (w.alloc (.cells #[.slice A n u,(0:Int),(61657:Int)] 88)) A n u code w.heap.size (0,61657):=⟨heap_alloc_new w _,I.size,I.alloc I.size _,qH _,by decide,by decide⟩;have B:BL w (w.alloc (.cells #[.slice A n u,(0:Int),(61657:Int)] 88)):=(qB _ _).alloc (qA _) _;have G:=hI H;have h:=hI B;clear H B;go_enter func27,ntmps27;go_wp2_with fail
 go_loopw [4] (λi wr=>∃(k:Nat) (B:Int),k≤n∧k≤64∧i=.int .i64 k∧kY F wr A n u code w.heap.size (0,B)∧pT ((code.take 64).drop k) B=pT (code.take 64) 61657∧BL w wr) (λi _=>n-(intOf i).toNat)
 case atStart=>exact⟨0,61657,qH _,by omega,rfl,G,rfl,h⟩
 case round=>(
 clear G h;obtain⟨k,B,_,_,rfl,h,G,J⟩:=hrel;have O:=hI G;clear G;obtain⟨_,Z,ad⟩:=h.ok;simp only at Z ad;have G:¬(k<n∧k<64)→B=pT (code.take 64) 61657:=by{
 intro H;rw[←O.out,qK (by rw[qS,N.out];omega)];rfl}
 have M:=hI G;clear G;by_cases W:k<n
 {
 by_cases Y:k<64
 {
 obtain⟨b,o,c,rfl,R,_,_,_⟩:=L.at_ h.bel W;have T:(code.take 64).drop k=c::(code.take 64).drop (k+1):=by{
 obtain⟨x,G,H⟩:=dd (xs:=code.take 64) (k:=k) (by rw[qS,N.out];omega);rw[List.getElem?_take,if_pos Y,R] at G;injection G with G;rw[H,G]}
 have U:=hI T;clear T R;have V:=h.c2;have z2:=h.fz 2;simp only at V;have H:=h.seed ((B*53+c)%2147483647) (by omega) (by omega);have G:=J.setCell (p:=⟨w.heap.size,2,none⟩) (qA _) (.int .i64 ((B*53+c)%2147483647));have R:=hI H;have T:=hI G;clear H G;go_wp2_with fail
 go_region
 go_wp2_with fail
 go_roundw
 case rel=>exact⟨k+1,_,by omega,by omega,by go_num,R.drewN 1,by rw[←O.out,U.out,pT],T.drew⟩
 case measure=>simp[intOf];omega}
 {
 go_wp2_with fail
 go_ret;exact⟨_,rfl,by rw[Gy,←M.out (by omega)];exact h,qA _,J⟩}}
 {
 go_wp2_with fail
 go_ret;exact⟨_,rfl,by rw[Gy,←M.out (by omega)];exact h,qA _,J⟩})}
section
open Go.Shelf Go.Shelf Go.Shelf
attribute [local go_sem] Oper.semAt_some
instance : Inhabited EV := ⟨⟨(0, 0, 1, 0, 0, 0, 0), by unfold rL; simp [E.race, E.boat, E.rev]⟩⟩
attribute [local go_sem] Oper.semAt_some
theorem yg {w:World}{a:OA}{h F:Nat}{B:LI}(u:IsRow .u8 w a h F B)(G:h≤4096):hU w a h (B.take h):=⟨u.u8.1,by omega,u.u8.2⟩
theorem IsRow.lenle {k:IntKind}{w:World}{a:OA}{h u:Nat}{G:LI}(B:IsRow k w a h u G):h≤9223372036854775807:=by{
 rcases B with⟨rfl,rfl,rfl,rfl⟩|⟨x,rfl,_,F,_⟩
 {omega}
 {unfold maxLen at F;omega}}
theorem rU (A:OA)(n c:Nat)(u:n≤9223372036854775807)(w:World):Calls prog 8 #[.slice A n c] w λe h=>e=.returned (.bool (decide (4096<n)))∧w=h:=by{
 go_enter func8,ntmps8;go_wp2_with fail
 go_ret;refine⟨?_,rfl⟩;refine ak ?_;rw[Bool.eq_iff_iff];simp only[decide_eq_true_eq];omega}
end
theorem rt (b c t:Int)(w:World):Calls prog 37 #[.agg #[b,c,t]] w λe u=>e=.returned (.string (ag (sQ b c t)))∧BL w u:=by{
 have H:=hI (λu=>jS b c t u);obtain⟨_,F,h,B,G⟩:=ae w #[b,c,t] 53;have M:=hI F;have Y:=hI h;have N:=hI B;clear h B G F
 cases B:uf b c t with
 | false=>{
 rw[B] at H;have L:=hI (show sQ b c t=[] from by unfold sQ;rw[B];rfl);clear B;go_enter func37,ntmps37;go_wp2_with fail
 rw[←M.out];clear M;refine(H _).mono ?_;rintro e J⟨rfl,h⟩;have G:=zb N h;clear h;go_wp2_with fail
 go_ret;exact⟨by rw[L.out];rfl,G⟩}
 | true=>{
 rw[B] at H;obtain⟨O,_,R⟩:=BZ B;have L:=hI (show sQ b c t=Aq b c t from by unfold sQ;rw[B];rfl);obtain⟨F,rfl⟩:=aC b O.1;obtain⟨I,rfl⟩:=aC t R.1;have z1:(ag (aP F)).size≤2:=by rw[aj];exact bd 1 F (by omega)
 have z2:(ag (aD c)).size≤3:=by rw[aj];exact ve c
 have z3:(ag (aX I)).size≤20:=by rw[aj];exact vg (by omega)
 have W:=hI (λu (h:BL w u)=>cu F F (qA _) (by omega) u);have U:=hI (λu=>mP c u);have Z:=hI (λu (h:BL w u)=>f_ I (by omega) u);have V:=hI (show ag (Aq (F:Int) c (I:Int))=if c=0 then ag (aP F)++ag [32]++ag (aD c)++(ag [32]++ag (aX I)) else ag (aP F)++ag [32]++ag (aD c) from by unfold Aq;rw[qP,qP];split<;>simp[aA]);generalize aP F=A at *;generalize aD c=a1 at *;generalize aX I=D at *;clear B O R;go_enter func37,ntmps37;go_wp2_with fail
 rw[←M.out];clear M;refine(H _).mono ?_;rintro e J⟨rfl,h⟩;have G:=zb N h;have B:=hI (Y.below h);have R:=hI (λd T=>W _ (G.trans ((below_regrown J d T).mono G.size)));have O:=hI (λd T=>U (grow (redrawn J d) T));clear h H W U Y N;go_wp2_with fail
 have U:=cell_regrown (B.cell (i:=0) rfl);have ar:=cell_regrown (B.cell (i:=1) rfl);refine wp_region_quiet_below (by kernel_rfl) (by kernel_rfl) ?_;repeat (first|go_big_quiet_step ((first|(go_at_call 36;(with_reducible exact Calls.regrown_of (R.out _ _)))|(go_at_call 64;(with_reducible exact Calls.regrown_of (O.out _ _)))))|quiet_step ((first|(go_at_call 36;(with_reducible exact Calls.regrown_of (R.out _ _)))|(go_at_call 64;(with_reducible exact Calls.regrown_of (O.out _ _))))))
 refine wpQuiet_nil ?_;intro _ Y;obtain⟨⟨W,av⟩,ad⟩:=Y;subst ad;obtain⟨_,M,H⟩:∃N,N=grow (redrawn J W) av∧BL J N:=⟨_,rfl,below_regrown _ _ _⟩;rw[←M];clear M U ar;have M:=zb G H;have U:=hI (B.below H);clear H R O B;have O:=U.f3;by_cases H:c=0
 {
 have B:=V.out;rw[if_pos H] at B;replace B:=hI B;subst H;go_wp2_with fail
 refine(Z _ M).mono ?_;rintro e w3⟨rfl,h⟩;have R:=zb M h;clear h O;go_wp2_with fail
 go_ret;exact⟨by rw[L.out,B.out];rw[ByteArray.append_assoc];rfl,R⟩}
 {
 have B:=V.out;rw[if_neg H] at B;replace B:=hI B;have h:(c==0)=false:=by simp[H]
 clear H;go_wp2_with fail
 go_ret;exact⟨by rw[L.out,B.out];rfl,M⟩}}}
theorem tU (r b v c t k p:Int)(w:World):Calls prog 11 #[.agg #[r,b,v,c,t,k,p]] w λe h=>e=.returned (.string (ag (ir r b c t)))∧BL w h:=by{
 have L:=hI (λh=>bi r 0 11 h);have N:=hI (λh=>jS b c t h);obtain⟨_,G,B,u,F,H⟩:=cI w #[r,b,v,c,t,k,p] #[b,c,t] 25 53;have M:=hI G;have W:=hI B;have R:=hI u;have O:=hI F;clear B u F H G
 cases F:af r 0 11 with
 | false=>{
 rw[F] at L;have I:=hI (show ir r b c t=[] from by unfold ir;rw[if_neg (by rw[F];simp)]);clear F;go_enter func11,ntmps11;go_wp2_with fail
 rw[←M.out];clear M;refine(L _).mono ?_;rintro e G⟨rfl,rfl⟩;go_wp2_with fail
 go_ret;exact⟨by rw[I.out];rfl,O⟩}
 | true=>{
 rw[F] at L
 cases B:uf b c t with
 | false=>{
 rw[B] at N;have I:=hI (show ir r b c t=[] from by unfold ir;rw[if_neg (by rw[B];simp)]);clear F B;have T:=R.f3;go_enter func11,ntmps11;go_wp2_with fail
 rw[←M.out];clear M;refine(L _).mono ?_;rintro e G⟨rfl,rfl⟩;go_wp2_with fail
 refine(N _).mono ?_;rintro e G⟨rfl,u⟩;have H:=zb O u;clear u T;go_wp2_with fail
 go_ret;exact⟨by rw[I.out];rfl,H⟩}
 | true=>{
 rw[B] at N;have Y:=ai.1 F;have I:=hI (show ir r b c t=[101,110,116,101,114,32]++aP r.toNat++[32]++sQ b c t from by unfold ir sQ;rw[if_pos ⟨F,B⟩,if_pos B]);have z2:(ag (sQ b c t)).size≤40:=by rw[aj];unfold sQ;rw[if_pos B];exact ye B
 obtain⟨J,rfl⟩:=aC r Y.1;rw[qP] at I;have z1:(ag (aP J)).size≤2:=by rw[aj];exact bd 1 J (by omega)
 have U:=hI (λh (u:BL w h)=>cu J J (qA _) (by omega) h);have V:=hI (λh (u:BL w h)=>rt b c t h);have Z:=hI (show ag (ir (J:Int) b c t)=ag [101,110,116,101,114,32]++ag (aP J)++ag [32]++ag (sQ b c t) from by rw[I.out];simp[aA]);generalize aP J=A at *;generalize sQ b c t=D at *;clear F B Y I;have T:=R.f3;go_enter func11,ntmps11;go_wp2_with fail
 rw[←M.out];clear M;refine(L _).mono ?_;rintro e G⟨rfl,rfl⟩;go_wp2_with fail
 refine(N _).mono ?_;rintro e G⟨rfl,u⟩;have H:=zb O u;have Y:=hI (W.below u);have B:=hI (R.below u);have F:=hI (λd M=>U _ (H.trans ((below_regrown G d M).mono H.size)));have I:=hI (λd M=>V _ (H.trans ((below_regrown G d M).mono H.size)));clear u N U V W O T R L;go_wp2_with fail
 have U:=cell_regrown (Y.cell (i:=0) rfl);have V:=cell_regrown (B.cell (i:=0) rfl);have W:=cell_regrown (B.cell (i:=1) rfl);have ad:=cell_regrown (B.cell (i:=2) rfl);refine wp_region_quiet_below (by kernel_rfl) (by kernel_rfl) ?_;repeat (first|go_big_quiet_step ((first|(go_at_call 36;(with_reducible exact Calls.regrown_of (F.out _ _)))|(go_at_call 37;(with_reducible exact Calls.regrown_of (I.out _ _)))))|quiet_step ((first|(go_at_call 36;(with_reducible exact Calls.regrown_of (F.out _ _)))|(go_at_call 37;(with_reducible exact Calls.regrown_of (I.out _ _))))))
 refine wpQuiet_nil ?_;intro _ R;obtain⟨⟨O,ar⟩,T⟩:=R;subst T;obtain⟨_,L,u⟩:∃N,N=grow (redrawn G O) ar∧BL G N:=⟨_,rfl,below_regrown _ _ _⟩;rw[←L];clear L U V W ad;have L:=zb H u;clear u F I Y B;go_wp2_with fail
 go_ret;exact⟨by rw[Z.out];rfl,L⟩}}}
end Go.Proofs.YtnpldahkhaacnaaGreatDoor

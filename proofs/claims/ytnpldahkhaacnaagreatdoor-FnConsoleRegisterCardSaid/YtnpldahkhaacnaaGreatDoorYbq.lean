/- Texts of the walk: Og Om Ol. -/
import Derived.Test.YtnpldahkhaacnaaGreatDoorYbl
import Derived.Test.YtnpldahkhaacnaaGreatDoorYbn
import Derived.Test.YtnpldahkhaacnaaGreatDoorYbp
import Derived.Test.YtnpldahkhaacnaaGreatDoorYbo
set_option linter.unusedVariables false
set_option linter.unusedSimpArgs false
set_option maxRecDepth 100000
set_option maxHeartbeats 32000000
namespace Go.Proofs.YtnpldahkhaacnaaGreatDoor
open Go.RowKit Go.Sort Go.Proofs.Tryz
def GR (d:Dk) (u:Int) (h:List LB):Dk×Int×Bool:=if u=0 then kz d (bu h) else if u=1 then ji d (bu h) else dI d h
def iZ (d:Dk) (h:Int) (n:LI) (r:Dk×Int×Bool):Dk×LB:=if r.2.2=true then(if r.2.1=0 then(r.1,uT) else(d,bL r.2.1)) else if h<0 then(d,bL 6) else if d.op=true then(d,dH d h n) else(d,bL 5)
theorem nd {u:List LB}{h:LB}(B:u.getD 0 []=h)(F:∀j,j<9→h≠cW.getD j []):dh u=-1:=oI (λj G=>by rw[B];exact F j G)
theorem BA:∀j,j<9→cM≠cW.getD j []:=by decide
theorem vP:∀j,j<9→aS≠cW.getD j []:=by decide
theorem AR:∀j,j<9→a_≠cW.getD j []:=by decide
theorem Ck (d:Dk)(h:List LB):GR d (-1) h=dI d h:=rfl
theorem uK {d:Dk}{h:LB}(B:(wordsL h).getD 0 []=cM∨(wordsL h).getD 0 []=aS):aZ d h=(d,gv h):=by{
 unfold aZ gv;by_cases u:(wordsL h).getD 0 []=cM
 {rw[if_pos u,if_pos u]}
 {
 have F:=B.resolve_left u;rw[if_neg u,if_neg u,if_pos F]}}
theorem CM {d:Dk}{h:LB}(T:((wordsL h).getD 0 []=cM∨(wordsL h).getD 0 []=aS)→gv h=bL 6):aZ d h=iZ d (dh (wordsL h)) (bu (wordsL h)) (GR d (dh (wordsL h)) (wordsL h)):=by{
 by_cases B:(wordsL h).getD 0 []=cM∨(wordsL h).getD 0 []=aS
 {
 rw[uK B,T B];have F:dh (wordsL h)=-1:=by{
 rcases B with B|B
 {exact nd B BA}
 {exact nd B vP}}
 have u:(wordsL h).getD 0 []≠a_:=by{rcases B with B|B<;>rw[B]<;>decide}
 rw[F,Ck];unfold dI;rw[if_neg u];rfl}
 {
 have O:(wordsL h).getD 0 []≠cM:=λG=>B (.inl G)
 have R:(wordsL h).getD 0 []≠aS:=λG=>B (.inr G)
 unfold aZ;rw[if_neg O,if_neg R];by_cases I:(wordsL h).getD 0 []=a_
 {
 rw[if_pos I,nd I AR,Ck];unfold dI;rw[if_pos I];unfold nI Cm
 cases jZ ((wordsL h).drop 1) with
 | none=>rfl
 | some x=>{
 obtain⟨r,b,c,t⟩:=x;show(if d.op=true then(if _ then _ else _) else _)=iZ d _ _ (if d.op=true then(if _ then _ else _) else _);by_cases u:d.op=true
 {
 rw[if_pos u,if_pos u];by_cases F:corC d.b d.s d.xs (r,b,0,c,t,0,0)=0
 {
 rw[if_pos F,if_pos F];unfold iZ;rw[if_pos rfl,if_pos rfl];congr 1;rw[←u]}
 {
 rw[if_neg F,if_neg F];unfold iZ;rw[if_pos rfl,if_neg F]}}
 {
 rw[if_neg u,if_neg u];rfl}}}
 {
 rw[if_neg I];have M:dI d (wordsL h)=(d,0,false):=by unfold dI;rw[if_neg I]
 have U:=Cy (wordsL h);generalize dh (wordsL h)=L at *;unfold jI GR;by_cases N:L=-1
 {
 subst N;rw[if_pos rfl,if_neg (by decide),if_neg (by decide),M];rfl}
 {
 rw[if_neg N];by_cases J:L=0
 {
 rw[if_pos J,if_pos J];unfold DG kz;by_cases F:dC ((bu (wordsL h)).getD 0 0) ((bu (wordsL h)).getD 1 0) []=true
 {rw[if_pos F,if_pos F];rfl}
 {rw[if_neg F,if_neg F];rfl}}
 {
 rw[if_neg J,if_neg J];by_cases u:d.op=true
 {
 rw[if_pos u];by_cases H:L=1
 {
 rw[if_pos H,if_pos H];unfold tg ji;rw[if_pos u];by_cases F:bC (bu (wordsL h))=true
 {
 rw[if_pos F,if_pos F];unfold iZ;rw[if_pos rfl,if_pos rfl];congr 1;rw[←u]}
 {rw[if_neg F,if_neg F];rfl}}
 {
 rw[if_neg H,if_neg H,M];unfold iZ;rw[if_neg (show ¬((d,(0:Int),false):Dk×Int×Bool).2.2=true from λG=>by cases G),if_neg (by omega),if_pos u]}}
 {
 rw[if_neg u];by_cases H:L=1
 {
 rw[if_pos H];unfold ji;rw[if_neg u];rfl}
 {
 rw[if_neg H,M];unfold iZ;rw[if_neg (show ¬((d,(0:Int),false):Dk×Int×Bool).2.2=true from λG=>by cases G),if_neg (by omega),if_neg u]}}}}}}}
theorem EP (b s:Int)(h:List EntryT)(x:EntryT):∃c:Nat,d_ b s h x=(c:Int)∧c≤9:=by{
 unfold d_;(repeat' split)<;>first|exact⟨0,rfl,by omega⟩|exact⟨1,rfl,by omega⟩|exact⟨2,rfl,by omega⟩|exact⟨3,rfl,by omega⟩|exact⟨4,rfl,by omega⟩|exact⟨5,rfl,by omega⟩|exact⟨6,rfl,by omega⟩}
theorem zB (b s:Int)(h:List EntryT)(x:EntryT):∃c:Nat,corC b s h x=(c:Int)∧c≤9:=by{
 unfold corC;split
 {
 split
 {exact EP _ _ _ _}
 {exact⟨2,rfl,by omega⟩}}
 {exact⟨1,rfl,by omega⟩}}
theorem EQ (d:Dk)(h:Int)(u:List LB):∃c:Nat,(GR d h u).2.1=(c:Int)∧c≤9:=by{
 unfold GR;split
 {
 unfold kz;split
 {exact⟨0,rfl,by omega⟩}
 {exact⟨2,rfl,by omega⟩}}
 {
 split
 {
 unfold ji;split
 {
 split
 {exact⟨0,rfl,by omega⟩}
 {exact⟨2,rfl,by omega⟩}}
 {exact⟨5,rfl,by omega⟩}}
 {
 unfold dI;split
 {
 unfold Cm;split
 {exact⟨0,rfl,by omega⟩}
 {
 split
 {
 split
 {exact⟨0,rfl,by omega⟩}
 {exact zB _ _ _ _}}
 {exact⟨5,rfl,by omega⟩}}}
 {exact⟨0,rfl,by omega⟩}}}}
theorem pq {u:List LB}{i:Nat}(B:dh u=i):aT (u.drop 1)=true∧(cF.getD i 0<0∨cF.getD i 0=(u.length:Int)-1):=by{
 have h:=(El B).2;unfold es at h;rw[Bool.and_eq_true,Bool.and_eq_true,Bool.or_eq_true,decide_eq_true_eq,beq_iff_eq (a:=cF.getD i 0)] at h;exact⟨h.1.2,h.2⟩}
theorem ut (R:Bool)(b s:Int)(I:List EntryT)(A:OA)(n c:Nat)(F:OA)(G J:Nat)(H:LI)(w:World)(hr:bA w A n c I)(W:Rd w 1 F G (ints H))(Aw:OA)(u L:Nat)(B:List LB)(V:u≤L)(Z:1≤u)(Y:u≤4194304)(ad:∀x∈B,x.length≤2097152)(M:Rd w 1 Aw u (strs B))(h:Int)(hk:dh B=h):Calls prog 111 #[.agg (be R b s A n c F G J),h,.slice Aw u L] w (ya w A n c I F G J H (GR ⟨R,b,s,I,H⟩ h B)):=by{
 obtain⟨T,oo,rfl,-⟩:=M.pos (by omega);have ar:=M.len_str;unfold GR;by_cases N:h=0
 {
 rw[if_pos N];obtain⟨U,_⟩:=pq (i:=0) (by rw[hk,N];rfl);have O:(cF.getD 0 0:Int)=2:=rfl;exact Av R b s I A n c F G J H w hr W T oo u L B V Z Y ad M h N U (by omega)}
 {
 rw[if_neg N];by_cases O:h=1
 {
 rw[if_pos O];obtain⟨U,-⟩:=pq (i:=1) (by rw[hk,O];rfl);exact yB R b s I A n c F G J H w hr W T oo u L B V Z Y ad M h O U}
 {
 rw[if_neg O];exact w_ R b s I A n c F G J H w hr W T oo u L B V Z Y ad M h N O}}}
theorem xl {i:Nat}(h:i<9)(u:i≠1):et (cW.getD i [])=cF.getD i 0:=by{rcases kr h with rfl|rfl|rfl|rfl|rfl|rfl|rfl|rfl|rfl<;>first|decide|exact absurd rfl u}
theorem DO {X:LB}(h:∀i,i<9→X≠cW.getD i []):et X=-1:=by{
 unfold et;rw[if_neg (show ¬X=aq from h 2 (by omega)),if_neg (show ¬X=bM from h 3 (by omega)),if_neg (show ¬X=cY from h 8 (by omega)),if_neg (show ¬X=ff from h 4 (by omega)),if_neg (show ¬X=bf from h 5 (by omega)),if_neg (show ¬X=cP from h 6 (by omega)),if_neg (show ¬X=eL from h 0 (by omega)),if_neg (show ¬X=aW from h 7 (by omega))]}
theorem wC {h:List LB}{X:LB}{i len:Nat}(u:h.getD 0 []=X)(B:X=cW.getD i [])(ha:aT (h.drop 1)=true)(F:h.length=len+1):es h i=(decide (cF.getD i 0<0)||(cF.getD i 0==(len:Int))):=by{
 unfold es;rw[u,ha,F,B,beq_self_eq_true,Bool.true_and,Bool.true_and];rw[show(((len+1:Nat):Int)-1)=(len:Int) from by omega]}
theorem BT {ws:List LB}{X:LB}{len:Nat}(I:ws.getD 0 []=X)(L:X≠dr)(ha:aT (ws.drop 1)=true)(J:ws.length=len+1)(F:et X=(len:Int)):∃k:Nat,k<9∧k≠1∧X=cW.getD k []∧dh ws=(k:Int)∧cF.getD k 0=(len:Int):=by{
 by_cases B:∃i,i<9∧X=cW.getD i []
 {
 obtain⟨i,h,e⟩:=B;have u:i≠1:=λH=>L (by rw[e,H];rfl)
 have G:cF.getD i 0=(len:Int):=by rw[←xl h u,←e,F]
 exact⟨i,h,u,e,ow h (by rw[wC I e ha J,G];simp),G⟩}
 {
 rw[DO (λi h e=>B ⟨i,h,e⟩)] at F;omega}}
theorem IA {h:List LB}{X:LB}{J:Nat}(u:h.getD 0 []=X)(O:X≠dr)(ha:aT (h.drop 1)=true)(M:h.length=J+1)(N:et X≠(J:Int)):dh h=-1:=by{
 by_cases H:∃i,i<9∧X=cW.getD i []
 {
 obtain⟨i,B,e⟩:=H;have G:i≠1:=λL=>O (by rw[e,L];rfl)
 have F:=xl B G;rw[←e] at F;refine CH B (by rw[u,e]) ?_;rw[wC u e ha M,←F,Bool.or_eq_false_iff];refine⟨decide_eq_false (λI=>?_),beq_eq_false_iff_ne.2 N⟩;rw[F] at I;rcases kr B with rfl|rfl|rfl|rfl|rfl|rfl|rfl|rfl|rfl<;>first|(exact absurd I (by decide))|(exact absurd rfl G)}
 {exact oI (λj B e=>H ⟨j,B,by rw[←u,e]⟩)}}
theorem vy {h:List LB}(u:h.getD 0 []=dr)(ha:aT (h.drop 1)=true)(B:0<h.length):dh h=((1:Nat):Int):=ow (by omega) (by rw[wC (len:=h.length-1) u rfl ha (by omega)];rfl)
theorem xA (k:Nat)(Z:2≤k∧k≤8)(b s:Int)(u:List EntryT)(U:cE b s u)(h:LI)(V:bC h=true)(G:Nat)(A:OA)(n c:Nat)(F:OA)(H L:Nat)(w:World)(N:aO w G (be true b s A n c F H L) 61)(T:bA w A n c u)(O:Rd w 1 F H (ints h))(B:OA)(I J:Nat)(nums:LI)(R:Rd w 1 B I (ints nums))(hz:(nums.length:Int)=cF.getD k 0)(M:∀W,BL w W→gu W):Calls prog 108 #[.pointer (some ⟨G,0,none⟩),.string (ag (cW.getD k [])),.slice B I J] w λe W=>e=.returned (.string (ag (dH ⟨true,b,s,u,h⟩ (k:Int) nums)))∧BL w W:=by{
 have Y:k=2∨k=3∨k=4∨k=5∨k=6∨k=7∨k=8:=by omega
 rcases Y with rfl|rfl|rfl|rfl|rfl|rfl|rfl
 {exact rz b s u U h V G A n c F H L w N T O B I J nums R M}
 {exact wT b s u U h V G A n c F H L w N T O B I J nums R M}
 {exact Bf b s u U h V G A n c F H L w N T O B I J nums R (by have:(cF.getD 4 0:Int)=1:=rfl;omega) M}
 {exact ul b s u U h V G A n c F H L w N T O B I J nums R (by have:(cF.getD 5 0:Int)=1:=rfl;omega) M}
 {exact yX b s u U h V G A n c F H L w N T O B I J nums R (by have:(cF.getD 6 0:Int)=1:=rfl;omega) M}
 {exact tA b s u U h V G A n c F H L w N T O B I J nums R (by have:(cF.getD 7 0:Int)=2:=rfl;omega) M}
 {exact xv b s u U h V G A n c F H L w N T O B I J nums R M}}
theorem DN (F:Bool)(b s:Int)(u:List EntryT)(B:LI)(U:lh ⟨F,b,s,u,B⟩)(H:Nat)(A:OA)(n c:Nat)(Z:OA)(lr cr:Nat)(w:World)(M:aO w H (be F b s A n c Z lr cr) 61)(W:bA w A n c u)(V:Rd w 1 Z lr (ints B))(h:LB)(hL:h.length≤2097152)(L:∀I,BL w I→gu I)(X:LB)(G:(wordsL h).getD 0 []=X)(N:X≠cM)(R:X≠aS)(T:X≠a_) :Calls prog 71 #[.pointer (some ⟨H,0,none⟩),.string (ag h)] w (fo w H A n c u Z lr cr B (aZ ⟨F,b,s,u,B⟩ h)):=by{
 have bk:=hI (show aZ ⟨F,b,s,u,B⟩ h=jI ⟨F,b,s,u,B⟩ (dh (wordsL h)) (bu (wordsL h)) from by unfold aZ;rw[if_neg (by rw[G];exact N),if_neg (by rw[G];exact R),if_neg (by rw[G];exact T)]);have J:=hI (gA (ag h) (by rw[aj];exact hL) w (L w (qB _ _)).max);rw[aw] at J;unfold jG at J;have ar:=hI L;have O:=hI M;have cf:=hI W;have cd:=hI V;have bR:=hI U;have cy:=M.lt;have cB:(wordsL h).length≤2097153:=by rw[ev];have h1:h.count 32≤h.length:=List.count_le_length;omega
 have Y:0<(wordsL h).length:=List.length_pos_iff.2 (bY h);have ch:=hI (λx hx=>qM (eJ h x hx) hL);have HX:=hI G;have c2:((ag X).toList==[115,116,97,114,116])=false:=fD N;have c0:((ag X).toList==[99,111,114,114,101,99,116])=false:=fD R;have c1:((ag X).toList==[101,110,116,101,114])=false:=fD T;clear M W V U L N R T G;go_enter func71,ntmps71;go_wp2_with fail
 refine J.mono ?_;rintro e w1⟨_,nw,cw,rfl,G,L,cq⟩;have M:=G.len_str;have co:1≤nw:=by omega
 have cR:nw≤2097153:=by omega
 obtain⟨bb,oo,T,rfl,N,-,W⟩:=G.str (k:=0) (by omega);obtain rfl:X=T:=by have b2:=HX.out;rw[qC,N] at b2;exact b2.symm
 simp only[qW] at W;have cL:0<nw:=by omega
 have ba:=hI L;have R:=hI G;have bs:=hI M;clear L G N M J Y;obtain⟨At,V⟩:∃A',(if cw=1 then(some ⟨bb,oo,none⟩:OA) else some ⟨bb,oo+1,none⟩)=A':=⟨_,rfl⟩;have U:=hI (gW R cq co V);have J:=hI (yZ At (nw-1) (cw-1) ((wordsL h).drop 1) w1 U (by omega) (λx hx=>ch x (qc hx)) (λw2 h2=>ar w2 (ba.trans (h2.mono ba.size))));unfold Io at J;go_wp2_with fail
 refine J.mono ?_;rintro e w2⟨Y,M,c8,rfl,L,N⟩;have G:=zb ba N;have bq:=hI (O.below G);have FD:=(show aO w2 H #[.bool F,b,s,.slice A n c,.slice Z lr cr] 61 from bq).f5;have cv:=N.size;have cx:=ba.size;clear N J U R W V
 cases ha:aT ((wordsL h).drop 1) with
 | false=>{
 have J:=hI (show aZ ⟨F,b,s,u,B⟩ h=(⟨F,b,s,u,B⟩,[101,114,114,111,114,32,54]) from by rw[bk.out,Ge ha];unfold jI;rw[if_pos rfl,jy]);clear ha L;go_wp2_with fail
 go_ret;exact fo.same O rfl J G}
 | true=>{
 have L:=L ha;rw[show(((wordsL h).drop 1).map λw=>(aB w).1)=bu (wordsL h) from rfl] at L;have N:(wordsL h).length=M+1:=by{
 have h1:=eU L;unfold bu at h1;rw[qV,qX] at h1;have h2:=bs.out;omega}
 have HV:=hI L;have bW:=hI N;have HA:=hI ha;have cN:M≤2097153:=by have:=bs.out;omega
 clear L ha N;by_cases R:X=dr
 {
 have cm:((ag X).toList==[114,117,108,101])=true:=by rw[R];exact(al dr [114,117,108,101]).trans (by decide)
 have b1:((ag X).toList==[111,112,101,110])=false:=by rw[R];exact(al dr [111,112,101,110]).trans (by decide)
 have U:=hI (show aZ ⟨F,b,s,u,B⟩ h=jI ⟨F,b,s,u,B⟩ ((1:Nat):Int) (bu (wordsL h)) from by rw[bk.out,vy (by rw[HX.out];exact R) HA.out (by rw[bs.out];omega)]);clear R
 cases F with
 | false=>{
 have J:=hI (show aZ ⟨false,b,s,u,B⟩ h=(⟨false,b,s,u,B⟩,bL ((5:Nat):Int)) from by rw[U.out];rfl);have a8:=hI (dV 5 (by omega) w2 (ar _ G).pow);go_wp2_with fail
 refine a8.mono ?_;rintro e w9⟨rfl,W⟩;have a7:=zb G W;clear W;go_wp2_with fail
 go_ret;exact fo.same O rfl J a7}
 | true=>{
 have ad:=hI (kD Y M c8 (bu (wordsL h)) w2 (az HV))
 cases a2:bC (bu (wordsL h)) with
 | false=>{
 have V:=hI (show aZ ⟨true,b,s,u,B⟩ h=(⟨true,b,s,u,B⟩,bL ((2:Nat):Int)) from by rw[U.out];show tg _ _=_;unfold tg;rw[if_neg (by rw[a2];exact Bool.false_ne_true)];rfl);rw[a2] at ad;clear a2;go_wp2_with fail
 refine ad.mono ?_;rintro e w3⟨rfl,L⟩;have N:=zb G L;clear L ad FD;have J:=hI (show aZ ⟨true,b,s,u,B⟩ h=(⟨true,b,s,u,B⟩,bL ((2:Nat):Int)) from V);have a8:=hI (dV 2 (by omega) w3 (ar _ N).pow);go_wp2_with fail
 refine a8.mono ?_;rintro e w9⟨rfl,W⟩;have a7:=zb N W;clear W;go_wp2_with fail
 go_ret;exact fo.same O rfl J a7}
 | true=>{
 have V:=hI (show aZ ⟨true,b,s,u,B⟩ h=(⟨true,b,s,u,bu (wordsL h)⟩,uT) from by rw[U.out];show tg _ _=_;unfold tg;rw[if_pos a2]);rw[a2] at ad;clear a2;go_wp2_with fail
 refine ad.mono ?_;rintro e w3⟨rfl,L⟩;have N:=zb G L;have b0:=hI (aa HV L);have bP:=hI (O.below N);clear FD;have FD:=(show aO w3 H #[.bool true,b,s,.slice A n c,.slice Z lr cr] 61 from bP).f5;have cs:=L.size;clear L ad;obtain⟨wS,bp⟩:∃wS:World,wS=w3.setCell ⟨H,4,none⟩ (.slice Y M c8):=⟨_,rfl⟩;have ca:=hI (show aO wS H (be true b s A n c Y M c8) 61 from by rw[bp];have:=bP.set 4 (.slice Y M c8);simpa[be] using this);have bt:aK H (H+1) w3 wS:=by rw[bp];exact bD (aK.refl _ _ _) (qA _) (by omega) _
 have cc:=hI (an (aE b0 bt (λq hq=>.inr (by have:=(b0.lt q hq).1;omega))) (base':=w.heap.size) (by omega));have b':=hI (aK.trans (aK.of_below (lo:=H) (hi:=H+1) N) bt);have ck:=hI bp;clear bp bt;go_wp2_with fail
 rw[←ck.out];go_ret;rw[V.out];exact⟨A,n,c,Y,M,c8,rfl,ca,.inl ⟨rfl,rfl,rfl,rfl⟩,.inr cc,b'⟩}}}
 have cm:((ag X).toList==[114,117,108,101])=false:=fD R;by_cases hm:et X=(M:Int)
 {
 obtain⟨k,b5,cn,a',b6,bn⟩:=BT HX R HA bW hm;have U:=hI (show aZ ⟨F,b,s,u,B⟩ h=jI ⟨F,b,s,u,B⟩ (k:Int) (bu (wordsL h)) from by rw[bk.out,b6]);have av:=hI (λI=>lP X I);rw[hm] at av;clear b6 hm R;by_cases bo:k=0
 {
 have b1:((ag X).toList==[111,112,101,110])=true:=by rw[a',bo];exact(al eL [111,112,101,110]).trans (by decide)
 have cp:M=2:=by rw[bo] at bn;have:(cF.getD 0 0:Int)=2:=rfl;omega
 subst cp;subst bo;obtain⟨T,y1,hy⟩:∃T y1,bu (wordsL h)=[T,y1]:=by{
 have h1:=eU HV
 match bu (wordsL h),h1 with
 | [a,b],_=>exact⟨a,b,rfl⟩}
 have cb:=hI (tW T y1 H (.bool F) (.int .i64 b) (.int .i64 s) (.slice A n c) (.slice Z lr cr) Y 2 c8 w2 bq (by rw[←hy];exact az HV) (λI hb=>(ar I (G.trans (hb.mono G.size))).pow));have V:=hI (show aZ ⟨F,b,s,u,B⟩ h=DG ⟨F,b,s,u,B⟩ [T,y1] from by rw[U.out,hy];rfl);clear a' bn hy U b5 cn;go_wp2_with fail
 refine(av _).mono ?_;rintro e I⟨rfl,rfl⟩;go_wp2_with fail
 refine cb.mono ?_;rintro e w3⟨bN,bv⟩
 cases a6:dC T y1 [] with
 | true=>{
 obtain⟨rfl,b3,b4⟩:=bN a6;have J:=hI (show aZ ⟨F,b,s,u,B⟩ h=(⟨true,T,y1,[],[]⟩,uT) from by rw[V.out];unfold DG;exact if_pos a6);have b7:=hI b3;have b9:=hI (aK.trans (aK.of_below (lo:=H) (hi:=H+1) G) b4);clear b3 b4 bN bv a6;go_wp2_with fail
 go_ret;rw[J.out];exact⟨none,0,0,none,0,0,rfl,b7,.inr (World.ownsRow_nil _ _ _ _),.inr (World.ownsRow_nil _ _ _ _),b9⟩}
 | false=>{
 obtain⟨rfl,L⟩:=bv a6;have J:=hI (show aZ ⟨F,b,s,u,B⟩ h=(⟨F,b,s,u,B⟩,bL 2) from by rw[V.out];unfold DG;exact if_neg (by show ¬dC T y1 []=true;rw[a6];exact Bool.false_ne_true));have N:=zb G L;clear L bN bv a6;go_wp2_with fail
 go_ret;exact fo.same O rfl J N}}
 {
 have b1:((ag X).toList==[111,112,101,110])=false:=fD (by rw[a'];exact λe=>bo (mi b5 (by omega) (show cW.getD k []=cW.getD 0 [] from e)));have cl:=hI a';clear a';have a1:¬((k:Int)=-1)∧¬((k:Int)=0)∧¬((k:Int)=1):=by omega
 cases F with
 | false=>{
 go_wp2_with fail
 refine(av _).mono ?_;rintro e I⟨rfl,rfl⟩;have J:=hI (show aZ ⟨false,b,s,u,B⟩ h=(⟨false,b,s,u,B⟩,bL ((5:Nat):Int)) from by rw[U.out];unfold jI;rw[if_neg a1.1,if_neg a1.2.1,if_neg (by exact Bool.false_ne_true)];rfl);have a8:=hI (dV 5 (by omega) I (ar _ G).pow);go_wp2_with fail
 refine a8.mono ?_;rintro e w9⟨rfl,W⟩;have a7:=zb G W;clear W;go_wp2_with fail
 go_ret;exact fo.same O rfl J a7}
 | true=>{
 have V:=hI (show aZ ⟨true,b,s,u,B⟩ h=(⟨true,b,s,u,B⟩,dH ⟨true,b,s,u,B⟩ (k:Int) (bu (wordsL h))) from by rw[U.out];unfold jI;rw[if_neg a1.1,if_neg a1.2.1,if_pos rfl,if_neg a1.2.2]);have bO:=hI (xA k (by omega) b s u (bR.reg rfl) B (bR.rul rfl) H A n c Z lr cr w2 bq (cf.below G) (cd.below G) Y M c8 (bu (wordsL h)) (az HV) (by rw[eU HV.out,bn]) (λI hb=>ar I (G.trans (hb.mono G.size))));rw[←cl.out] at bO;clear bn a1;go_wp2_with fail
 refine(av _).mono ?_;rintro e I⟨rfl,rfl⟩;go_wp2_with fail
 refine bO.mono ?_;rintro e w3⟨rfl,L⟩;have N:=zb G L;clear L;go_wp2_with fail
 go_ret;exact fo.same O rfl V N}}}
 {
 have J:=hI (show aZ ⟨F,b,s,u,B⟩ h=(⟨F,b,s,u,B⟩,[101,114,114,111,114,32,54]) from by rw[bk.out,IA HX.out R HA.out bW.out hm];unfold jI;rw[if_pos rfl,jy]);have av:=hI (λI=>lP X I);have cC:(et X !=(M:Int))=true:=by simpa using hm
 generalize et X=q at *;clear hm R;go_wp2_with fail
 refine(av _).mono ?_;rintro e I⟨rfl,rfl⟩;go_wp2_with fail
 go_ret;exact fo.same O rfl J G}}}
theorem zF (op:Bool)(b s:Int)(h:List EntryT)(I:LI)(R:lh ⟨op,b,s,h,I⟩)(u:Nat)(A:OA)(n c:Nat)(Ar:OA)(lr cr:Nat)(w:World)(N:aO w u (be op b s A n c Ar lr cr) 61)(U:bA w A n c h)(T:Rd w 1 Ar lr (ints I))(G:LB)(hL:G.length≤2097152)(J:∀w',BL w w'→gu w')(B:(wordsL G).getD 0 []=a_):Calls prog 71 #[.pointer (some ⟨u,0,none⟩),.string (ag G)] w (fo w u A n c h Ar lr cr I (aZ ⟨op,b,s,h,I⟩ G)):=by{
 have ar:=hI (show aZ ⟨op,b,s,h,I⟩ G=nI ⟨op,b,s,h,I⟩ ((wordsL G).drop 1) from by unfold aZ;rw[if_neg (by rw[B];decide),if_neg (by rw[B];decide),if_pos B]);have F:=hI (gA (ag G) (by rw[aj];exact hL) w (J w (qB _ _)).max);rw[aw] at F;unfold jG at F;have b3:=hI J;have HD:=hI N;have cm:=hI U;have cR:=hI T;have cC:=hI R;have c0:=N.lt;have c2:(wordsL G).length≤2097153:=by rw[ev];have h1:G.count 32≤G.length:=List.count_le_length;omega
 have V:0<(wordsL G).length:=List.length_pos_iff.2 (bY G);have cn:=hI (λx B=>qM (eJ G x B) hL);have HX:=hI B;have L:=hI (λA' H O w' (bk:Rd w' 1 A' H (strs ((wordsL G).drop 1))) (h1:H≤4194304) (M:H≤O) (Y:BL w w')=>oH A' H O ((wordsL G).drop 1) w' bk h1 M (λx B=>cn x (qc B)) (λw2 M=>b3 w2 (Y.trans (M.mono Y.size))));unfold In at L;clear N U T R J;have c7:((ag a_).toList==[115,116,97,114,116])=false:=(al a_ [115,116,97,114,116]).trans (by decide);have c4:((ag a_).toList==[99,111,114,114,101,99,116])=false:=(al a_ [99,111,114,114,101,99,116]).trans (by decide);have c6:((ag a_).toList==[101,110,116,101,114])=true:=(al a_ [101,110,116,101,114]).trans (by decide);clear B;go_enter func71,ntmps71;go_wp2_with fail
 refine F.mono ?_;rintro e w1⟨_,nw,cw,rfl,B,H,cs⟩;have N:=B.len_str;have cq:1≤nw:=by omega
 have J:nw≤2097153:=by omega
 obtain⟨bb,oo,y0,rfl,R,-,O⟩:=B.str (k:=0) (by omega);obtain rfl:a_=y0:=by have bk:=HX.out;rw[qC,R] at bk;exact bk.symm
 simp only[qW] at O;have c3:0<nw:=by omega
 have cd:=hI H;have M:=hI B;have cL:=hI N;clear H B R N F V;obtain⟨_,F⟩:∃A',(if cw=1 then(some ⟨bb,oo,none⟩:OA) else some ⟨bb,oo+1,none⟩)=A':=⟨_,rfl⟩;have B:=hI (gW M cs cq F);go_wp2_with fail
 refine(L _ _ _ _ B (by omega) (by omega) cd).mono ?_;rintro e w2⟨r1,b1,c1,t1,cB,rfl,H,N⟩;have ck:=zb cd N;clear N L B M O F;obtain⟨w3,F,L,M,N⟩:=ae w2 #[r1,b1,(0:Int),c1,t1,(0:Int),(0:Int)] 25;have a8:=zb ck M;have b0:=hI (HD.below a8);have FD:=(show aO w3 u #[.bool op,b,s,.slice A n c,.slice Ar lr cr] 61 from b0).f5;have co:=hI L;have B:=hI F;have c8:w3.heap.size=w2.heap.size+1:=N;rw[F] at FD;clear L M F N
 cases cB with
 | false=>{
 have HO:=hI (show aZ ⟨op,b,s,h,I⟩ G=(⟨op,b,s,h,I⟩,[101,114,114,111,114,32,54]) from by rw[ar.out];unfold nI;rw[GW H];show(_,bL 6)=_;rw[jy]);clear H;go_wp2_with fail
 rw[←B.out];go_ret;exact fo.same HD rfl HO a8}
 | true=>{
 have F:=Hr H;clear H
 cases op with
 | false=>{
 have HO:=hI (show aZ ⟨false,b,s,h,I⟩ G=(⟨false,b,s,h,I⟩,bL ((5:Nat):Int)) from by rw[ar.out];unfold nI;rw[F];rfl);have M:=hI (dV 5 (by omega) w3 (b3 _ a8).pow);clear F;go_wp2_with fail
 rw[←B.out];clear B FD;refine M.mono ?_;rintro e N⟨rfl,H⟩;have L:=zb a8 H;clear H;go_wp2_with fail
 go_ret;exact fo.same HD rfl HO L}
 | true=>{
 obtain⟨W,L,ch⟩:=zB b s h (r1,b1,0,c1,t1,0,0);have b2:=hI (show aZ ⟨true,b,s,h,I⟩ G=if (W:Int)=0 then(⟨true,b,s,h++[lL h (r1,b1,0,c1,t1,0,0)],I⟩,uT) else(⟨true,b,s,h,I⟩,bL (W:Int)) from by rw[ar.out];unfold nI;rw[F];show(if true=true then _ else _)=_;rw[if_pos rfl,←L]);have bP:=hI (λH (Y:BL w3 H)=>lY b s A n c h r1 b1 0 c1 t1 0 0 H ((cm.below a8).below Y));unfold mh at bP;have H:=λbk:corC b s h (r1,b1,0,c1,t1,0,0)=0=>uz bk
 rw[L] at bP H;generalize mG b s h (r1,b1,0,c1,t1,0,0)=V at *;generalize mF b s h (r1,b1,0,c1,t1,0,0)=Z at *;generalize mD b s h (r1,b1,0,c1,t1,0,0)=lR at *;have bW:=hI (show W=0→V=b∧Z=s∧lR=h++[lL h (r1,b1,0,c1,t1,0,0)] from λbk=>H (by omega));clear H F L ar;go_wp2_with fail
 rw[←B.out];clear B FD;have FD:=(show aO w3 u #[.bool true,b,s,.slice A n c,.slice Ar lr cr] 61 from b0).f5;have B:=co.f7;refine zR 12 (λ_=>false) (λw9 Y=>zA (ab FD.2.1 Y) (zA (ab FD.2.2.1 Y) (zA (ab FD.2.2.2.1 Y) (zA (ab B.1 Y) (zA (ab B.2.1 Y) (zA (ab B.2.2.1 Y) (zA (ab B.2.2.2.1 Y) (zA (ab B.2.2.2.2.1 Y) (zA (ab B.2.2.2.2.2.1 Y) (ab B.2.2.2.2.2.2.1 Y)))))))))) λS U ad c9 F T a7 H=>?_
 refine zS F U 0 H ?_;go_simp;refine zS F U 4 H ?_;go_simp;refine zS F U 1 H ?_;go_simp;refine zS F U 2 H ?_;go_simp;refine zS F U 3 H ?_;go_simp;have a2:=hI a7;clear a7 FD B;refine zt F 5 9 ?_ ?_
 {
 skip;intro K' N;go_simp;go_at_call 104;refine(bP _ a2).mono ?_;rintro e L⟨M,R,O,rfl,bN,-,b4⟩;have bq:=hI bN;clear bN;have a7:=a2.trans (b4.mono a2.size);refine N _ _ (.inr (ad _ a7)) ?_;clear N;have H:=ad _ a7;go_simp;refine zS F U 6 H ?_;go_simp;refine zS F U 7 H ?_;go_simp;refine zS F U 8 H ?_;go_simp;refine zo F 9 λK' N=>?_
 go_simp;refine N _ _ (.inr (ad _ (a7.alloc a7.size _))) ?_;clear N;obtain⟨wa,bO,XZ,b6,cv⟩:=ae L #[(0:Int),(0:Int),.slice none 0 0] 32;rw[←bO];clear bO;have a6:=a7.trans (b6.mono a7.size);have H:=ad _ a6;go_simp;have FZ:=XZ.f3;have J:w3.heap.size≤L.heap.size:=a7.size;refine zo F 10 λK' N=>?_
 go_simp;refine N _ _ (.inr (ad _ ((((a6).setCell (p:=⟨L.heap.size,0,none⟩) (J) _).setCell (p:=⟨L.heap.size,1,none⟩) (J) _).setCell (p:=⟨L.heap.size,2,none⟩) (J) _))) ?_;clear N;have H:=ad _ ((((a6).setCell (p:=⟨L.heap.size,0,none⟩) (J) (.int .i64 V)).setCell (p:=⟨L.heap.size,1,none⟩) (J) (.int .i64 Z)).setCell (p:=⟨L.heap.size,2,none⟩) (J) (.slice M R O));go_simp;refine zS F U 11 H ?_;go_simp;refine zd F ?_;obtain⟨B,a1⟩:∃B:World,B=(((wa).setCell ⟨L.heap.size,0,none⟩ (.int .i64 V)).setCell ⟨L.heap.size,1,none⟩ (.int .i64 Z)).setCell ⟨L.heap.size,2,none⟩ (.slice M R O):=⟨_,rfl⟩;have av:BL w3 B:=by rw[a1];exact(((a6).setCell (p:=⟨L.heap.size,0,none⟩) (J) _).setCell (p:=⟨L.heap.size,1,none⟩) (J) _).setCell (p:=⟨L.heap.size,2,none⟩) (J) _
 have XN:aO B (L.heap.size) #[V,Z,.slice M R O] 32:=by rw[a1];have:=(((XZ).set 0 (.int .i64 V)).set 1 (.int .i64 Z)).set 2 (.slice M R O);simpa using this
 have bp:=hI (show aK (L.heap.size) (L.heap.size+1) wa B from by rw[a1];(repeat refine bD ?_ (qA _) (by omega) _);exact aK.refl _ _ _);have OF:=an (aE (aa bq b6) bp (λq hq=>.inl (by have:=(bq.lt q hq).2;omega))) (base':=w3.heap.size) (by have:=a2.size;omega);rw[←a1];clear a1 FZ H F U ad bp;have bs:=hI OF;have cl:=hI av;have DF:=b0.below av;have ca:=hI DF;have cy:=av.size;have cx:=a8.size;have ba:=zb a8 av;have Fn:=XN.f3;have FD:=(show aO B u #[.bool true,b,s,.slice A n c,.slice Ar lr cr] 61 from DF).f5;clear XN av OF DF;by_cases bo:W=0
 {
 subst bo;obtain⟨e1,e2,e3⟩:=bW rfl;have ar:=hI (show aZ ⟨true,b,s,h,I⟩ G=(⟨true,b,s,lR,I⟩,uT) from by rw[b2.out,if_pos (by rfl),e3]);subst e1 e2;clear e3 bW;obtain⟨wS,a'⟩:∃wS:World,wS=(((B).setCell ⟨u,1,none⟩ (.int .i64 V)).setCell ⟨u,2,none⟩ (.int .i64 Z)).setCell ⟨u,3,none⟩ (.slice M R O):=⟨_,rfl⟩;have cb:=hI (show aO wS u (be true V Z M R O Ar lr cr) 61 from by rw[a'];have:=(((ca).set 1 (.int .i64 V)).set 2 (.int .i64 Z)).set 3 (.slice M R O);simpa[be] using this);have bn:aK u (u+1) B wS:=by rw[a'];(repeat refine bD ?_ (qA _) (by omega) _);exact aK.refl _ _ _
 have cc:=hI (an (aE bs bn (λq hq=>.inr (by have:=(bs.lt q hq).1;omega))) (base':=w.heap.size) (by omega));have b':=hI (aK.trans (aK.of_below (lo:=u) (hi:=u+1) ba) bn);have bt:=hI a';clear a' bn;go_wp2_with fail
 rw[←bt.out];clear bt Fn FD;refine(uG _ _).mono ?_;rintro e w'⟨rfl,rfl⟩;go_wp2_with fail
 go_ret;rw[ar.out];exact⟨M,R,O,Ar,lr,cr,rfl,cb,.inr cc,.inl ⟨rfl,rfl,rfl,rfl⟩,b'⟩}
 {
 have cp:((W:Int)==0)=false:=by simp[bo]
 have ar:=hI (show aZ ⟨true,b,s,h,I⟩ G=(⟨true,b,s,h,I⟩,dG uT (W:Int)) from by rw[b2.out,if_neg (by omega)];unfold dG;rw[if_neg (by omega)]);have b7:=hI (show Calls prog 105 #[.string ⟨#[111,107]⟩,(W:Int)] B (λe w2=>e=.returned (.string (ag (dG uT (W:Int))))∧BL B w2) from fG uT W ch B (b3 _ ba).pow);clear bo;go_wp2_with fail
 clear Fn FD;refine b7.mono ?_;rintro e w9⟨rfl,bv⟩;have b9:=zb ba bv;clear bv;go_wp2_with fail
 go_ret;exact fo.same HD rfl ar b9}}
 {
 skip;intro K' N;go_simp;refine N _ _ (.inr (ad _ (a2.alloc a2.size _))) ?_;clear N;obtain⟨wa,bO,cf,b6,cv⟩:=ae T #[(0:Int),(0:Int),.slice none 0 0] 32;rw[←bO];clear bO;have b5:=a2.trans (b6.mono a2.size);have H:=ad _ b5;go_simp;refine zo F 5 λK' N=>?_
 go_simp;go_at_call 104;refine(bP _ b5).mono ?_;rintro e L⟨M,R,O,rfl,bN,-,b4⟩;have bq:=hI bN;clear bN;have XZ:=cf.below b4;have a6:=b5.trans (b4.mono b5.size);clear cf;refine N _ _ (.inr (ad _ a6)) ?_;clear N;have H:=ad _ a6;go_simp;refine zS F U 6 H ?_;go_simp;refine zS F U 7 H ?_;go_simp;refine zS F U 8 H ?_;go_simp;have FZ:=XZ.f3;have J:w3.heap.size≤T.heap.size:=a2.size;refine zo F 10 λK' N=>?_
 go_simp;refine N _ _ (.inr (ad _ ((((a6).setCell (p:=⟨T.heap.size,0,none⟩) (J) _).setCell (p:=⟨T.heap.size,1,none⟩) (J) _).setCell (p:=⟨T.heap.size,2,none⟩) (J) _))) ?_;clear N;have H:=ad _ ((((a6).setCell (p:=⟨T.heap.size,0,none⟩) (J) (.int .i64 V)).setCell (p:=⟨T.heap.size,1,none⟩) (J) (.int .i64 Z)).setCell (p:=⟨T.heap.size,2,none⟩) (J) (.slice M R O));go_simp;refine zS F U 11 H ?_;go_simp;refine zd F ?_;obtain⟨B,a1⟩:∃B:World,B=(((L).setCell ⟨T.heap.size,0,none⟩ (.int .i64 V)).setCell ⟨T.heap.size,1,none⟩ (.int .i64 Z)).setCell ⟨T.heap.size,2,none⟩ (.slice M R O):=⟨_,rfl⟩;have av:BL w3 B:=by rw[a1];exact(((a6).setCell (p:=⟨T.heap.size,0,none⟩) (J) _).setCell (p:=⟨T.heap.size,1,none⟩) (J) _).setCell (p:=⟨T.heap.size,2,none⟩) (J) _
 have XN:aO B (T.heap.size) #[V,Z,.slice M R O] 32:=by rw[a1];have:=(((XZ).set 0 (.int .i64 V)).set 1 (.int .i64 Z)).set 2 (.slice M R O);simpa using this
 have bp:=hI (show aK (T.heap.size) (T.heap.size+1) L B from by rw[a1];(repeat refine bD ?_ (qA _) (by omega) _);exact aK.refl _ _ _);have OF:=an (aE (bq) bp (λq hq=>.inr (by have:=(bq.lt q hq).1;omega))) (base':=w3.heap.size) (by have:=a2.size;omega);rw[←a1];clear a1 FZ H F U ad bp;have bs:=hI OF;have cl:=hI av;have DF:=b0.below av;have ca:=hI DF;have cy:=av.size;have cx:=a8.size;have ba:=zb a8 av;have Fn:=XN.f3;have FD:=(show aO B u #[.bool true,b,s,.slice A n c,.slice Ar lr cr] 61 from DF).f5;clear XN av OF DF;by_cases bo:W=0
 {
 subst bo;obtain⟨e1,e2,e3⟩:=bW rfl;have ar:=hI (show aZ ⟨true,b,s,h,I⟩ G=(⟨true,b,s,lR,I⟩,uT) from by rw[b2.out,if_pos (by rfl),e3]);subst e1 e2;clear e3 bW;obtain⟨wS,a'⟩:∃wS:World,wS=(((B).setCell ⟨u,1,none⟩ (.int .i64 V)).setCell ⟨u,2,none⟩ (.int .i64 Z)).setCell ⟨u,3,none⟩ (.slice M R O):=⟨_,rfl⟩;have cb:=hI (show aO wS u (be true V Z M R O Ar lr cr) 61 from by rw[a'];have:=(((ca).set 1 (.int .i64 V)).set 2 (.int .i64 Z)).set 3 (.slice M R O);simpa[be] using this);have bn:aK u (u+1) B wS:=by rw[a'];(repeat refine bD ?_ (qA _) (by omega) _);exact aK.refl _ _ _
 have cc:=hI (an (aE bs bn (λq hq=>.inr (by have:=(bs.lt q hq).1;omega))) (base':=w.heap.size) (by omega));have b':=hI (aK.trans (aK.of_below (lo:=u) (hi:=u+1) ba) bn);have bt:=hI a';clear a' bn;go_wp2_with fail
 rw[←bt.out];clear bt Fn FD;refine(uG _ _).mono ?_;rintro e w'⟨rfl,rfl⟩;go_wp2_with fail
 go_ret;rw[ar.out];exact⟨M,R,O,Ar,lr,cr,rfl,cb,.inr cc,.inl ⟨rfl,rfl,rfl,rfl⟩,b'⟩}
 {
 have cp:((W:Int)==0)=false:=by simp[bo]
 have ar:=hI (show aZ ⟨true,b,s,h,I⟩ G=(⟨true,b,s,h,I⟩,dG uT (W:Int)) from by rw[b2.out,if_neg (by omega)];unfold dG;rw[if_neg (by omega)]);have b7:=hI (show Calls prog 105 #[.string ⟨#[111,107]⟩,(W:Int)] B (λe w2=>e=.returned (.string (ag (dG uT (W:Int))))∧BL B w2) from fG uT W ch B (b3 _ ba).pow);clear bo;go_wp2_with fail
 clear Fn FD;refine b7.mono ?_;rintro e w9⟨rfl,bv⟩;have b9:=zb ba bv;clear bv;go_wp2_with fail
 go_ret;exact fo.same HD rfl ar b9}}}}}
end Go.Proofs.YtnpldahkhaacnaaGreatDoor

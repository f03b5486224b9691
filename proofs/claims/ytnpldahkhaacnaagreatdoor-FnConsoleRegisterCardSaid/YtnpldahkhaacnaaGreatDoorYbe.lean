/- Texts of the walk: Zn Np Nf. -/
import Derived.Test.YtnpldahkhaacnaaGreatDoorYbd
import Derived.Test.YtnpldahkhaacnaaGreatDoorYax
set_option linter.unusedVariables false
set_option linter.unusedSimpArgs false
set_option maxRecDepth 100000
set_option maxHeartbeats 32000000
namespace Go.Proofs.YtnpldahkhaacnaaGreatDoor
open Go.RowKit Go.Sort Go.Proofs.Tryz
def dp (b s:Int) (u:List EntryT) (h:LI):LI×Int:=if dC b s u=true then(if bC h=true then(standT (tabR b s u) h,0) else([],2)) else([],1)
def mS (w:World) (r:LI×Int) (e:Ending) (h:World):Prop:=∃A n c,e=.returned (.tuple #[.slice A n c,r.2])∧h.ownsRow w.heap.size 2 1 (.slice A n c) n (ints r.1)∧n≤1048576∧BL w h
theorem mS.nil (w h:World)(code:Int)(u:BL w h):mS w ([],code) (.returned (.tuple #[.slice none 0 0,code])) h:=⟨none,0,0,rfl,World.ownsRow_nil _ _ _ _,by omega,u⟩
theorem dJ {b s:Int}{u:List EntryT}(h:cE b s u):bl (tabR b s u):=pQ (By (vE h) (wR h))
theorem pW (b s:Int)(A:OA)(n c:Nat)(u:List EntryT)(W:OA)(l cl:Nat)(G:LI)(w:World)(V:bA w A n c u)(U:Rd w 1 W l (ints G)):Calls prog 165 #[.agg #[b,s,.slice A n c],.slice W l cl] w (mS w (dp b s u G)):=by{
 obtain⟨_,H,B,F,J⟩:=ae w #[b,s,.slice A n c] 32;have M:=hI H;have L:=hI F;have av:=hI B;have O:=B.f3;have T:=hI (λh (I:BL w h)=>bX b s A n c u h (V.below I));have R:=hI (λh (I:BL w h)=>kv W l cl G h (U.below I));clear H F B J
 cases F:dC b s u with
 | false=>{
 rw[F] at T;rw[show dp b s u G=([],1) from by unfold dp;rw[F];rfl];clear F R V U;go_enter func165,ntmps165;go_wp2_with fail
 rw[←M.out];clear M;refine(T _ L).mono ?_;rintro e w2⟨rfl,B⟩;have H:=zb L B;clear O B;go_wp2_with fail
 go_ret2;exact mS.nil _ _ _ H}
 | true=>{
 rw[F] at T
 cases J:bC G with
 | false=>{
 rw[J] at R;rw[show dp b s u G=([],2) from by unfold dp;rw[F,J];rfl];clear F J V U;go_enter func165,ntmps165;go_wp2_with fail
 rw[←M.out];clear M;refine(T _ L).mono ?_;rintro e w2⟨rfl,B⟩;have H:=zb L B;clear O B;go_wp2_with fail
 refine(R _ H).mono ?_;rintro e w3⟨rfl,N⟩;have Y:=zb H N;clear N;go_wp2_with fail
 go_ret2;exact mS.nil _ _ _ Y}
 | true=>{
 rw[J] at R;rw[show dp b s u G=(standT (tabR b s u) G,0) from by unfold dp;rw[F,J];rfl];have ad:=fA F;have ok:=dJ ad;have ar:=el J;have HT:=hI (λh (I:BL w h)=>lG b s A n c u ad h (V.below I));have HS:=hI (λP n3 c3 C Z d3 h (I:BL w h) (ho:RdT h P n3 C Z (tabR b s u))=>jY P n3 c3 C Z d3 (tabR b s u) ok W l cl G ar h ho (U.below I));generalize tabR b s u=a2 at *;clear F J V U ad ok ar;go_enter func165,ntmps165;go_wp2_with fail
 rw[←M.out];clear M;refine(T _ L).mono ?_;rintro e w2⟨rfl,B⟩;have H:=zb L B;have V:=hI (av.below B);clear O B;go_wp2_with fail
 refine(R _ H).mono ?_;rintro e w3⟨rfl,N⟩;have Y:=zb H N;have O:=(V.below N).f3;clear N;go_wp2_with fail
 refine(HT _ Y).mono ?_;rintro e w4⟨P,n3,c3,_,C,Z,d3,_,rfl,J,-,F⟩;have B:=zb Y F;have U:=hI J.rd;clear J F O;go_wp2_with fail
 refine(HS P n3 c3 C Z d3 _ B U).mono ?_;rintro e w5⟨M,n5,c5,rfl,J,a1,F⟩;have O:=hI (an J B.size);have N:=zb B F;clear J F;go_wp2_with fail
 go_ret2;exact⟨M,n5,c5,rfl,O,a1,N⟩}}}
def eL:LB:=[111,112,101,110]
def dr:LB:=[114,117,108,101]
def aq:LB:=[115,116,97,110,100,105,110,103]
def bM:LB:=[114,97,110,107,115]
def ff:LB:=[110,101,116]
def bf:LB:=[112,111,105,110,116,115]
def cP:LB:=[114,97,99,101]
def aW:LB:=[104,105,115,116,111,114,121]
def cY:LB:=[108,101,97,100]
def cM:LB:=[115,116,97,114,116]
def aS:LB:=[99,111,114,114,101,99,116]
def cW:List LB:=[eL,dr,aq,bM,ff,bf,cP,aW,cY]
def cF:LI:=[2,-1,0,0,1,1,1,2,0]
def es (h:List LB) (i:Nat):Bool:=(h.getD 0 []==cW.getD i [])&&aT (h.drop 1)&&(decide (cF.getD i 0<0)||(cF.getD i 0==(h.length:Int)-1))
def dh (h:List LB):Int:=match (List.range 9).find? (es h) with|some i=>(i:Int)|none=>-1
theorem mi {i j:Nat}(F:i<9)(G:j<9)(h:cW.getD i []=cW.getD j []):i=j:=by{
 have u:i=0∨i=1∨i=2∨i=3∨i=4∨i=5∨i=6∨i=7∨i=8:=by omega
 have B:j=0∨j=1∨j=2∨j=3∨j=4∨j=5∨j=6∨j=7∨j=8:=by omega
 rcases u with rfl|rfl|rfl|rfl|rfl|rfl|rfl|rfl|rfl<;>rcases B with rfl|rfl|rfl|rfl|rfl|rfl|rfl|rfl|rfl<;>first|rfl|(exact absurd h (by decide))}
theorem mw {u:List LB}{i:Nat}(h:es u i=true):u.getD 0 []=cW.getD i []:=by{
 unfold es at h;rw[Bool.and_eq_true,Bool.and_eq_true] at h;exact by simpa using h.1.1}
theorem Au {h:List LB}{i j:Nat}(B:i<9)(G:j<9)(u:h.getD 0 []=cW.getD i [])(F:j≠i):es h j=false:=by{
 cases e:es h j with
 | false=>rfl
 | true=>exact absurd (mi G B ((mw e).symm.trans u)) F}
theorem ow {h:List LB}{i:Nat}(B:i<9)(u:es h i=true):dh h=i:=by{
 unfold dh
 cases e:(List.range 9).find? (es h) with
 | none=>{
 rw[List.find?_eq_none] at e;exact absurd u (e i (List.mem_range.2 B))}
 | some j=>{
 have F:=List.find?_some e;have G:=List.mem_range.1 (List.mem_of_find?_eq_some e);rw[mi G B ((mw F).symm.trans (mw u))]}}
theorem rX {h:List LB}(B:∀j,j<9→es h j=false):dh h=-1:=by{
 unfold dh
 cases e:(List.range 9).find? (es h) with
 | none=>rfl
 | some j=>{
 have u:=List.find?_some e;have F:=List.mem_range.1 (List.mem_of_find?_eq_some e);rw[B j F] at u
 cases u}}
theorem CH {h:List LB}{i:Nat}(F:i<9)(u:h.getD 0 []=cW.getD i [])(B:es h i=false):dh h=-1:=by{
 refine rX (λj G=>?_);by_cases e:j=i
 {rw[e];exact B}
 {exact Au F G u e}}
theorem oI {h:List LB}(u:∀j,j<9→h.getD 0 []≠cW.getD j []):dh h=-1:=by{
 refine rX (λj B=>?_)
 cases e:es h j with
 | false=>rfl
 | true=>exact absurd (mw e) (u j B)}
theorem Ge {h:List LB}(u:aT (h.drop 1)=false):dh h=-1:=by{
 refine rX (λj B=>?_);unfold es;rw[u,Bool.and_false,Bool.false_and]}
theorem Cy (h:List LB):-1≤dh h∧dh h≤8:=by{
 unfold dh
 cases e:(List.range 9).find? (es h) with
 | none=>exact⟨by simp,by simp⟩
 | some j=>{
 have u:=List.mem_range.1 (List.mem_of_find?_eq_some e);exact⟨by show -1≤((j:Nat):Int);omega,by show((j:Nat):Int)≤8;omega⟩}}
theorem El {u:List LB}{i:Nat}(h:dh u=i):i<9∧es u i=true:=by{
 unfold dh at h
 cases e:(List.range 9).find? (es u) with
 | none=>rw[e] at h;exact absurd h (by show ¬((-1:Int)=(i:Int));omega)
 | some j=>{
 rw[e] at h;have h:((j:Nat):Int)=(i:Int):=h;obtain rfl:j=i:=by omega
 exact⟨List.mem_range.1 (List.mem_of_find?_eq_some e),List.find?_some e⟩}}
def dX (h:LB):Option Nat:=(List.range 1000000001).find? λt=>aX t==h
theorem wK {h:LB}{t:Int}(u:Du h t true):dX h=some t.toNat∧0≤t∧t≤1000000000:=by{
 obtain⟨B,F,G⟩:=u.2 rfl;refine⟨?_,B,F⟩;unfold dX
 cases e:(List.range 1000000001).find? λt=>aX t==h with
 | none=>{
 rw[List.find?_eq_none] at e;exact absurd (by simpa using G.symm) (e t.toNat (List.mem_range.2 (by omega)))}
 | some j=>{
 have H:=List.find?_some e;have J:=List.mem_range.1 (List.mem_of_find?_eq_some e);have I:=(u.1 j (by omega) (by simpa using(beq_iff_eq.1 H).symm)).1;rw[I,qP]}}
theorem AZ {h:LB}{t:Int}(u:Du h t false):dX h=none:=by{
 unfold dX;rw[List.find?_eq_none];intro j F B;have:=(u.1 j (by have:=List.mem_range.1 F;omega) (beq_iff_eq.1 B).symm).2
 cases this}
theorem DL {u:LB}{t:Nat}(h:dX u=some t):t≤1000000000∧u=aX t:=by{
 unfold dX at h;have B:=List.find?_some h;have F:=List.mem_range.1 (List.mem_of_find?_eq_some h);exact⟨by omega,(beq_iff_eq.1 B).symm⟩}
theorem zx {t:Nat}(h:t≤1000000000):dX (aX t)=some t:=by{
 unfold dX
 cases e:(List.range 1000000001).find? λB=>aX B==aX t with
 | none=>{
 rw[List.find?_eq_none] at e;exact absurd (by simp) (e t (List.mem_range.2 (by omega)))}
 | some j=>{
 have u:=List.find?_some e;have F:=List.mem_range.1 (List.mem_of_find?_eq_some e);rw[Eh (show j≤1000000000 by omega) h (beq_iff_eq.1 u)]}}
abbrev Jq:=Int×Int×Int×Int
def jZ (h:List LB):Option Jq:=if (3≤h.length∧h.length≤4)∧(aB (h.getD 0 [])).2=true∧(aB (h.getD 1 [])).2=true∧(fe (h.getD 2 [])).2=true∧((fe (h.getD 2 [])).1=0↔h.length=4)∧(h.length=4→(dX (h.getD 3 [])).isSome=true) then some ((aB (h.getD 0 [])).1,(aB (h.getD 1 [])).1,(fe (h.getD 2 [])).1,if h.length=4 then(((dX (h.getD 3 [])).getD 0:Nat):Int) else 0) else none
theorem yA {u:List LB}{r b c t:Int}(B:jb u r b c t):jZ u=some (r,b,c,t):=by{
 obtain⟨F,H,I,J,G,L,M⟩:=B;unfold jZ;rw[H,I,J];by_cases h:u.length=4
 {
 obtain⟨N,_,O⟩:=L h;have R:dX (u.getD 3 [])=some t.toNat:=by rw[O];exact zx (by omega)
 rw[R,if_pos ⟨F,rfl,rfl,rfl,G,λ_=>rfl⟩,if_pos h];show some (r,b,c,((t.toNat:Nat):Int))=_;rw[Int.toNat_of_nonneg N]}
 {rw[if_pos ⟨F,rfl,rfl,rfl,G,λB=>absurd B h⟩,if_neg h,M (by omega)]}}
theorem GG {F:List LB}{r b c t:Int}(h:jZ F=some (r,b,c,t)):jb F r b c t:=by{
 unfold jZ at h;split at h
 {
 rename_i U;obtain⟨L,M,N,O,R,T⟩:=U;injection h with h;injection h with I h;injection h with J h;injection h with G u;refine⟨L,Prod.ext I M,Prod.ext J N,Prod.ext G O,by rw[←G];exact R,λB=>?_,λB=>?_⟩
 {
 rw[if_pos B] at u;have H:=T B
 cases e:dX (F.getD 3 []) with
 | none=>rw[e] at H;cases H
 | some W=>{
 rw[e] at u;simp only[Option.getD_some] at u;obtain⟨_,V⟩:=DL e;subst u;exact⟨by omega,by omega,by rw[qP];exact V⟩}}
 {
 rw[if_neg (by omega)] at u;exact u.symm}}
 {cases h}}
theorem xk {h:List LB}(u:∀r b c t,¬jb h r b c t):jZ h=none:=by{
 cases e:jZ h with
 | none=>rfl
 | some x=>{
 obtain⟨r,b,c,t⟩:=x;exact absurd (GG e) (u r b c t)}}
theorem Hr {h:List LB}{r b c t:Int}(u:XP h r b c t true):jZ h=some (r,b,c,t):=yA (u.1 rfl)
theorem GW {h:List LB}{r b c t:Int}(u:XP h r b c t false):jZ h=none:=xk (u.2 rfl)
theorem Ia {h:List LB}{r b c t:Int}(u:XW h r b c t true):h.getD 0 []=a_∧jZ (h.drop 1)=some (r,b,c,t):=⟨(u.1 rfl).1,yA (u.1 rfl).2⟩
theorem Ho {h:List LB}{r b c t:Int}(u:XW h r b c t false)(B:h.getD 0 []=a_):jZ (h.drop 1)=none:=xk (u.2 rfl B)
def bL (c:Int):LB:=[101,114,114,111,114,32]++aP c.toNat
def dG (s:LB) (c:Int):LB:=if c=0 then s else bL c
def uT:LB:=[111,107]
def eB (t f:Int):Int:=if (af t 1 1000000000&&af f 1 3000)=true then 0 else 2
def dL (t f:Int):Int:=if (af t 1 1000000000&&af f 1 3000)=true then max 1 (min 1000000000 ((t*f+500)/1000)) else 0
theorem tp (t f:Int):0≤dL t f∧dL t f≤1000000000:=by{
 unfold dL;split<;>omega}
def fX (rest:LB):LB:=if rest=[] then bL 6 else match fm rest with|none=>bL 6|some l=>dG (aX (cD l).1.toNat) (cD l).2
def cS (h:List LB):LB:=if h.length=2 then(match dX (h.getD 0 []) with|none=>bL 6|some t=>if (aB (h.getD 1 [])).2=true then dG (aX (dL t (aB (h.getD 1 [])).1).toNat) (eB t (aB (h.getD 1 [])).1) else bL 6) else bL 6
def eO (x:ah):LB:=aD x.2.1++(if x.2.1=0 then 61::aP x.2.2.toNat else [])
def ew (b:Int) (h:List ah):LB:=if e_ b h=true then bJ (h.map eO) else []
def iO (t:Tb):Int:=if t.boats=1 then 5 else 0
def eZ (t:Tb) (h:LI):Int:=if t.boats=1 then 0 else cz t h ((standT t h).getD 1 0)-cz t h ((standT t h).getD 0 0)
theorem ze {t:Tb}(u:bl t)(h:LI):0≤eZ t h∧eZ t h≤120000:=by{
 unfold eZ;split
 {omega}
 {
 rename_i L;have O:=u.b1;have G:=sF (tK u h) t.boats.toNat;rw[←uF u h] at G;have B:=eQ t h
 cases e:standT t h with
 | nil=>rw[e] at B;simp at B;omega
 | cons a r=>{
 cases r with
 | nil=>rw[e] at B;simp at B;omega
 | cons b r=>{
 rw[e] at G;have F:=(List.pairwise_cons.1 G).1 b (List.mem_cons_self ..);have M:=kw u h a;have N:=kw u h b;show 0≤cz t h b-cz t h a∧cz t h b-cz t h a≤120000;refine⟨?_,by omega⟩;rcases Int.lt_or_le (cz t h b) (cz t h a) with H|H
 {
 exfalso;have I:tM t h b a=true:=by{
 unfold tM iB;rw[if_pos (by omega)];show decide (dY _<0)=true;rw[decide_eq_true_eq,oF];omega}
 have J:tM t h a b=false:=by{
 unfold tM iB;rw[if_pos (by omega)];show decide (dY _<0)=false;rw[decide_eq_false_iff_not,oF];omega}
 unfold kU at F;rw[J,I] at F;simp at F}
 {omega}}}}}
structure Dk where
 op : Bool
 b : Int
 s : Int
 xs : List EntryT
 rule : LI
def Dk.zero:Dk:=⟨false,0,0,[],[]⟩
structure lh (d : Dk) : Prop where
 reg : d.op = true → cE d.b d.s d.xs
 rul : d.op = true → bC d.rule = true
 shut : d.op = false → d = Dk.zero
theorem lh.zero:lh Dk.zero:=⟨(λh=>by cases h),(λh=>by cases h),λ_=>rfl⟩
def bu (h:List LB):LI:=(h.drop 1).map λw=>(aB w).1
def dH (d:Dk) (k:Int) (n:LI):LB:=if k=2 then dy (standT (tabR d.b d.s d.xs) d.rule) else if k=3 then dy (rkL (tabR d.b d.s d.xs) d.rule) else if k=4 then dG (aP (cz (tabR d.b d.s d.xs) d.rule (n.getD 0 0)).toNat) (gZ (tabR d.b d.s d.xs) d.rule (n.getD 0 0)) else if k=5 then(if af (n.getD 0 0) 0 (((tabR d.b d.s d.xs).pts.length:Int)-1)=true then dy ((tabR d.b d.s d.xs).pts.getD (n.getD 0 0).toNat []) else bL 4) else if k=6 then(if af (n.getD 0 0) 0 (((tabR d.b d.s d.xs).pts.length:Int)-1)=true then ew d.b ((ia d.b d.xs).getD (n.getD 0 0).toNat []) else bL 4) else if k=7 then dG (aP (ep d.b d.s d.xs (n.getD 0 0) (n.getD 1 0)).length) (c_ d.b d.s d.xs (n.getD 0 0) (n.getD 1 0)) else dG (aP (eZ (tabR d.b d.s d.xs) d.rule).toNat) (iO (tabR d.b d.s d.xs))
def nI (d:Dk) (h:List LB):Dk×LB:=match jZ h with|none=>(d,bL 6)|some (r,b,c,t)=>if d.op=true then(if corC d.b d.s d.xs (r,b,0,c,t,0,0)=0 then({ d with xs:=d.xs++[lL d.xs (r,b,0,c,t,0,0)] },uT) else(d,bL (corC d.b d.s d.xs (r,b,0,c,t,0,0)))) else(d,bL 5)
def DG (d:Dk) (n:LI):Dk×LB:=if dC (n.getD 0 0) (n.getD 1 0) []=true then(⟨true,n.getD 0 0,n.getD 1 0,[],[]⟩,uT) else(d,bL 2)
def tg (d:Dk) (n:LI):Dk×LB:=if bC n=true then({ d with rule:=n },uT) else(d,bL 2)
def jI (d:Dk) (k:Int) (n:LI):Dk×LB:=if k=-1 then(d,bL 6) else if k=0 then DG d n else if d.op=true then(if k=1 then tg d n else(d,dH d k n)) else(d,bL 5)
def aZ (d:Dk) (h:LB):Dk×LB:=if (wordsL h).getD 0 []=cM then(d,fX (h.drop 6)) else if (wordsL h).getD 0 []=aS then(d,cS ((wordsL h).drop 1)) else if (wordsL h).getD 0 []=a_ then nI d ((wordsL h).drop 1) else jI d (dh (wordsL h)) (bu (wordsL h))
theorem GZ {b s:Int}{u:List EntryT}{x:EntryT}(h:corC b s u x=0):dC b s u=true∧E.rev x=0∧d_ b s u (lL u x)=0:=by{
 unfold corC at h;by_cases B:dC b s u=true
 {
 rw[if_pos B] at h;by_cases F:E.rev x=0
 {rw[if_pos F] at h;exact⟨B,F,h⟩}
 {rw[if_neg F] at h;cases h}}
 {rw[if_neg B] at h;cases h}}
theorem uz {b s:Int}{xs:List EntryT}{x:EntryT}(h:corC b s xs x=0):mG b s xs x=b∧mF b s xs x=s∧mD b s xs x=xs++[lL xs x]:=by{
 unfold mG mF mD;exact⟨if_pos h,if_pos h,if_pos h⟩}
theorem Ib {d:Dk}(h:lh d)(G:LB):lh (aZ d G).1:=by{
 unfold aZ;split
 {exact h}
 split
 {exact h}
 split
 {
 unfold nI;split
 {exact h}
 {
 rename_i r b c t H;split
 {
 rename_i u;split
 {
 rename_i F;exact⟨λ_=>GU (GZ F).2.2,λ_=>h.rul u,λB=>by rw[show d.op=false from B] at u;cases u⟩}
 {exact h}}
 {exact h}}}
 {
 unfold jI;split
 {exact h}
 split
 {
 unfold DG;split
 {
 rename_i F;exact⟨λ_=>fA F,λ_=>rfl,λB=>by cases B⟩}
 {exact h}}
 split
 {
 rename_i u;split
 {
 unfold tg;split
 {
 rename_i F;exact⟨λ_=>h.reg u,λ_=>F,λB=>by rw[show d.op=false from B] at u;cases u⟩}
 {exact h}}
 {exact h}}
 {exact h}}}
def di (d:Dk):List LB→Dk×List LB|[]=>(d,[])|l::r=>((di (aZ d l).1 r).1,(aZ d l).2::(di (aZ d l).1 r).2)
theorem IH:∀(u:List LB) {d:Dk},lh d→lh (di d u).1:=by{
 intro u
 induction u with
 | nil=>intro d h;exact h
 | cons l r B=>intro d h;exact B (Ib h l)}
theorem Cl:∀(a b:List LB) (d:Dk),di d (a++b)=((di (di d a).1 b).1,(di d a).2++(di (di d a).1 b).2):=by{
 intro a
 induction a with
 | nil=>intro b d;rfl
 | cons l r h=>intro b d;rw[List.cons_append,di,h];rfl}
theorem BX:∀(h:List LB) (d:Dk),(di d h).2.length=h.length:=by{
 intro h
 induction h with
 | nil=>intro d;rfl
 | cons l r u=>intro d;rw[di];simp[u]}
def bE (s:LB):List LB:=if (aL s).getLast (gK s)=[] then(aL s).dropLast else aL s
def dU (s:LB):Bool:=decide (s.length≤6000)&&decide ((bE s).length≤150)
def dF (s:LB):Int:=if dU s=true then 0 else 3
def eG (s:LB):List LB:=if dU s=true then(di Dk.zero (bE s)).2 else []
def dl (s:LB):Dk:=if dU s=true then(di Dk.zero (bE s)).1 else Dk.zero
theorem tT (t:Int)(w:World):Calls prog 216 #[t] w λe h=>e=.returned (.bool (af t 1 1000000000))∧w=h:=by{
 have u:=hI (bc t 1 1000000000 w);go_enter func216,ntmps216;go_wp2_with fail
 refine u.mono ?_;rintro e h⟨rfl,rfl⟩;go_wp2_with fail
 go_ret;exact⟨rfl,rfl⟩}
theorem vI (t:Int)(w:World):Calls prog 217 #[t] w λe h=>e=.returned (.bool (af t 1 3000))∧w=h:=by{
 have u:=hI (bc t 1 3000 w);go_enter func217,ntmps217;go_wp2_with fail
 refine u.mono ?_;rintro e h⟨rfl,rfl⟩;go_wp2_with fail
 go_ret;exact⟨rfl,rfl⟩}
theorem xi (t:Int)(w:World):Calls prog 229 #[t] w λe h=>e=.returned (.bool (af t 1 1000000000))∧w=h:=by{
 have u:=hI (bi t 1 1000000000 w);go_enter func229,ntmps229;go_wp2_with fail
 refine u.mono ?_;rintro e h⟨rfl,rfl⟩;go_wp2_with fail
 go_ret;exact⟨rfl,rfl⟩}
theorem ud (t:Int)(w:World):Calls prog 230 #[t] w λe h=>e=.returned (.bool (af t 1 3000))∧w=h:=by{
 have u:=hI (bi t 1 3000 w);go_enter func230,ntmps230;go_wp2_with fail
 refine u.mono ?_;rintro e h⟨rfl,rfl⟩;go_wp2_with fail
 go_ret;exact⟨rfl,rfl⟩}
theorem Cz {t f:Int}(u:1≤t∧t≤1000000000)(h:1≤f∧f≤3000):1≤t*f∧t*f≤3000000000000:=by{
 have B:1*1≤t*f:=Int.mul_le_mul u.1 h.1 (by omega) (by omega);have F:t*f≤1000000000*3000:=Int.mul_le_mul u.2 h.2 (by omega) (by omega);omega}
theorem tO (t f:Int)(B:1≤t∧t≤1000000000)(u:1≤f∧f≤3000)(w:World):Calls prog 218 #[t,f] w λe F=>e=.returned (.int .i64 (max 1 (min 1000000000 ((t*f+500)/1000))))∧w=F:=by{
 obtain⟨_,_⟩:=Cz B u;have G:IntKind.i64.wrap (2*t)=2*t:=IntWalk.i64_in _ (by omega);have h:2*t*f=2*(t*f):=by rw[Int.mul_assoc]
 have H:IntKind.i64.wrap (2*t*f)=2*t*f:=by rw[h];exact IntWalk.i64_in _ (by omega)
 have I:IntKind.i64.wrap (2*t*f+1000)=2*t*f+1000:=by rw[h];exact IntWalk.i64_in _ (by omega)
 have J:(2*t*f+1000).tdiv 2000=(t*f+500)/1000:=by rw[h,Int.tdiv_eq_ediv_of_nonneg (by omega)];omega
 have L:IntKind.i64.wrap ((t*f+500)/1000)=(t*f+500)/1000:=IntWalk.i64_in _ (by omega);go_enter func218,ntmps218;go_wp2_with fail
 go_ret;exact⟨congrArg (λz=>Ending.returned (Value.int IntKind.i64 (max 1 (min 1000000000 z)))) (show(2*(t*f)+1000)/2000=(t*f+500)/1000 from by omega),rfl⟩}
theorem p_ (t f:Int)(u:1≤t∧t≤1000000000)(h:1≤f∧f≤3000)(w:World):Calls prog 231 #[t,f] w λe B=>e=.returned (.int .i64 (max 1 (min 1000000000 ((t*f+500)/1000))))∧w=B:=by{
 obtain⟨_,_⟩:=Cz u h;have F:IntKind.i64.wrap (t*f)=t*f:=IntWalk.i64_in _ (by omega);have G:IntKind.i64.wrap (t*f+500)=t*f+500:=IntWalk.i64_in _ (by omega);have H:(t*f+500).tdiv 1000=(t*f+500)/1000:=by rw[Int.tdiv_eq_ediv_of_nonneg (by omega)]
 have I:IntKind.i64.wrap ((t*f+500)/1000)=(t*f+500)/1000:=IntWalk.i64_in _ (by omega);go_enter func231,ntmps231;go_wp2_with fail
 go_ret;exact⟨rfl,rfl⟩}
theorem uo (t f:Int)(w:World):Calls prog 147 #[t,f] w λe B=>e=.returned (.tuple #[.int .i64 (dL t f),.int .i64 (eB t f)])∧w=B:=by{
 have F:=hI (tT t w);have I:=hI (vI f w)
 cases h:af t 1 1000000000 with
 | false=>{
 have H:=hI (show dL t f=0 from by unfold dL;rw[h];rfl);have G:=hI (show eB t f=2 from by unfold eB;rw[h];rfl);rw[h] at F;go_enter func147,ntmps147;go_wp2_with fail
 refine F.mono ?_;rintro e B⟨rfl,rfl⟩;go_wp2_with fail
 go_ret2;exact⟨by rw[H.out,G.out];rfl,rfl⟩}
 | true=>{
 cases u:af f 1 3000 with
 | false=>{
 have H:=hI (show dL t f=0 from by unfold dL;rw[h,u];rfl);have G:=hI (show eB t f=2 from by unfold eB;rw[h,u];rfl);rw[h] at F;rw[u] at I;go_enter func147,ntmps147;go_wp2_with fail
 refine F.mono ?_;rintro e B⟨rfl,rfl⟩;go_wp2_with fail
 refine I.mono ?_;rintro e B⟨rfl,rfl⟩;go_wp2_with fail
 go_ret2;exact⟨by rw[H.out,G.out];rfl,rfl⟩}
 | true=>{
 have H:=hI (show dL t f=max 1 (min 1000000000 ((t*f+500)/1000)) from by unfold dL;rw[h,u];rfl);have G:=hI (show eB t f=0 from by unfold eB;rw[h,u];rfl);have J:=hI (tO t f (ai.1 h) (ai.1 u) w);rw[h] at F;rw[u] at I;rw[←H.out] at J;go_enter func147,ntmps147;go_wp2_with fail
 refine F.mono ?_;rintro e B⟨rfl,rfl⟩;go_wp2_with fail
 refine I.mono ?_;rintro e B⟨rfl,rfl⟩;go_wp2_with fail
 refine J.mono ?_;rintro e B⟨rfl,rfl⟩;go_wp2_with fail
 go_ret2;exact⟨by rw[G.out];rfl,rfl⟩}}}
theorem mO (t f:Int)(w:World):Calls prog 159 #[t,f] w λe B=>e=.returned (.tuple #[.int .i64 (dL t f),.int .i64 (eB t f)])∧w=B:=by{
 have F:=hI (xi t w);have I:=hI (ud f w)
 cases h:af t 1 1000000000 with
 | false=>{
 have H:=hI (show dL t f=0 from by unfold dL;rw[h];rfl);have G:=hI (show eB t f=2 from by unfold eB;rw[h];rfl);rw[h] at F;go_enter func159,ntmps159;go_wp2_with fail
 refine F.mono ?_;rintro e B⟨rfl,rfl⟩;go_wp2_with fail
 go_ret2;exact⟨by rw[H.out,G.out];rfl,rfl⟩}
 | true=>{
 cases u:af f 1 3000 with
 | false=>{
 have H:=hI (show dL t f=0 from by unfold dL;rw[h,u];rfl);have G:=hI (show eB t f=2 from by unfold eB;rw[h,u];rfl);rw[h] at F;rw[u] at I;go_enter func159,ntmps159;go_wp2_with fail
 refine F.mono ?_;rintro e B⟨rfl,rfl⟩;go_wp2_with fail
 refine I.mono ?_;rintro e B⟨rfl,rfl⟩;go_wp2_with fail
 go_ret2;exact⟨by rw[H.out,G.out];rfl,rfl⟩}
 | true=>{
 have H:=hI (show dL t f=max 1 (min 1000000000 ((t*f+500)/1000)) from by unfold dL;rw[h,u];rfl);have G:=hI (show eB t f=0 from by unfold eB;rw[h,u];rfl);have J:=hI (p_ t f (ai.1 h) (ai.1 u) w);rw[h] at F;rw[u] at I;rw[←H.out] at J;go_enter func159,ntmps159;go_wp2_with fail
 refine F.mono ?_;rintro e B⟨rfl,rfl⟩;go_wp2_with fail
 refine I.mono ?_;rintro e B⟨rfl,rfl⟩;go_wp2_with fail
 refine J.mono ?_;rintro e B⟨rfl,rfl⟩;go_wp2_with fail
 go_ret2;exact⟨by rw[G.out];rfl,rfl⟩}}}
theorem Ci (c:LB):ag [101,114,114,111,114,32]++ag c=ag ([101,114,114,111,114,32]++c):=by rw[aA]
theorem dV (c:Nat)(hc:c≤9)(w:World)(H:Pow w):Calls prog 103 #[(c:Int)] w λe u=>e=.returned (.string (ag (bL (c:Int))))∧BL w u:=by{
 have G:=hI (ii c (by omega) w H);have F:=hI (show ag (bL (c:Int))=ag [101,114,114,111,114,32]++ag (aP c) from by rw[Ci];rfl);have I:(ag (aP c)).size≤1:=by rw[aj];have:=bd 0 c (by omega);omega
 generalize ag (aP c)=z at *;go_enter func103,ntmps103;go_wp2_with fail
 refine G.mono ?_;rintro e u⟨rfl,h⟩;have B:=hI h;clear h;go_wp2_with fail
 go_ret;exact⟨by rw[F.out];rfl,B⟩}
theorem gT (c:Nat)(hc:c≤9)(w:World):Calls prog 112 #[(c:Int)] w λe u=>e=.returned (.string (ag (bL (c:Int))))∧BL w u:=by{
 have G:=hI (cu c c (by omega) (by omega) w);have F:=hI (show ag (bL (c:Int))=ag [101,114,114,111,114,32]++ag (aP c) from by rw[Ci];rfl);have H:(ag (aP c)).size≤1:=by rw[aj];have:=bd 0 c (by omega);omega
 generalize ag (aP c)=z at *;go_enter func112,ntmps112;go_wp2_with fail
 refine G.mono ?_;rintro e u⟨rfl,h⟩;have B:=hI h;clear h;go_wp2_with fail
 go_ret;exact⟨by rw[F.out];rfl,B⟩}
theorem fG (s:LB)(c:Nat)(hc:c≤9)(w:World)(H:Pow w):Calls prog 105 #[.string (ag s),(c:Int)] w λe u=>e=.returned (.string (ag (dG s (c:Int))))∧BL w u:=by{
 have F:=hI (dV c hc w H);by_cases h:c=0
 {
 subst h;go_enter func105,ntmps105;go_wp2_with fail
 go_ret;exact⟨rfl,qB _ _⟩}
 {
 have I:((c:Int)==0)=false:=by simp[h]
 have J:((c:Int) !=0)=true:=by simp[h]
 have G:=hI (show dG s (c:Int)=bL (c:Int) from by unfold dG;rw[if_neg (by omega)]);clear h;go_enter func105,ntmps105;go_wp2_with fail
 refine F.mono ?_;rintro e u⟨rfl,h⟩;have B:=hI h;clear h;go_wp2_with fail
 go_ret;exact⟨by rw[G.out];rfl,B⟩}}
end Go.Proofs.YtnpldahkhaacnaaGreatDoor

/- Texts of the walk: Zmd Ri. -/
import Derived.Lib.IndexMore
import Derived.Lib.AtoiAll
import Derived.BigRegion
import Derived.Test.YtnpldahkhaacnaaGreatDoorYaf
set_option linter.unusedVariables false
set_option linter.unusedSimpArgs false
set_option maxRecDepth 100000
set_option maxHeartbeats 32000000
namespace Go.Proofs.YtnpldahkhaacnaaGreatDoor
open Go.RowKit Go.Sort Go.Proofs.Tryz
theorem sK (n:Int)(N:-1000000000000000≤n)(O:n≤1000000000000000)(w:World):Calls prog 228 #[n] w λe u=>e=.returned (.string (ag (Lib.itoa n)))∧BL w u:=by{
 by_cases H:n<0
 {
 obtain⟨m,rfl⟩:∃m:Nat,n=-(m:Int):=⟨n.natAbs,by omega⟩;have J:decide (0<m)=true:=by simp;omega
 have G:=hI (λu=>cu m m (qA _) (by omega) u);have B:=bd 15 m (by omega);have R:(ag (aP m)).size≤16:=by rw[aj];exact B
 have F:=hI (show ag (Lib.itoa (-(m:Int)))=⟨#[45]⟩++ag (aP m) from by rw[Lib.itoa_neg m (by omega)];show ag (45::aP m)=ag [45]++ag (aP m);rw[aA];rfl);have h:- -(m:Int)=(m:Int):=by omega
 have I:=hI h;generalize ag (aP m)=M at *;clear H B h;go_enter func228,ntmps228;go_wp2_with fail
 (try rw[I.out]);refine(G _).mono ?_;rintro e L⟨rfl,h⟩;have B:=hI h;clear h;go_wp2_with fail
 go_ret;exact⟨by rw[F.out];rfl,B⟩}
 {
 have J:decide (n<0)=false:=by simpa using H
 obtain⟨m,rfl⟩:=aC n (by omega);have G:=hI (λu=>cu m m (qA _) (by omega) u);have F:=hI (show ag (Lib.itoa (m:Int))=ag (aP m) from by rw[Lib.itoa_nonneg];rfl);clear H;go_enter func228,ntmps228;go_wp2_with fail
 refine(G _).mono ?_;rintro e L⟨rfl,h⟩;have B:=hI h;clear h;go_wp2_with fail
 go_ret;exact⟨by rw[F.out];rfl,B⟩}}
theorem ng (n:Nat)(l:LB)(c:UInt8):valL n (l++[c])=fR (valL n l) c:=by rw[sm,fS,eh]
theorem rR {a b:LB}(h:ag a=ag b):a=b:=by rw[←aw a,h,aw]
def mB (neg:Bool) (D w:LB):Int×Bool:=if D.length<1∨15<D.length then(0,false) else if D.all jL=true then(if Lib.itoa (if neg=true then -(valL 0 D:Int) else(valL 0 D:Int))=w then(if neg=true then -(valL 0 D:Int) else(valL 0 D:Int),true) else(0,false)) else(0,false)
def cg (w:LB):Int×Bool:=match w with|[]=>(0,false)|c::r=>if c=45 then mB true r (c::r) else mB false (c::r) (c::r)
theorem nC {neg:Bool}{D w:LB}(h:D.length<1∨15<D.length):mB neg D w=(0,false):=by unfold mB;rw[if_pos h]
theorem nz {neg:Bool}{D w:LB}(h:¬D.all jL=true):mB neg D w=(0,false):=by{
 unfold mB;split<;>first|rfl|rw[if_neg h]}
theorem lw {neg:Bool}{D w:LB}(h:¬(D.length<1∨15<D.length))(u:D.all jL=true)(B:Lib.itoa (if neg=true then -(valL 0 D:Int) else(valL 0 D:Int))=w):mB neg D w=(if neg=true then -(valL 0 D:Int) else(valL 0 D:Int),true):=by{
 unfold mB;rw[if_neg h,if_pos u,if_pos B]}
theorem wP {neg:Bool}{D w:LB}(h:¬(D.length<1∨15<D.length))(u:D.all jL=true)(B:¬Lib.itoa (if neg=true then -(valL 0 D:Int) else(valL 0 D:Int))=w):mB neg D w=(0,false):=by{
 unfold mB;rw[if_neg h,if_pos u,if_neg B]}
theorem tB {n:Nat}(G:n<10^15):cg (aP n)=((n:Int),true):=by{
 have u:=dZ n;have F:=bd 14 n (by simpa using G);have B:=jP n
 cases h:aP n with
 | nil=>exact absurd h (pN n)
 | cons c r=>{
 rw[h] at u F B;have H:c≠45:=by{
 intro e;have:=u c List.mem_cons_self;rw[e] at this;exact absurd this (by decide)}
 show(if c=45 then _ else _)=_;rw[if_neg H,lw (neg:=false) (by simp at F ⊢;omega) (List.all_eq_true.2 u) (by rw[if_neg (by decide),B,Lib.itoa_nonneg];exact h),if_neg (by decide),B]}}
theorem iE (s:ByteArray)(hs:s.size≤2097152)(w:World):Calls prog 158 #[.string s] w λe w'=>e=.returned (.tuple #[.int .i64 (cg s.data.toList).1,.bool (cg s.data.toList).2])∧BL w w':=by{
 have H:=fw s;have a1:=Lib.size_eq s
 cases V:s.data.toList with
 | nil=>{
 have cf:s=⟨#[]⟩:=by{
 apply WideShapes.bytes_inj;rw[V]}
 subst cf;clear V H a1;go_enter func158,ntmps158;go_wp2_with fail
 go_ret2;exact⟨rfl,qB _ _⟩}
 | cons c r=>{
 rw[V] at H a1;have h0:0<s.size:=by rw[a1];simp
 have bq:(s[0]'h0).toNat=c.toNat:=by{
 have B:s.data.toList[0]?=some c:=by rw[V];rfl
 have h2:s.data.toList[0]?=some (s[0]'h0):=by{
 rw[qG (by rw[V];simp)];rfl}
 rw[h2] at B;injection B with B;rw[B]}
 have b1:=hI H;by_cases a6:c=45
 {
 have hv:cg (c::r)=mB true r (c::r):=by show(if c=45 then _ else _)=_;rw[if_pos a6]
 rw[hv];have bt:(s[0]'h0).toNat=45:=by rw[bq,a6];rfl
 have b3:r.length=s.size-1:=by rw[a1];simp
 have b5:s.extract 1 s.size=ag r:=by rw[bQ s 1 s.size (qA _),V];show ag (r.take (s.size-1))=ag r;rw[qI (by omega)]
 have b6:=hI b5;have b4:=aj r;have b0:=hI b4;have O:=hI b3;clear hv bq V H a1 a6 b5 b4 b3;by_cases Z:r.length<1∨15<r.length
 {
 rw[nC Z];rcases Z with B|B
 {
 have e1:decide (((s.size-1:Nat):Int)<1)=true:=by have:=O.out;simp;omega
 clear B;go_enter func158,ntmps158;go_wp2_with fail
 go_ret2;exact⟨rfl,qB _ _⟩}
 {
 have e1:decide (((s.size-1:Nat):Int)<1)=false:=by have:=O.out;simp;omega
 have e2:decide ((15:Int)<((s.size-1:Nat):Int))=true:=by have:=O.out;simp;omega
 clear B;go_enter func158,ntmps158;go_wp2_with fail
 go_ret2;exact⟨rfl,qB _ _⟩}}
 {
 have e1:decide (((s.size-1:Nat):Int)<1)=false:=by have:=O.out;simp;omega
 have e2:decide ((15:Int)<((s.size-1:Nat):Int))=false:=by have:=O.out;simp;omega
 have Y:decide (((s.size-1:Nat):Int)<(s.size:Int))=true:=by simp;omega
 have bp:=hI Y;have av:=hI Z;have a':=hI (show ag (c::r)=s from b1);generalize c::r=u at *;clear Y Z;go_enter func158,ntmps158;go_wp2_with fail
 rw[b6.out,←O.out,←b0.out];rw[←O.out,←b0.out] at bp;have a8:=hI (aw r);have b9:r.length≤15:=by have:=av.out;omega
 generalize b':ag r=S at *;clear bt e1 e2 b';have ba:r.length=S.size:=by rw[Lib.size_eq S,a8.out]
 have a7:=hI ba;clear ba;go_loop [5,6] (λn i=>∃(k x:Nat),k≤S.size∧x<1000000000000000∧i=.int .i64 k∧n=.int .i64 x∧Hid (x=valL 0 (r.take k)∧∀c∈r.take k,jL c=true)) (λ_ i=>S.size-(intOf i).toNat)
 case atStart=>exact⟨0,0,qH _,by omega,rfl,rfl,hI ⟨by rw[qh,eh],by simp⟩⟩
 case round=>(
 obtain⟨k,x,hk,hx,rfl,rfl,I⟩:=hrel;by_cases bO:k<S.size
 {
 have bN:decide ((k:Int)<(S.size:Int))=true:=by simpa using bO
 have bb:k<r.length:=by have:=a7.out;omega
 have U:S[k]=r[k]:=by{
 have B:=a8.out;subst B;rfl}
 have ad:r.take (k+1)=r.take k++[r[k]]:=by rw[List.take_add_one,qG bb];rfl
 obtain⟨h,J⟩:∃h,h=(S[k]).toNat:=⟨_,rfl⟩;by_cases G:jL r[k]=true
 {
 have W:=G;unfold jL at W;simp only[Bool.and_eq_true,decide_eq_true_eq] at W;rw[←U,←J] at W;have F:∀c∈r.take (k+1),jL c=true:=by{
 rw[ad];intro c T;rcases List.mem_append.1 T with T|T
 {exact I.2 c T}
 {rw[List.mem_singleton.1 T];exact G}}
 have a2:valL 0 (r.take (k+1))=10*x+(h-48):=by{
 rw[ad,ng,←I.out.1,←U];unfold fR;rw[←J]}
 have bk:=oU (r.take (k+1)) 0 F;have bn:10^(r.take (k+1)).length≤10^15:=Nat.pow_le_pow_right (by decide) (by rw[qS];omega);rw[a2] at bk;have bW:10*x+(h-48)<1000000000000000:=by{
 have e:(10:Nat)^15=1000000000000000:=by decide
 rw[e] at bn;omega}
 have bs:=hI (show 10*x+(h-48)=valL 0 (r.take (k+1))∧∀c∈r.take (k+1),jL c=true from⟨a2.symm,F⟩);obtain⟨cb,cc⟩:=W;have bv:(S[k]).toNat=h:=J.symm;have bo:decide ((h:Int)<48)=false:=by simp;omega
 have bR:decide ((57:Int)<(h:Int))=false:=by simp;omega
 clear G F a2 bk bn ad U I J;go_wp2_with fail
 go_round
 case rel=>exact⟨k+1,10*x+(h-48),by omega,bW,by go_num,by go_num,bs⟩
 case measure=>simp[intOf]<;>omega}
 {
 have M:=hI (nz (neg:=true) (D:=r) (w:=u) (λF=>G (List.all_eq_true.1 F _ (List.getElem_mem bb))));have bv:(S[k]).toNat=h:=J.symm;have bP:h<48∨(¬h<48∧57<h):=by{
 unfold jL at G;simp only[Bool.and_eq_true,decide_eq_true_eq] at G;rw[←U,←J] at G;omega}
 clear G ad U I J;rcases bP with B|⟨B,h2⟩
 {
 have bo:decide ((h:Int)<48)=true:=by simp;omega
 clear B;go_wp2_with fail
 go_ret2;exact⟨by rw[M.out];rfl,qB _ _⟩}
 {
 have bo:decide ((h:Int)<48)=false:=by simp;omega
 have bR:decide ((57:Int)<(h:Int))=true:=by simp;omega
 clear B h2;go_wp2_with fail
 go_ret2;exact⟨by rw[M.out];rfl,qB _ _⟩}}}
 {
 obtain rfl:k=S.size:=by omega
 have bN:decide ((S.size:Int)<(S.size:Int))=false:=by simp
 have L:=I.out;rw[qI (by have:=a7.out;omega)] at L;have F:r.all jL=true:=List.all_eq_true.2 L.2;have HN:=hI (sK (-(x:Int)) (by omega) (by omega) w);have Y:=bp.out;by_cases N:Lib.itoa (-(x:Int))=u
 {
 have hn:=lw (neg:=true) (w:=u) av F (by rw[if_pos rfl,←L.1];exact N);rw[if_pos rfl,←L.1] at hn;have M:=hI hn;have H:ag (Lib.itoa (-(x:Int)))=s:=by rw[N,a'.out]
 rw[H] at HN;clear L F N hn H I;go_wp2_with fail
 refine HN.mono ?_;rintro e w1⟨rfl,R⟩;have ar:=hI R;clear R;go_wp2_with fail
 go_ret2;exact⟨by rw[M.out];rfl,ar⟩;all_goals (exfalso;have h9:=of_decide_eq_true Y;have h8:=‹¬S.size<s.size›;omega)}
 {
 have M:=hI (wP (neg:=true) (w:=u) av F (by rw[if_pos rfl,←L.1];exact N));have H:ag (Lib.itoa (-(x:Int)))≠s:=λe=>N (rR (e.trans a'.symm))
 have cd:=kt H;generalize ag (Lib.itoa (-(x:Int)))=b7 at *;clear L F N H I;go_wp2_with fail
 refine HN.mono ?_;rintro e w1⟨rfl,R⟩;have ar:=hI R;clear R;go_wp2_with fail
 go_ret2;exact⟨by rw[M.out];rfl,ar⟩;all_goals (exfalso;have h9:=of_decide_eq_true Y;have h8:=‹¬S.size<s.size›;omega)}})}}
 {
 have hv:cg (c::r)=mB false (c::r) (c::r):=by show(if c=45 then _ else _)=_;rw[if_neg a6]
 rw[hv];obtain⟨cn,b2⟩:∃cn,cn=c.toNat:=⟨_,rfl⟩;have ca:((cn:Int)==45)=false:=by{
 simp only[beq_eq_false_iff_ne];intro e;apply a6;apply UInt8.toNat_inj.1;show c.toNat=45;omega}
 have bt:(s[0]'h0).toNat=cn:=by rw[bq,b2]
 have O:=hI (show(c::r).length=s.size from a1.symm);have a8:=hI V;clear hv bq H a1 a6 b2 V;generalize c::r=u at *;by_cases Z:u.length<1∨15<u.length
 {
 rw[nC Z];rcases Z with B|B
 {exact absurd h0 (by have:=O.out;omega)}
 {
 have e1:decide ((s.size:Int)<1)=false:=by simp;omega
 have e2:decide ((15:Int)<(s.size:Int))=true:=by have:=O.out;simp;omega
 clear B;go_enter func158,ntmps158;go_wp2_with fail
 go_ret2;exact⟨rfl,qB _ _⟩}}
 {
 have e1:decide ((s.size:Int)<1)=false:=by simp;omega
 have e2:decide ((15:Int)<(s.size:Int))=false:=by have:=O.out;simp;omega
 have Y:decide ((s.size:Int)<(s.size:Int))=false:=by simp
 have bp:=hI Y;have av:=hI Z;have a':=b1;clear Y Z;go_enter func158,ntmps158;go_wp2_with fail
 have b9:u.length≤15:=by have:=av.out;omega
 clear bt ca e1 e2;have ba:u.length=s.size:=by rw[Lib.size_eq s,a8.out]
 have a7:=hI ba;clear ba;go_loop [5,6] (λn i=>∃(k x:Nat),k≤s.size∧x<1000000000000000∧i=.int .i64 k∧n=.int .i64 x∧Hid (x=valL 0 (u.take k)∧∀c∈u.take k,jL c=true)) (λ_ i=>s.size-(intOf i).toNat)
 case atStart=>exact⟨0,0,qH _,by omega,rfl,rfl,hI ⟨by rw[qh,eh],by simp⟩⟩
 case round=>(
 obtain⟨k,x,hk,hx,rfl,rfl,I⟩:=hrel;by_cases bO:k<s.size
 {
 have bN:decide ((k:Int)<(s.size:Int))=true:=by simpa using bO
 have bb:k<u.length:=by have:=a7.out;omega
 have U:s[k]=u[k]:=by{
 have B:=a8.out;subst B;rfl}
 have ad:u.take (k+1)=u.take k++[u[k]]:=by rw[List.take_add_one,qG bb];rfl
 obtain⟨h,J⟩:∃h,h=(s[k]).toNat:=⟨_,rfl⟩;by_cases G:jL u[k]=true
 {
 have W:=G;unfold jL at W;simp only[Bool.and_eq_true,decide_eq_true_eq] at W;rw[←U,←J] at W;have F:∀c∈u.take (k+1),jL c=true:=by{
 rw[ad];intro c T;rcases List.mem_append.1 T with T|T
 {exact I.2 c T}
 {rw[List.mem_singleton.1 T];exact G}}
 have a2:valL 0 (u.take (k+1))=10*x+(h-48):=by{
 rw[ad,ng,←I.out.1,←U];unfold fR;rw[←J]}
 have bk:=oU (u.take (k+1)) 0 F;have bn:10^(u.take (k+1)).length≤10^15:=Nat.pow_le_pow_right (by decide) (by rw[qS];omega);rw[a2] at bk;have bW:10*x+(h-48)<1000000000000000:=by{
 have e:(10:Nat)^15=1000000000000000:=by decide
 rw[e] at bn;omega}
 have bs:=hI (show 10*x+(h-48)=valL 0 (u.take (k+1))∧∀c∈u.take (k+1),jL c=true from⟨a2.symm,F⟩);obtain⟨cb,cc⟩:=W;have bv:(s[k]).toNat=h:=J.symm;have bo:decide ((h:Int)<48)=false:=by simp;omega
 have bR:decide ((57:Int)<(h:Int))=false:=by simp;omega
 clear G F a2 bk bn ad U I J;go_wp2_with fail
 go_round
 case rel=>exact⟨k+1,10*x+(h-48),by omega,bW,by go_num,by go_num,bs⟩
 case measure=>simp[intOf]<;>omega}
 {
 have M:=hI (nz (neg:=false) (D:=u) (w:=u) (λF=>G (List.all_eq_true.1 F _ (List.getElem_mem bb))));have bv:(s[k]).toNat=h:=J.symm;have bP:h<48∨(¬h<48∧57<h):=by{
 unfold jL at G;simp only[Bool.and_eq_true,decide_eq_true_eq] at G;rw[←U,←J] at G;omega}
 clear G ad U I J;rcases bP with B|⟨B,h2⟩
 {
 have bo:decide ((h:Int)<48)=true:=by simp;omega
 clear B;go_wp2_with fail
 go_ret2;exact⟨by rw[M.out];rfl,qB _ _⟩}
 {
 have bo:decide ((h:Int)<48)=false:=by simp;omega
 have bR:decide ((57:Int)<(h:Int))=true:=by simp;omega
 clear B h2;go_wp2_with fail
 go_ret2;exact⟨by rw[M.out];rfl,qB _ _⟩}}}
 {
 obtain rfl:k=s.size:=by omega
 have bN:decide ((s.size:Int)<(s.size:Int))=false:=by simp
 have L:=I.out;rw[qI (by have:=a7.out;omega)] at L;have F:u.all jL=true:=List.all_eq_true.2 L.2;have HN:=hI (sK (x:Int) (by omega) (by omega) w);have Y:=bp.out;by_cases N:Lib.itoa (x:Int)=u
 {
 have hn:=lw (neg:=false) (w:=u) av F (by rw[if_neg (by decide),←L.1];exact N);rw[if_neg (by decide),←L.1] at hn;have M:=hI hn;have H:ag (Lib.itoa (x:Int))=s:=by rw[N,a'.out]
 rw[H] at HN;clear L F N hn H I;go_wp2_with fail
 refine HN.mono ?_;rintro e w1⟨rfl,R⟩;have ar:=hI R;clear R;go_wp2_with fail
 go_ret2;exact⟨by rw[M.out];rfl,ar⟩}
 {
 have M:=hI (wP (neg:=false) (w:=u) av F (by rw[if_neg (by decide),←L.1];exact N));have H:ag (Lib.itoa (x:Int))≠s:=λe=>N (rR (e.trans a'.symm))
 have cd:=kt H;generalize ag (Lib.itoa (x:Int))=b7 at *;clear L F N H I;go_wp2_with fail
 refine HN.mono ?_;rintro e w1⟨rfl,R⟩;have ar:=hI R;clear R;go_wp2_with fail
 go_ret2;exact⟨by rw[M.out];rfl,ar⟩}})}}}}
theorem mR:∀(k n:Nat) (s:LB),(∀c∈s,jL c=true)→∀c∈aG k n s,jL c=true:=by{
 intro k
 induction k with
 | zero=>intro n s h;exact h
 | succ k B=>{
 intro n s h;refine B (n/10) (dgt n::s) ?_;intro c u;rcases List.mem_cons.1 u with rfl|u
 {
 unfold jL;rw[mb];simp;omega}
 {exact h c u}}}
theorem sX:∀(k n:Nat) (s:LB),valL 0 (aG k n s)=valL (n%10^k) s:=by{
 intro k
 induction k with
 | zero=>intro n s;rw[Nat.pow_zero,Nat.mod_one];rfl
 | succ k u=>{
 intro n s;show valL 0 (aG k (n/10) (dgt n::s))=_;rw[u,fS];congr 1;unfold fR;rw[mb];have h:n%10^(k+1)=10*(n/10%10^k)+n%10:=by{
 rw[Nat.pow_succ,Nat.mul_comm,Nat.mod_mul];omega}
 rw[h];omega}}
theorem Ii {c d:UInt8}(u:jL c=true)(h:jL d=false):c≠d:=by{
 rintro rfl;rw[u] at h
 cases h}
def a_:LB:=[101,110,116,101,114]
theorem ig (t:Nat):aX t=aP (t/60000)++58::(aG 2 (t/1000%60) []++46::aG 3 t []):=by unfold aX;simp
theorem Fi {t:Nat}(u:t≤1000000000):1≤(aP (t/60000)).length∧(aP (t/60000)).length≤5:=by{
 refine⟨?_,bd 4 _ (by omega)⟩;have:=pN (t/60000)
 cases h:aP (t/60000) with
 | nil=>exact absurd h this
 | cons c r=>simp}
theorem kj (t:Nat):(aX t).length=(aP (t/60000)).length+7:=by{
 rw[ig];simp[bV]}
theorem l_ {α:Type}{a b:List α}{n:Nat}(h:n=a.length):(a++b).take n=a:=by subst h;exact List.take_left
theorem lu {α:Type}{a b:List α}{n:Nat}(h:n=a.length):(a++b).drop n=b:=by subst h;exact List.drop_left
theorem BB (t:Nat):(aX t).take ((aX t).length-7)=aP (t/60000):=by{
 rw[kj,ig];exact l_ (by omega)}
theorem xf (t:Nat):((aX t).drop ((aX t).length-6)).take 2=aG 2 (t/1000%60) []:=by{
 rw[kj,ig];have e:aP (t/60000)++58::(aG 2 (t/1000%60) []++46::aG 3 t [])=(aP (t/60000)++[58])++(aG 2 (t/1000%60) []++46::aG 3 t []):=by simp
 rw[e,lu (by simp),l_ (by rw[bV];rfl)]}
theorem vu (t:Nat):(aX t).drop ((aX t).length-3)=aG 3 t []:=by{
 rw[kj];unfold aX;exact lu (by simp[bV])}
theorem CC (t:Nat):valL 0 (aG 2 (t/1000%60) []++aG 3 t [])=t%60000:=by{
 rw[sm,sX,eh];have h:∀n,valL n (aG 3 t [])=1000*n+valL 0 (aG 3 t []):=by{
 intro n;show valL n [dgt (t/10/10),dgt (t/10),dgt t]=1000*n+valL 0 [dgt (t/10/10),dgt (t/10),dgt t];simp only[fS,eh,fR];omega}
 rw[h,sX,eh];omega}
def Du (u:LB) (t:Int) (B:Bool):Prop:=(∀h:Nat,h≤1000000000→u=aX h→t=h∧B=true)∧(B=true→0≤t∧t≤1000000000∧u=aX t.toNat)
theorem iM {B:LB}{t:Int}(u:∀h:Nat,h≤1000000000→B=aX h→False):Du B t false:=⟨λh F e=>(u h F e).elim,λu=>by cases u⟩
theorem DQ {L:LB}(F:L.length<8∨12<L.length)(t:Int):Du L t false:=by{
 refine iM (λB h e=>?_);have G:=Fi h;have u:=kj B;rw[←e] at u;omega}
theorem CZ {L D:LB}(B:D=(L.drop (L.length-6)).take 2++L.drop (L.length-3))(u:¬∀c∈D,jL c=true)(t:Int):Du L t false:=by{
 refine iM (λF h e=>?_);apply u;rw[B,e,xf,vu];intro c h;rcases List.mem_append.1 h with h|h
 {exact mR 2 _ [] (by simp) c h}
 {exact mR 3 _ [] (by simp) c h}}
theorem pP {h:LB}{u:Nat}(B:u≤1000000000)(e:h=aX u):cg (h.take (h.length-7))=(((u/60000:Nat):Int),true)∧valL 0 ((h.drop (h.length-6)).take 2++h.drop (h.length-3))=u%60000:=by{
 rw[e,BB,xf,vu,CC];exact⟨tB (by omega),rfl⟩}
theorem Fo:∀{a:LB} (b:LB),(∀c∈a,c≠58)→Lib.index (a++58::b) [58]=a.length:=by{
 intro a
 induction a with
 | nil=>intro b _;rfl
 | cons c a G=>{
 intro b h;have F:=h c List.mem_cons_self;show(if [58].isPrefixOf (c::(a++58::b)) then(0:Int) else if Lib.index (a++58::b) [58]==-1 then -1 else Lib.index (a++58::b) [58]+1)=_;rw[G b (λd u=>h d (List.mem_cons_of_mem _ u))];have u:[58].isPrefixOf (c::(a++58::b))=false:=by{
 show((58:UInt8)==c&&true)=false;rw[Bool.and_true,beq_eq_false_iff_ne];exact λe=>F e.symm}
 have B:((a.length:Int)==-1)=false:=by rw[beq_eq_false_iff_ne];omega
 rw[u,B];simp}}
theorem FO (t:Nat):Lib.cut (aX t) [58]=(aP (t/60000),aG 2 (t/1000%60) []++46::aG 3 t [],true):=by{
 have u:Lib.index (aX t) [58]=((aP (t/60000)).length:Int):=by{
 rw[ig];exact Fo _ (λc h=>Ii (dZ _ c h) (by decide))}
 unfold Lib.cut;rw[u,if_pos (by omega),ig];have e:aP (t/60000)++58::(aG 2 (t/1000%60) []++46::aG 3 t [])=(aP (t/60000)++[58])++(aG 2 (t/1000%60) []++46::aG 3 t []):=by simp
 rw[l_ (by simp),e,lu (by simp)]}
theorem Fx:∀k<60,Lib.atoiAll (aG 2 k [])=.ok (k:Int):=by decide
theorem AP (t:Nat):Lib.atoiAll (aG 3 t [])=.ok ((t%1000:Nat):Int):=by{
 rw[tx];have h:∀k<1000,Lib.atoiAll (aG 3 k [])=.ok (k:Int):=by decide +kernel
 exact h _ (by omega)}
def dT (t:Int):LB:=if af t 0 1000000000=true then aX t.toNat else []
theorem tR (t:Int)(w:World):Calls prog 227 #[t] w λe B=>e=.returned (.string (ag (dT t)))∧BL w B:=by{
 have F:=hI (bi t 0 1000000000 w)
 cases h:af t 0 1000000000 with
 | false=>{
 rw[h] at F;have G:=hI (show dT t=[] from by unfold dT;rw[h];rfl);clear h;go_enter func227,ntmps227;go_wp2_with fail
 refine F.mono ?_;rintro e B⟨rfl,rfl⟩;go_wp2_with fail
 go_ret;exact⟨by rw[G.out];rfl,qB _ _⟩}
 | true=>{
 rw[h] at F;have u:=ai.1 h;obtain⟨n,rfl⟩:=aC t u.1;have G:=hI (show dT (n:Int)=aX n from by unfold dT;rw[h];rfl);have H:=hI (λB=>f_ n (by omega) B);clear h u;go_enter func227,ntmps227;go_wp2_with fail
 refine F.mono ?_;rintro e B⟨rfl,rfl⟩;go_wp2_with fail
 refine(H _).mono ?_;rintro e I⟨rfl,u⟩;have h:=hI u;clear u;go_wp2_with fail
 go_ret;exact⟨by rw[G.out];rfl,h⟩}}
theorem ue (t:Int)(w:World)(F:∀u,BL w u→Pow u):Calls prog 63 #[t] w λe u=>e=.returned (.string (ag (dT t)))∧BL w u:=by{
 cases h:af t 0 1000000000 with
 | false=>{
 have B:=hI (nM t w);rw[h] at B;have G:=hI (show dT t=[] from by unfold dT;rw[h];rfl);clear h F;go_enter func63,ntmps63;go_wp2_with fail
 refine B.mono ?_;rintro e u⟨rfl,rfl⟩;go_wp2_with fail
 go_ret;exact⟨by rw[G.out];rfl,qB _ _⟩}
 | true=>{
 have B:=ai.1 h;obtain⟨n,rfl⟩:=aC t B.1;rw[show dT (n:Int)=aX n from by unfold dT;rw[h];rfl];exact kH n (by omega) w F}}
def It (w:World) (u:LB) (e:Ending) (B:World):Prop:=∃t h,e=.returned (.tuple #[.int .i64 t,.bool h])∧Du u t h∧BL w B
theorem yk {u:LB}{t:Int}(B:u≠[])(h:dT t=u):0≤t∧t≤1000000000∧u=aX t.toNat:=by{
 unfold dT at h;split at h
 {
 rename_i F;have:=ai.1 F;exact⟨this.1,this.2,h.symm⟩}
 {exact absurd h.symm B}}
theorem Hw {L:LB}(M:L≠[]){D:LB}{m t:Int}{ok:Bool}(J:D=(L.drop (L.length-6)).take 2++L.drop (L.length-3))(T:cg (L.take (L.length-7))=(m,ok))(R:t=wrap64 (wrap64 (60000*m)+(valL 0 D:Int))){b:Bool}(B:b=(ok&&decide (dT t=L))){t':Int}(G:b=true→t'=t):Du L t' b:=by{
 refine⟨?_,λu=>?_⟩;rotate_left
 {
 have h:=u;rw[B] at h;simp only[Bool.and_eq_true,decide_eq_true_eq] at h;rw[G u];exact yk M h.2}
 intro W I e;obtain⟨h,U⟩:=pP I e;rw[←J] at U;rw[T] at h;injection h with h V;have O:wrap64 (60000*m)=60000*m:=IntWalk.wrap64_in _ (by omega);have H:t=W:=by{
 rw[R,O,IntWalk.wrap64_in _ (by omega)];omega}
 have N:dT t=L:=by{
 rw[H,e];unfold dT;rw[if_pos (ai.2 (by omega))];rfl}
 have F:b=true:=by rw[B,V,N];simp
 exact⟨(G F).trans H,F⟩}
theorem gF (s:ByteArray)(hs:s.size≤2097152)(w:World):Calls prog 157 #[.string s] w (It w s.data.toList):=by{
 have B:=Lib.size_eq s;by_cases F:s.size<8∨12<s.size
 {
 have I:=hI (DQ (L:=s.data.toList) (by omega) 0);clear B;rcases F with u|u
 {
 have G:decide ((s.size:Int)<8)=true:=by simp;omega
 clear u;go_enter func157,ntmps157;go_wp2_with fail
 go_ret2;exact⟨0,false,rfl,I,qB _ _⟩}
 {
 have G:decide ((s.size:Int)<8)=false:=by simp;omega
 have R:decide ((12:Int)<(s.size:Int))=true:=by simp;omega
 clear u;go_enter func157,ntmps157;go_wp2_with fail
 go_ret2;exact⟨0,false,rfl,I,qB _ _⟩}}
 {
 have G:decide ((s.size:Int)<8)=false:=by simp;omega
 have R:decide ((12:Int)<(s.size:Int))=false:=by simp;omega
 have h8:8≤s.size:=by omega
 have bt:s.size≤12:=by omega
 have h:=hI B;clear F B;go_enter func157,ntmps157;go_wp2_with fail
 have q6:IntKind.i64.wrap ((s.size:Int)-6)=((s.size-6:Nat):Int):=by rw[IntWalk.i64_in _ (by omega)];omega
 have q4:IntKind.i64.wrap ((s.size:Int)-4)=((s.size-4:Nat):Int):=by rw[IntWalk.i64_in _ (by omega)];omega
 have q3:IntKind.i64.wrap ((s.size:Int)-3)=((s.size-3:Nat):Int):=by rw[IntWalk.i64_in _ (by omega)];omega
 have hx:s.extract (s.size-6) (s.size-4)++s.extract (s.size-3) s.size=ag ((s.data.toList.drop (s.data.toList.length-6)).take 2++s.data.toList.drop (s.data.toList.length-3)):=by{
 rw[bQ s _ _ (by omega),bQ s _ _ (qA _),aA,←h.out,show s.size-4-(s.size-6)=2 from by omega];rw[qI (l:=s.data.toList.drop (s.size-3)) (by rw[qX,←h.out];exact qA _)]}
 have U:s.data.toList≠[]:=by intro N;have h2:=h.out;rw[N,qT] at h2;omega
 have H:((s.data.toList.drop (s.data.toList.length-6)).take 2++s.data.toList.drop (s.data.toList.length-3)).length=5:=by{
 rw[qJ,qS,qX,qX,←h.out];omega}
 have W:=hI (λt=>CZ (L:=s.data.toList) (t:=t) rfl);have Y:=hI (λm t ok L B b F M J=>Hw (L:=s.data.toList) U (m:=m) (t:=t) (ok:=ok) rfl L B (b:=b) F (t':=M) J);obtain⟨D,T⟩:∃D,D=(s.data.toList.drop (s.data.toList.length-6)).take 2++s.data.toList.drop (s.data.toList.length-3):=⟨_,rfl⟩;rw[←T] at hx H W Y;have O:=hI hx;have V:=hI H;have Z:s.extract 0 (s.size-7)=ag (s.data.toList.take (s.data.toList.length-7)):=by{
 rw[bQ s _ _ (by omega),qd,←h.out];rfl}
 have av:=hI Z;have M:=hI (λw'=>iE (ag (s.data.toList.take (s.data.toList.length-7))) (by rw[aj,qS,←h.out];omega) w');rw[aw] at M;obtain⟨J,B⟩:∃J,J=s.data.toList:=⟨_,rfl⟩;rw[←B] at M av W Y ⊢;have a2:=hI (show ag J=s from by rw[B,fw]);have L:=hI B;clear hx H T Z B h U;go_region
 go_wp2_with fail
 rw[O.out];have a1:=hI (aw D);have Z:(ag D).size=5:=by rw[aj,V.out]
 generalize ag D=S at *;have bs:=hI Z;have U:=hI (bx (qB w.heap.size w) 1);clear q6 q4 q3 G R O;go_loop [6,7] (λn i=>∃(k x:Nat),k≤5∧x<100000∧i=.int .i64 k∧n=.int .i64 x∧Hid (x=valL 0 (D.take k)∧∀c∈D.take k,jL c=true)) (λ_ i=>5-(intOf i).toNat)
 case atStart=>exact⟨0,0,qH _,by omega,rfl,rfl,hI ⟨by rw[qh,eh],by simp⟩⟩
 case round=>(
 obtain⟨k,x,_,hx,rfl,rfl,H⟩:=hrel;by_cases bO:k<5
 {
 have bN:decide ((k:Int)<5)=true:=by simp;omega
 have a6:k<D.length:=by have:=V.out;omega
 have bv:k<S.size:=by omega
 have T:S[k]=D[k]:=by{
 have u:=a1.out;subst u;rfl}
 have ar:D.take (k+1)=D.take k++[D[k]]:=by rw[List.take_add_one,qG a6];rfl
 obtain⟨h,G⟩:∃h,h=(S[k]).toNat:=⟨_,rfl⟩;by_cases B:jL D[k]=true
 {
 have ad:=B;unfold jL at ad;simp only[Bool.and_eq_true,decide_eq_true_eq] at ad;rw[←T,←G] at ad;have O:∀c∈D.take (k+1),jL c=true:=by{
 rw[ar];intro c R;rcases List.mem_append.1 R with R|R
 {exact H.2 c R}
 {rw[List.mem_singleton.1 R];exact B}}
 have R:valL 0 (D.take (k+1))=10*x+(h-48):=by{
 rw[ar,ng,←H.out.1,←T];unfold fR;rw[←G]}
 have a7:=oU (D.take (k+1)) 0 O;have a8:10^(D.take (k+1)).length≤10^5:=Nat.pow_le_pow_right (by decide) (by rw[qS];omega);rw[R] at a7;have bq:10*x+(h-48)<100000:=by{
 have e:(10:Nat)^5=100000:=by decide
 rw[e] at a8;omega}
 have bb:=hI (show 10*x+(h-48)=valL 0 (D.take (k+1))∧∀c∈D.take (k+1),jL c=true from⟨R.symm,O⟩);obtain⟨_,_⟩:=ad;have bk:(S[k]).toNat=h:=G.symm;have a':decide ((h:Int)<48)=false:=by simp;omega
 have bo:decide ((57:Int)<(h:Int))=false:=by simp;omega
 clear B O R a7 a8 ar T H G Z;go_wp2_with fail
 go_round
 case rel=>exact⟨k+1,10*x+(h-48),by omega,bq,by go_num,by go_num,bb⟩
 case measure=>simp[intOf]<;>omega}
 {
 have R:=hI (W 0 (λO=>B (O _ (List.getElem_mem a6))));have bk:(S[k]).toNat=h:=G.symm;have bn:h<48∨(¬h<48∧57<h):=by{
 unfold jL at B;simp only[Bool.and_eq_true,decide_eq_true_eq] at B;rw[←T,←G] at B;omega}
 clear B ar T H G Z;rcases bn with u|⟨u,h2⟩
 {
 have a':decide ((h:Int)<48)=true:=by simp;omega
 clear u;go_wp2_with fail
 go_ret2;exact⟨0,false,rfl,by rw[←L.out];exact R,U⟩}
 {
 have a':decide ((h:Int)<48)=false:=by simp;omega
 have bo:decide ((57:Int)<(h:Int))=true:=by simp;omega
 clear u h2;go_wp2_with fail
 go_ret2;exact⟨0,false,rfl,by rw[←L.out];exact R,U⟩}}}
 {
 obtain rfl:k=5:=by omega
 have R:=H.out;rw[qI (by have:=V.out;omega)] at R;have ba:=R.1;generalize bp:cg (J.take (J.length-7))=r at *;obtain⟨m,ok⟩:=r;simp only at M;have u:=hI (Y m _ ok rfl rfl);rw[←ba] at u;clear R ba H Z Y W bp;have W:=hI (λt w'=>tR t w');go_wp2_with fail
 rw[av.out];refine(M _).mono ?_;rintro e Y⟨rfl,F⟩;have R:=zb U F;clear F U
 cases ok with
 | false=>{
 go_wp2_with fail
 go_ret2;exact⟨0,false,rfl,by rw[←L.out];exact u false (by rw[Bool.false_and]) 0 (λN=>by cases N),R⟩}
 | true=>{
 go_wp2_with fail
 generalize wrap64 (wrap64 (60000*m)+(x:Int))=H at *;refine(W _ _).mono ?_;rintro e Z⟨rfl,F⟩;have U:=zb R F;clear F R av M W a1 V;by_cases F:dT H=J
 {
 have I:=hI (u true (by rw[Bool.true_and,F];simp) H (λ_=>rfl));have M:ag (dT H)=s:=by rw[F,a2.out]
 rw[M];clear F M u;go_wp2_with fail
 go_ret2;exact⟨H,true,rfl,by rw[←L.out];exact I,U⟩}
 {
 have I:=hI (u false (by rw[Bool.true_and];simp[F]) 0 (λN=>by cases N));have M:ag (dT H)≠s:=λe=>F (rR (e.trans a2.symm))
 have V:=kt M;generalize ag (dT H)=R at *;clear F M u;go_wp2_with fail
 go_ret2;exact⟨0,false,rfl,by rw[←L.out];exact I,U⟩}}})}}
theorem m_ {x y:EntryT}(h:bK x y=false):bK y x=false:=by{
 cases u:bK y x with
 | false=>rfl
 | true=>{
 have:=iI.1 u;rw[iI.2 ⟨this.1.symm,this.2.1.symm,this.2.2.symm⟩] at h;exact h}}
theorem zX:∀(B:List EntryT),(B.Pairwise λx y=>fH x≤fH y)→(∀x∈B,rL x)→(iv B=false↔B.Pairwise λx y=>bK x y=false):=by{
 intro B
 induction B with
 | nil=>intro _ _;simp[iv]
 | cons x r I=>{
 intro G h
 match r,I,G,h with
 | [],_,_,_=>simp[iv]
 | y::r,I,G,h=>{
 have J:=(List.pairwise_cons.1 G).2;have L:=I J (λz u=>h z (.tail _ u));rw[iv,Bool.or_eq_false_iff,L,List.pairwise_cons (a:=x)];constructor
 {
 rintro⟨F,H⟩;refine⟨λz u=>?_,H⟩;rcases List.mem_cons.1 u with rfl|u
 {exact m_ F}
 {
 have R:=(List.pairwise_cons.1 G).1 y (.head _);have T:=(List.pairwise_cons.1 J).1 z u
 cases N:bK x z with
 | false=>rfl
 | true=>{
 have O:=(y_ (h x (.head _)) (h z (.tail _ (.tail _ u)))).2 N;have M:fH y=fH x:=by omega
 rw[(y_ (h y (.tail _ (.head _))) (h x (.head _))).1 M] at F;exact F}}}
 {
 rintro⟨F,H⟩;exact⟨m_ (F y (.head _)),H⟩}}}}
theorem Fv {u h:List EntryT}(B:h.Perm u)(H:h.Pairwise λx y=>fH x≤fH y)(G:∀x∈u,rL x):iv h=false↔u.Pairwise λx y=>bK x y=false:=(zX h H (λx F=>G x (B.mem_iff.1 F))).trans (B.pairwise_iff (λF=>m_ F))
def rJ (b:Int) (h:List EntryT):Bool:=h.all λx=>fT b x&&im (E.rev x)
theorem sj {b:Int}{h:List EntryT}:rJ b h=true↔∀x∈h,fT b x=true∧im (E.rev x)=true:=by{unfold rJ;simp[List.all_eq_true]}
theorem pA (b:Int)(x:EntryT)(h:List EntryT):rJ b (x::h)=((fT b x&&im (E.rev x))&&rJ b h):=rfl
theorem pc {b s:Int}{h:List EntryT}(B:rJ b h=false):dC b s h=false:=by{
 cases u:dC b s h with
 | false=>rfl
 | true=>{
 unfold dC at u;simp only[Bool.and_eq_true] at u;rw[sj.2 ((kO b h []).1 u.2).1] at B;exact B}}
theorem Ce {b:Int}{u:List EntryT}(H:b≤16)(B:rJ b u=true):∀x∈u,rL x:=λx I=>by{
 obtain⟨F,G⟩:=sj.1 B x I;have h:=ai.1 G;exact yQ H F h.1 h.2}
theorem Gx {b s:Int}{h ys:List EntryT}(u:af b 1 16=true)(H:af s 0 1=true)(I:h.length≤400)(B:rJ b h=true)(L:ys.Perm h)(M:ys.Pairwise λx y=>fH x≤fH y):dC b s h=!iv ys:=by{
 have G:=Fv L M (Ce (ai.1 u).2 B);unfold dC;rw[u,H,decide_eq_true I,Bool.true_and,Bool.true_and,Bool.true_and];have F:=kO b h []
 cases ha:iv ys with
 | false=>exact F.2 ⟨sj.1 B,λx _ y N=>(by cases N),G.1 ha⟩
 | true=>{
 cases J:gP b [] h with
 | false=>rfl
 | true=>rw[G.2 (F.1 J).2.2] at ha;exact ha.symm}}
theorem cE.okE {b s:Int}{u:List EntryT}(h:cE b s u):∀x∈u,rL x:=λx H=>by{
 obtain⟨B,F,G⟩:=h.ent x H;exact yQ h.b2 B F G}
theorem fN {race boat:Int}{h:List EntryT}{x:EntryT}:x∈dS race boat h↔x∈h∧E.race x=race∧E.boat x=boat:=by{
 unfold dS;simp[List.mem_filter]}
theorem uU {F:List EntryT}(G:F.Pairwise λx y=>bK x y=false)(race boat:Int):(dS race boat F).Pairwise λx y=>E.rev x≠E.rev y:=(List.Pairwise.filter (λx=>E.race x==race&&E.boat x==boat) G).imp_of_mem (λ{a b} ha H B I=>by{
 have h:=(fN.1 ha).2;have u:=(fN.1 H).2;rw[iI.2 ⟨h.1.trans u.1.symm,h.2.trans u.2.symm,I⟩] at B
 cases B})
theorem Ip {h:List EntryT}(u:h.Pairwise λx y=>E.rev x≤E.rev y)(B:h.Pairwise λx y=>E.rev x≠E.rev y):h.Pairwise λx y=>E.rev x<E.rev y:=(u.and B).imp (λ{a b} F=>by omega)
theorem qv {u:List EntryT}(h:u.Pairwise λx y=>bK x y=false)(race boat:Int):(ex u race boat).Pairwise λx y=>E.rev x<E.rev y:=by{
 refine Ip ?_ ?_
 {
 have G:=List.pairwise_mergeSort (le:=λx y:EntryT=>decide (E.rev x≤E.rev y)) (λa b c B F=>by simp at B F ⊢;omega) (λa b=>by simp;omega) (dS race boat u);exact G.imp (λ{a b} h=>by simpa using h)}
 {exact((List.mergeSort_perm (dS race boat u) _).pairwise_iff (λ{a b} h=>h.symm)).2 (uU h race boat)}}
theorem me (h:List EntryT)(race boat:Int):(ex h race boat).Perm (dS race boat h):=List.mergeSort_perm _ _
theorem uP {h u:List EntryT}{race boat:Int}(B:h.Pairwise λx y=>bK x y=false)(F:u.Perm (dS race boat h))(G:u.Pairwise λx y=>E.rev x<E.rev y):u=ex h race boat:=zC (F.trans (me h race boat).symm) G (qv B race boat)
theorem Em {B F:List EntryT}{race boat:Int}(h:B.Pairwise λx y=>bK x y=false)(u:F.Perm (dS race boat B))(I:F.Pairwise λx y=>fH x≤fH y):F=ex B race boat:=by{
 refine uP h u (Ip (I.imp_of_mem (λ{a b} ha H G=>?_)) ((u.pairwise_iff (λ{a b} h=>h.symm)).2 (uU h race boat)));have J:=(fN.1 (u.mem_iff.1 ha)).2;have L:=(fN.1 (u.mem_iff.1 H)).2;unfold fH at G;omega}
theorem sy {h:List EntryT}{race boat:Int}{x:EntryT}:x∈ex h race boat↔x∈h∧E.race x=race∧E.boat x=boat:=(me h race boat).mem_iff.trans fN
theorem yH (h:List EntryT)(race boat:Int):(ex h race boat).length≤h.length:=by{
 rw[(me h race boat).length_eq];exact List.length_filter_le _ _}
theorem kT (race boat:Int)(h:List EntryT)(x:EntryT):dS race boat (h++[x])=dS race boat h++(if (E.race x==race&&E.boat x==boat)=true then [x] else []):=by{
 unfold dS;rw[List.filter_append];congr 1;simp only[List.filter_cons,List.filter_nil]}
theorem DZ (race boat:Int)(h:List EntryT):(dS race boat h).length≤h.length:=List.length_filter_le _ _
def BH (u:List EntryT) (race boat:Int) (i:Nat) (h:List EntryT):Prop:=h.Perm (dS race boat (u.take i))∧h.Pairwise λx y=>E.rev x<E.rev y
theorem BH.zero (h:List EntryT)(race boat:Int):BH h race boat 0 []:=⟨List.Perm.refl _,List.Pairwise.nil⟩
theorem gH {h:List EntryT}{i:Nat}{x:EntryT}(u:h[i]?=some x):h.take (i+1)=h.take i++[x]:=by{rw[List.take_add_one,u];rfl}
theorem BH.skip {h B:List EntryT}{race boat:Int}{i:Nat}{x:EntryT}(u:BH h race boat i B)(G:h[i]?=some x)(F:(E.race x==race&&E.boat x==boat)=false):BH h race boat (i+1) B:=by{
 refine⟨?_,u.2⟩;rw[gH G,kT,F,if_neg (by simp),qa];exact u.1}
theorem BH.len {B h:List EntryT}{race boat:Int}{i:Nat}(u:BH B race boat i h):h.length≤i:=by{
 rw[u.1.length_eq];exact qM (DZ _ _ _) (by rw[qS];omega)}
theorem BH.put {B u:List EntryT}{race boat:Int}{i h:Nat}{x:EntryT}(V:B.Pairwise λx y=>bK x y=false)(G:BH B race boat i u)(F:B[i]?=some x)(O:E.race x=race)(M:E.boat x=boat)(ad:h≤u.length)(U:∀z∈u.drop h,E.rev x<E.rev z)(W:∀y,0<h→u[h-1]?=some y→E.rev y≤E.rev x):BH B race boat (i+1) (u.take h++[x]++u.drop h):=by{
 have N:i<B.length:=(List.getElem?_eq_some_iff.1 F).1;have Y:∀z∈u,E.rev z≠E.rev x:=λz hz T=>by{
 have H:=fN.1 (G.1.mem_iff.1 hz);have J:(B.take i++B.drop i).Pairwise λx y=>bK x y=false:=by rw[List.take_append_drop];exact V
 have L:x∈B.drop i:=by{
 rw[List.drop_eq_getElem_cons N];rw[qG N] at F;injection F with F;rw[F];exact .head _}
 have I:=(List.pairwise_append.1 J).2.2 z H.1 x L;rw[iI.2 ⟨H.2.1.trans O.symm,H.2.2.trans M.symm,T⟩] at I
 cases I}
 constructor
 {
 rw[gH F,kT,O,M];simp only[BEq.rfl,Bool.and_self,if_true];have I:(u.take h++[x]++u.drop h).Perm (u++[x]):=by{
 have H:(u.take h++([x]++u.drop h)).Perm (u.take h++(u.drop h++[x])):=List.Perm.append_left _ List.perm_append_comm;rw[←qb,←qb,List.take_append_drop] at H;exact H}
 exact I.trans (List.Perm.append_right _ G.1)}
 {
 have J:(u.take h++u.drop h).Pairwise λx y=>E.rev x<E.rev y:=by rw[List.take_append_drop];exact G.2
 obtain⟨L,s2,s3⟩:=List.pairwise_append.1 J;rw[qb,List.pairwise_append];refine⟨L,List.pairwise_cons.2 ⟨U,s2⟩,λa ha b H=>?_⟩;rcases List.mem_cons.1 H with rfl|H
 {
 by_cases R:h=0
 {subst R;simp at ha}
 {
 have I:h-1<u.length:=by omega
 have hy:=W _ (by omega) (qG I);have ar:=Y _ (List.getElem_mem I);have Z:u.take h=u.take (h-1)++[u[h-1]]:=by{
 conv=>lhs;rw[show h=h-1+1 by omega]
 exact gH (qG I)}
 rw[Z] at ha L;rcases List.mem_append.1 ha with ha|ha
 {
 have:=(List.pairwise_append.1 L).2.2 a ha _ (.head _);omega}
 {
 have:a=u[h-1]:=by simpa using ha
 rw[this];omega}}}
 {exact s3 a ha b H}}}
theorem BH.done {h B:List EntryT}{race boat:Int}(F:h.Pairwise λx y=>bK x y=false)(u:BH h race boat h.length B):B=ex h race boat:=uP F (by have:=u.1;rwa [List.take_length] at this) u.2
def mT (l:List EntryT):List EntryT:=l.getLast?.toList
def iw (h:List EntryT) (race:Int) (k:Nat):List EntryT:=(List.range k).flatMap λ(b:Nat)=>mT (ex h race (b:Int))
def fd (h:List EntryT) (b r:Nat):List EntryT:=(List.range r).flatMap λ(race:Nat)=>iw h (race:Int) b
def currF (b:Int) (h:List EntryT):List EntryT:=fd h b.toNat 12
theorem pw (h:List EntryT)(race:Int)(k:Nat):iw h race (k+1)=iw h race k++mT (ex h race (k:Int)):=by{unfold iw;rw[List.range_succ,List.flatMap_append];simp}
theorem nt (h:List EntryT)(b r:Nat):fd h b (r+1)=fd h b r++iw h (r:Int) b:=by{unfold fd;rw[List.range_succ,List.flatMap_append];simp}
theorem vw:mT []=[]:=rfl
theorem s_ {l:List EntryT}{x:EntryT}(h:l[l.length-1]?=some x):mT l=[x]:=by{
 unfold mT;rw[List.getLast?_eq_getElem?,h];rfl}
theorem Rd.takeE {w:World}{b o n:Nat}{h:List EntryT}(u:Rd w 7 (some ⟨b,o,none⟩) n (ents h))(k:Nat)(L:k≤n):Rd w 7 (some ⟨b,o,none⟩) k (ents (h.take k)):=by{
 have M:=u.len_ent;have N:=u.le;have I:ents h=ents (h.take k)++ents (h.drop k):=by unfold ents;rw[←List.flatMap_append,List.take_append_drop]
 refine⟨by unfold ents;rw[fp bw,qS];rw[Nat.min_eq_left (by omega)],by omega,λO=>⟨b,o,rfl,λi J B=>?_⟩⟩;obtain⟨_,_,e,H⟩:=u.pos (by omega);injection e with e;injection e with F G;subst F G;refine H i J ?_;rw[I,qU (List.getElem?_eq_some_iff.1 B).1];exact B}
theorem mj (y x:EntryT)(r:List EntryT):nD (y::r) x=(bK y x||nD r x):=rfl
theorem nZ {n:Int}{r:Bool}(u:af n 0 1=r)(w:World):Calls prog 52 #[n] w λe h=>e=.returned (.bool r)∧w=h:=by{
 subst u;go_enter func52,ntmps52;go_wp2_with(go_at_call 30;refine(bc _ _ _ _).mono ?_;rintro e h⟨rfl,rfl⟩)
 go_ret;exact⟨rfl,rfl⟩}
theorem su (A:OA)(n c:Nat)(xs:List EntryT)(B F G L M N O:Int)(w:World)(h:Rd w 7 A n (ents xs)):Calls prog 233 #[.slice A n c,.agg #[B,F,G,L,M,N,O]] w λe w'=>e=.returned (.bool (nD xs (B,F,G,L,M,N,O)))∧BL w w':=by{
 have HN:=hI h.len_ent;obtain⟨_,R,I,J,_⟩:=ae w #[B,F,G,L,M,N,O] 25;have u:=hI J;have H:=hI I;have ba:=hI (λw' (T:BL w w')=>h.below T);have hn:=h.le;clear h J I;go_enter func233,ntmps233;go_wp2_with fail
 rw[←R];clear R;go_loopw [5] (λi wr=>∃k:Nat,k≤n∧i=.int .i64 k∧Hid (nD (xs.drop k) (B,F,G,L,M,N,O)=nD xs (B,F,G,L,M,N,O))∧Hid (aO wr w.heap.size #[B,F,G,L,M,N,O] 25)∧Hid (BL w wr)) (λi _=>n-(intOf i).toNat)
 case atStart=>exact⟨0,qH _,rfl,hI rfl,H,u⟩
 case round=>(
 clear H u;obtain⟨k,_,rfl,HR,h,HB⟩:=hrel;obtain⟨J,bk⟩:∃J:World,J=wr:=⟨_,rfl⟩;subst bk;by_cases bb:k<n
 {
 obtain⟨b,o,y0,y1,y2,y3,y4,y5,y6,rfl,U,u,a7,a8,a',H,I,R,T⟩:=(ba _ HB).ent bb;have HD:=hI u;clear U u H I R T;go_wp2_with fail
 by_cases e0:B=y0
 {
 subst e0;by_cases e1:F=y1
 {
 subst e1;by_cases e2:G=y2
 {
 subst e2;have T:=hI (show bK (B,F,G,y3,y4,y5,y6) (B,F,G,L,M,N,O)=true from iI.2 ⟨rfl,rfl,rfl⟩);have Y:=cell_regrown (h.cell (i:=0) rfl);have Z:=cell_regrown (h.cell (i:=1) rfl);have ad:=cell_regrown (h.cell (i:=2) rfl);have ar:=cell_regrown (a7);have av:=cell_regrown (a8);have a1:=cell_regrown (a');refine wp_region_quiet_below (by kernel_rfl) (by kernel_rfl) ?_;repeat (first|go_big_quiet_step ((fail))|quiet_step ((fail)))
 refine wpQuiet_nil ?_;intro _ V;obtain⟨⟨U,a2⟩,W⟩:=V;subst W;obtain⟨wq,H,u⟩:∃I,I=grow (redrawn J U) a2∧BL J I:=⟨_,rfl,below_regrown _ _ _⟩;rw[←H];clear H Y Z ad ar av a1;have R:=zb HB u;have a6:=hI (h.below u);clear u;go_wp2_with fail
 go_ret;exact⟨ak (by rw[←HR.out,HD.out,mj,T.out];rfl),R⟩}
 {
 have h2:(y2==G)=false:=by simp;exact λe=>e2 e.symm
 have T:=hI (show bK (B,F,y2,y3,y4,y5,y6) (B,F,G,L,M,N,O)=false from by unfold bK;simp[h2]);clear e2;have Y:=cell_regrown (h.cell (i:=0) rfl);have Z:=cell_regrown (h.cell (i:=1) rfl);have ad:=cell_regrown (h.cell (i:=2) rfl);have ar:=cell_regrown (a7);have av:=cell_regrown (a8);have a1:=cell_regrown (a');refine wp_region_quiet_below (by kernel_rfl) (by kernel_rfl) ?_;repeat (first|go_big_quiet_step ((fail))|quiet_step ((fail)))
 refine wpQuiet_nil ?_;intro _ V;obtain⟨⟨U,a2⟩,W⟩:=V;subst W;obtain⟨wq,H,u⟩:∃I,I=grow (redrawn J U) a2∧BL J I:=⟨_,rfl,below_regrown _ _ _⟩;rw[←H];clear H Y Z ad ar av a1;have R:=zb HB u;have a6:=hI (h.below u);clear u;go_wp2_with fail
 go_roundw
 case rel=>exact⟨k+1,by omega,by go_num,hI (by rw[←HR.out,HD.out,mj,T.out];rfl),a6,R⟩
 case measure=>simp[intOf]<;>omega}}
 {
 have h1:(y1==F)=false:=by simp;exact λe=>e1 e.symm
 have T:=hI (show bK (B,y1,y2,y3,y4,y5,y6) (B,F,G,L,M,N,O)=false from by unfold bK;simp[h1]);clear e1;have Y:=cell_regrown (h.cell (i:=0) rfl);have Z:=cell_regrown (h.cell (i:=1) rfl);have ad:=cell_regrown (h.cell (i:=2) rfl);have ar:=cell_regrown (a7);have av:=cell_regrown (a8);have a1:=cell_regrown (a');refine wp_region_quiet_below (by kernel_rfl) (by kernel_rfl) ?_;repeat (first|go_big_quiet_step ((fail))|quiet_step ((fail)))
 refine wpQuiet_nil ?_;intro _ V;obtain⟨⟨U,a2⟩,W⟩:=V;subst W;obtain⟨wq,H,u⟩:∃I,I=grow (redrawn J U) a2∧BL J I:=⟨_,rfl,below_regrown _ _ _⟩;rw[←H];clear H Y Z ad ar av a1;have R:=zb HB u;have a6:=hI (h.below u);clear u;go_wp2_with fail
 go_roundw
 case rel=>exact⟨k+1,by omega,by go_num,hI (by rw[←HR.out,HD.out,mj,T.out];rfl),a6,R⟩
 case measure=>simp[intOf]<;>omega}}
 {
 have h0:(y0==B)=false:=by simp;exact λe=>e0 e.symm
 have T:=hI (show bK (y0,y1,y2,y3,y4,y5,y6) (B,F,G,L,M,N,O)=false from by unfold bK;simp[h0]);clear e0;have Y:=cell_regrown (h.cell (i:=0) rfl);have Z:=cell_regrown (h.cell (i:=1) rfl);have ad:=cell_regrown (h.cell (i:=2) rfl);have ar:=cell_regrown (a7);have av:=cell_regrown (a8);have a1:=cell_regrown (a');refine wp_region_quiet_below (by kernel_rfl) (by kernel_rfl) ?_;repeat (first|go_big_quiet_step ((fail))|quiet_step ((fail)))
 refine wpQuiet_nil ?_;intro _ V;obtain⟨⟨U,a2⟩,W⟩:=V;subst W;obtain⟨wq,H,u⟩:∃I,I=grow (redrawn J U) a2∧BL J I:=⟨_,rfl,below_regrown _ _ _⟩;rw[←H];clear H Y Z ad ar av a1;have R:=zb HB u;have a6:=hI (h.below u);clear u;go_wp2_with fail
 go_roundw
 case rel=>exact⟨k+1,by omega,by go_num,hI (by rw[←HR.out,HD.out,mj,T.out];rfl),a6,R⟩
 case measure=>simp[intOf]<;>omega}}
 {
 obtain rfl:k=n:=by omega
 go_wp2_with fail
 go_ret;exact⟨ak (by rw[←HR.out,qK (by rw[HN.out];exact qA _)];rfl),HB⟩})}
def bA (w:World) (A:OA) (n c:Nat) (h:List EntryT):Prop:=Rd w 7 A n (ents h)∧n≤c
theorem bA.below {w w':World}{A:OA}{n c:Nat}{u:List EntryT}(h:bA w A n c u)(B:BL w w'):bA w' A n c u:=⟨h.1.below B,h.2⟩
theorem iz {b:Int}(L:1≤b)(M:b≤16){u B h F G H I:Int}{r:Bool}(J:(fT b (u,B,h,F,G,H,I)&&im h)=r)(w:World):Calls prog 232 #[.agg #[u,B,h,F,G,H,I],b] w λe N=>e=.returned (.bool r)∧BL w N:=by{subst J;exact wN b L M u B h F G H I w}
theorem bX (b s:Int)(A:OA)(n c:Nat)(u:List EntryT)(w:World)(hr:bA w A n c u):Calls prog 160 #[.agg #[b,s,.slice A n c]] w λe h=>e=.returned (.bool (dC b s u))∧BL w h:=by{
 obtain⟨B,_⟩:=hr;have HN:=hI B.len_ent;obtain⟨_,L,F,H,_⟩:=ae w #[b,s,.slice A n c] 32;have G:=hI H;have M:=hI F;have bW:=hI (λh (J:BL w h)=>B.below J);have hn:=B.le;have ER:=hI (show dC b s u=(af b 1 16&&af s 0 1&&decide (u.length≤400)&&gP b [] u) from rfl);clear B H F;have F:=M.f3
 cases B:af b 1 16 with
 | false=>{
 have I:=hI (λw=>bj B w);have H:=I;have e1:=hI B;clear B;go_enter func160,ntmps160;go_wp2_with(first|(go_at_call 34;(with_reducible refine(I.out _).mono ?_);rintro e h⟨rfl,rfl⟩)|(go_at_call 34;(with_reducible refine(H.out _).mono ?_);rintro e h⟨rfl,rfl⟩))
 rw[←L];go_wp2_with(first|(go_at_call 34;(with_reducible refine(I.out _).mono ?_);rintro e h⟨rfl,rfl⟩)|(go_at_call 34;(with_reducible refine(H.out _).mono ?_);rintro e h⟨rfl,rfl⟩))
 go_ret;exact⟨ak (by rw[ER.out,e1.out];rfl),G⟩}
 | true=>{
 have I:=hI (λw=>bj B w);have e1:=hI B;have bO:=ai.1 B;clear B
 cases B:af s 0 1 with
 | false=>{
 have H:=hI (λw=>bj B w);have e2:=hI B;clear B;go_enter func160,ntmps160;go_wp2_with(first|(go_at_call 34;(with_reducible refine(I.out _).mono ?_);rintro e h⟨rfl,rfl⟩)|(go_at_call 34;(with_reducible refine(H.out _).mono ?_);rintro e h⟨rfl,rfl⟩))
 rw[←L];go_wp2_with(first|(go_at_call 34;(with_reducible refine(I.out _).mono ?_);rintro e h⟨rfl,rfl⟩)|(go_at_call 34;(with_reducible refine(H.out _).mono ?_);rintro e h⟨rfl,rfl⟩))
 go_ret;exact⟨ak (by rw[ER.out,e1.out,e2.out];rfl),G⟩}
 | true=>{
 have H:=hI (λw=>bj B w);have e2:=hI B;clear B;by_cases h3:n≤400
 rotate_left
 {
 have e3:=hI (show decide (u.length≤400)=false from decide_eq_false (by rw[HN.out];exact h3));go_enter func160,ntmps160;go_wp2_with(first|(go_at_call 34;(with_reducible refine(I.out _).mono ?_);rintro e h⟨rfl,rfl⟩)|(go_at_call 34;(with_reducible refine(H.out _).mono ?_);rintro e h⟨rfl,rfl⟩))
 rw[←L];go_wp2_with(first|(go_at_call 34;(with_reducible refine(I.out _).mono ?_);rintro e h⟨rfl,rfl⟩)|(go_at_call 34;(with_reducible refine(H.out _).mono ?_);rintro e h⟨rfl,rfl⟩))
 go_ret;exact⟨ak (by rw[ER.out,e1.out,e2.out,e3.out];rfl),G⟩}
 have e3:=hI (show decide (u.length≤400)=true from decide_eq_true (by rw[HN.out];exact h3));go_enter func160,ntmps160;go_wp2_with(first|(go_at_call 34;(with_reducible refine(I.out _).mono ?_);rintro e h⟨rfl,rfl⟩)|(go_at_call 34;(with_reducible refine(H.out _).mono ?_);rintro e h⟨rfl,rfl⟩))
 rw[←L];clear L;go_wp2_with(first|(go_at_call 34;(with_reducible refine(I.out _).mono ?_);rintro e h⟨rfl,rfl⟩)|(go_at_call 34;(with_reducible refine(H.out _).mono ?_);rintro e h⟨rfl,rfl⟩))
 go_loopw [3] (λi wr=>∃k:Nat,k≤n∧i=.int .i64 k∧Hid (gP b (u.take k) (u.drop k)=gP b [] u)∧Hid (aO wr w.heap.size #[b,s,.slice A n c] 32)∧Hid (BL w wr)) (λi _=>n-(intOf i).toNat)
 case atStart=>exact⟨0,qH _,rfl,hI (by simp),M,G⟩
 case round=>(
 clear M G F;obtain⟨k,_,rfl,HR,HX,HB⟩:=hrel;obtain⟨B,b2⟩:∃B:World,B=wr:=⟨_,rfl⟩;subst b2;have F:=HX.f3;by_cases b0:k<n
 {
 obtain⟨b1,o1,R,T,L,U,V,W,Y,rfl,M,G,ad,ar,av,a1,a2,a6,a7⟩:=(bW _ HB).ent b0;have HT:=hI (show u.take (k+1)=u.take k++[(R,T,L,U,V,W,Y)] from gH M);have HD:=hI G;have bP:=hI (λh (J:BL B h)=>su (some ⟨b1,o1,none⟩) k c (u.take k) R T L U V W Y h (((bW _ HB).takeE k (by omega)).below J));have b3:k≤c:=by omega
 clear M G;go_wp2_with fail
 cases he:(fT b (R,T,L,U,V,W,Y)&&im L) with
 | false=>{
 have Z:=hI (λw=>iz bO.1 bO.2 he w);have eE:=hI (show(fT b (R,T,L,U,V,W,Y)&&im (E.rev (R,T,L,U,V,W,Y)))=false from he);have M:=hI (λh (J:BL B h)=>bP h J);clear he;have bb:=cell_regrown (F.1);have bk:=cell_regrown (F.2.2.1);have bn:=cell_regrown (ad);have bo:=cell_regrown (ar);have bp:=cell_regrown (av);have bq:=cell_regrown (a1);have bs:=cell_regrown (a2);have bt:=cell_regrown (a6);have bv:=cell_regrown (a7);refine wp_region_quiet_below (by kernel_rfl) (by kernel_rfl) ?_;repeat (first|go_big_quiet_step ((first|(go_at_call 232;(with_reducible exact Calls.regrown_of (Z.out _)))|(go_at_call 233;(with_reducible exact Calls.regrown_of (M.out _ (below_regrown _ _ _))))))|quiet_step ((first|(go_at_call 232;(with_reducible exact Calls.regrown_of (Z.out _)))|(go_at_call 233;(with_reducible exact Calls.regrown_of (M.out _ (below_regrown _ _ _)))))))
 refine wpQuiet_nil ?_;intro _ a';obtain⟨⟨dq,bN⟩,ba⟩:=a';subst ba;obtain⟨wq,N,G⟩:∃O,O=grow (redrawn B dq) bN∧BL B O:=⟨_,rfl,below_regrown _ _ _⟩;rw[←N];clear N bb bk bn bo bp bq bs bt bv;have a8:=zb HB G;have bR:=hI (HX.below G);clear G F ad ar av a1 a2 a6 a7;go_wp2_with fail
 go_ret;exact⟨ak (by rw[ER.out,e1.out,e2.out,e3.out,←HR.out,HD.out,gP,eE.out];rfl),a8⟩}
 | true=>{
 have Z:=hI (λw=>iz bO.1 bO.2 he w);have eE:=hI (show(fT b (R,T,L,U,V,W,Y)&&im (E.rev (R,T,L,U,V,W,Y)))=true from he);clear he
 cases hh:nD (u.take k) (R,T,L,U,V,W,Y) with
 | true=>{
 have M:=hI (λh (J:BL B h)=>by have:=bP h J;rw[hh] at this;exact this);have eH:=hI hh;clear hh;have bb:=cell_regrown (F.1);have bk:=cell_regrown (F.2.2.1);have bn:=cell_regrown (ad);have bo:=cell_regrown (ar);have bp:=cell_regrown (av);have bq:=cell_regrown (a1);have bs:=cell_regrown (a2);have bt:=cell_regrown (a6);have bv:=cell_regrown (a7);refine wp_region_quiet_below (by kernel_rfl) (by kernel_rfl) ?_;repeat (first|go_big_quiet_step ((first|(go_at_call 232;(with_reducible exact Calls.regrown_of (Z.out _)))|(go_at_call 233;(with_reducible exact Calls.regrown_of (M.out _ (below_regrown _ _ _))))))|quiet_step ((first|(go_at_call 232;(with_reducible exact Calls.regrown_of (Z.out _)))|(go_at_call 233;(with_reducible exact Calls.regrown_of (M.out _ (below_regrown _ _ _)))))))
 refine wpQuiet_nil ?_;intro _ a';obtain⟨⟨dq,bN⟩,ba⟩:=a';subst ba;obtain⟨wq,N,G⟩:∃O,O=grow (redrawn B dq) bN∧BL B O:=⟨_,rfl,below_regrown _ _ _⟩;rw[←N];clear N bb bk bn bo bp bq bs bt bv;have a8:=zb HB G;have bR:=hI (HX.below G);clear G F ad ar av a1 a2 a6 a7;go_wp2_with fail
 go_ret;exact⟨ak (by rw[ER.out,e1.out,e2.out,e3.out,←HR.out,HD.out,gP,eE.out,eH.out];rfl),a8⟩}
 | false=>{
 have M:=hI (λh (J:BL B h)=>by have:=bP h J;rw[hh] at this;exact this);have eH:=hI hh;clear hh;have bb:=cell_regrown (F.1);have bk:=cell_regrown (F.2.2.1);have bn:=cell_regrown (ad);have bo:=cell_regrown (ar);have bp:=cell_regrown (av);have bq:=cell_regrown (a1);have bs:=cell_regrown (a2);have bt:=cell_regrown (a6);have bv:=cell_regrown (a7);refine wp_region_quiet_below (by kernel_rfl) (by kernel_rfl) ?_;repeat (first|go_big_quiet_step ((first|(go_at_call 232;(with_reducible exact Calls.regrown_of (Z.out _)))|(go_at_call 233;(with_reducible exact Calls.regrown_of (M.out _ (below_regrown _ _ _))))))|quiet_step ((first|(go_at_call 232;(with_reducible exact Calls.regrown_of (Z.out _)))|(go_at_call 233;(with_reducible exact Calls.regrown_of (M.out _ (below_regrown _ _ _)))))))
 refine wpQuiet_nil ?_;intro _ a';obtain⟨⟨dq,bN⟩,ba⟩:=a';subst ba;obtain⟨wq,N,G⟩:∃O,O=grow (redrawn B dq) bN∧BL B O:=⟨_,rfl,below_regrown _ _ _⟩;rw[←N];clear N bb bk bn bo bp bq bs bt bv;have a8:=zb HB G;have bR:=hI (HX.below G);clear G F ad ar av a1 a2 a6 a7;go_wp2_with fail
 go_roundw
 case rel=>exact⟨k+1,by omega,by go_num,hI (by rw[←HR.out,HD.out,gP,eE.out,eH.out,HT.out];rfl),bR,a8⟩
 case measure=>simp[intOf]<;>omega}}}
 {
 obtain rfl:k=n:=by omega
 go_wp2_with fail
 go_ret;exact⟨ak (by rw[ER.out,e1.out,e2.out,e3.out,←HR.out,qK (by rw[HN.out];exact qA _)];rfl),HB⟩})}}}
end Go.Proofs.YtnpldahkhaacnaaGreatDoor

/- Texts of the walk: Zme Vl Na Nd Nb Ov Nw. -/
import Derived.Test.YtnpldahkhaacnaaGreatDoorYah
set_option linter.unusedVariables false
set_option linter.unusedSimpArgs false
set_option maxRecDepth 100000
set_option maxHeartbeats 32000000
namespace Go.Proofs.YtnpldahkhaacnaaGreatDoor
open Go.RowKit Go.Sort Go.Proofs.Tryz
theorem iU (v:Int):(∃n:Nat,v=(n:Int)∧Lib.itoa v=aP n)∨(∃n:Nat,1≤n∧v=-(n:Int)∧Lib.itoa v=45::aP n):=by{
 by_cases h:0≤v
 {
 obtain⟨n,rfl⟩:=aC v h;exact .inl ⟨n,rfl,Lib.itoa_nonneg n⟩}
 {
 obtain⟨n,rfl⟩:∃n:Nat,v=-(n:Int):=⟨v.natAbs,by omega⟩;exact .inr ⟨n,by omega,rfl,Lib.itoa_neg n (by omega)⟩}}
theorem yP (n:Nat):∃c r,aP n=c::r∧jL c=true:=by{
 cases h:aP n with
 | nil=>exact absurd h (pN n)
 | cons c r=>exact⟨c,r,rfl,dZ n c (by rw[h];exact List.mem_cons_self)⟩}
theorem IM:jL 45=false:=by decide
theorem Gi {n:Nat}(h:(aP n).length≤15):n<10^15:=by{
 have u:=oU (aP n) 0 (dZ n);rw[jP] at u;have B:10^(aP n).length≤10^15:=Nat.pow_le_pow_right (by decide) h;omega}
theorem DW {v:Int}(H:v.natAbs<10^15):fq (Lib.itoa v)=(v,true):=by{
 rcases iU v with⟨n,rfl,e⟩|⟨n,_,rfl,e⟩
 {
 rw[e];exact sl (by omega)}
 {
 have F:=dZ n;have u:=jP n;have h:=oB (aP n) 0 F (by rw[u];omega);rw[u] at h;have B:Lib.parseUintB 64 (aP n)=.ok n:=by{
 unfold Lib.parseUintB;rw[if_neg (pN n)];exact h}
 have G:Lib.parseIntB 64 (45::aP n)=.ok (-(n:Int)):=by{
 rw[Lib.parseIntB_minus,B];unfold Lib.signedC;first|(simp only[];rw[if_neg (by omega)])|(simp;omega)}
 have I:=bd 14 n (by omega);unfold fq;rw[e,G];simp only;rw[if_pos ⟨by simp;omega,e⟩]}}
theorem Dh {v:Int}(F:v.natAbs<10^15):cg (Lib.itoa v)=(v,true):=by{
 rcases iU v with⟨n,rfl,e⟩|⟨n,_,rfl,e⟩
 {
 rw[e];exact tB (by omega)}
 {
 have h:=bd 14 n (by omega);have u:¬((aP n).length<1∨15<(aP n).length):=by{
 obtain⟨c,r,B,-⟩:=yP n;rw[B] at h ⊢;simp at h ⊢;omega}
 rw[e];rw[show cg (45::aP n)=mB true (aP n) (45::aP n) from by{
 show(if (45:UInt8)=45 then mB true (aP n) (45::aP n) else mB false (45::aP n) (45::aP n))=_;rw[if_pos rfl]},lw (neg:=true) u (List.all_eq_true.2 (dZ n)) (by rw[if_pos rfl,jP];exact e),if_pos rfl,jP]}}
theorem xO {neg:Bool}{D w:LB}{v:Int}(h:mB neg D w=(v,true)):Lib.itoa v=w∧v.natAbs<10^15:=by{
 by_cases B:D.length<1∨15<D.length
 {rw[nC B] at h;cases h}
 by_cases u:D.all jL=true
 rotate_left
 {rw[nz u] at h;cases h}
 have H:=oU D 0 (List.all_eq_true.1 u);have I:10^D.length≤10^15:=Nat.pow_le_pow_right (by decide) (by omega);by_cases F:Lib.itoa (if neg=true then -(valL 0 D:Int) else(valL 0 D:Int))=w
 {
 rw[lw B u F] at h;injection h with G _;rw[←G];refine⟨F,?_⟩
 cases neg<;>simp<;>omega}
 {rw[wP B u F] at h;cases h}}
theorem EG {w:LB}{v:Int}(h:cg w=(v,true)):Lib.itoa v=w∧v.natAbs<10^15:=by{
 unfold cg at h;split at h
 {cases h}
 {
 split at h
 {exact xO h}
 {exact xO h}}}
theorem rZ {w:LB}{v:Int}(h:fq w=(v,true)):Lib.itoa v=w:=by{
 unfold fq at h;split at h
 {
 split at h
 {
 rename_i u;injection h with B _;rw[←B];exact u.2}
 {cases h}}
 {cases h}}
theorem yb {v:Int}(B:v.natAbs<10^15):aB (Lib.itoa v)=(v,true):=by{
 unfold aB;rw[DW B];have:(Lib.trimPrefix (Lib.itoa v) [45]).length≤15:=by{
 rcases iU v with⟨n,rfl,e⟩|⟨n,_,rfl,e⟩
 {
 have h:=bd 14 n (by omega);rw[e];have u:(Lib.trimPrefix (aP n) [45]).length≤(aP n).length:=by{
 unfold Lib.trimPrefix;split
 {rw[qX];omega}
 {exact qA _}}
 omega}
 {
 have h:=bd 14 n (by omega);rw[e];have u:Lib.trimPrefix (45::aP n) [45]=aP n:=by{
 unfold Lib.trimPrefix;rw[if_pos (by rfl)];rfl}
 rw[u];exact h}}
 show(v,(true&&decide _))=_;rw[decide_eq_true this];rfl}
theorem zW {w:LB}{v:Int}(G:aB w=(v,true)):Lib.itoa v=w∧v.natAbs<10^15:=by{
 unfold aB at G;injection G with I u;rw[Bool.and_eq_true,decide_eq_true_eq] at u;have B:=rZ (w:=w) (v:=v) (by rw[←I,←u.1]);refine⟨B,?_⟩;have h:=u.2;rcases iU v with⟨n,rfl,e⟩|⟨n,_,rfl,e⟩
 {
 rw[←B,e] at h;have F:Lib.trimPrefix (aP n) [45]=aP n:=by{
 obtain⟨c,r,L,H⟩:=yP n;unfold Lib.trimPrefix;rw[L,if_neg];intro M;have:(45:UInt8)=c:=by{
 have J:((45:UInt8)==c&&true)=true:=M;simpa using J}
 rw[←this,IM] at H
 cases H}
 rw[F] at h;have:=Gi h;omega}
 {
 rw[←B,e] at h;have F:Lib.trimPrefix (45::aP n) [45]=aP n:=by{
 unfold Lib.trimPrefix;rw[if_pos (by rfl)];rfl}
 rw[F] at h;have:=Gi h;omega}}
theorem kb {w:LB}{v:Int}:cg w=(v,true)↔aB w=(v,true):=by{
 constructor
 {
 intro h;obtain⟨u,B⟩:=EG h;rw[←u];exact yb B}
 {
 intro h;obtain⟨u,B⟩:=zW h;rw[←u];exact Dh B}}
theorem kV (w:LB):(cg w).2=(aB w).2:=by{
 cases h:(cg w).2 with
 | true=>{
 have:cg w=((cg w).1,true):=by rw[←h]
 rw[kb.1 this]}
 | false=>{
 cases u:(aB w).2 with
 | false=>rfl
 | true=>{
 have:aB w=((aB w).1,true):=by rw[←u]
 rw[kb.2 this] at h
 cases h}}}
theorem dz (h:List LB):eM h=aT h:=by{
 unfold eM aT;congr 1;funext w;exact kV w}
theorem iS {ws:List LB}(h:aT ws=true):(ws.map λw=>(cg w).1)=ws.map λw=>(aB w).1:=by{
 refine List.map_congr_left (λw B=>?_);unfold aT at h;have u:=List.all_eq_true.1 h w B;have:aB w=((aB w).1,true):=by{
 show((aB w).1,(aB w).2)=_;rw[u]}
 rw[kb.2 this]}
theorem Rd.takeS {w:World}{b o n:Nat}{B:List LB}(u:Rd w 1 (some ⟨b,o,none⟩) n (strs B))(k:Nat)(J:k≤n):Rd w 1 (some ⟨b,o,none⟩) k (strs (B.take k)):=by{
 have L:=u.len_str;have M:=u.le;refine⟨by rw[gi,qS];omega,by omega,λN=>⟨b,o,rfl,λi I h=>?_⟩⟩;obtain⟨_,_,e,H⟩:=u.pos (by omega);injection e with e;injection e with F G;subst F G;refine H i I ?_;unfold strs at h ⊢;rw[qZ,List.getElem?_take] at h;rw[qZ];split at h
 {exact h}
 {cases h}}
theorem Rd.dropS {w:World}{b o n:Nat}{F:List LB}(h:Rd w 1 (some ⟨b,o,none⟩) n (strs F))(k:Nat)(J:k≤n):Rd w 1 (some ⟨b,o+k,none⟩) (n-k) (strs (F.drop k)):=by{
 have L:=h.len_str;have M:=h.le;refine⟨by rw[gi,qX];omega,by omega,λN=>⟨b,o+k,rfl,λi I u=>?_⟩⟩;obtain⟨_,_,e,B⟩:=h.pos (by omega);injection e with e;injection e with G H;subst G H;unfold strs at u B;rw[qZ,qg,←qZ] at u;have:=B (k+i) I u;rwa [show o+(k+i)=o+k+i by omega] at this}
def jb (h:List LB) (r b c t:Int):Prop:=(3≤h.length∧h.length≤4)∧aB (h.getD 0 [])=(r,true)∧aB (h.getD 1 [])=(b,true)∧fe (h.getD 2 [])=(c,true)∧(c=0↔h.length=4)∧(h.length=4→0≤t∧t≤1000000000∧h.getD 3 []=aX t.toNat)∧(h.length=3→t=0)
def XP (u:List LB) (r b c t:Int) (h:Bool):Prop:=(h=true→jb u r b c t)∧(h=false→∀r b c t,¬jb u r b c t)
theorem yM {tl:List LB}(r b c t:Int)(h:∀r b c t,¬jb tl r b c t):XP tl r b c t false:=⟨(λh=>by cases h),λ_=>h⟩
theorem Ev {u:List LB}{r b c t:Int}(h:jb u r b c t):XP u r b c t true:=⟨λ_=>h,(λh=>by cases h)⟩
theorem Fl {tl:List LB}(u:tl.length<3∨4<tl.length)(r b c t:Int):XP tl r b c t false:=by{
 refine yM _ _ _ _ (λr b c t h=>?_);have:=h.1;omega}
theorem Eh {t h:Nat}(I:t≤1000000000)(J:h≤1000000000)(G:aX t=aX h):t=h:=by{
 obtain⟨u,B⟩:=pP I rfl;obtain⟨F,H⟩:=pP J rfl;rw[G] at u B;rw[u] at F;rw[B] at H;injection F with L _;omega}
def aL:LB→List LB|[]=>[[]]|c::r=>if c=10 then []::aL r else match aL r with|[]=>[[c]]|w::h=>(c::w)::h
theorem gK (l:LB):aL l≠[]:=by{
 cases l with
 | nil=>simp[aL]
 | cons c r=>{
 unfold aL;split
 {simp}
 {split<;>simp}}}
theorem eI (r:LB):aL (10::r)=[]::aL r:=by simp[aL]
theorem ik {c:UInt8}(h:c≠10)(r:LB):aL (c::r)=cj [c] (aL r):=by{
 rw[aL,if_neg h]
 cases u:aL r with
 | nil=>exact absurd u (gK r)
 | cons w B=>rfl}
theorem gU:∀{a:LB},(∀c∈a,c≠10)→aL a=[a]:=by{
 intro a
 induction a with
 | nil=>intro _;rfl
 | cons c a B=>{
 intro h;rw[ik (h c List.mem_cons_self),B (λd u=>h d (List.mem_cons_of_mem _ u))];rfl}}
theorem iR:∀{a:LB} (b:LB),(∀c∈a,c≠10)→aL (a++10::b)=a::aL b:=by{
 intro a
 induction a with
 | nil=>intro b _;exact eI b
 | cons c a B=>{
 intro b h;rw[List.cons_append,ik (h c List.mem_cons_self),B b (λd u=>h d (List.mem_cons_of_mem _ u))];rfl}}
theorem nG:∀(l:LB),(aL l).length=l.count 10+1:=by{
 intro l
 induction l with
 | nil=>rfl
 | cons c r u=>{
 by_cases h:c=10
 {subst h;rw[eI,qO,u];simp}
 {
 rw[ik h];have:(cj [c] (aL r)).length=(aL r).length:=by{
 cases B:aL r with
 | nil=>exact absurd B (gK r)
 | cons w F=>rfl}
 rw[this,u,List.count_cons_of_ne h]}}}
theorem fV:∀(l:LB),(∀c∈l,c≠10)∨∃a b,l=a++10::b∧∀c∈a,c≠10:=by{
 intro l
 induction l with
 | nil=>exact .inl (by simp)
 | cons c r F=>{
 by_cases u:c=10
 {subst u;exact .inr ⟨[],r,rfl,by simp⟩}
 {
 rcases F with B|⟨a,b,rfl,ha⟩
 {exact .inl (by intro d h;rcases List.mem_cons.1 h with rfl|h;exact u;exact B d h)}
 {exact .inr ⟨c::a,b,rfl,by intro d h;rcases List.mem_cons.1 h with rfl|h;exact u;exact ha d h⟩}}}}
theorem Hd {s:LB}{j:Nat}(h:s[j]?≠some 10):Lib.occAt s [10] j=false:=by{
 unfold Lib.occAt
 cases B:s.drop j with
 | nil=>rfl
 | cons c r=>{
 have u:s[j]?=some c:=by{
 have:(s.drop j)[0]?=some c:=by rw[B];rfl
 simpa using this}
 have F:c≠10:=λe=>h (by rw[u,e])
 simp[List.isPrefixOf,beq_eq_false_iff_ne.2 (Ne.symm F)]}}
theorem tv {a b:LB}(h:∀c∈a,c≠10):Lib.index (a++10::b) [10]=a.length:=by{
 refine Lib.index_first (by simp) ?_ ?_
 {
 unfold Lib.occAt;rw[List.drop_left];simp[List.isPrefixOf]}
 {
 intro j u;refine Hd ?_;rw[qU u];intro e;exact h 10 (qF e) rfl}}
theorem ur:∀(k:Nat) (s:LB),s.count 10=k→Lib.splitK [10] 0 k s=aL s:=by{
 intro k
 induction k with
 | zero=>{
 intro s h;rcases fV s with u|⟨a,b,rfl,_⟩
 {rw[gU u];rfl}
 {simp at h}}
 | succ k H=>{
 intro s h;rcases fV s with u|⟨a,b,rfl,ha⟩
 {
 have:s.count 10=0:=List.count_eq_zero.2 (λB=>u 10 B rfl);omega}
 {
 have G:b.count 10=k:=by{
 have F:a.count 10=0:=List.count_eq_zero.2 (λB=>ha 10 B rfl);rw[List.count_append,F,List.count_cons_self] at h;omega}
 rw[iR b ha,Lib.splitK,tv ha,if_neg (by simp)];simp only[qP,qW,List.take_left,qO,qT];rw[show(a++10::b).drop (a.length+(0+1))=b from by rw[←List.drop_drop,List.drop_left];rfl,H b G]}}}
theorem vC (s:ByteArray):(Lib.splitB ⟨#[10]⟩ 0 (Lib.countB s ⟨#[10]⟩) s).map (·.data.toList)=aL s.data.toList:=by{
 rw[Lib.splitB_data];refine ur _ _ ?_;unfold Lib.countB;exact(Lib.count_one 10 _).symm}
def aR (d:UInt8):LB→List LB|[]=>[[]]|c::r=>if c=d then []::aR d r else match aR d r with|[]=>[[c]]|w::h=>(c::w)::h
theorem gN (d:UInt8)(l:LB):aR d l≠[]:=by{
 cases l with
 | nil=>simp[aR]
 | cons c r=>{
 unfold aR;split
 {simp}
 {split<;>simp}}}
theorem i_ (d:UInt8)(r:LB):aR d (d::r)=[]::aR d r:=by simp[aR]
theorem fQ {c d:UInt8}(h:c≠d)(r:LB):aR d (c::r)=cj [c] (aR d r):=by{
 rw[aR,if_neg h]
 cases u:aR d r with
 | nil=>exact absurd u (gN d r)
 | cons w B=>rfl}
theorem jp (l:LB):aR 32 l=wordsL l:=by{
 induction l with
 | nil=>rfl
 | cons c r u=>{
 by_cases h:c=32
 {subst h;rw[i_,dW,u]}
 {rw[fQ h,dQ h,u]}}}
theorem tZ (l:LB):aR 10 l=aL l:=by{
 induction l with
 | nil=>rfl
 | cons c r u=>{
 by_cases h:c=10
 {subst h;rw[i_,eI,u]}
 {rw[fQ h,ik h,u]}}}
theorem ss (d:UInt8)(p:LB)(r:LB):cj p (aR d (d::r))=p::aR d r:=by rw[i_];simp[cj]
theorem rh {c d:UInt8}(p:LB)(h:c≠d)(r:LB):cj p (aR d (c::r))=cj (p++[c]) (aR d r):=by{rw[fQ h,qu _ _ (gN d r)]}
theorem qN {d:UInt8}:∀{a:LB},(∀c∈a,c≠d)→aR d a=[a]:=by{
 intro a
 induction a with
 | nil=>intro _;rfl
 | cons c r B=>{
 intro h;rw[fQ (h c List.mem_cons_self),B (λx u=>h x (List.mem_cons_of_mem _ u))];rfl}}
theorem nh {d:UInt8}:∀{a:LB} (b:LB),(∀c∈a,c≠d)→aR d (a++d::b)=a::aR d b:=by{
 intro a
 induction a with
 | nil=>intro b _;exact i_ d b
 | cons c r B=>{
 intro b h;show aR d (c::(r++d::b))=_;rw[fQ (h c List.mem_cons_self),B b (λx u=>h x (List.mem_cons_of_mem _ u))];rfl}}
theorem pv (d:UInt8):∀(l:LB),(∀c∈l,c≠d)∨∃a b,l=a++d::b∧∀c∈a,c≠d:=by{
 intro l
 induction l with
 | nil=>exact .inl (λc u=>by cases u)
 | cons c r F=>{
 by_cases u:c=d
 {
 subst u;exact .inr ⟨[],r,rfl,λx h=>by cases h⟩}
 {
 rcases F with B|⟨a,b,rfl,ha⟩
 {exact .inl (λx h=>by rcases List.mem_cons.1 h with rfl|h;exact u;exact B x h)}
 {exact .inr ⟨c::a,b,rfl,λx h=>by rcases List.mem_cons.1 h with rfl|h;exact u;exact ha x h⟩}}}}
theorem Dl {d:UInt8}:∀{a:LB} (b:LB),(∀c∈a,c≠d)→Lib.index (a++d::b) [d]=a.length:=by{
 intro a
 induction a with
 | nil=>{
 intro b _;show(if [d].isPrefixOf (d::b) then(0:Int) else if Lib.index b [d]==-1 then -1 else Lib.index b [d]+1)=_;rw[if_pos (by simp)];rfl}
 | cons c a G=>{
 intro b h;have F:=h c List.mem_cons_self;show(if [d].isPrefixOf (c::(a++d::b)) then(0:Int) else if Lib.index (a++d::b) [d]==-1 then -1 else Lib.index (a++d::b) [d]+1)=_;rw[G b (λx u=>h x (List.mem_cons_of_mem _ u))];have u:[d].isPrefixOf (c::(a++d::b))=false:=by{
 show(d==c&&true)=false;rw[Bool.and_true,beq_eq_false_iff_ne];exact λe=>F e.symm}
 have B:((a.length:Int)==-1)=false:=by rw[beq_eq_false_iff_ne];omega
 rw[u,B];simp}}
theorem zh {d:UInt8}:∀{a:LB},(∀c∈a,c≠d)→Lib.index a [d]=-1:=by{
 intro a
 induction a with
 | nil=>intro _;rfl
 | cons c a F=>{
 intro h;have B:=h c List.mem_cons_self;show(if [d].isPrefixOf (c::a) then(0:Int) else if Lib.index a [d]==-1 then -1 else Lib.index a [d]+1)=_;rw[F (λx u=>h x (List.mem_cons_of_mem _ u))];have u:[d].isPrefixOf (c::a)=false:=by{
 show(d==c&&true)=false;rw[Bool.and_true,beq_eq_false_iff_ne];exact λe=>B e.symm}
 rw[u];rfl}}
theorem wu {d:UInt8}{a:LB}(b:LB)(h:∀c∈a,c≠d):Lib.cut (a++d::b) [d]=(a,b,true):=by{
 unfold Lib.cut;rw[Dl b h,if_pos (by omega)];have e:a++d::b=(a++[d])++b:=by simp
 rw[l_ (by simp),e,lu (by simp)]}
theorem vo {d:UInt8}{a:LB}(h:∀c∈a,c≠d):Lib.cut a [d]=(a,[],false):=by{
 unfold Lib.cut;rw[zh h,if_neg (by omega)]}
def bJ:List LB→LB|[]=>[]|[a]=>a|a::b::r=>a++32::bJ (b::r)
theorem eX (a b:LB)(r:List LB):bJ (a::b::r)=a++32::bJ (b::r):=rfl
theorem BM:∀(l:LB),bJ (wordsL l)=l:=by{
 intro l
 induction l with
 | nil=>rfl
 | cons c r h=>{
 by_cases B:c=32
 {
 subst B;rw[dW]
 cases u:wordsL r with
 | nil=>exact absurd u (bY r)
 | cons w F=>{
 rw[u] at h;rw[eX,h];rfl}}
 {
 rw[dQ B]
 cases u:wordsL r with
 | nil=>exact absurd u (bY r)
 | cons w F=>{
 rw[u] at h
 cases F with
 | nil=>{
 have:w=r:=h;rw[this];rfl}
 | cons v G=>{
 rw[eX] at h;show bJ ((c::w)::v::G)=_;rw[eX,←h];rfl}}}}}
theorem Ad:∀{h:List LB},h≠[]→(∀w∈h,∀c∈w,c≠32)→wordsL (bJ h)=h:=by{
 intro h
 induction h with
 | nil=>intro u _;exact absurd rfl u
 | cons a r F=>{
 intro _ u
 cases r with
 | nil=>exact jq (u a List.mem_cons_self)
 | cons b r=>{rw[eX,sG _ (u a List.mem_cons_self),F (by simp) (λw B=>u w (List.mem_cons_of_mem _ B))]}}}
theorem pz (h:List LB)(x:LB):bJ (h++[x])=if h=[] then x else bJ h++32::x:=by{
 induction h with
 | nil=>rfl
 | cons a r u=>{
 rw[if_neg (by simp)]
 cases r with
 | nil=>rfl
 | cons b r=>{
 rw[if_neg (by simp)] at u;show bJ (a::b::(r++[x]))=_;rw[eX,eX];rw[show bJ (b::(r++[x]))=bJ (b::r)++32::x from u];simp}}}
theorem GD (h:List LB):Lib.join h [32]=bJ h:=by{
 induction h with
 | nil=>rfl
 | cons a r u=>{
 cases r with
 | nil=>simp[Lib.join,List.intercalate,bJ]
 | cons b r=>{
 rw[eX,←u];simp[Lib.join,List.intercalate,List.intersperse]}}}
theorem pG {m:Nat}:∀{h:List LB},(∀w∈h,w.length≤m)→(bJ h).length≤h.length*(m+1):=by{
 intro h
 induction h with
 | nil=>intro _;exact qH _
 | cons a r F=>{
 intro u;have ha:=u a List.mem_cons_self;have G:=F (λw B=>u w (List.mem_cons_of_mem _ B))
 cases r with
 | nil=>simp[bJ];omega
 | cons b r=>{
 rw[eX,qJ,qO,qO];rw[Nat.succ_mul];omega}}}
def dy (l:LI):LB:=bJ (l.map λv=>aP v.toNat)
abbrev du:=Int×Int
def Jh:List LB:=[[119,97,114,110,105,110,103],[112,114,101,112],[109,105,110,117,116,101],[115,116,97,114,116],[112,111,115,116,112,111,110,101],[114,101,115,117,109,101],[114,101,99,97,108,108],[97,98,97,110,100,111,110]]
def cU (k:Int):LB:=Jh.getD (k-1).toNat []
def dR (x:du):Bool:=af x.1 1 8&&af x.2 0 1000000000
def ef (p:Int):List du→Bool|[]=>true|x::r=>dR x&&decide (p≤x.2)&&ef x.2 r
def ed (l:List du):Bool:=decide (l.length≤40)&&ef 0 l
theorem D_:∀{l:List du} {p:Int},ef p l=true→∀x∈l,dR x=true:=by{
 intro l
 induction l with
 | nil=>intro p _ x h;cases h
 | cons y r B=>{
 intro p u x h;rw[ef,Bool.and_eq_true,Bool.and_eq_true] at u;rcases List.mem_cons.1 h with rfl|h
 {exact u.1.1}
 {exact B u.2 x h}}}
theorem fJ {l:List du}(h:ed l=true):∀x∈l,dR x=true:=by{
 unfold ed at h;rw[Bool.and_eq_true] at h;exact D_ h.2}
theorem cV {x:du}:dR x=true↔(1≤x.1∧x.1≤8)∧0≤x.2∧x.2≤1000000000:=by{
 unfold dR;rw[Bool.and_eq_true,ai,ai]}
theorem cX {k:Int}(h:1≤k∧k≤8):k=1∨k=2∨k=3∨k=4∨k=5∨k=6∨k=7∨k=8:=by omega
theorem pR {k:Int}(h:1≤k∧k≤8):∀c∈cU k,c≠32∧c≠64:=by{rcases cX h with rfl|rfl|rfl|rfl|rfl|rfl|rfl|rfl<;>decide}
theorem xm {k:Int}(h:1≤k∧k≤8):(cU k).length≤8:=by{rcases cX h with rfl|rfl|rfl|rfl|rfl|rfl|rfl|rfl<;>decide}
theorem EZ {j k:Int}(u:1≤j∧j≤8)(h:1≤k∧k≤8)(e:cU j=cU k):j=k:=by{rcases cX u with rfl|rfl|rfl|rfl|rfl|rfl|rfl|rfl<;>rcases cX h with rfl|rfl|rfl|rfl|rfl|rfl|rfl|rfl<;>first|rfl|(exact absurd e (by decide))}
def eu (w:LB):Option Int:=[1,2,3,4,5,6,7,8].find? λk=>cU k==w
theorem fO {w:LB}{k:Int}(h:eu w=some k):(1≤k∧k≤8)∧cU k=w:=by{
 unfold eu at h;have u:=List.find?_some h;have B:=List.mem_of_find?_eq_some h;refine⟨?_,by simpa using u⟩;simp at B;omega}
theorem ns {k:Int}(h:1≤k∧k≤8):eu (cU k)=some k:=by{
 cases e:eu (cU k) with
 | none=>{
 exfalso;unfold eu at e;rw[List.find?_eq_none] at e;exact e k (by simp;omega) (by simp)}
 | some j=>{
 have:=fO e;rw[EZ this.1 h this.2]}}
theorem CI {w:LB}(h:∀k,1≤k→k≤8→cU k≠w):eu w=none:=by{
 cases e:eu w with
 | none=>rfl
 | some j=>exact absurd (fO e).2 (h j (fO e).1.1 (fO e).1.2)}
def gw (x:du):LB:=cU x.1++64::aP x.2.toNat
def eY (l:List du):LB:=if ed l=true then bJ (l.map gw) else []
def jf (p:LB):Option du:=match eu (Lib.cut p [64]).1 with|some k=>if (fq (Lib.cut p [64]).2.1).2=true then some (k,(fq (Lib.cut p [64]).2.1).1) else none|none=>none
def nO (h:List du):List LB→Option (List du)|[]=>some h|p::r=>match jf p with|some x=>if h.length=40 then none else nO (h++[x]) r|none=>none
def fm (s:LB):Option (List du):=if s=[] then some [] else match nO [] (wordsL s) with|some l=>if ed l=true then some l else none|none=>none
def xe (h:List du):List LB→Option (List du)|[]=>some h|p::r=>if (aR 64 p).length≠2 then none else if (cg ((aR 64 p).getD 1 [])).2=true then xe (h++(match eu ((aR 64 p).getD 0 []) with|some k=>[(k,(cg ((aR 64 p).getD 1 [])).1)]|none=>[])) r else none
def nX (s:LB):Option (List du):=if s=[] then some [] else if 40<(wordsL s).length then none else match xe [] (wordsL s) with|some l=>if eY l=s then some l else none|none=>none
theorem GA (n:Nat):∀c∈aP n,c≠64:=λc h=>Ii (dZ n c h) (by decide)
theorem Ek {x:du}(u:dR x=true):∀c∈gw x,c≠32:=by{
 intro c h;unfold gw at h;rw[List.mem_append,List.mem_cons] at h;rcases h with h|rfl|h
 {exact(pR (cV.1 u).1 c h).1}
 {decide}
 {exact zk _ c h}}
theorem FK {x:du}(h:dR x=true):Lib.cut (gw x) [64]=(cU x.1,aP x.2.toNat,true):=wu _ (λc u=>(pR (cV.1 h).1 c u).2)
theorem Aj {x:du}(h:dR x=true):jf (gw x)=some x:=by{
 obtain⟨u,B,_⟩:=cV.1 h;have F:=sl (n:=x.2.toNat) (by omega);unfold jf;rw[FK h];simp only;rw[ns u,F];simp only[if_true];rw[Int.toNat_of_nonneg B]}
theorem Bv {x:du}(h:dR x=true):aR 64 (gw x)=[cU x.1,aP x.2.toNat]:=by{
 unfold gw;rw[nh _ (λc u=>(pR (cV.1 h).1 c u).2),qN (GA _)]}
theorem Hz (v:Int):Lib.itoa v≠[]:=by{
 rcases iU v with⟨n,-,e⟩|⟨n,-,-,e⟩
 {rw[e];exact pN n}
 {rw[e];simp}}
theorem Ec {p:LB}{x:du}(h:jf p=some x):(1≤x.1∧x.1≤8)∧p=cU x.1++64::Lib.itoa x.2:=by{
 unfold jf at h;rcases pv 64 p with H|⟨a,b,rfl,ha⟩
 {
 rw[vo H] at h;simp only at h;split at h
 {
 split at h
 {
 rename_i u;have:=rZ (w:=[]) (v:=(fq []).1) (by rw[←u]);exact absurd this (Hz _)}
 {cases h}}
 {cases h}}
 {
 rw[wu b ha] at h;simp only at h;split at h
 {
 rename_i k u;split at h
 {
 rename_i G;injection h with h;subst h;have B:=fO u;have F:=rZ (w:=b) (v:=(fq b).1) (by rw[←G]);exact⟨B.1,by simp only;rw[B.2,F]⟩}
 {cases h}}
 {cases h}}}
theorem Gz {p:LB}{x:du}(u:jf p=some x)(F:dR x=true):p=gw x:=by{
 obtain⟨-,B,_⟩:=cV.1 F;have:=(Ec u).2;obtain⟨n,h⟩:=aC x.2 B;rw[h,Lib.itoa_nonneg] at this;rw[this];unfold gw;rw[h,qP];rfl}
theorem EM:∀{B:List LB} {u l:List du},nO u B=some l→u.length≤40→∃m,l=u++m∧B.map jf=m.map some∧l.length≤40:=by{
 intro B
 induction B with
 | nil=>{
 intro u l h ha;rw[nO] at h;injection h with h;subst h;exact⟨[],by simp,rfl,ha⟩}
 | cons p r I=>{
 intro u l h ha;rw[nO] at h;split at h
 {
 rename_i x H;split at h
 {cases h}
 {
 obtain⟨m,rfl,G,F⟩:=I h (by rw[qJ,List.length_singleton];omega);exact⟨x::m,by simp,by rw[List.map_cons,List.map_cons,G,H],F⟩}}
 {cases h}}}
theorem Gp:∀(l h:List du),(∀x∈l,dR x=true)→h.length+l.length≤40→nO h (l.map gw)=some (h++l):=by{
 intro l
 induction l with
 | nil=>intro h _ _;simp[nO]
 | cons x r G=>{
 intro h u B;rw[qO] at B;rw[List.map_cons,nO,Aj (u x List.mem_cons_self)];simp only;rw[if_neg (by omega),G (h++[x]) (λy F=>u y (List.mem_cons_of_mem _ F)) (by rw[qJ,List.length_singleton];omega)];simp}}
theorem Ga:∀(l h:List du),(∀x∈l,dR x=true)→xe h (l.map gw)=some (h++l):=by{
 intro l
 induction l with
 | nil=>intro h _;simp[xe]
 | cons x r J=>{
 intro h u;have B:=u x List.mem_cons_self;obtain⟨F,G,_⟩:=cV.1 B;have H:=tB (n:=x.2.toNat) (by omega);rw[List.map_cons,xe,Bv B,if_neg (by simp)];rw[show([cU x.1,aP x.2.toNat]:List LB).getD 1 []=aP x.2.toNat from rfl,show([cU x.1,aP x.2.toNat]:List LB).getD 0 []=cU x.1 from rfl,H,if_pos rfl,ns F];simp only;rw[J _ (λy I=>u y (List.mem_cons_of_mem _ I)),Int.toNat_of_nonneg G];simp}}
theorem vJ:∀{u:List LB} {m:List du},u.map jf=m.map some→(∀x∈m,dR x=true)→u=m.map gw:=by{
 intro u
 induction u with
 | nil=>intro m h _;cases m with|nil=>rfl|cons x r=>simp at h
 | cons p r I=>{
 intro m h B
 cases m with
 | nil=>simp at h
 | cons x m=>{
 rw[List.map_cons,List.map_cons] at h;injection h with F G;rw[List.map_cons,Gz F (B x List.mem_cons_self),I G (λy H=>B y (List.mem_cons_of_mem _ H))]}}}
theorem nA (s:LB):fm s=nX s:=by{
 by_cases F:s=[]
 {unfold fm nX;rw[if_pos F,if_pos F]}
 have R:∀l,nX s=some l→fm s=some l:=by{
 intro l h;unfold nX at h;rw[if_neg F] at h;split at h
 {cases h}
 split at h
 {
 rename_i I M;split at h
 {
 rename_i G;injection h with h;subst h;unfold eY at G;split at G
 {
 rename_i B;have J:=fJ B;have u:I≠[]:=by{
 rintro rfl;exact F G.symm}
 have H:wordsL s=I.map gw:=by{
 rw[←G];refine Ad (by simpa using u) ?_;intro w H;obtain⟨x,L,rfl⟩:=List.mem_map.1 H;exact Ek (J x L)}
 have N:I.length≤40:=by{
 unfold ed at B;rw[Bool.and_eq_true,decide_eq_true_eq] at B;exact B.1}
 unfold fm;rw[if_neg F,H,Gp I [] J (by simpa using N)];simp only[List.nil_append];rw[if_pos B]}
 {exact absurd G.symm F}}
 {cases h}}
 {cases h}}
 cases u:fm s with
 | none=>{
 cases h:nX s with
 | none=>rfl
 | some l=>rw[R l h] at u;cases u}
 | some l=>{
 unfold fm at u;rw[if_neg F] at u;split at u
 {
 rename_i I M;split at u
 {
 rename_i B;injection u with u;subst u;obtain⟨m,L,J,N⟩:=EM M (by simp);rw[List.nil_append] at L;subst L;have O:=fJ B;have H:=vJ J O;have G:eY I=s:=by{
 unfold eY;rw[if_pos B,←H,BM]}
 unfold nX;rw[if_neg F,if_neg (by rw[H,qV];omega),H,Ga I [] O];simp only[List.nil_append];rw[if_pos G]}
 {cases u}}
 {cases u}}}
def aV (s:Int×Int) (x:du):(Int×Int)×Bool:=if x.1=1 then((1,x.2),s.1==0||((s.1==6||s.1==7)&&x.2-s.2==60000)) else if x.1=2 then((2,s.2),s.1==1&&x.2-s.2==60000) else if x.1=3 then((3,s.2),s.1==2&&x.2-s.2==240000) else if x.1=4 then((4,x.2),s.1==3&&x.2-s.2==300000) else if x.1=5 then((5,x.2),(s.1 !=4&&s.1 !=5)&&s.1 !=8) else if x.1=6 then((6,x.2),s.1==5) else if x.1=7 then((7,x.2),s.1==4&&decide (x.2-s.2≤60000)) else((8,x.2),s.1 !=8)
abbrev SS:=Int×Int×Int
def aM (s:SS) (x:du):SS×Bool:=if x.1=1 then((1,x.2,0),s.1==0||((s.1==6||s.1==7)&&x.2==s.2.2+60000)) else if x.1=2 then((2,s.2.1,0),s.1==1&&x.2==s.2.1+60000) else if x.1=3 then((3,s.2.1,0),s.1==2&&x.2==s.2.1+240000) else if x.1=4 then((4,s.2.1,x.2),s.1==3&&x.2==s.2.1+300000) else if x.1=5 then((5,0,0),(s.1 !=4&&s.1 !=5)&&s.1 !=8) else if x.1=6 then((6,0,x.2),s.1==5) else if x.1=7 then((7,0,x.2),s.1==4&&decide (x.2≤s.2.2+60000)) else((8,0,0),s.1 !=8)
def mE (s:Int×Int):List du→Bool|[]=>true|x::r=>(aV s x).2&&mE (aV s x).1 r
def kn (s:SS):List du→Bool|[]=>true|x::r=>(aM s x).2&&kn (aM s x).1 r
def nH (s:SS):List du→SS|[]=>s|x::r=>nH (aM s x).1 r
def bG (a:Int):List du→Int|[]=>a|x::r=>bG (if x.1=4 then x.2 else if x.1=7∨x.1=8 then -1 else a) r
def cD (l:List du):Int×Int:=if ed l=true then(if mE (0,0) l=true then(if bG (-1) l<0 then(0,4) else(bG (-1) l,0)) else(0,5)) else(0,1)
def Bt (l:List du):Int×Int:=if ed l=true then(if kn (0,0,0) l=true then(if (nH (0,0,0) l).1=4 then((nH (0,0,0) l).2.2,0) else(0,4)) else(0,5)) else(0,1)
def Ca (s:Int×Int) (p:SS) (a:Int):Prop:=s.1=p.1∧((s.1=1∨s.1=2∨s.1=3)→s.2=p.2.1)∧((s.1=4∨s.1=6∨s.1=7)→s.2=p.2.2)∧(s.1=4→a=p.2.2∧0≤a)∧(s.1≠4→a=-1)
theorem CT {s:Int×Int}{p:SS}{a:Int}{x:du}(h:Ca s p a)(U:dR x=true):(aV s x).2=(aM p x).2∧((aV s x).2=true→Ca (aV s x).1 (aM p x).1 (if x.1=4 then x.2 else if x.1=7∨x.1=8 then -1 else a)):=by{
 obtain⟨B,_⟩:=s;obtain⟨_,_,_⟩:=p;obtain⟨k,t⟩:=x;obtain⟨J,L,T⟩:=cV.1 U;obtain⟨I,F,H,R,G⟩:=h;simp only at I F H R G J L T;subst I;rcases cX J with rfl|rfl|rfl|rfl|rfl|rfl|rfl|rfl
 {
 refine⟨?_,λu=>?_⟩
 {
 simp only[aV,aM,if_pos];by_cases a0:B=6
 {rw[H (by omega)];rw[Bool.eq_iff_iff];simp;omega}
 by_cases M:B=7
 {rw[H (by omega)];rw[Bool.eq_iff_iff];simp;omega}
 have N:(B==6)=false:=by simpa using a0
 have O:(B==7)=false:=by simpa using M
 rw[N,O];rfl}
 {
 simp only[aV,aM,if_pos] at u ⊢;refine⟨rfl,λ_=>rfl,λh=>by omega,λh=>by simp at h,λ_=>?_⟩;simp at u ⊢;exact G (by omega)}}
 {
 refine⟨?_,λu=>?_⟩
 {
 simp only[aV,aM,if_pos,if_neg (show ¬((2:Int)=1) by omega)];by_cases a0:B=1
 {rw[F (by omega)];rw[Bool.eq_iff_iff];simp;omega}
 {
 have e:(B==1)=false:=by simpa using a0
 rw[e];rfl}}
 {
 simp[aV,aM] at u ⊢;refine⟨rfl,λ_=>F (by omega),λh=>by omega,λh=>by simp at h,λ_=>G (by omega)⟩}}
 {
 refine⟨?_,λu=>?_⟩
 {
 simp only[aV,aM,if_pos,if_neg (show ¬((3:Int)=1) by omega),if_neg (show ¬((3:Int)=2) by omega)];by_cases a0:B=2
 {rw[F (by omega)];rw[Bool.eq_iff_iff];simp;omega}
 {
 have e:(B==2)=false:=by simpa using a0
 rw[e];rfl}}
 {
 simp[aV,aM] at u ⊢;refine⟨rfl,λ_=>F (by omega),λh=>by omega,λh=>by simp at h,λ_=>G (by omega)⟩}}
 {
 refine⟨?_,λu=>?_⟩
 {
 simp only[aV,aM,if_pos,if_neg (show ¬((4:Int)=1) by omega),if_neg (show ¬((4:Int)=2) by omega),if_neg (show ¬((4:Int)=3) by omega)];by_cases a0:B=3
 {rw[F (by omega)];rw[Bool.eq_iff_iff];simp;omega}
 {
 have e:(B==3)=false:=by simpa using a0
 rw[e];rfl}}
 {
 simp[aV,aM] at u ⊢;exact⟨rfl,λh=>by simp at h,λ_=>rfl,λ_=>⟨rfl,L⟩,λh=>by simp at h⟩}}
 {
 refine⟨by simp[aV,aM],λu=>?_⟩;simp[aV,aM] at u ⊢;exact⟨rfl,λh=>by simp at h,λh=>by simp at h,λh=>by simp at h,λ_=>G (by omega)⟩}
 {
 refine⟨by simp[aV,aM],λu=>?_⟩;simp[aV,aM] at u ⊢;exact⟨rfl,λh=>by simp at h,λ_=>rfl,λh=>by simp at h,λ_=>G (by omega)⟩}
 {
 refine⟨?_,λu=>?_⟩
 {
 simp[aV,aM];by_cases a0:B=4
 {rw[H (by omega)];rw[Bool.eq_iff_iff];simp;omega}
 {
 have e:(B==4)=false:=by simpa using a0
 rw[e];rfl}}
 {
 simp[aV,aM];exact⟨rfl,λh=>by simp at h,λ_=>rfl,λh=>by simp at h,λ_=>rfl⟩}}
 {
 refine⟨by simp[aV,aM],λu=>?_⟩;simp[aV,aM];exact⟨rfl,λh=>by simp at h,λh=>by simp at h,λh=>by simp at h,λ_=>rfl⟩}}
theorem Gn:∀{l:List du} {s:Int×Int} {p:SS} {a:Int},Ca s p a→(∀x∈l,dR x=true)→mE s l=kn p l∧(mE s l=true→((nH p l).1=4→bG a l=(nH p l).2.2∧0≤bG a l)∧((nH p l).1≠4→bG a l=-1)):=by{
 intro l
 induction l with
 | nil=>{
 intro s p a h _;obtain⟨u,_,_,B,F⟩:=h;exact⟨rfl,λ_=>⟨λe=>B (u.trans e),λe=>F (λq=>e (u.symm.trans q))⟩⟩}
 | cons x r J=>{
 intro s p a h B;obtain⟨F,G⟩:=CT h (B x List.mem_cons_self);rw[mE,kn,←F]
 cases H:(aV s x).2 with
 | false=>exact⟨rfl,λu=>by rw[Bool.false_and] at u;cases u⟩
 | true=>{
 rw[Bool.true_and,Bool.true_and];exact J (G H) (λy I=>B y (List.mem_cons_of_mem _ I))}}}
theorem yO (l:List du):cD l=Bt l:=by{
 unfold cD Bt
 cases I:ed l with
 | false=>rfl
 | true=>{
 rw[if_pos rfl,if_pos rfl];have u:Ca (0,0) (0,0,0) (-1):=⟨rfl,λh=>by simp at h,λh=>by simp at h,λh=>by simp at h,λ_=>rfl⟩;obtain⟨B,F⟩:=Gn u (fJ I);rw[←B]
 cases J:mE (0,0) l with
 | false=>rfl
 | true=>{
 rw[if_pos rfl,if_pos rfl];obtain⟨G,H⟩:=F J;by_cases e:(nH (0,0,0) l).1=4
 {
 obtain⟨L,_⟩:=G e;rw[if_pos e,if_neg (by omega),L]}
 {rw[if_neg e,H e,if_pos (by omega)]}}}}
theorem AC:∀(l:List du) (a:Int),(∀x∈l,dR x=true)→a≤1000000000→bG a l≤1000000000:=by{
 intro l
 induction l with
 | nil=>intro a _ u;exact u
 | cons x r F=>{
 intro a h ha;have G:=cV.1 (h x List.mem_cons_self);refine F _ (λy B=>h y (List.mem_cons_of_mem _ B)) ?_;split
 {omega}
 {split<;>omega}}}
theorem vt (l:List du):0≤(cD l).1∧(cD l).1≤1000000000:=by{
 unfold cD;split
 {
 rename_i h;split
 {
 split
 {simp}
 {exact⟨by simp only;omega,AC l _ (fJ h) (by omega)⟩}}
 {simp}}
 {simp}}
def GQ (h:List du) (k:Nat):Int:=if k=0 then 0 else(h.getD (k-1) (0,0)).2
theorem oa {h:List du}{k:Nat}{x y:Int}(u:h[k]?=some (x,y)):GQ h (k+1)=y:=by{
 unfold GQ;rw[if_neg (by omega),Nat.add_sub_cancel,qC,u];rfl}
theorem rT {p x y:Int}{r:List du}(h:af x 1 8=false∨af y 0 1000000000=false):ef p ((x,y)::r)=false:=by{
 have:dR (x,y)=false:=by{
 unfold dR;rcases h with h|h
 {rw[h];rfl}
 {rw[h,Bool.and_false]}}
 rw[ef,this];rfl}
theorem EW {p x y:Int}{r:List du}(h:y<p):ef p ((x,y)::r)=false:=by{rw[ef,decide_eq_false (show ¬p≤(x,y).2 from by show ¬p≤y;omega),Bool.and_false];rfl}
theorem rM {p x y:Int}{r:List du}(u:af x 1 8=true)(B:af y 0 1000000000=true)(h:p≤y):ef p ((x,y)::r)=ef y r:=by{
 have F:dR (x,y)=true:=by unfold dR;rw[u,B];rfl
 rw[ef,F,decide_eq_true (show p≤(x,y).2 from h)];rfl}
theorem mg {h:List du}(u:ef 0 h=false):ed h=false:=by unfold ed;rw[u,Bool.and_false]
theorem xB {xs:List du}(h:ef 0 xs=true):ed xs=decide (xs.length≤40):=by unfold ed;rw[h,Bool.and_true]
theorem iV {n a b:Int}{r:Bool}(h:af n a b=r)(w:World):Calls prog 34 #[n,a,b] w λe u=>e=.returned (.bool r)∧w=u:=(bi n a b w).mono λ_ _ ⟨a,b⟩=>⟨by rw[a,h],b⟩
theorem fC {n a b:Int}{r:Bool}(h:af n a b=r)(w:World):Calls prog 30 #[n,a,b] w λe u=>e=.returned (.bool r)∧BL w u:=(bc n a b w).mono λ_ _ ⟨a,b⟩=>⟨by rw[a,h],by rw[b];exact qB _ _⟩
theorem tD {n:Int}{r:Bool}(h:af n 0 1000000000=r)(w:World):Calls prog 91 #[n] w λe u=>e=.returned (.bool r)∧BL w u:=(nM n w).mono λ_ _ ⟨a,b⟩=>⟨by rw[a,h],by rw[b];exact qB _ _⟩
theorem oz (A:OA)(n c:Nat)(F:List du)(w:World)(h:Rd w 2 A n (winds F)):Calls prog 213 #[.slice A n c] w λe w'=>e=.returned (.bool (ed F))∧BL w w':=by{
 have HN:=hI h.len_wind;have hm:=h.le;have HR:=hI h;clear h;go_enter func213,ntmps213;go_wp2_with fail
 go_loopw [7] (λi wr=>∃k:Nat,k≤n∧i=.int .i64 k∧Hid (ef (GQ F k) (F.drop k)=ef 0 F)∧Hid (BL w wr)) (λi _=>n-(intOf i).toNat)
 case atStart=>exact⟨0,qH _,rfl,hI rfl,hI (qB _ _)⟩
 case round=>(
 obtain⟨k,_,rfl,J,h⟩:=hrel;obtain⟨wo,bN⟩:∃wo:World,wo=wr:=⟨_,rfl⟩;subst bN;by_cases bk:k<n
 {
 have bv:decide ((k:Int)<(n:Int))=true:=by simpa using bk
 obtain⟨b,o,x,y,rfl,hx,hd,bq,bs⟩:=(HR.below h).wind bk;obtain⟨N,bn,XA,ba,_⟩:=ae wo #[x,y] 197;have M:=And.intro (XA.cell (i:=0) rfl) (XA.cell (i:=1) rfl);have I:=hI ba;have a':=hI bn;have HX:=hI hx;have L:=J.out;rw[hd] at L;have J:=hI L;have HP:=hI (oa hx);clear hx hd XA ba bn L;go_wp2_with fail
 rw[←a'.out];clear a'
 cases Z:af x 1 8 with
 | false=>{
 have G:=hI (λw=>fC Z w);have H:=hI (λ(w:World)=>True.intro);have a1:=hI Z;clear Z;have V:=cell_regrown (M.1);have W:=cell_regrown (M.2);refine wp_region_quiet_below (by kernel_rfl) (by kernel_rfl) ?_;repeat (first|go_big_quiet_step ((first|(go_at_call 30;(with_reducible exact Calls.regrown_of (G.out _)))|(go_at_call 91;(with_reducible exact Calls.regrown_of (H.out _)))))|quiet_step ((first|(go_at_call 30;(with_reducible exact Calls.regrown_of (G.out _)))|(go_at_call 91;(with_reducible exact Calls.regrown_of (H.out _))))))
 refine wpQuiet_nil ?_;intro _ T;obtain⟨⟨O,Y⟩,U⟩:=T;subst U;obtain⟨wq,u,R⟩:∃B,B=grow (redrawn N O) Y∧BL N B:=⟨_,rfl,below_regrown _ _ _⟩;rw[←u];clear u V W;go_wp2_with fail
 go_ret;exact⟨ak (mg (by rw[←J.out];exact rT (.inl a1))).symm,h.trans ((I.trans (R.mono I.size)).mono h.size)⟩}
 | true=>{
 cases ad:af y 0 1000000000 with
 | false=>{
 have G:=hI (λw=>fC Z w);have H:=hI (λw=>tD ad w);have a2:=hI ad;clear Z ad;have V:=cell_regrown (M.1);have W:=cell_regrown (M.2);refine wp_region_quiet_below (by kernel_rfl) (by kernel_rfl) ?_;repeat (first|go_big_quiet_step ((first|(go_at_call 30;(with_reducible exact Calls.regrown_of (G.out _)))|(go_at_call 91;(with_reducible exact Calls.regrown_of (H.out _)))))|quiet_step ((first|(go_at_call 30;(with_reducible exact Calls.regrown_of (G.out _)))|(go_at_call 91;(with_reducible exact Calls.regrown_of (H.out _))))))
 refine wpQuiet_nil ?_;intro _ T;obtain⟨⟨O,Y⟩,U⟩:=T;subst U;obtain⟨wq,u,R⟩:∃B,B=grow (redrawn N O) Y∧BL N B:=⟨_,rfl,below_regrown _ _ _⟩;rw[←u];clear u V W;go_wp2_with fail
 go_ret;exact⟨ak (mg (by rw[←J.out];exact rT (.inr a2))).symm,h.trans ((I.trans (R.mono I.size)).mono h.size)⟩}
 | true=>{
 have G:=hI (λw=>fC Z w);have H:=hI (λw=>tD ad w);have a1:=hI Z;have a2:=hI ad;have a6:=ai.1 ad;clear Z ad;rcases Nat.eq_zero_or_pos k with bb|bb
 {
 subst bb;have a7:=hI (show ef (GQ F 1) (F.drop 1)=ef 0 F from by rw[HP.out,←J.out];exact(rM a1 a2 (show GQ F 0≤y from a6.1)).symm);clear a6;have V:=cell_regrown (M.1);have W:=cell_regrown (M.2);refine wp_region_quiet_below (by kernel_rfl) (by kernel_rfl) ?_;repeat (first|go_big_quiet_step ((first|(go_at_call 30;(with_reducible exact Calls.regrown_of (G.out _)))|(go_at_call 91;(with_reducible exact Calls.regrown_of (H.out _)))))|quiet_step ((first|(go_at_call 30;(with_reducible exact Calls.regrown_of (G.out _)))|(go_at_call 91;(with_reducible exact Calls.regrown_of (H.out _))))))
 refine wpQuiet_nil ?_;intro _ T;obtain⟨⟨O,Y⟩,U⟩:=T;subst U;obtain⟨wq,u,R⟩:∃B,B=grow (redrawn N O) Y∧BL N B:=⟨_,rfl,below_regrown _ _ _⟩;rw[←u];clear u V W;go_wp2_with fail
 go_roundw
 case rel=>exact⟨0+1,by omega,by go_num,hI a7,hI (h.trans ((I.trans (R.mono I.size)).mono h.size))⟩
 case measure=>simp[intOf]<;>omega}
 {
 obtain⟨j,rfl⟩:∃j,k=j+1:=⟨k-1,by omega⟩;obtain⟨_,_,_,y2,hA,hy,-,bt,ar⟩:=(HR.below h).wind (k:=j) (by omega);injection hA with hA;injection hA with h1 h2;subst h1 h2;have ar:=(I.cell (p:=⟨b,o+j*2+1,none⟩) (au ar)).trans ar;have e0:decide (0<j+1)=true:=by simp
 have e1:IntKind.i64.wrap (((j+1:Nat):Int)-1)=(j:Int):=by rw[IntWalk.i64_in _ (by omega)];omega
 have bo:=hI (oa hy);have L:=J.out;rw[bo.out] at L;have J:=hI L;clear L hy bt bq bs;by_cases av:y<y2
 {
 have e2:decide (y<y2)=true:=by simpa using av
 have bp:=hI av;clear av a6;have V:=cell_regrown (M.1);have W:=cell_regrown (M.2);have a8:=cell_regrown (ar);refine wp_region_quiet_below (by kernel_rfl) (by kernel_rfl) ?_;repeat (first|go_big_quiet_step ((first|(go_at_call 30;(with_reducible exact Calls.regrown_of (G.out _)))|(go_at_call 91;(with_reducible exact Calls.regrown_of (H.out _)))))|quiet_step ((first|(go_at_call 30;(with_reducible exact Calls.regrown_of (G.out _)))|(go_at_call 91;(with_reducible exact Calls.regrown_of (H.out _))))))
 refine wpQuiet_nil ?_;intro _ T;obtain⟨⟨O,Y⟩,U⟩:=T;subst U;obtain⟨wq,u,R⟩:∃B,B=grow (redrawn N O) Y∧BL N B:=⟨_,rfl,below_regrown _ _ _⟩;rw[←u];clear u V W a8;go_wp2_with fail
 go_ret;exact⟨ak (mg (by rw[←J.out];exact EW bp)).symm,h.trans ((I.trans (R.mono I.size)).mono h.size)⟩}
 {
 have e2:decide (y<y2)=false:=by simpa using av
 have a7:=hI (show ef (GQ F (j+1+1)) (F.drop (j+1+1))=ef 0 F from by rw[HP.out,←J.out];exact(rM a1 a2 (by omega)).symm);clear av a6;have V:=cell_regrown (M.1);have W:=cell_regrown (M.2);have a8:=cell_regrown (ar);refine wp_region_quiet_below (by kernel_rfl) (by kernel_rfl) ?_;repeat (first|go_big_quiet_step ((first|(go_at_call 30;(with_reducible exact Calls.regrown_of (G.out _)))|(go_at_call 91;(with_reducible exact Calls.regrown_of (H.out _)))))|quiet_step ((first|(go_at_call 30;(with_reducible exact Calls.regrown_of (G.out _)))|(go_at_call 91;(with_reducible exact Calls.regrown_of (H.out _))))))
 refine wpQuiet_nil ?_;intro _ T;obtain⟨⟨O,Y⟩,U⟩:=T;subst U;obtain⟨wq,u,R⟩:∃B,B=grow (redrawn N O) Y∧BL N B:=⟨_,rfl,below_regrown _ _ _⟩;rw[←u];clear u V W a8;go_wp2_with fail
 go_roundw
 case rel=>exact⟨j+1+1,by omega,by go_num,hI a7,hI (h.trans ((I.trans (R.mono I.size)).mono h.size))⟩
 case measure=>simp[intOf]<;>omega}}}}}
 {
 obtain rfl:k=n:=by omega
 have L:=J.out;rw[qK (by rw[HN.out];omega)] at L;have HF:=hI (xB (xs:=F) (by rw[←L];rfl));clear L J;have bv:decide ((k:Int)<(k:Int))=false:=by simp
 by_cases J:k≤40
 {
 have L:decide ((k:Int)≤40)=true:=by simp;omega
 go_wp2_with fail
 go_ret;exact⟨ak (by rw[HF.out,HN.out];simp[J]),h⟩}
 {
 have L:decide ((k:Int)≤40)=false:=by simp;omega
 go_wp2_with fail
 go_ret;exact⟨ak (by rw[HF.out,HN.out];simp[J]),h⟩}})}
theorem nR (A:OA)(n c:Nat)(h:List du)(w:World)(u:Rd w 2 A n (winds h)):Calls prog 173 #[.slice A n c] w λe L=>e=.returned (.bool (ed h))∧BL w L:=by{
 have V:=hI u.len_wind;have hm:=u.le;have W:=hI u;clear u;by_cases a8:40<n
 {
 have u:decide ((40:Int)<(n:Int))=true:=by simp;omega
 have T:=hI (show ed h=false from by unfold ed;rw[V.out,decide_eq_false (by omega)];rfl);clear a8 W;go_enter func173,ntmps173;go_wp2_with fail
 go_ret;exact⟨ak T.symm,qB _ _⟩}
 have u:decide ((40:Int)<(n:Int))=false:=by simp;omega
 go_enter func173,ntmps173;go_wp2_with fail
 clear u;go_loopw [3] (λi wr=>∃k:Nat,k≤n∧i=.int .i64 k∧Hid (ef (GQ h k) (h.drop k)=ef 0 h)∧Hid (BL w wr)) (λi _=>n-(intOf i).toNat)
 case atStart=>exact⟨0,qH _,rfl,hI rfl,hI (qB _ _)⟩
 case round=>(
 obtain⟨k,_,rfl,B,u⟩:=hrel;obtain⟨wo,a'⟩:∃wo:World,wo=wr:=⟨_,rfl⟩;subst a';by_cases ar:k<n
 {
 have a7:decide ((k:Int)<(n:Int))=true:=by simpa using ar
 obtain⟨b,o,x,y,rfl,hx,hd,a1,a2⟩:=(W.below u).wind ar;have F:=B.out;rw[hd] at F;have B:=hI F;have HP:=hI (oa hx);clear hx hd F
 cases G:af x 1 8 with
 | false=>{
 have H:=hI (λw=>iV G w);have I:=hI (λ(w:World)=>True.intro);have N:=hI G;clear G;go_wp2_with(go_at_call 34;(first|(with_reducible refine(H.out _).mono ?_)|(with_reducible refine(I.out _).mono ?_));rintro e L⟨rfl,rfl⟩)
 go_ret;exact⟨ak (mg (by rw[←B.out];exact rT (.inl N))).symm,u⟩}
 | true=>{
 cases J:af y 0 1000000000 with
 | false=>{
 have H:=hI (λw=>iV G w);have I:=hI (λw=>iV J w);have O:=hI J;clear G J;go_wp2_with(go_at_call 34;(first|(with_reducible refine(H.out _).mono ?_)|(with_reducible refine(I.out _).mono ?_));rintro e L⟨rfl,rfl⟩)
 go_ret;exact⟨ak (mg (by rw[←B.out];exact rT (.inr O))).symm,u⟩}
 | true=>{
 have H:=hI (λw=>iV G w);have I:=hI (λw=>iV J w);have N:=hI G;have O:=hI J;have R:=ai.1 J;clear G J;rcases Nat.eq_zero_or_pos k with ad|ad
 {
 subst ad;have U:=hI (show ef (GQ h 1) (h.drop 1)=ef 0 h from by rw[HP.out,←B.out];exact(rM N O (show GQ h 0≤y from R.1)).symm);clear R;simp only[Nat.zero_mul,qW] at a1 a2;go_wp2_with(go_at_call 34;(first|(with_reducible refine(H.out _).mono ?_)|(with_reducible refine(I.out _).mono ?_));rintro e L⟨rfl,rfl⟩)
 go_quiet (fail)
 go_wp2_with fail
 go_roundw
 case rel=>exact⟨0+1,by omega,by go_num,U,hI (u.trans ((ac _ _ _).mono u.size))⟩
 case measure=>simp[intOf]<;>omega}
 {
 obtain⟨j,M⟩:∃j,k=j+1:=⟨k-1,by omega⟩;obtain⟨_,_,_,Z,Y,hy,-,a6,_⟩:=(W.below u).wind (k:=j) (by omega);injection Y with Y;injection Y with h1 h2;subst h1 h2;have HS:=hI (show IntKind.i64.wrap ((k:Int)-1)=(j:Int) by rw[IntWalk.i64_in _ (by omega)];omega);have ba:j<n:=by omega
 have F:=B.out;rw[M,oa hy,←M] at F;have B:=hI F;clear F hy a6 M;by_cases M:y<Z
 {
 have e2:decide (y<Z)=true:=by simpa using M
 have av:=hI M;clear M R;go_wp2_with(go_at_call 34;(first|(with_reducible refine(H.out _).mono ?_)|(with_reducible refine(I.out _).mono ?_));rintro e L⟨rfl,rfl⟩)
 have hs:=HS.out;go_quiet (fail)
 go_wp2_with fail
 go_ret;exact⟨ak (mg (by rw[←B.out];exact EW av)).symm,u.trans ((ac _ _ _).mono u.size)⟩}
 {
 have e2:decide (y<Z)=false:=by simpa using M
 have U:=hI (show ef (GQ h (k+1)) (h.drop (k+1))=ef 0 h from by rw[HP.out,←B.out];exact(rM N O (by omega)).symm);clear M R;go_wp2_with(go_at_call 34;(first|(with_reducible refine(H.out _).mono ?_)|(with_reducible refine(I.out _).mono ?_));rintro e L⟨rfl,rfl⟩)
 have hs:=HS.out;go_quiet (fail)
 go_wp2_with fail
 go_roundw
 case rel=>exact⟨k+1,by omega,by go_num,U,hI (u.trans ((ac _ _ _).mono u.size))⟩
 case measure=>simp[intOf]<;>omega}}}}}
 {
 obtain rfl:k=n:=by omega
 have F:=B.out;rw[qK (by rw[V.out];omega)] at F;have T:=hI (xB (xs:=h) (by rw[←F];rfl));clear F B;have a7:decide ((k:Int)<(k:Int))=false:=by simp
 have B:k≤40:=by omega
 go_wp2_with fail
 go_ret;exact⟨ak (by rw[T.out,V.out];simp[B]),u⟩})}
theorem v_ (d:UInt8)(s:ByteArray)(hs:s.size≤2097152)(w:World):Calls prog 73 #[.string s,.int .u8 d.toNat] w (jG w (aR d s.data.toList)):=by{
 have G:=(Lib.size_eq s).symm;obtain⟨u,h⟩:∃u,u=s.data.toList:=⟨_,rfl⟩;rw[←h] at G ⊢;obtain⟨B,F⟩:∃B,B=aR d u:=⟨_,rfl⟩;rw[←F];have HL:=hI h;have av:=hI G;have I:=hI (show []++cj ((u.drop 0).take (0-0)) (aR d (u.drop 0))=B from by simp[F,iD (gN d u)]);have ar:=hI (λa b H=>bQ s a b H);rw[←h] at ar;clear h G F;go_enter func73,ntmps73;go_wp2_with fail
 have H:=hI (show(w.alloc (.cells #[] 9)).ownsRow w.heap.size 9 1 (.slice (some ⟨w.heap.size,0,none⟩) 0 0) 0 (strs []) from bg w w.heap.size 9 1 (qA _));have G:=hI ((qB w.heap.size w).alloc (qA _) (.cells #[] 9));go_loopw [5,6,7] (λo f i wr=>∃(k h m c:Nat) (A:OA) (F:List LB),k≤s.size+1∧m≤k∧o=.slice A m c∧f=.int .i64 h∧i=.int .i64 k∧Hid ((k≤s.size∧h≤k∧F++cj ((u.drop h).take (k-h)) (aR d (u.drop k))=B)∨(k=s.size+1∧F=B))∧Hid (wr.ownsRow w.heap.size 9 1 (.slice A m c) m (strs F))∧Hid (BL w wr)) (λ_ _ i _=>s.size+1-(intOf i).toNat)
 case atStart=>exact⟨0,0,0,0,_,[],qH _,qH _,rfl,rfl,rfl,hI (.inl ⟨qH _,qA _,I⟩),H,G⟩
 case round=>(
 clear H G I;obtain⟨k,h,m,c,A,F,_,_,rfl,rfl,rfl,H,G,L⟩:=hrel;obtain⟨wo,bk⟩:∃wo:World,wo=wr:=⟨_,rfl⟩;subst bk;by_cases bb:k≤s.size
 {
 have ba:decide ((k:Int)≤(s.size:Int))=true:=by simp;omega
 have V:=H.out;have a':h≤k∧F++cj ((u.drop h).take (k-h)) (aR d (u.drop k))=B:=by rcases V with I|I;exact I.2;exact absurd I.1 (by omega)
 obtain⟨_,hinv⟩:=a';have ad:=hI (ar h k bb);have a1:=L.size;by_cases N:k=s.size
 {
 have a8:((k:Int)==(s.size:Int))=true:=by simp[N]
 have M:=hI (show F++[(u.drop h).take (k-h)]=B from by{
 have J:u.drop k=[]:=qK (by have:=av.out;omega);rw[←hinv,J];simp[aR,cj]})
 have a6:=hI N;clear V hinv H N;go_wp2_with(at_builtin;refine fy (l:=(u.drop h).take (k-h)) _ rfl _ _ rfl ad rfl (aa G (za _ _)) rfl (heap_alloc_new _ _) (by omega) ?cBa ?_;rotate_left;intro g9 Z w9 T O _ _)
 {
 have W:=hI ((L.alloc a1 _).grown O (by simp;omega) (λj hj=>(G.lt j hj).1));have Y:=hI T;clear T O;go_roundw
 case rel=>exact⟨k+1,k+1,m+1,Z,_,_,by omega,by omega,rfl,by go_num,by go_num,hI (.inr ⟨by have:=a6.out;omega,M⟩),Y,W⟩
 case measure=>simp[intOf]<;>omega}
 {first|omega|(simp;omega)}}
 {
 have a8:((k:Int)==(s.size:Int))=false:=by simp;omega
 have bo:k<s.size:=by omega
 have a2:k<u.length:=by have:=av.out;omega
 have U:=List.drop_eq_getElem_cons a2;have R:s[k]=u[k]:=by{
 have J:=HL.out;subst J;rfl}
 have bn:=hI R;by_cases J:u[k]=d
 {
 have hc:(((s[k]).toNat:Int)==(d.toNat:Int))=true:=by rw[R,J];simp
 have M:=hI (show F++[(u.drop h).take (k-h)]++cj ((u.drop (k+1)).take (k+1-(k+1))) (aR d (u.drop (k+1)))=B from by{
 rw[←hinv,U,J,ss,Nat.sub_self,qh,iD (gN d _)];simp})
 clear V hinv H U R J N;go_wp2_with(at_builtin;refine fy (l:=(u.drop h).take (k-h)) _ rfl _ _ rfl ad rfl (aa G (za _ _)) rfl (heap_alloc_new _ _) (by omega) ?cBb ?_;rotate_left;intro g9 Z w9 T O _ _)
 {
 have W:=hI ((L.alloc a1 _).grown O (by simp;omega) (λj hj=>(G.lt j hj).1));have Y:=hI T;clear T O;go_roundw
 case rel=>exact⟨k+1,k+1,m+1,Z,_,_,by omega,by omega,rfl,by go_num,by go_num,hI (.inl ⟨by omega,qA _,M⟩),Y,W⟩
 case measure=>simp[intOf]<;>omega}
 {first|omega|(simp;omega)}}
 {
 have hc:(((s[k]).toNat:Int)==(d.toNat:Int))=false:=by{
 rw[R];simp only[beq_eq_false_iff_ne];intro e;apply J;apply UInt8.toNat_inj.1;show(u[k]).toNat=d.toNat;omega}
 have M:=hI (show F++cj ((u.drop h).take (k+1-h)) (aR d (u.drop (k+1)))=B from by{
 rw[←hinv,U,rh _ J];congr 3;rw[show k+1-h=(k-h)+1 from by omega,List.take_add_one];congr 1;rw[qg,show h+(k-h)=k from by omega,qG a2];rfl})
 clear V hinv H U R J N;go_wp2_with fail
 go_roundw
 case rel=>exact⟨k+1,h,m,c,A,F,by omega,by omega,rfl,rfl,by go_num,hI (.inl ⟨by omega,by omega,M⟩),G,L⟩
 case measure=>simp[intOf]<;>omega}}}
 {
 have ba:decide ((k:Int)≤(s.size:Int))=false:=by simp;omega
 have hw:F=B:=by rcases H.out with I|I;omega;exact I.2
 have a7:=hI hw;clear H hw;go_wp2_with fail
 go_ret;exact⟨_,_,_,rfl,by rw[←a7.out];exact az G,L,lx G⟩})}
def xI (w:World) (h:List LB) (e:Ending) (u:World):Prop:=∃A n c,e=.returned (.tuple #[.slice A n c,.bool (eM h)])∧(eM h=true→u.ownsRow w.heap.size 2 1 (.slice A n c) n (ints (h.map λw=>(cg w).1)))∧BL w u
theorem jB (A:OA)(n c:Nat)(h:List LB)(w:World)(B:Rd w 1 A n (strs h))(hn:n≤4194304)(u:∀x∈h,x.length≤2097152):Calls prog 113 #[.slice A n c] w (xI w h):=by{
 have HR:=hI B;have a6:=hI B.len_str;have a8:=hI u;have G:=hI (show(h.map λw=>(cg w).1)=[]++((h.drop 0).map λw=>(cg w).1) from by simp);clear B u;go_enter func113,ntmps113;go_wp2_with fail
 have F:=hI (show(w.alloc (.cells #[] 2)).ownsRow w.heap.size 2 1 (.slice (some ⟨w.heap.size,0,none⟩) 0 0) 0 (ints []) from bg w w.heap.size 2 1 (qA _));have u:=hI ((qB w.heap.size w).alloc (qA _) (.cells #[] 2));go_loopw [4,5] (λo i wr=>∃(k T:Nat) (R:OA) (H:LI),k≤n∧o=.slice R k T∧i=.int .i64 k∧Hid (eM h=eM (h.drop k))∧Hid ((h.map λw=>(cg w).1)=H++((h.drop k).map λw=>(cg w).1))∧Hid (wr.ownsRow w.heap.size 2 1 (.slice R k T) k (ints H))∧Hid (BL w wr)) (λ_ i _=>n-(intOf i).toNat)
 case atStart=>exact⟨0,0,_,[],qH _,rfl,rfl,hI (by rw[qd]),G,F,u⟩
 case round=>(
 clear F u G;obtain⟨k,T,R,H,_,rfl,rfl,L,N,M,I⟩:=hrel;obtain⟨Y,bb⟩:∃Y:World,Y=wr:=⟨_,rfl⟩;subst bb;by_cases ar:k<n
 {
 have ba:decide ((k:Int)<(n:Int))=true:=by simpa using ar
 obtain⟨b,_,x,rfl,hx,U,Z⟩:=(HR.below I).str ar;have av:=a8 x (qF hx);have G:=hI (iE (ag x) (by rw[aj];exact av) Y);rw[aw] at G;have u:=hI (show eM h=((cg x).2&&eM (h.drop (k+1))) from by rw[L.out,U];rfl);have O:=hI (show(h.map λw=>(cg w).1)=H++[(cg x).1]++((h.drop (k+1)).map λw=>(cg w).1) from by rw[N.out,U];simp);generalize cg x=r at *;obtain⟨v,ok⟩:=r;simp only at u O;clear hx U av L N
 cases ok with
 | false=>{
 simp only[Bool.false_and] at u;go_wp2_with fail
 refine G.mono ?_;rintro e w1⟨rfl,F⟩;have J:=zb I F;clear F Z G M;simp only;go_wp2_with fail
 go_ret2;exact⟨_,_,_,by rw[u.out];rfl,(λB=>by rw[u.out] at B;cases B),J⟩}
 | true=>{
 simp only[Bool.true_and] at u;go_wp2_with fail
 refine G.mono ?_;rintro e w1⟨rfl,F⟩;have J:=zb I F;have V:=hI (aa M F);have a':=J.size;clear F Z G M;simp only;go_wp2_with(at_builtin;refine ly (y:=v) _ rfl _ _ rfl rfl (aa V (za _ _)) rfl (heap_alloc_new _ _) (by omega) ?cBa ?_;rotate_left;intro g9 c9 w9 a1 W _ _)
 {
 have a2:=hI ((J.alloc a' _).grown W (by simp;omega) (λj hj=>(V.lt j hj).1));have a7:=hI a1;clear a1 W;go_roundw
 case rel=>exact⟨k+1,c9,_,_,by omega,rfl,by go_num,u,O,a7,a2⟩
 case measure=>simp[intOf]<;>omega}
 {first|omega|(simp;omega)}}}
 {
 obtain rfl:k=n:=by omega
 have ba:decide ((k:Int)<(k:Int))=false:=by simp
 have ad:h.drop k=[]:=qK (by have:=a6.out;omega);have V:=L.out;have W:=N.out;rw[ad] at V W;have u:=hI (show eM h=true from V);have O:=hI (show(h.map λw=>(cg w).1)=H from by rw[W];simp);clear V W ad L N;go_wp2_with fail
 go_ret2;exact⟨_,_,_,by rw[u.out];rfl,(λ_=>by rw[O.out];exact M),I⟩})}
def Iz (w:World) (u:List LB) (e:Ending) (h:World):Prop:=∃A n c,e=.returned (.slice A n c)∧h.ownsRow w.heap.size 9 1 (.slice A n c) n (strs u)∧BL w h∧n≤c
theorem nT (d:UInt8)(s:ByteArray)(hs:s.size≤2097152)(w:World):Calls prog 73 #[.string s,.int .u8 d.toNat] w (Iz w (aR d s.data.toList)):=by{
 have G:=(Lib.size_eq s).symm;obtain⟨u,h⟩:∃u,u=s.data.toList:=⟨_,rfl⟩;rw[←h] at G ⊢;obtain⟨B,F⟩:∃B,B=aR d u:=⟨_,rfl⟩;rw[←F];have HL:=hI h;have av:=hI G;have I:=hI (show []++cj ((u.drop 0).take (0-0)) (aR d (u.drop 0))=B from by simp[F,iD (gN d u)]);have ar:=hI (λa b H=>bQ s a b H);rw[←h] at ar;clear h G F;go_enter func73,ntmps73;go_wp2_with fail
 have H:=hI (show(w.alloc (.cells #[] 9)).ownsRow w.heap.size 9 1 (.slice (some ⟨w.heap.size,0,none⟩) 0 0) 0 (strs []) from bg w w.heap.size 9 1 (qA _));have G:=hI ((qB w.heap.size w).alloc (qA _) (.cells #[] 9));go_loopw [5,6,7] (λo f i wr=>∃(k h m c:Nat) (A:OA) (F:List LB),k≤s.size+1∧m≤k∧o=.slice A m c∧f=.int .i64 h∧i=.int .i64 k∧Hid ((k≤s.size∧h≤k∧F++cj ((u.drop h).take (k-h)) (aR d (u.drop k))=B)∨(k=s.size+1∧F=B))∧Hid (wr.ownsRow w.heap.size 9 1 (.slice A m c) m (strs F))∧Hid (BL w wr)) (λ_ _ i _=>s.size+1-(intOf i).toNat)
 case atStart=>exact⟨0,0,0,0,_,[],qH _,qH _,rfl,rfl,rfl,hI (.inl ⟨qH _,qA _,I⟩),H,G⟩
 case round=>(
 clear H G I;obtain⟨k,h,m,c,A,F,_,_,rfl,rfl,rfl,H,G,L⟩:=hrel;obtain⟨wo,bk⟩:∃wo:World,wo=wr:=⟨_,rfl⟩;subst bk;by_cases bb:k≤s.size
 {
 have ba:decide ((k:Int)≤(s.size:Int))=true:=by simp;omega
 have V:=H.out;have a':h≤k∧F++cj ((u.drop h).take (k-h)) (aR d (u.drop k))=B:=by rcases V with I|I;exact I.2;exact absurd I.1 (by omega)
 obtain⟨_,hinv⟩:=a';have ad:=hI (ar h k bb);have a1:=L.size;by_cases N:k=s.size
 {
 have a8:((k:Int)==(s.size:Int))=true:=by simp[N]
 have M:=hI (show F++[(u.drop h).take (k-h)]=B from by{
 have J:u.drop k=[]:=qK (by have:=av.out;omega);rw[←hinv,J];simp[aR,cj]})
 have a6:=hI N;clear V hinv H N;go_wp2_with(at_builtin;refine fy (l:=(u.drop h).take (k-h)) _ rfl _ _ rfl ad rfl (aa G (za _ _)) rfl (heap_alloc_new _ _) (by omega) ?cBa ?_;rotate_left;intro g9 Z w9 T O _ _)
 {
 have W:=hI ((L.alloc a1 _).grown O (by simp;omega) (λj hj=>(G.lt j hj).1));have Y:=hI T;clear T O;go_roundw
 case rel=>exact⟨k+1,k+1,m+1,Z,_,_,by omega,by omega,rfl,by go_num,by go_num,hI (.inr ⟨by have:=a6.out;omega,M⟩),Y,W⟩
 case measure=>simp[intOf]<;>omega}
 {first|omega|(simp;omega)}}
 {
 have a8:((k:Int)==(s.size:Int))=false:=by simp;omega
 have bo:k<s.size:=by omega
 have a2:k<u.length:=by have:=av.out;omega
 have U:=List.drop_eq_getElem_cons a2;have R:s[k]=u[k]:=by{
 have J:=HL.out;subst J;rfl}
 have bn:=hI R;by_cases J:u[k]=d
 {
 have hc:(((s[k]).toNat:Int)==(d.toNat:Int))=true:=by rw[R,J];simp
 have M:=hI (show F++[(u.drop h).take (k-h)]++cj ((u.drop (k+1)).take (k+1-(k+1))) (aR d (u.drop (k+1)))=B from by{
 rw[←hinv,U,J,ss,Nat.sub_self,qh,iD (gN d _)];simp})
 clear V hinv H U R J N;go_wp2_with(at_builtin;refine fy (l:=(u.drop h).take (k-h)) _ rfl _ _ rfl ad rfl (aa G (za _ _)) rfl (heap_alloc_new _ _) (by omega) ?cBb ?_;rotate_left;intro g9 Z w9 T O _ _)
 {
 have W:=hI ((L.alloc a1 _).grown O (by simp;omega) (λj hj=>(G.lt j hj).1));have Y:=hI T;clear T O;go_roundw
 case rel=>exact⟨k+1,k+1,m+1,Z,_,_,by omega,by omega,rfl,by go_num,by go_num,hI (.inl ⟨by omega,qA _,M⟩),Y,W⟩
 case measure=>simp[intOf]<;>omega}
 {first|omega|(simp;omega)}}
 {
 have hc:(((s[k]).toNat:Int)==(d.toNat:Int))=false:=by{
 rw[R];simp only[beq_eq_false_iff_ne];intro e;apply J;apply UInt8.toNat_inj.1;show(u[k]).toNat=d.toNat;omega}
 have M:=hI (show F++cj ((u.drop h).take (k+1-h)) (aR d (u.drop (k+1)))=B from by{
 rw[←hinv,U,rh _ J];congr 3;rw[show k+1-h=(k-h)+1 from by omega,List.take_add_one];congr 1;rw[qg,show h+(k-h)=k from by omega,qG a2];rfl})
 clear V hinv H U R J N;go_wp2_with fail
 go_roundw
 case rel=>exact⟨k+1,h,m,c,A,F,by omega,by omega,rfl,rfl,by go_num,hI (.inl ⟨by omega,by omega,M⟩),G,L⟩
 case measure=>simp[intOf]<;>omega}}}
 {
 have ba:decide ((k:Int)≤(s.size:Int))=false:=by simp;omega
 have hw:F=B:=by rcases H.out with I|I;omega;exact I.2
 have a7:=hI hw;clear H hw;go_wp2_with fail
 go_ret;exact⟨_,_,_,rfl,by rw[←a7.out];exact G,L,lx G⟩})}
end Go.Proofs.YtnpldahkhaacnaaGreatDoor

/- Texts of the walk: Za Zb Zc Sr Sq Te Ti Sa Ys. -/
import Derived.Test.YtnpldahkhaacnaaGreatDoorYap
set_option linter.unusedVariables false
set_option linter.unusedSimpArgs false
set_option maxRecDepth 100000
set_option maxHeartbeats 32000000
namespace Go.Proofs.YtnpldahkhaacnaaGreatDoor
open Go.RowKit Go.Sort Go.Proofs.Tryz
def dM:Int→LI→Bool|_,[]=>true|p,n::r=>af n 1 12&&decide (p<n)&&dM n r
def bC (h:LI):Bool:=decide (h.length≤3)&&dM 0 h
theorem el {u:LI}(h:bC u=true):u.length≤3:=by{
 unfold bC at h;rw[Bool.and_eq_true,decide_eq_true_eq] at h;exact h.1}
def leN (h:Int):LI→Nat|[]=>0|n::r=>(if n≤h then 1 else 0)+leN h r
theorem Fg (h:Int)(l:LI):leN h l≤l.length:=by{
 induction l with
 | nil=>exact qA _
 | cons n r u=>rw[leN,qO];split<;>omega}
theorem xZ (h:Int)(l:LI)(n:Int):leN h (l++[n])=leN h l+(if n≤h then 1 else 0):=by{
 induction l with
 | nil=>simp[leN]
 | cons a r u=>rw[List.cons_append,leN,leN,u];omega}
def kU (h:Int→Int→Bool) (a b:Int):Bool:=h a b||(!h b a&&decide (a<b))
theorem vY {B lt':Int→Int→Bool}{x:Int}:∀{r h:LI},(∀y∈r,B x y=lt' x y)→cO B x r h=cO lt' x r h:=by{
 intro r
 induction r with
 | nil=>intro h _;rfl
 | cons y r G=>{
 intro h u;unfold cO;rw[u y List.mem_cons_self,G (λz F=>u z (List.mem_cons_of_mem _ F))]}}
theorem pt (u:Int→Int→Bool)(x:Int)(p q:LI):dE u p.length (p++x::q)=cO u x p.reverse []++q:=by{
 have F:∀(r h:LI),cO u x r (h++q)=cO u x r h++q:=by{
 intro r
 induction r with
 | nil=>intro h;rfl
 | cons y r B=>{
 intro h;unfold cO;split
 {exact B (y::h)}
 {simp}}}
 have B:=u_ u x p.reverse q;rw[List.length_reverse,List.reverse_reverse] at B;rw[B];exact F p.reverse []}
theorem vZ {lt lt':Int→Int→Bool}:∀(m:Nat) (p q:LI),q.length=m→(∀x∈q,∀y∈p,lt x y=lt' x y)→q.Pairwise (λy x=>lt x y=lt' x y)→cK lt m p.length (p++q)=cK lt' m p.length (p++q):=by{
 intro m
 induction m with
 | zero=>intro p q _ _ _;rfl
 | succ m L=>{
 intro p q G B H
 cases q with
 | nil=>simp at G
 | cons x q=>{
 unfold cK;rw[pt,pt,vY (λy h=>B x List.mem_cons_self y (by simpa using h))];have u:=lm lt' x p.reverse [];rw[List.reverse_reverse,qa] at u;have J:(cO lt' x p.reverse []).length=p.length+1:=by rw[u.length_eq];simp
 have F:=L (cO lt' x p.reverse []) q (by simpa using G) (λz I y h=>by{
 rcases List.mem_cons.1 (u.mem_iff.1 h) with rfl|h
 {exact(List.pairwise_cons.1 H).1 z I}
 {exact B z (List.mem_cons_of_mem _ I) y h}}) (List.pairwise_cons.1 H).2
 rw[J] at F;exact F}}}
theorem Cn (n:Nat):(ij n).Pairwise (λa b=>a<b):=by{
 unfold ij;rw[List.pairwise_map];exact List.Pairwise.imp (λ{a b} h=>by omega) List.pairwise_lt_range}
theorem yI (h:Int→Int→Bool)(n:Nat):aU h (ij n)=aU (kU h) (ij n):=by{
 have G:=Cn n;unfold aU;generalize ij n=l at *
 cases l with
 | nil=>rfl
 | cons x r=>{
 have F:∀a b:Int,a<b→h b a=kU h b a:=by{
 intro a b u;unfold kU;rw[decide_eq_false (by omega:¬b<a),Bool.and_false,Bool.or_false]}
 have B:=List.pairwise_cons.1 G;exact vZ (lt:=h) (lt':=kU h) r.length [x] r rfl (λz I y H=>by{
 rw[List.mem_singleton.1 H];exact F x z (B.1 z I)}) (B.2.imp (λ{a b} u=>F a b u))}}
structure oQ (lt : Int → Int → Bool) : Prop where
 irr : ∀x, lt x x = false
 asy : ∀x y, lt x y = true → lt y x = false
 tr : ∀x y z, lt x y = true → lt y z = true → lt x z = true
 eqv : ∀x y z, lt x y = false → lt y x = false → lt y z = false → lt z y = false → lt x z = false ∧ lt z x = false
theorem oQ.left {h:Int→Int→Bool}(F:oQ h){x y z:Int}(u:h x y=true)(H:h y z=false)(B:h z y=false):h x z=true:=by{
 cases I:h x z with
 | true=>rfl
 | false=>{
 cases G:h z x with
 | true=>rw[F.tr _ _ _ G u] at B;cases B
 | false=>{
 have:=(F.eqv x z y I G B H).1;rw[this] at u
 cases u}}}
theorem oQ.right {h:Int→Int→Bool}(F:oQ h){x y z:Int}(H:h x y=false)(u:h y x=false)(B:h y z=true):h x z=true:=by{
 cases I:h x z with
 | true=>rfl
 | false=>{
 cases G:h z x with
 | true=>have:=F.tr _ _ _ B G;rw[this] at u;cases u
 | false=>{
 have:=(F.eqv y x z u H I G).1;rw[this] at B
 cases B}}}
theorem fE {B:Int→Int→Bool}(G:oQ B)(l:LI):wD (kU B) l:=by{
 constructor
 {
 intro x _;unfold kU;rw[G.irr x,decide_eq_false (by omega:¬x<x)];rfl}
 {
 intro x _ y _ H F;unfold kU at F ⊢
 cases h:B x y with
 | true=>rw[h] at F;cases F
 | false=>{
 cases u:B y x with
 | true=>rfl
 | false=>{
 rw[h,u] at F;have:¬x<y:=by simpa using F
 simp;omega}}}
 {
 intro x _ y _ F;unfold kU at F ⊢
 cases h:B x y with
 | true=>rw[G.asy _ _ h];rfl
 | false=>{
 cases u:B y x with
 | true=>rw[h,u] at F;cases F
 | false=>{
 rw[h,u] at F;have:x<y:=by simpa using F
 simp;omega}}}
 {
 intro x _ y _ z _ ha F;unfold kU at ha F ⊢
 cases h:B x y with
 | true=>{
 cases u:B y z with
 | true=>rw[G.tr _ _ _ h u];rfl
 | false=>{
 cases H:B z y with
 | true=>rw[u,H] at F;cases F
 | false=>rw[G.left h u H];rfl}}
 | false=>{
 cases I:B y x with
 | true=>rw[h,I] at ha;cases ha
 | false=>{
 cases u:B y z with
 | true=>rw[G.right h I u];rfl
 | false=>{
 cases H:B z y with
 | true=>rw[u,H] at F;cases F
 | false=>{
 obtain⟨J,L⟩:=G.eqv _ _ _ h I u H;rw[h,I] at ha;rw[u,H] at F;have M:x<y:=by simpa using ha
 have N:y<z:=by simpa using F
 rw[J,L];simp;omega}}}}}}
def atI (l:LI) (k:Int):Int:=l.getD k.toNat 0
def ic (P:LI) (a b:Int):Bool:=decide (atI P b-atI P a<0)
theorem mv (P:LI):oQ (ic P):=by{
 constructor
 {intro x;unfold ic;simp}
 {intro x y;unfold ic;simp;omega}
 {intro x y z;unfold ic;simp;omega}
 {intro x y z;unfold ic;simp;omega}}
def tL (K:LI) (k:Int):Bool:=!(atI K k==7)
def fa (P K:LI):LI:=(aU (ic P) (ij P.length)).filter (tL K)
def tj (P K:LI) (h:Nat):LI:=(fa P K).take h
def rF (P:LI) (h:LI):LI:=((ij P.length).filter λk=>!decide (k∈h)).map (atI P)
theorem qo (P K:LI):(fa P K).Pairwise (λa b=>kU (ic P) a b=true)∧∀k:Int,k∈fa P K↔0≤k∧k<P.length∧tL K k=true:=by{
 unfold fa;rw[yI];obtain⟨h,u⟩:=mJ (fE (mv P) (ij P.length)) (pm P.length);refine⟨u.filter _,λk=>?_⟩;rw[List.mem_filter,h.mem_iff,ki];constructor
 {rintro⟨⟨a,b⟩,c⟩;exact⟨a,b,c⟩}
 {rintro⟨a,b,c⟩;exact⟨⟨a,b⟩,c⟩}}
theorem xQ (P K:LI):(fa P K).Nodup:=by{
 refine(qo P K).1.imp (λ{a b} h e=>?_);subst e;rw[(fE (mv P) [a]).irr a (List.mem_singleton.2 rfl)] at h
 cases h}
def fU (K:LI):Nat→LI→LI|_,[]=>[]|h,k::r=>if (decide (0<h)&&tL K k)=true then k::fU K (h-1) r else fU K h r
theorem vx (K:LI):∀(l:LI) (h:Nat),fU K h l=(l.filter (tL K)).take h:=by{
 intro l
 induction l with
 | nil=>intro h;simp[fU]
 | cons k r u=>{
 intro h;rw[fU,List.filter_cons]
 cases B:tL K k with
 | false=>simp[u]
 | true=>{
 cases h with
 | zero=>simp[u]
 | succ m=>simp[u]}}}
def jF (P K:LI) (u:List Bool):Nat→Nat→Int→Int|0,_,h=>h|m+1,i,h=>jF P K u m (i+1) (if (!u.getD i false&&tL K i&&(decide (h<0)||decide (atI P h<atI P i)))=true then(i:Int) else h)
def tG (P K:LI) (h:List Bool):Int:=jF P K h h.length 0 (-1)
def sT (u:List Bool) (h:Int):List Bool:=if 0≤h then u.set h.toNat true else u
def lD (P K:LI):Nat→List Bool→List Bool|0,h=>h|m+1,h=>lD P K m (sT h (tG P K h))
def Bb (P K:LI) (h:Nat):List Bool:=lD P K h (List.replicate P.length false)
theorem yr (P K:LI)(h:List Bool)(hl:h.length=P.length):∀(m i:Nat) (u:Int),i+m=h.length→((u=-1∧∀j:Nat,j<i→(h.getD j false=true∨tL K j=false))∨(∃b:Nat,u=(b:Int)∧b<i∧h.getD b false=false∧tL K b=true∧∀j:Nat,j<i→h.getD j false=false→tL K j=true→j≠b→kU (ic P) b j=true))→((jF P K h m i u=-1∧∀j:Nat,j<h.length→(h.getD j false=true∨tL K j=false))∨(∃b:Nat,jF P K h m i u=(b:Int)∧b<h.length∧h.getD b false=false∧tL K b=true∧∀j:Nat,j<h.length→h.getD j false=false→tL K j=true→j≠b→kU (ic P) b j=true)):=by{
 intro m
 induction m with
 | zero=>{
 intro i u Z B;have:i=h.length:=by omega
 subst this;exact B}
 | succ m ih=>{
 intro i u Z B;rw[jF];refine ih (i+1) _ (by omega) ?_
 cases F:(!h.getD i false&&tL K i&&(decide (u<0)||decide (atI P u<atI P i))) with
 | true=>{
 rw[if_pos rfl];simp only[Bool.and_eq_true,Bool.not_eq_true',Bool.or_eq_true,decide_eq_true_eq] at F;obtain⟨⟨J,L⟩,I⟩:=F;refine .inr ⟨i,rfl,by omega,J,L,λj U H G W=>?_⟩;rcases B with⟨rfl,M⟩|⟨b,rfl,Y,R,T,N⟩
 {
 rcases M j (by omega) with B|B
 {rw[B] at H;cases H}
 {rw[B] at G;cases G}}
 {
 have h4:atI P b<atI P i:=by{
 rcases I with I|I
 {omega}
 {exact I}}
 have O:kU (ic P) i b=true:=by{
 unfold kU ic;rw[decide_eq_true (by omega:atI P b-atI P i<0)];rfl}
 by_cases V:j=b
 {subst V;exact O}
 {exact(fE (mv P) [(i:Int),b,j]).tr i (by simp) b (by simp) j (by simp) O (N j (by omega) H G V)}}}
 | false=>{
 rw[if_neg (by simp)];rcases B with⟨rfl,M⟩|⟨b,rfl,Y,R,T,N⟩
 {
 refine .inl ⟨rfl,λj U=>?_⟩;by_cases O:j=i
 {
 subst O
 cases J:h.getD j false with
 | true=>exact .inl rfl
 | false=>{
 cases L:tL K j with
 | false=>exact .inr rfl
 | true=>rw[J,L] at F;simp at F}}
 {exact M j (by omega)}}
 {
 refine .inr ⟨b,rfl,by omega,R,T,λj U H G W=>?_⟩;by_cases O:j=i
 {
 subst O;rw[H,G] at F;have V:¬atI P b<atI P j:=by{
 intro I;rw[decide_eq_true I] at F;simp at F}
 unfold kU ic;by_cases I:atI P j-atI P b<0
 {rw[decide_eq_true I];rfl}
 {
 rw[decide_eq_false I,decide_eq_false (by omega:¬atI P b-atI P j<0),decide_eq_true (by omega:(b:Int)<(j:Int))];rfl}}
 {exact N j (by omega) H G W}}}}}
def oX (P K:LI) (h:List Bool) (r:Nat):Prop:=h.length=P.length∧∀j:Nat,j<P.length→h.getD j false=decide ((j:Int)∈(fa P K).take r)
theorem Bm {P K:LI}{u:List Bool}{r:Nat}(h:oX P K u r):oX P K (sT u (tG P K u)) (r+1):=by{
 obtain⟨I,F⟩:=h;obtain⟨a1,J⟩:=qo P K;have hs:=yr P K u I u.length 0 (-1) (by omega) (.inl ⟨rfl,λj H=>by omega⟩);unfold tG;rcases hs with⟨e,U⟩|⟨b,e,_,V,W,Y⟩
 {
 rw[e];unfold sT;rw[if_neg (by omega)];refine⟨I,λj H=>?_⟩;rw[F j H];have G:∀x,x∈(fa P K).take (r+1)↔x∈(fa P K).take r:=by{
 intro x;constructor
 {
 intro B;have L:=(J x).1 (qi B);obtain⟨k,rfl⟩:∃k:Nat,x=k:=⟨x.toNat,by omega⟩;rcases U k (by omega) with h|h
 {
 rw[F k (by omega)] at h;simpa using h}
 {rw[L.2.2] at h;cases h}}
 {
 intro B;rw[List.take_add_one];exact List.mem_append_left _ B}}
 simp only[G]}
 {
 rw[e];unfold sT;rw[if_pos (by omega)];have Z:(b:Int)∉(fa P K).take r:=by{
 have:=F b (by omega);rw[V] at this;simpa using this.symm}
 have M:(b:Int)∈fa P K:=(J b).2 ⟨by omega,by omega,W⟩;have av:(fa P K)[r]?=some (b:Int):=by{
 have G:(b:Int)∈(fa P K).drop r:=by{
 rw[←List.take_append_drop r (fa P K)] at M;rcases List.mem_append.1 M with h|h
 {exact absurd h Z}
 {exact h}}
 cases B:(fa P K).drop r with
 | nil=>rw[B] at G;simp at G
 | cons x a8=>{
 have T:(fa P K)[r]?=some x:=by{
 have:((fa P K).drop r)[0]?=some x:=by rw[B];rfl
 rwa [qg,qW] at this}
 rw[T];by_cases L:x=b
 {rw[L]}
 {
 exfalso;have O:=a1;rw[←List.take_append_drop r (fa P K),List.pairwise_append] at O;have R:=O.2.1;rw[B,List.pairwise_cons] at R;have ad:(b:Int)∈a8:=by{
 rw[B] at G;rcases List.mem_cons.1 G with h|h
 {exact absurd h.symm L}
 {exact h}}
 have a2:=R.1 b ad;have a7:=(J x).1 (qF T);obtain⟨k,rfl⟩:∃k:Nat,x=k:=⟨x.toNat,by omega⟩;have a6:(k:Int)∉(fa P K).take r:=by{
 intro ar;have N:=xQ P K;rw[←List.take_append_drop r (fa P K),List.nodup_append] at N;exact N.2.2 k ar k (by rw[B];exact List.mem_cons_self) rfl}
 have N:u.getD k false=false:=by rw[F k (by omega)];simpa using a6
 have:=Y k (by omega) N a7.2.2 (λe=>L (by rw[e]));rw[(fE (mv P) [(k:Int),b]).asy k (by simp) b (by simp) a2] at this
 cases this}}}
 refine⟨by rw[List.length_set];exact I,λj H=>?_⟩;rw[List.take_add_one,av];show(u.set b true).getD j false=_;rw[qC];by_cases N:b=j
 {
 subst N;rw[List.getElem?_set_self (by omega)];simp}
 {
 rw[List.getElem?_set_ne N,←qC,F j H];have:∀x:Int,x∈(fa P K).take r++(some (b:Int)).toList↔x∈(fa P K).take r∨x=b:=by{intro x;simp}
 simp only[this];have O:¬((j:Int)=(b:Int)):=by omega
 simp[O]}}}
theorem EK {P K:LI}:∀(m r:Nat) (h:List Bool),oX P K h r→oX P K (lD P K m h) (r+m):=by{
 intro m
 induction m with
 | zero=>intro r h u;exact u
 | succ m B=>{
 intro r h u;have:=B (r+1) _ (Bm u);rw[show r+1+m=r+(m+1) by omega] at this;exact this}}
theorem DX (P K:LI)(h:Nat):oX P K (Bb P K h) h:=by{
 have:=EK (P:=P) (K:=K) h 0 (List.replicate P.length false) ⟨by simp,λj u=>by simp[qC,u]⟩;rw[Nat.zero_add] at this;exact this}
def tS:Nat→LI→List Bool→LI|k,p::P,b::h=>(if b=true then [] else [p])++tS (k+1) P h|_,_,_=>[]
theorem zK (k:Nat)(h:List Bool):tS k [] h=[]:=by cases h<;>rfl
theorem He (P:LI)(h:List Bool)(u:LI)(O:h.length=P.length)(I:∀j:Nat,j<P.length→h.getD j false=decide ((j:Int)∈u)):tS 0 P h=rF P u:=by{
 have N:∀(m k:Nat),k+m=P.length→tS k (P.drop k) (h.drop k)=(((List.range' k m).map λ(i:Nat)=>(i:Int)).filter λk=>!decide (k∈u)).map (atI P):=by{
 intro m
 induction m with
 | zero=>{
 intro k L;rw[qK (by omega:P.length≤k),zK];rfl}
 | succ m M=>{
 intro k L;have B:k<P.length:=by omega
 have H:k<h.length:=by omega
 rw[List.drop_eq_getElem_cons B,List.drop_eq_getElem_cons H,tS,M (k+1) (by omega),List.range'_succ,List.map_cons,List.filter_cons];have G:=I k B;rw[qC,qG H] at G;have J:h[k]=decide ((k:Int)∈u):=G;rw[J];have ha:atI P (k:Int)=P[k]:=by{
 unfold atI;rw[qP,qC,qG B];rfl}
 by_cases F:(k:Int)∈u
 {simp[F]}
 {simp[F,ha]}}}
 have:=N P.length 0 (by omega);rw[qd,qd] at this;rw[this];unfold rF ij;rw[List.range_eq_range']}
def de:LI→Int|[]=>0|x::r=>x+de r
theorem EE (a b:LI):de (a++b)=de a+de b:=by{
 induction a with
 | nil=>simp[de]
 | cons x a h=>rw[List.cons_append,de,de,h];omega}
theorem Ht {l:LI}{m:Int}(h:∀x∈l,0≤x∧x≤m):0≤de l∧de l≤m*l.length:=by{
 induction l with
 | nil=>simp[de]
 | cons x r B=>{
 have F:=h x List.mem_cons_self;have G:=B (λy u=>h y (List.mem_cons_of_mem _ u));rw[de,qO,Int.natCast_add,Int.mul_add];omega}}
theorem Ei {l:LI}(u:∀x∈l,0≤x)(F:de l=0):l=List.replicate l.length 0:=by{
 induction l with
 | nil=>rfl
 | cons x r G=>{
 have I:=u x List.mem_cons_self;have J:0≤de r:=by{
 clear G F;have B:∀y∈r,0≤y:=λy h=>u y (List.mem_cons_of_mem _ h)
 clear u
 induction r with
 | nil=>simp[de]
 | cons z r H=>{
 have:=B z List.mem_cons_self;have:=H (λy h=>B y (List.mem_cons_of_mem _ h));rw[de];omega}}
 rw[de] at F;have H:x=0:=by omega
 have B:=G (λy h=>u y (List.mem_cons_of_mem _ h)) (by omega);rw[qO,List.replicate_succ,H];rw[←B]}}
theorem DU {a b:LI}(h:a.Perm b):de a=de b:=by{
 induction h with
 | nil=>rfl
 | cons x _ F=>rw[de,de,F]
 | swap x y l=>simp only[de];omega
 | trans _ _ u B=>rw[u,B]}
def bH:LI→LI→Int|x::h,y::u=>if x=y then bH h u else x-y|_,_=>0
theorem n_ (b:LI):bH [] b=0:=by cases b<;>rfl
theorem pE (a:LI):bH a []=0:=by cases a<;>rfl
theorem uS (a:LI):bH a a=0:=by{
 induction a with
 | nil=>rfl
 | cons x a h=>rw[bH,if_pos rfl,h]}
theorem jT:∀(a b:LI),bH a b=- bH b a:=by{
 intro a
 induction a with
 | nil=>intro b;rw[n_,pE];rfl
 | cons x a u=>{
 intro b
 cases b with
 | nil=>rfl
 | cons y b=>{
 rw[bH,bH];by_cases h:x=y
 {rw[if_pos h,if_pos h.symm,u]}
 {
 rw[if_neg h,if_neg (λe=>h e.symm)];omega}}}}
theorem wY:∀(a b c:LI),a.length=b.length→b.length=c.length→bH a b≤0→bH b c≤0→bH a c≤0∧((bH a b<0∨bH b c<0)→bH a c<0):=by{
 intro a
 induction a with
 | nil=>{
 intro b c u B
 cases b with
 | nil=>{
 cases c with
 | nil=>simp[bH]
 | cons z c=>simp at B}
 | cons y b=>simp at u}
 | cons x a J=>{
 intro b c u B
 cases b with
 | nil=>simp at u
 | cons y b=>{
 cases c with
 | nil=>simp at B
 | cons z c=>{
 have I:=J b c (by simpa using u) (by simpa using B);rw[bH,bH,bH];by_cases F:x=y
 {
 subst F;by_cases h:x=z
 {
 subst h;simpa using I}
 {
 rw[if_pos rfl,if_neg h];intro G H;omega}}
 {
 by_cases h:y=z
 {
 subst h;rw[if_neg F,if_pos rfl];intro G H;omega}
 {
 rw[if_neg F,if_neg h];intro G H;rw[if_neg (by omega)];omega}}}}}}
theorem GM (f:Int→LI)(F:Nat)(B:∀a,(f a).length=F):oQ (λa b=>decide (bH (f a) (f b)<0)):=by{
 have h:∀a b,(f a).length=(f b).length:=λa b=>by rw[B,B]
 constructor
 {
 intro x;show decide (bH (f x) (f x)<0)=false;rw[uS];rfl}
 {
 intro x y;show decide (bH (f x) (f y)<0)=true→decide (bH (f y) (f x)<0)=false;rw[jT (f y) (f x)];simp;omega}
 {
 intro x y z;show decide (bH (f x) (f y)<0)=true→decide (bH (f y) (f z)<0)=true→decide (bH (f x) (f z)<0)=true;simp only[decide_eq_true_eq];intro u G;exact(wY _ _ _ (h x y) (h y z) (by omega) (by omega)).2 (.inl u)}
 {
 intro x y z;show decide (bH (f x) (f y)<0)=false→decide (bH (f y) (f x)<0)=false→decide (bH (f y) (f z)<0)=false→decide (bH (f z) (f y)<0)=false→decide (bH (f x) (f z)<0)=false∧decide (bH (f z) (f x)<0)=false;simp only[decide_eq_false_iff_not];have H:=jT (f x) (f y);have I:=jT (f y) (f z);have a3:=jT (f x) (f z);intro u G J L;have M:=(wY _ _ _ (h x y) (h y z) (by omega) (by omega)).1;have N:=(wY _ _ _ (h z y) (h y x) (by omega) (by omega)).1;omega}}
theorem qQ:∀(a b u v:LI),bH a b≠0→bH (a++u) (b++v)=bH a b:=by{
 intro a
 induction a with
 | nil=>intro b u v h;rw[n_] at h;exact absurd rfl h
 | cons x a B=>{
 intro b u v h
 cases b with
 | nil=>exact absurd rfl h
 | cons y b=>{
 rw[bH] at h ⊢;rw[List.cons_append,List.cons_append,bH];by_cases e:x=y
 {
 rw[if_pos e] at h ⊢;rw[if_pos e];exact B b u v h}
 {rw[if_neg e,if_neg e]}}}}
theorem zn (a b:LI):∀(h v:LI),a=b→bH (a++h) (b++v)=bH h v:=by{
 intro h v u;subst u
 induction a with
 | nil=>rfl
 | cons x a B=>rw[List.cons_append,List.cons_append,bH,if_pos rfl,B]}
theorem vB:∀(a b:LI),bH a b=0→a.length≤b.length→b=a++b.drop a.length:=by{
 intro a
 induction a with
 | nil=>intro b _ _;simp
 | cons x a B=>{
 intro b h u
 cases b with
 | nil=>simp at u
 | cons y b=>{
 rw[bH] at h;by_cases e:x=y
 {
 rw[if_pos e] at h;have:=B b h (by simpa using u);rw[qO,List.drop_succ_cons,List.cons_append,←this,e]}
 {
 rw[if_neg e] at h;omega}}}}
def rm (l:LI):LI:=l++List.replicate (12-l.length) 0
theorem lK {l:LI}(h:l.length≤12):(rm l).length=12:=by unfold rm;rw[qJ,List.length_replicate];omega
theorem yE {x y:LI}(L:∀z∈x,0≤z)(I:∀z∈y,0≤z)(J:y.length≤12)(G:de x=de y)(u:bH x y=0)(F:x.length≤y.length):rm x=rm y:=by{
 have e:=vB x y u F;have B:y.drop x.length=List.replicate (y.length-x.length) 0:=by{
 have H:de (y.drop x.length)=0:=by{
 rw[e,EE] at G;omega}
 have:=Ei (λz h=>I z (qc h)) H;rw[qX] at this;exact this}
 rw[B] at e;unfold rm;have h:y++List.replicate (12-y.length) 0=x++(List.replicate (y.length-x.length) 0++List.replicate (12-y.length) 0):=by{rw[←qb,←e]}
 rw[h,List.replicate_append_replicate,show y.length-x.length+(12-y.length)=12-x.length by omega]}
theorem Ez {x y:LI}(F:∀z∈x,0≤z)(G:∀z∈y,0≤z)(H:x.length≤12)(I:y.length≤12)(B:de x=de y):bH (rm x) (rm y)=bH x y:=by{
 by_cases h:bH x y=0
 {
 have:rm x=rm y:=by{
 rcases Nat.le_total x.length y.length with u|u
 {exact yE F G I B h u}
 {exact(yE G F H B.symm (by rw[jT,h];rfl) u).symm}}
 rw[this,uS,h]}
 {exact qQ _ _ _ _ h}}
def ax (h:List LI) (b:Int):LI:=h.map λr=>atI r b
theorem dN (h:List LI)(b:Int):(ax h b).length=h.length:=by unfold ax;rw[qV]
def cntT (t:Tb) (h:LI) (b:Int):LI:=rF (ax t.pts b) (tj (ax t.pts b) (ax t.cds b) (leN t.pts.length h))
def cz (t:Tb) (h:LI) (b:Int):Int:=de (cntT t h b)
def ll (a b:Int):Bool:=decide (a<b)
def fu (t:Tb) (h:LI) (b:Int):LI:=aU ll (cntT t h b)
def dY (x:Int):Int:=if x<0 then -1 else if 0<x then 1 else 0
theorem oF (x:Int):(dY x<0)=(x<0):=by{
 unfold dY;split
 {simp;omega}
 {split<;>simp<;>omega}}
def ce (P Q:LI):Nat→Int×Int|0=>(0,-1)|k+1=>if atI P k=atI Q k then ce P Q k else(atI P k-atI Q k,(k:Int))
def iB (t:Tb) (h:LI) (a b:Int):Int×Int×Int:=if cz t h a≠cz t h b then(dY (cz t h a-cz t h b),1,0) else if bH (fu t h a) (fu t h b)≠0 then(dY (bH (fu t h a) (fu t h b)),2,0) else if (ce (ax t.pts a) (ax t.pts b) t.pts.length).1≠0 then(dY (ce (ax t.pts a) (ax t.pts b) t.pts.length).1,3,(ce (ax t.pts a) (ax t.pts b) t.pts.length).2) else(0,0,0)
def tM (t:Tb) (h:LI) (a b:Int):Bool:=decide ((iB t h a b).1<0)
def BN (t:Tb) (h:LI) (a:Int):LI:=cz t h a::(rm (fu t h a)++(ax t.pts a).reverse)
theorem Gw (P Q:LI):∀k,k≤P.length→k≤Q.length→(ce P Q k).1=bH (P.take k).reverse (Q.take k).reverse:=by{
 intro k
 induction k with
 | zero=>intro _ _;rfl
 | succ k F=>{
 intro G H;have u:P.take (k+1)=P.take k++[atI P k]:=by{
 rw[List.take_add_one,qG (by omega)];unfold atI;rw[qP,qC,qG (by omega)];rfl}
 have B:Q.take (k+1)=Q.take k++[atI Q k]:=by{
 rw[List.take_add_one,qG (by omega)];unfold atI;rw[qP,qC,qG (by omega)];rfl}
 rw[ce,u,B,List.reverse_append,List.reverse_append];show _=bH (atI P k::(P.take k).reverse) (atI Q k::(Q.take k).reverse);rw[bH];by_cases h:atI P k=atI Q k
 {
 rw[if_pos h,if_pos h];exact F (by omega) (by omega)}
 {rw[if_neg h,if_neg h]}}}
theorem Ey (P h:LI):(rF P h).length≤P.length:=by{
 unfold rF;rw[qV];have:=List.length_filter_le (λk=>!decide (k∈h)) (ij P.length);rw[dg] at this;exact this}
theorem Ch {l:LI}{k:Int}:atI l k=0∨atI l k∈l:=by{
 unfold atI;rw[qC]
 cases h:l[k.toNat]? with
 | none=>exact .inl rfl
 | some x=>exact .inr (qF h)}
theorem GI {P u:LI}{x:Int}(h:x∈rF P u):x=0∨x∈P:=by{
 unfold rF at h;obtain⟨k,-,rfl⟩:=List.mem_map.1 h;exact Ch}
theorem Ft {t:Tb}(F:bl t){b:Int}{x:Int}(u:x∈ax t.pts b):0≤x∧x≤10000:=by{
 unfold ax at u;obtain⟨r,J,rfl⟩:=List.mem_map.1 u;obtain⟨k,B⟩:=List.getElem?_of_mem J;have I:=(List.getElem?_eq_some_iff.1 B).1;have H:t.cds[k]?=some (t.cds[k]'(by rw[←F.same];exact I)):=qG _;have G:=(F.row k r _ B H).1.2;rcases Ch (l:=r) (k:=b) with h|h
 {rw[h];omega}
 {exact G _ h}}
theorem gS {t:Tb}(u:bl t){B:LI}{b:Int}{x:Int}(h:x∈cntT t B b):0≤x∧x≤10000:=by{
 rcases GI h with h|h
 {rw[h];omega}
 {exact Ft u h}}
theorem cT {t:Tb}(u:bl t)(h:LI)(b:Int):(cntT t h b).length≤12:=by{
 have:=Ey (ax t.pts b) (tj (ax t.pts b) (ax t.cds b) (leN t.pts.length h));rw[dN] at this;have:=u.many;unfold cntT;omega}
theorem kw {t:Tb}(u:bl t)(h:LI)(b:Int):0≤cz t h b∧cz t h b≤120000:=by{
 have F:=Ht (l:=cntT t h b) (m:=10000) (λx B=>gS u B);have B:=cT u h b;unfold cz;omega}
theorem xM (h:Int→Int→Bool):∀(m:Nat) (p q:LI),q.length=m→(cK h m p.length (p++q)).Perm (p++q):=by{
 intro m
 induction m with
 | zero=>intro p q _;exact List.Perm.refl _
 | succ m H=>{
 intro p q F
 cases q with
 | nil=>simp at F
 | cons x q=>{
 unfold cK;rw[pt];have u:=lm h x p.reverse [];rw[List.reverse_reverse,qa] at u;have G:(cO h x p.reverse []).length=p.length+1:=by rw[u.length_eq];simp
 have B:=H (cO h x p.reverse []) q (by simpa using F);rw[G] at B;refine B.trans ((u.append_right q).trans ?_);exact(List.perm_middle (a:=x) (l₁:=p) (l₂:=q)).symm}}}
theorem gC (h:Int→Int→Bool)(l:LI):(aU h l).Perm l:=by{
 unfold aU
 cases l with
 | nil=>exact List.Perm.refl _
 | cons x r=>exact xM h r.length [x] r rfl}
theorem jO {t:Tb}{h:LI}{b x:Int}:x∈fu t h b↔x∈cntT t h b:=(gC _ _).mem_iff
theorem ez (t:Tb)(h:LI)(b:Int):(fu t h b).length=(cntT t h b).length:=iQ _ _
theorem nW (t:Tb)(h:LI)(b:Int):de (fu t h b)=cz t h b:=DU (gC _ _)
theorem If {t:Tb}(u:bl t)(h:LI)(a b:Int):(iB t h a b).1=dY (bH (BN t h a) (BN t h b)):=by{
 have L:=Gw (ax t.pts a) (ax t.pts b) t.pts.length (by rw[dN];exact qA _) (by rw[dN];exact qA _);rw[qI (by rw[dN];exact qA _),qI (by rw[dN];exact qA _)] at L;unfold iB BN;rw[L,bH];by_cases G:cz t h a=cz t h b
 {
 rw[if_neg (λF=>F G),if_pos G];have I:=Ez (x:=fu t h a) (y:=fu t h b) (λz J=>(gS u (jO.1 J)).1) (λz J=>(gS u (jO.1 J)).1) (by rw[ez];exact cT u h a) (by rw[ez];exact cT u h b) (by rw[nW,nW,G]);by_cases H:bH (fu t h a) (fu t h b)=0
 {
 rw[if_neg (λF=>F H)];rw[H] at I;have M:rm (fu t h a)=rm (fu t h b):=by{
 have B:=vB _ _ I (by rw[lK (by rw[ez];exact cT u h a),lK (by rw[ez];exact cT u h b)];exact qA _);rw[qK (by rw[lK (by rw[ez];exact cT u h b),lK (by rw[ez];exact cT u h a)];exact qA _),qa] at B;exact B.symm}
 rw[zn _ _ _ _ M];by_cases B:bH (ax t.pts a).reverse (ax t.pts b).reverse=0
 {
 rw[if_neg (λF=>F B),B];rfl}
 {rw[if_pos B]}}
 {rw[if_pos H,qQ _ _ _ _ (by rw[I];exact H),I]}}
 {rw[if_pos G,if_neg G]}}
theorem Hi {t:Tb}(u:bl t)(h:LI):tM t h=λa b=>decide (bH (BN t h a) (BN t h b)<0):=by{
 funext a b;unfold tM;rw[If u];simp only[oF]}
theorem tK {t:Tb}(u:bl t)(h:LI):oQ (tM t h):=by{
 rw[Hi u];refine GM (BN t h) (13+t.pts.length) (λa=>?_);unfold BN;rw[qO,qJ,List.length_reverse,dN,lK (by rw[ez];exact cT u h a)];omega}
def jj (h:Int→Int→Bool) (n:Nat) (a:Int):Nat:=1+(ij n).countP (λk=>h k a)
def kP (h:Int→Int→Bool) (n:Nat):LI:=(List.range' 1 n).flatMap λr=>(ij n).filter λk=>decide (jj h n k=r)
theorem uM {l:LI}{p q:Int→Bool}(h:∀x∈l,p x=true→q x=true){a:Int}(ha:a∈l)(B:p a=false)(F:q a=true):l.countP p<l.countP q:=by{
 induction l with
 | nil=>cases ha
 | cons x r I=>{
 rw[List.countP_cons,List.countP_cons];have L:r.countP p≤r.countP q:=List.countP_mono_left (λy u=>h y (List.mem_cons_of_mem _ u));rcases List.mem_cons.1 ha with rfl|ha
 {
 rw[B,F];simp;omega}
 {
 have J:=I (λy u=>h y (List.mem_cons_of_mem _ u)) ha;have G:=h x List.mem_cons_self
 cases H:p x with
 | true=>rw[G H];simp;omega
 | false=>cases q x<;>simp<;>omega}}}
theorem Cw {h:Int→Int→Bool}(B:oQ h){n:Nat}{a b:Int}(ha:a∈ij n)(u:h a b=true):jj h n a<jj h n b:=by{
 unfold jj;have:=uM (l:=ij n) (p:=λk=>h k a) (q:=λk=>h k b) (λx _ F=>B.tr _ _ _ F u) ha (B.irr a) u;omega}
theorem Hp {h:Int→Int→Bool}(G:oQ h){n:Nat}{a b:Int}(B:h a b=false)(F:h b a=false):jj h n a=jj h n b:=by{
 unfold jj;congr 1;refine List.countP_congr (λx _=>?_);constructor
 {intro u;exact G.left u B F}
 {intro u;exact G.left u F B}}
theorem Cu {h:Int→Int→Bool}(u:oQ h){n:Nat}{a:Int}(ha:a∈ij n):1≤jj h n a∧jj h n a≤n:=by{
 unfold jj;have B:=uM (l:=ij n) (p:=λk=>h k a) (q:=λ_=>true) (λ_ _ _=>rfl) ha (u.irr a) rfl;have F:(ij n).countP (λ_=>true)=n:=by rw[List.countP_true,dg]
 omega}
theorem sF {h:Int→Int→Bool}(H:oQ h)(n:Nat):(kP h n).Pairwise (λa b=>kU h a b=true):=by{
 unfold kP;rw[List.pairwise_flatMap];constructor
 {
 intro r L;refine List.Pairwise.imp_of_mem (λ{a b} ha G J=>?_) ((Cn n).filter _);have F:=List.mem_filter.1 ha;have u:=List.mem_filter.1 G;simp only[decide_eq_true_eq] at F u;unfold kU
 cases I:h a b with
 | true=>rfl
 | false=>{
 cases B:h b a with
 | true=>have:=Cw H u.1 B;omega
 | false=>simp;exact J}}
 {
 refine List.Pairwise.imp (λ{r s} J a ha b G=>?_) List.pairwise_lt_range';have F:=List.mem_filter.1 ha;have u:=List.mem_filter.1 G;simp only[decide_eq_true_eq] at F u;unfold kU
 cases I:h a b with
 | true=>rfl
 | false=>{
 exfalso
 cases B:h b a with
 | true=>have:=Cw H u.1 B;omega
 | false=>have:=Hp H (n:=n) I B;omega}}}
theorem Ea {u:Int→Int→Bool}(B:oQ u)(n:Nat)(a:Int):a∈kP u n↔a∈ij n:=by{
 unfold kP;rw[List.mem_flatMap];constructor
 {rintro⟨r,-,h⟩;exact(List.mem_filter.1 h).1}
 {
 intro h;have:=Cu B h;exact⟨jj u n a,by rw[List.mem_range'_1];omega,List.mem_filter.2 ⟨h,by simp⟩⟩}}
theorem GB {u:Int→Int→Bool}(h:oQ u)(n:Nat):aU u (ij n)=kP u n:=by{
 rw[yI];obtain⟨H,I⟩:=mJ (fE h (ij n)) (pm n);have G:=sF h n;have J:(kP u n).Nodup:=G.imp (λ{a b} B e=>by{
 subst e;rw[(fE h [a]).irr a (List.mem_singleton.2 rfl)] at B
 cases B})
 have L:(kP u n).Perm (ij n):=(List.perm_ext_iff_of_nodup J (pm n)).2 (Ea h n);refine(H.trans L.symm).eq_of_pairwise (λa b _ _ B F=>?_) I G;rw[(fE h [a,b]).asy a (by simp) b (by simp) B] at F
 cases F}
def iL (t:Tb) (h:LI) (a:Int):Int:=(jj (tM t h) t.boats.toNat a:Nat)
def standT (t:Tb) (h:LI):LI:=aU (tM t h) (ij t.boats.toNat)
theorem uF {t:Tb}(u:bl t)(h:LI):standT t h=kP (tM t h) t.boats.toNat:=GB (tK u h) _
theorem eQ (t:Tb)(h:LI):(standT t h).length=t.boats.toNat:=by unfold standT;rw[iQ,dg]
theorem kG {t:Tb}{rule:LI}{x:Int}:x∈standT t rule↔0≤x∧x<t.boats.toNat:=(gC _ _).mem_iff.trans ki
theorem oh (n a b:Int)(w:World):Calls prog 34 #[n,a,b] w λe B=>e=.returned (.bool (af n a b))∧B=w:=(bi n a b w).mono λ_ _ ⟨h,u⟩=>⟨h,u.symm⟩
def mK (h:LI) (k:Nat):Int:=if k=0 then 0 else h.getD (k-1) 0
theorem gE {h:LI}{k:Nat}{x:Int}(u:h[k]?=some x):mK h (k+1)=x:=by{
 unfold mK;rw[if_neg (by omega),Nat.add_sub_cancel,qC,u];rfl}
theorem vA {p x:Int}{r:LI}(h:af x 1 12=false):dM p (x::r)=false:=by rw[dM,h];rfl
theorem vp {p x:Int}{r:LI}(h:¬p<x):dM p (x::r)=false:=by rw[dM,decide_eq_false h];simp
theorem rV {p x:Int}{r:LI}(h:af x 1 12=true)(u:p<x):dM p (x::r)=dM x r:=by rw[dM,h,decide_eq_true u];rfl
theorem oK {h:LI}(u:dM 0 h=false):bC h=false:=by unfold bC;rw[u,Bool.and_false]
theorem vv {rule:LI}(h:dM 0 rule=true):bC rule=decide (rule.length≤3):=by unfold bC;rw[h,Bool.and_true]
def gZ (t:Tb) (h:LI) (boat:Int):Int:=if iq t=true then(if bC h=true∧af boat 0 (t.boats-1)=true then 0 else 2) else 1
theorem kD (A:OA)(n c:Nat)(h:LI)(w:World)(L:Rd w 1 A n (ints h)):Calls prog 49 #[.slice A n c] w λe I=>e=.returned (.bool (bC h))∧BL w I:=by{
 have O:=hI L.len_int;have hm:=L.le;have u:=hI (show dM (mK h 0) (h.drop 0)=dM 0 h from rfl);go_enter func49,ntmps49;go_wp2_with fail
 go_loop [7] (λi=>∃k:Nat,k≤n∧i=.int .i64 k∧Hid (dM (mK h k) (h.drop k)=dM 0 h)) (λi=>n-(intOf i).toNat)
 case atStart=>exact⟨0,qH _,rfl,u⟩
 case round=>(
 clear u;obtain⟨k,_,rfl,J⟩:=hrel;by_cases Y:k<n
 {
 have ad:decide ((k:Int)<(n:Int))=true:=by simpa using Y
 obtain⟨b,o,x,rfl,Z,V,hc⟩:=L.int Y;have B:=J.out;rw[V] at B;have U:=hI Z;have H:=hI B;have G:=hI (bc x 1 12);clear B J Z V
 cases u:af x 1 12 with
 | false=>{
 rw[u] at G;have F:=hI (show bC h=false from oK (by rw[←H.out,vA u]));clear u;go_wp2_with fail
 refine(G _).mono ?_;rintro e I⟨rfl,rfl⟩;go_wp2_with fail
 go_ret;exact⟨ak F.symm,qB _ _⟩}
 | true=>{
 rw[u] at G;have T:=ai.1 u;rcases Nat.eq_zero_or_pos k with W|W
 {
 subst W;have N:=hI (show dM (mK h 1) (h.drop 1)=dM 0 h from by{
 rw[gE U.out,←H.out];exact(rV u (show(0:Int)<x by omega)).symm})
 simp only[qW] at hc;clear u T;go_wp2_with fail
 refine(G _).mono ?_;rintro e I⟨rfl,rfl⟩;go_wp2_with fail
 go_round
 case rel=>exact⟨1,by omega,by go_num,N⟩
 case measure=>simp[intOf]<;>omega}
 {
 obtain⟨j,rfl⟩:∃j,k=j+1:=⟨k-1,by omega⟩;obtain⟨_,_,y,R,M,-,_⟩:=L.int (k:=j) (by omega);injection R with R;injection R with h1 h2;subst h1 h2;have e0:decide (0<j+1)=true:=by simp
 have e1:IntKind.i64.wrap (((j+1:Nat):Int)-1)=(j:Int):=by rw[IntWalk.i64_in _ (by omega)];omega
 have HP:=hI (gE M);rw[HP.out] at H;have HY:=hI M;clear M;by_cases M:x≤y
 {
 have e2:decide (x≤y)=true:=by simpa using M
 have F:=hI (show bC h=false from oK (by rw[←H.out,vp (by omega)]));clear u T M;go_wp2_with fail
 refine(G _).mono ?_;rintro e I⟨rfl,rfl⟩;go_wp2_with fail
 go_ret;exact⟨ak F.symm,qB _ _⟩}
 {
 have e2:decide (x≤y)=false:=by simpa using M
 have N:=hI (show dM (mK h (j+1+1)) (h.drop (j+1+1))=dM 0 h from by{
 rw[gE U.out,←H.out];exact(rV u (by omega)).symm})
 clear u T M;go_wp2_with fail
 refine(G _).mono ?_;rintro e I⟨rfl,rfl⟩;go_wp2_with fail
 go_round
 case rel=>exact⟨j+1+1,by omega,by go_num,N⟩
 case measure=>simp[intOf]<;>omega}}}}
 {
 obtain rfl:k=n:=by omega
 have B:=J.out;rw[qK (by rw[O.out];omega)] at B;have F:=hI (vv (rule:=h) (by rw[←B];rfl));clear B J;have ad:decide ((k:Int)<(k:Int))=false:=by simp
 by_cases B:k≤3
 {
 have J:decide ((k:Int)≤3)=true:=by simp;omega
 go_wp2_with fail
 go_ret;exact⟨ak (by rw[F.out,O.out];simp[B]),qB _ _⟩}
 {
 have J:decide ((k:Int)≤3)=false:=by simp;omega
 go_wp2_with fail
 go_ret;exact⟨ak (by rw[F.out,O.out];simp[B]),qB _ _⟩}})}
theorem kv (A:OA)(n c:Nat)(h:LI)(w:World)(J:Rd w 1 A n (ints h)):Calls prog 161 #[.slice A n c] w λe w'=>e=.returned (.bool (bC h))∧BL w w':=by{
 have O:=hI J.len_int;have hm:=J.le;have B:=hI (show dM (mK h 0) (h.drop 0)=dM 0 h from rfl);by_cases av:3<n
 {
 have F:decide ((3:Int)<(n:Int))=true:=by simp;omega
 have u:=hI (show bC h=false from by unfold bC;rw[O.out,decide_eq_false (by omega)];rfl);clear av J;go_enter func161,ntmps161;go_wp2_with fail
 go_ret;exact⟨ak u.symm,qB _ _⟩}
 have F:decide ((3:Int)<(n:Int))=false:=by simp;omega
 go_enter func161,ntmps161;go_wp2_with fail
 clear F;go_loopw [3] (λi wr=>∃k:Nat,k≤n∧i=.int .i64 k∧Hid (dM (mK h k) (h.drop k)=dM 0 h)∧Hid (bI w wr)) (λi _=>n-(intOf i).toNat)
 case atStart=>exact⟨0,qH _,rfl,B,hI (bI.refl _)⟩
 case round=>(
 clear B;obtain⟨k,_,rfl,I,F⟩:=hrel;obtain⟨wo,a1⟩:∃wo:World,wo=wr:=⟨_,rfl⟩;subst a1;by_cases ad:k<n
 {
 have ar:decide ((k:Int)<(n:Int))=true:=by simpa using ad
 have H:=J.drawn F;obtain⟨b,o,x,rfl,hx,Y,hc⟩:=H.int ad;have B:=I.out;rw[Y] at B;have W:=hI hx;have G:=hI B;clear B I hx Y
 cases M:af x 1 12 with
 | false=>{
 have u:=hI (show bC h=false from oK (by rw[←G.out,vA M]));clear H;go_wp2_with fail
 go_quiet ((go_at_call 34;exact Calls.quiet_of_same (oh _ _ _ _)))
 go_wp2_with fail
 go_ret;exact⟨ak u.symm,(F.step _).below⟩}
 | true=>{
 have U:=ai.1 M;rcases Nat.eq_zero_or_pos k with Z|Z
 {
 subst Z;have N:=hI (show dM (mK h 1) (h.drop 1)=dM 0 h from by{
 rw[gE W.out,←G.out];exact(rV M (show(0:Int)<x by omega)).symm})
 simp only[qW] at hc;clear H U;go_wp2_with fail
 go_quiet ((go_at_call 34;exact Calls.quiet_of_same (oh _ _ _ _)))
 go_wp2_with fail
 go_roundw
 case rel=>exact⟨1,by omega,by go_num,N,hI (F.step _)⟩
 case measure=>simp[intOf]<;>omega}
 {
 obtain⟨j,L⟩:∃j,k=j+1:=⟨k-1,by omega⟩;obtain⟨_,_,y,R,T,-,_⟩:=H.int (k:=j) (by omega);injection R with R;injection R with h1 h2;subst h1 h2;have V:=hI (show IntKind.i64.wrap ((k:Int)-1)=(j:Int) by rw[IntWalk.i64_in _ (by omega)];omega);have a2:j<n:=by omega
 have HJ:=hI L;rw[L,gE T,←L] at G;have HY:=hI T;clear T L H;by_cases L:x≤y
 {
 have e2:decide (x≤y)=true:=by simpa using L
 have u:=hI (show bC h=false from oK (by rw[←G.out,vp (by omega)]));clear U L;go_wp2_with fail
 have T:=V.out;go_quiet ((go_at_call 34;exact Calls.quiet_of_same (oh _ _ _ _)))
 clear T;go_wp2_with fail
 go_ret;exact⟨ak u.symm,(F.step _).below⟩}
 {
 have e2:decide (x≤y)=false:=by simpa using L
 have N:=hI (show dM (mK h (k+1)) (h.drop (k+1))=dM 0 h from by{
 rw[gE W.out,←G.out];exact(rV M (by omega)).symm})
 clear U L;go_wp2_with fail
 have T:=V.out;go_quiet ((go_at_call 34;exact Calls.quiet_of_same (oh _ _ _ _)))
 clear T;go_wp2_with fail
 go_roundw
 case rel=>exact⟨k+1,by omega,by go_num,N,hI (F.step _)⟩
 case measure=>simp[intOf]<;>omega}}}}
 {
 obtain rfl:k=n:=by omega
 have B:=I.out;rw[qK (by rw[O.out];omega)] at B;have u:=hI (vv (rule:=h) (by rw[←B];rfl));clear B I;have ar:decide ((k:Int)<(k:Int))=false:=by simp
 go_wp2_with fail
 go_ret;exact⟨ak (by rw[u.out,O.out];simp;omega),F.below⟩})}
theorem un (A:OA)(n c:Nat)(G:LI)(h:Int)(w:World)(H:Rd w 1 A n (ints G)):Calls prog 290 #[.slice A n c,h] w λe V=>e=.returned (.int .i64 (leN h G:Nat))∧w=V:=by{
 have O:=hI H.len_int;have W:=H.le;go_enter func290,ntmps290;go_wp2_with fail
 go_loop [5,10] (λm i=>∃k q:Nat,k≤n∧i=.int .i64 k∧m=.int .i64 q∧q≤k∧Hid (leN h (G.take k)=q)) (λ_ i=>n-(intOf i).toNat)
 case atStart=>exact⟨0,0,qH _,rfl,rfl,qA _,hI (by rw[qh];rfl)⟩
 case round=>(
 obtain⟨k,q,_,rfl,rfl,_,B⟩:=hrel;by_cases J:k<n
 {
 have T:decide ((k:Int)<(n:Int))=true:=by simpa using J
 obtain⟨b,o,x,rfl,M,R,_⟩:=H.int J;have L:=am M;have F:=hI (show leN h (G.take (k+1))=q+(if x≤h then 1 else 0) from by rw[L,xZ,B.out]);clear L M R B;by_cases u:x≤h
 {
 have U:decide (x≤h)=true:=by simpa using u
 rw[if_pos u] at F;clear u;go_wp2_with fail
 go_round
 case rel=>exact⟨k+1,q+1,by omega,by go_num,by go_num,by omega,F⟩
 case measure=>simp[intOf]<;>omega}
 {
 have U:decide (x≤h)=false:=by simpa using u
 rw[if_neg u] at F;clear u;go_wp2_with fail
 go_round
 case rel=>exact⟨k+1,q,by omega,by go_num,rfl,by omega,F⟩
 case measure=>simp[intOf]<;>omega}}
 {
 obtain rfl:k=n:=by omega
 have T:decide ((k:Int)<(k:Int))=false:=by simp
 have I:=B.out;rw[qI (by rw[O.out];omega)] at I;have N:=hI I;clear I B;go_wp2_with fail
 go_ret;exact⟨dK (by rw[N.out]),rfl⟩})}
theorem uh (A:OA)(n c:Nat)(G:LI)(h:Int)(w:World)(H:Rd w 1 A n (ints G)):Calls prog 317 #[.slice A n c,h] w λe V=>e=.returned (.int .i64 (leN h G:Nat))∧w=V:=by{
 have O:=hI H.len_int;have W:=H.le;go_enter func317,ntmps317;go_wp2_with fail
 go_loop [5,6] (λm i=>∃k q:Nat,k≤n∧i=.int .i64 k∧m=.int .i64 q∧q≤k∧Hid (leN h (G.take k)=q)) (λ_ i=>n-(intOf i).toNat)
 case atStart=>exact⟨0,0,qH _,rfl,rfl,qA _,hI (by rw[qh];rfl)⟩
 case round=>(
 obtain⟨k,q,_,rfl,rfl,_,B⟩:=hrel;by_cases J:k<n
 {
 have T:decide ((k:Int)<(n:Int))=true:=by simpa using J
 obtain⟨b,o,x,rfl,M,R,_⟩:=H.int J;have L:=am M;have F:=hI (show leN h (G.take (k+1))=q+(if x≤h then 1 else 0) from by rw[L,xZ,B.out]);clear L M R B;by_cases u:x≤h
 {
 have U:decide (x≤h)=true:=by simpa using u
 rw[if_pos u] at F;clear u;go_wp2_with fail
 go_round
 case rel=>exact⟨k+1,q+1,by omega,by go_num,by go_num,by omega,F⟩
 case measure=>simp[intOf]<;>omega}
 {
 have U:decide (x≤h)=false:=by simpa using u
 rw[if_neg u] at F;clear u;go_wp2_with fail
 go_round
 case rel=>exact⟨k+1,q,by omega,by go_num,rfl,by omega,F⟩
 case measure=>simp[intOf]<;>omega}}
 {
 obtain rfl:k=n:=by omega
 have T:decide ((k:Int)<(k:Int))=false:=by simp
 have I:=B.out;rw[qI (by rw[O.out];omega)] at I;have N:=hI I;clear I B;go_wp2_with fail
 go_ret;exact⟨dK (by rw[N.out]),rfl⟩})}
theorem oO (P:OA)(n c:Nat)(C:OA)(m d:Nat)(t:Tb)(A:OA)(l Y:Nat)(U:LI)(boat:Int)(w:World)(u:RdT w P n C m t)(I:Rd w 1 A l (ints U)):Calls prog 224 #[.agg #[t.boats,.slice P n c,.slice C m d],.slice A l Y,boat] w λe F=>e=.returned (.int .i64 (gZ t U boat))∧BL w F:=by{
 obtain⟨w1,J,h,R,L⟩:=ae w #[t.boats,.slice P n c,.slice C m d] 76;have N:=hI (rE P n c C m d t w1 (u.below R));have M:=hI R;have V:=hI h;have B:=hI J;have HL:=hI I;have H:=λe=>pQ (t:=t) e
 unfold gZ;generalize iq t=tb at *;have G:=h.f3;clear h R L J u I
 cases tb with
 | false=>{
 clear H;show Calls prog _ _ w λe F=>e=.returned (.int .i64 1)∧BL w F
 go_enter func224,ntmps224;go_wp2_with fail
 rw[←B.out];clear B G;go_wp2_with fail
 refine N.mono ?_;rintro e W⟨rfl,h⟩;have u:=zb M h;clear h;go_wp2_with fail
 go_ret;exact⟨rfl,u⟩}
 | true=>{
 have I:=H rfl;have R:=I.b1;have ad:=I.b2;rw[if_pos rfl];clear H I;have I:=hI (λF h=>kD A l Y U F (HL.below (w':=F) h));have O:=hI (λF=>bc boat 0 (t.boats-1) F)
 cases L:bC U with
 | false=>{
 rw[L] at I;rw[if_neg (by simp)];clear L;go_enter func224,ntmps224;go_wp2_with fail
 rw[←B.out];clear B;go_wp2_with fail
 refine N.mono ?_;rintro e W⟨rfl,h⟩;have u:=zb M h;have J:=hI (V.below h);clear h G;go_wp2_with fail
 refine(I _ u).mono ?_;rintro e Z⟨rfl,h⟩;have H:=zb u h;have G:=(J.below h).f3;clear h;go_wp2_with fail
 go_ret;exact⟨rfl,H⟩}
 | true=>{
 rw[L] at I
 cases T:af boat 0 (t.boats-1) with
 | false=>{
 rw[T] at O;rw[if_neg (by simp)];clear L T;go_enter func224,ntmps224;go_wp2_with fail
 rw[←B.out];clear B;go_wp2_with fail
 refine N.mono ?_;rintro e W⟨rfl,h⟩;have u:=zb M h;have J:=hI (V.below h);clear h G;go_wp2_with fail
 refine(I _ u).mono ?_;rintro e Z⟨rfl,h⟩;have H:=zb u h;have G:=(J.below h).f3;clear h;go_wp2_with fail
 refine(O _).mono ?_;rintro e w4⟨rfl,rfl⟩;go_wp2_with fail
 go_ret;exact⟨rfl,H⟩}
 | true=>{
 rw[T] at O;rw[if_pos ⟨rfl,rfl⟩];clear L T;go_enter func224,ntmps224;go_wp2_with fail
 rw[←B.out];clear B;go_wp2_with fail
 refine N.mono ?_;rintro e W⟨rfl,h⟩;have u:=zb M h;have J:=hI (V.below h);clear h G;go_wp2_with fail
 refine(I _ u).mono ?_;rintro e Z⟨rfl,h⟩;have H:=zb u h;have G:=(J.below h).f3;clear h;go_wp2_with fail
 refine(O _).mono ?_;rintro e w4⟨rfl,rfl⟩;go_wp2_with fail
 go_ret;exact⟨rfl,H⟩}}}}
theorem ko (P:OA)(n c:Nat)(C:OA)(m d:Nat)(t:Tb)(A:OA)(l Y:Nat)(U:LI)(boat:Int)(w:World)(u:RdT w P n C m t)(I:Rd w 1 A l (ints U)):Calls prog 239 #[.agg #[t.boats,.slice P n c,.slice C m d],.slice A l Y,boat] w λe F=>e=.returned (.int .i64 (gZ t U boat))∧BL w F:=by{
 obtain⟨w1,J,h,R,L⟩:=ae w #[t.boats,.slice P n c,.slice C m d] 76;have N:=hI (rA P n c C m d t w1 (u.below R));have M:=hI R;have V:=hI h;have B:=hI J;have HL:=hI I;have H:=λe=>pQ (t:=t) e
 unfold gZ;generalize iq t=tb at *;have G:=h.f3;clear h R L J u I
 cases tb with
 | false=>{
 clear H;show Calls prog _ _ w λe F=>e=.returned (.int .i64 1)∧BL w F
 go_enter func239,ntmps239;go_wp2_with fail
 rw[←B.out];clear B G;go_wp2_with fail
 refine N.mono ?_;rintro e W⟨rfl,h⟩;have u:=zb M h;clear h;go_wp2_with fail
 go_ret;exact⟨rfl,u⟩}
 | true=>{
 have I:=H rfl;have R:=I.b1;have ad:=I.b2;rw[if_pos rfl];clear H I;have I:=hI (λF h=>kv A l Y U F (HL.below (w':=F) h));have O:=hI (λF=>bi boat 0 (t.boats-1) F)
 cases L:bC U with
 | false=>{
 rw[L] at I;rw[if_neg (by simp)];clear L;go_enter func239,ntmps239;go_wp2_with fail
 rw[←B.out];clear B;go_wp2_with fail
 refine N.mono ?_;rintro e W⟨rfl,h⟩;have u:=zb M h;have J:=hI (V.below h);clear h G;go_wp2_with fail
 refine(I _ u).mono ?_;rintro e Z⟨rfl,h⟩;have H:=zb u h;have G:=(J.below h).f3;clear h;go_wp2_with fail
 go_ret;exact⟨rfl,H⟩}
 | true=>{
 rw[L] at I
 cases T:af boat 0 (t.boats-1) with
 | false=>{
 rw[T] at O;rw[if_neg (by simp)];clear L T;go_enter func239,ntmps239;go_wp2_with fail
 rw[←B.out];clear B;go_wp2_with fail
 refine N.mono ?_;rintro e W⟨rfl,h⟩;have u:=zb M h;have J:=hI (V.below h);clear h G;go_wp2_with fail
 refine(I _ u).mono ?_;rintro e Z⟨rfl,h⟩;have H:=zb u h;have G:=(J.below h).f3;clear h;go_wp2_with fail
 refine(O _).mono ?_;rintro e w4⟨rfl,rfl⟩;go_wp2_with fail
 go_ret;exact⟨rfl,H⟩}
 | true=>{
 rw[T] at O;rw[if_pos ⟨rfl,rfl⟩];clear L T;go_enter func239,ntmps239;go_wp2_with fail
 rw[←B.out];clear B;go_wp2_with fail
 refine N.mono ?_;rintro e W⟨rfl,h⟩;have u:=zb M h;have J:=hI (V.below h);clear h G;go_wp2_with fail
 refine(I _ u).mono ?_;rintro e Z⟨rfl,h⟩;have H:=zb u h;have G:=(J.below h).f3;clear h;go_wp2_with fail
 refine(O _).mono ?_;rintro e w4⟨rfl,rfl⟩;go_wp2_with fail
 go_ret;exact⟨rfl,H⟩}}}}
structure dx (w : World) (A : OA) (n : Nat) (rows : List (List ah)) : Prop where
 len : rows.length = n
 le : n ≤ 9223372036854775807
 at_ : ∀k, k < n → ∃b o A' c' xs, A = some ⟨b, o, none⟩ ∧ rows[k]? = some xs ∧ w.cell? ⟨b, o + k, none⟩ = some (.slice A' xs.length c') ∧ Rd w 3 A' xs.length (fins xs)
theorem dx.keep {w w':World}{A:OA}{n:Nat}{rows:List (List ah)}(h:dx w A n rows)(k:fW w w'):dx w' A n rows:=⟨h.len,h.le,λi G=>by{
 obtain⟨b,o,u,B,J,e,I,F,H⟩:=h.at_ i G;exact⟨b,o,u,B,J,e,I,k _ _ F,H.keep k⟩}⟩
theorem dx.below {w w':World}{A:OA}{n:Nat}{rows:List (List ah)}(h:dx w A n rows)(k:BL w w'):dx w' A n rows:=h.keep (fW.below k)
theorem dx.drawn {w w':World}{A:OA}{n:Nat}{rows:List (List ah)}(h:dx w A n rows)(k:bI w w'):dx w' A n rows:=h.below k.below
theorem dx.row {w:World}{A:OA}{n k:Nat}{rows:List (List ah)}(F:dx w A n rows)(H:k<n):∃b o u B h,A=some ⟨b,o,none⟩∧rows[k]?=some h∧rows.drop k=h::rows.drop (k+1)∧w.cell? ⟨b,o+k,none⟩=some (.slice u h.length B)∧Rd w 3 u h.length (fins h):=by{
 obtain⟨b,o,u,B,h,e,I,L,M⟩:=F.at_ k H;obtain⟨y,G,J⟩:=dd (xs:=rows) (k:=k) (by rw[F.len];exact H);obtain rfl:h=y:=by rw[I] at G;injection G
 exact⟨b,o,u,B,h,e,I,J,L,M⟩}
structure aF (w : World) (base eo ei : Nat) (A : OA) (n c : Nat) (vs : List Value) (rows : List (List ah)) : Prop where
 outer : w.ownsRow base eo 1 (.slice A n c) n vs
 len : rows.length = n
 row : ∀(k : Nat) (v : Value) (xs : List ah), vs[k]? = some v → rows[k]? = some xs → ∃A' c', v = .slice A' xs.length c' ∧ w.ownsRow base ei 3 v xs.length (fins xs)
 apart : ∀(i j : Nat) (u v : Value), i ≠ j → vs[i]? = some u → vs[j]? = some v → ∀g, u.ownBlock = some g → v.ownBlock ≠ some g
section
variable {w w' : World} {base eo ei n c : Nat} {A : Option Addr} {vs : List Value} {rows : List (List ah)}
theorem aF.vlen (h:aF w base eo ei A n c vs rows):vs.length=n:=by have:=h.outer.1;omega
theorem aF.nle (h:aF w base eo ei A n c vs rows):n≤9223372036854775807:=(az h.outer).le
theorem aF.get (F:aF w base eo ei A n c vs rows){k:Nat}(I:k<n):∃v u B h,vs[k]?=some v∧rows[k]?=some h∧rows.drop k=h::rows.drop (k+1)∧v=.slice u h.length B∧w.ownsRow base ei 3 (.slice u h.length B) h.length (fins h):=by{
 have G:vs[k]?=some (vs[k]'(by rw[F.vlen];exact I)):=qG _;obtain⟨h,H,L⟩:=dd (xs:=rows) (k:=k) (by rw[F.len];exact I);obtain⟨u,B,e,J⟩:=F.row k _ _ G H;exact⟨_,u,B,h,G,H,L,e,by rw[e] at J;exact J⟩}
theorem aF.rd (h:aF w base eo ei A n c vs rows):dx w A n rows:=⟨h.len,h.nle,λk u=>by{
 obtain⟨v,F,G,O,H,I,_,e,M⟩:=h.get u;obtain⟨g,N,J,_,_,B,L,_⟩:=je h.outer u;obtain rfl:v=N:=by rw[H] at B;injection B
 exact⟨g,0,F,G,O,J,I,by rw[Nat.zero_add,L,e],az M⟩}⟩
theorem aF.in_ (h:aF w base eo ei A n c vs rows):lz base w.heap.size A n c vs:=by{
 refine⟨h.outer.lt,λv I b B=>?_⟩;obtain⟨k,F⟩:=List.mem_iff_getElem?.1 I;have G:k<n:=by have:=(List.getElem?_eq_some_iff.1 F).1;rw[h.vlen] at this;exact this
 obtain⟨J,_,_,_,u,_,_,e,H⟩:=h.get G;obtain rfl:v=J:=by rw[F] at u;injection u
 rw[e] at B;exact H.lt b B}
theorem aF.below (h:aF w base eo ei A n c vs rows)(k:BL w w'):aF w' base eo ei A n c vs rows:=⟨aa h.outer k,h.len,λi v I F G=>by obtain⟨u,B,e,H⟩:=h.row i v I F G;exact⟨u,B,e,aa H k⟩,h.apart⟩
theorem aF.drawn (h:aF w base eo ei A n c vs rows)(k:bI w w'):aF w' base eo ei A n c vs rows:=h.below k.below
theorem aF.alloc (h:aF w base eo ei A n c vs rows)(o:Obj):aF (w.alloc o) base eo ei A n c vs rows:=h.below (za _ _)
theorem aF.chg {I F:Nat}(h:aF w base eo ei A n c vs rows)(k:aK I F w w'){J G:Nat}(H:lz J G A n c vs)(T:G≤I∨F≤J):aF w' base eo ei A n c vs rows:=⟨aE h.outer k (λb u=>by have:=H.1 b u;omega),h.len,λi v R B N=>by{
 obtain⟨L,M,e,O⟩:=h.row i v R B N;exact⟨L,M,e,aE O k (λb u=>by have:=H.2 v (qF B) b u;omega)⟩},h.apart⟩
theorem aF.base' {u:Nat}(h:aF w base eo ei A n c vs rows)(B:u≤base):aF w u eo ei A n c vs rows:=⟨an h.outer B,h.len,λi v L H I=>by obtain⟨F,G,e,J⟩:=h.row i v L H I;exact⟨F,G,e,an J B⟩,h.apart⟩
theorem aF.upd (h:aF w base eo ei A n c vs rows)(Z:eo≠ei){k:Nat}{v:Value}{M G:List ah}(L:vs[k]?=some v)(O:rows[k]?=some M)(Y:G.length=M.length)(N:w.grownBy w' v.ownBlock)(hy:w'.ownsRow base ei 3 v G.length (fins G)):aF w' base eo ei A n c vs (rows.set k G):=by{
 obtain⟨T,V,W,ad⟩:=h.row k v M L O;refine⟨h.outer.kept N ?_,by simpa using h.len,?_,h.apart⟩
 {
 rcases H:(Value.slice A n c).ownBlock with _|g
 {exact .inl rfl}
 {exact .inr (λI=>aJ h.outer ad Z g H I.symm)}}
 {
 intro i F zs B u;by_cases J:i=k
 {
 subst J;obtain rfl:v=F:=by rw[L] at B;injection B
 have R:=(List.getElem?_eq_some_iff.1 O).1;rw[List.getElem?_set_self R] at u;injection u with u;subst u;exact⟨T,V,by rw[W,Y],hy⟩}
 {
 rw[List.getElem?_set_ne (λe=>J e.symm)] at u;obtain⟨R,U,e,ho⟩:=h.row i F zs B u;refine⟨R,U,e,ho.kept N ?_⟩;rcases H:F.ownBlock with _|g
 {exact .inl rfl}
 {exact .inr (λI=>h.apart i k F v J B L g H I.symm)}}}}
theorem aF.put {g:Nat}(I:aF w base eo ei (some ⟨g,0,none⟩) n c vs rows)(Z:eo≠ei){k:Nat}{G:OA}{H:Nat}{F:List ah}(hy:w.ownsRow base ei 3 (.slice G F.length H) F.length (fins F))(R:∀B∈vs,∀b,(Value.slice G F.length H).ownBlock=some b→B.ownBlock≠some b):aF (w.setCell ⟨g,k,none⟩ (.slice G F.length H)) base eo ei (some ⟨g,0,none⟩) n c (vs.set k (.slice G F.length H)) (rows.set k F):=by{
 have V:=I.outer.stored k (.slice G F.length H);have W:∀(B:Value) (m:Nat) (N:List Value),w.ownsRow base ei 3 B m N→(w.setCell ⟨g,k,none⟩ (.slice G F.length H)).ownsRow base ei 3 B m N:=by{
 intro B m N O;refine O.kept V.2 ?_;rcases J:B.ownBlock with _|b
 {exact .inl rfl}
 {
 refine .inr (λh=>?_);injection h with h;subst h;exact aJ I.outer O Z b rfl J}}
 refine⟨V.1,by simpa using I.len,?_,?_⟩
 {
 intro i B N u h;by_cases L:i=k
 {
 subst L;have T:i<rows.length:=by have:=(List.getElem?_eq_some_iff.1 h).1;simpa using this
 have M:i<vs.length:=by rw[I.vlen,←I.len];exact T
 rw[List.getElem?_set_self T] at h;rw[List.getElem?_set_self M] at u;injection h with h;injection u with u;subst h;subst u;exact⟨G,H,rfl,W _ _ _ hy⟩}
 {
 rw[List.getElem?_set_ne (λe=>L e.symm)] at u h;obtain⟨T,U,e,O⟩:=I.row i B N u h;exact⟨T,U,e,W _ _ _ O⟩}}
 {
 intro i j B v T u h b J;by_cases L:i=k
 {
 subst L;rw[List.getElem?_set_ne (λe=>T e)] at h;have M:i<vs.length:=by have:=(List.getElem?_eq_some_iff.1 u).1;simpa using this
 rw[List.getElem?_set_self M] at u;injection u with u;subst u;exact R v (qF h) b J}
 {
 rw[List.getElem?_set_ne (λe=>L e.symm)] at u;by_cases U:j=k
 {
 subst U;have M:j<vs.length:=by have:=(List.getElem?_eq_some_iff.1 h).1;simpa using this
 rw[List.getElem?_set_self M] at h;injection h with h;subst h;exact λY=>R B (qF u) b Y J}
 {
 rw[List.getElem?_set_ne (λe=>U e.symm)] at h;exact I.apart i j B v T u h b J}}}}
theorem aF.nil (w:World)(base eo ei:Nat):aF w base eo ei none 0 0 [] []:=⟨World.ownsRow_nil _ _ _ _,rfl,λk v B h=>by simp at h,λi j u v _ h=>by simp at h⟩
theorem aF.empty (w:World)(base eo ei:Nat)(u:base≤w.heap.size):aF (w.alloc (.cells #[] eo)) base eo ei (some ⟨w.heap.size,0,none⟩) 0 0 [] []:=⟨df w base eo u,rfl,λk v F h=>by simp at h,λi j B v _ h=>by simp at h⟩
theorem aF.append {R:World}{U:OA}{V:Nat}(h:aF w base eo ei A n c vs rows)(ar:eo≠ei){I:OA}{J:Nat}{F:List ah}(hy:w.ownsRow base ei 3 (.slice I F.length J) F.length (fins F))(W:∀u∈vs,∀b,(Value.slice I F.length J).ownBlock=some b→u.ownBlock≠some b)(o:Obj)(hg:(w.alloc o).grownBy R (Value.slice A n c).ownBlock)(ho:R.ownsRow base eo 1 (.slice U (n+1) V) (n+1) (vs++[.slice I F.length J])):aF R base eo ei U (n+1) V (vs++[.slice I F.length J]) (rows++[F]):=by{
 have Z:∀(u:Value) (m:Nat) (N:List Value),w.ownsRow base ei 3 u m N→R.ownsRow base ei 3 u m N:=by{
 intro u m N M;refine(M.alloc o).kept hg ?_;rcases L:u.ownBlock with _|b
 {exact .inl rfl}
 {exact .inr (λB=>aJ h.outer M ar b B.symm L)}}
 refine⟨ho,by simp[h.len],?_,?_⟩
 {
 intro i u N B G;by_cases O:i<n
 {
 rw[qU (by rw[h.vlen];exact O)] at B;rw[qU (by rw[h.len];exact O)] at G;obtain⟨H,T,e,Y⟩:=h.row i u N B G;exact⟨H,T,e,Z _ _ _ Y⟩}
 {
 rw[qR (by rw[h.vlen];omega),h.vlen] at B;rw[qR (by rw[h.len];omega),h.len] at G;have T:i-n=0:=by{
 rcases Nat.eq_zero_or_pos (i-n) with h|h
 {exact h}
 {rw[qY (by simp;omega)] at B;cases B}}
 rw[T] at B G;simp at B G;subst B;subst G;exact⟨I,J,rfl,Z _ _ _ hy⟩}}
 {
 intro i j u v ad B G b L;have split:∀(q:Nat) (x:Value),(vs++[Value.slice I F.length J])[q]?=some x→(q<n∧vs[q]?=some x)∨(q=n∧x=.slice I F.length J):=by{
 intro q x H;by_cases Y:q<n
 {rw[qU (by rw[h.vlen];exact Y)] at H;exact .inl ⟨Y,H⟩}
 {
 rw[qR (by rw[h.vlen];omega),h.vlen] at H;have T:q-n=0:=by{
 rcases Nat.eq_zero_or_pos (q-n) with h|h
 {exact h}
 {rw[qY (by simp;omega)] at H;cases H}}
 rw[T] at H;simp at H;exact .inr ⟨by omega,H.symm⟩}}
 rcases split i u B with⟨O,M⟩|⟨O,rfl⟩<;>rcases split j v G with⟨hj,H⟩|⟨hj,rfl⟩
 {exact h.apart i j u v ad M H b L}
 {exact λY=>W u (qF M) b Y L}
 {exact W v (qF H) b L}
 {omega}}}
end
def kS:List (List ah)→Nat|[]=>0|x::r=>3*x.length+kS r
def Fy (w:World) (b s:Int) (h:List (List ah)) (code:Int) (e:Ending) (u:World):Prop:=∃A n c B,e=.returned (.tuple #[.agg #[b,s,.slice A n c],code])∧aF u w.heap.size 157 53 A n c B h∧kS h≤1048576∧BL w u
def wI (w:World) (b s:Int) (h:List (List ah)) (e:Ending) (u:World):Prop:=∃A n c B,e=.returned (.agg #[b,s,.slice A n c])∧aF u w.heap.size 157 53 A n c B h∧kS h≤1048576∧BL w u
def gh (t:Tb) (x:gz):Int×Bool:=if x.2.2.1=3 then(x.2.2.2,true) else iA t x.1 x.2.1 x.2.2.1
theorem GY {t:Tb}{x:gz}(u:af x.1 0 ((t.pts.length:Int)-1)=true)(B:af x.2.1 0 (t.boats-1)=true)(a3:my x.2.2.1 x.2.2.2=true)(a4:vT t x.1 x.2.1=9):nE t x=(gh t x).2:=by{
 unfold nE gh;rw[u,B,a3,a4];by_cases h:x.2.2.1=3
 {simp[h]}
 {simp[h]}}
theorem zv {k p:Int}(h:my k p=true):k=1∨k=2∨k=3:=by{
 unfold my at h;by_cases u:k=3
 {exact .inr (.inr u)}
 {
 rw[if_neg u] at h;simp only[Bool.and_eq_true,ai] at h;omega}}
theorem jA (P:OA)(n c:Nat)(C:OA)(m d:Nat)(t:Tb)(B:Int)(u:Nat)(h G:Int)(R:h=1∨h=2∨h=3)(N:bl t)(L:(u:Int)<t.boats)(w:World)(J:RdT w P n C m t):Calls prog 83 #[.agg #[t.boats,.slice P n c,.slice C m d],.agg #[B,u,h,G]] w λe F=>e=.returned (.tuple #[.int .i64 (gh t (B,(u:Int),h,G)).1,.bool (gh t (B,(u:Int),h,G)).2])∧BL w F:=by{
 have H:=hI (show ∀I M,BL w ((w.alloc I).alloc M) from λI M=>(za _ _).alloc (by simp) _);unfold gh;show Calls _ _ _ _ λe F=>e=.returned (.tuple #[.int .i64 (if h=3 then(G,true) else iA t B u h).1,.bool (if h=3 then(G,true) else iA t B u h).2])∧BL w F
 by_cases I:h=3
 {
 subst I;rw[if_pos rfl];go_enter func83,ntmps83;go_wp2_with fail
 go_ret2;exact⟨rfl,H _ _⟩}
 {
 rw[if_neg I];have T:(h==3)=false:=by simp[I]
 have M:=hI (λF (O:BL w F)=>yx P n c C m d t B u h (by omega) N L F (J.below O));generalize iA t B u h=O at *;clear J R L N I;go_enter func83,ntmps83;go_wp2_with fail
 refine(M _ (H _ _)).mono ?_;rintro e L⟨rfl,I⟩;have J:=hI ((H _ _).trans (I.mono (H _ _).size));clear I;go_wp2_with fail
 go_ret2;exact⟨rfl,J⟩}}
theorem ay {w:World}{B e s n b:Nat}{v:Value}{L:List Value}{J:Array Value}{t:TypeId}(F:w.ownsRow B e s v n L)(h:aO w b J t)(H:e≠t):v.ownBlock≠some b:=by{
 intro u;rcases F.2 with⟨rfl,_⟩|⟨_,_,_,rfl,_,G,_⟩
 {simp[Value.ownBlock] at u}
 {
 simp[Value.ownBlock] at u;subst u;unfold aO at h;rw[G] at h;injection h with h;injection h with _ I;exact H I}}
theorem Dv:(prog.info? 157).map (λi=>(i.zero,i.size,i.bytes))=some (some (.agg #[.slice none 0 0]),1,24):=by kernel_rfl
theorem yF {M:Array Oper}{rest:List Oper}{o:Oper}{a:Act}{Q:Exit→Act→World→Prop}(w:World)(U:o.guard=none)(s x:Operand)(W:o.op=.call { callee:=.builtin .append,args:=#[s,x],argTypes:=#[107,107] }){F n c:Nat}{A:OA}{H:List Value}(Z:a.eval s=.slice A n c)(Y:w.ownsRow F 157 1 (.slice A n c) n H){h:Addr}{G:OA}{m d:Nat}(hx:a.eval x=.slice (some h) 1 1)(hc:w.cell? h=some (.slice G m d))(hn:n≤1099511627776)(T:F≤w.heap.size)(N:∀I J B,B.ownsRow F 157 1 (.slice I (n+1) J) (n+1) (H++[.slice G m d])→w.grownBy B (Value.slice A n c).ownBlock→wpList prog M Q rest (a.put o.dst (.slice I (n+1) J)) B):wpList prog M Q (o::rest) a w:=by{
 obtain⟨i,V,hz,ar,R⟩:=info_parts Dv;refine wpList_append_own w U s x 107 W F 157 i (.agg #[.slice none 0 0]) 1 24 underlying107 V hz ar R rfl (by decide) (.slice A n c) n H Z Y h 1 1 [.slice G m d] hx rfl ?_ ?_ (by unfold maxLen;omega) (by omega) T ?_
 {
 intro j av u;have O:j=0:=by{
 rcases j with _|j
 {rfl}
 {simp at u}}
 subst O;have L:h.add 0=h:=by simp[Addr.add]
 rw[L,hc];simpa using u}
 {
 intro av u;simp at u;subst u;rfl}
 {
 intro v' B L O _;rcases L.2 with⟨rfl,_⟩|⟨g,_,_,rfl,_⟩
 {omega}
 {exact N _ _ B L O}}}
def sq (race kind:Int) (b:Nat):Nat→List LI→List LI→Int→Int→Int×Int|k,p::F,c::B,u,h=>if (cA race kind k&&!(c.getD b 0==9))=true then sq race kind b (k+1) F B (min u (p.getD b 0)) (max h (p.getD b 0)) else sq race kind b (k+1) F B u h|_,_,_,u,h=>(u,h)
theorem ID (race kind:Int)(b:Nat):∀(u h:List LI) (k:Nat) (s m F B:Int),0≤m→F*m≤s→s≤B*m→0≤(dw race kind b k u h s m).2∧(sq race kind b k u h F B).1*(dw race kind b k u h s m).2≤(dw race kind b k u h s m).1∧(dw race kind b k u h s m).1≤(sq race kind b k u h F B).2*(dw race kind b k u h s m).2:=by{
 intro u
 induction u with
 | nil=>intro h k s m F B G H I;cases h<;>exact⟨G,H,I⟩
 | cons p u J=>{
 intro h k s m F B G H I
 cases h with
 | nil=>exact⟨G,H,I⟩
 | cons c h=>{
 unfold dw sq;split
 {
 refine J h (k+1) _ _ _ _ (by omega) ?_ ?_
 {
 have L:min F (p.getD b 0)*m≤F*m:=Int.mul_le_mul_of_nonneg_right (Int.min_le_left _ _) G;have M:min F (p.getD b 0)≤p.getD b 0:=Int.min_le_right _ _;rw[Int.mul_add,Int.mul_one];omega}
 {
 have L:B*m≤max B (p.getD b 0)*m:=Int.mul_le_mul_of_nonneg_right (Int.le_max_left _ _) G;have M:p.getD b 0≤max B (p.getD b 0):=Int.le_max_right _ _;rw[Int.mul_add,Int.mul_one];omega}}
 {exact J h (k+1) s m F B G H I}}}}
theorem zL (t:Tb)(race boat kind:Int)(h:(iA t race boat kind).2=true):(sq race kind boat.toNat 0 t.pts t.cds 10000 0).1≤(iA t race boat kind).1∧(iA t race boat kind).1≤(sq race kind boat.toNat 0 t.pts t.cds 10000 0).2:=by{
 have F:=ID race kind boat.toNat t.pts t.cds 0 0 0 10000 0 (by omega) (by omega) (by omega);unfold iA uW at h ⊢;generalize dw race kind boat.toNat 0 t.pts t.cds 0 0=r at *;generalize sq race kind boat.toNat 0 t.pts t.cds 10000 0=q at *;obtain⟨s,m⟩:=r;obtain⟨G,u⟩:=q;simp only at F h ⊢;by_cases B:m=0
 {rw[if_pos B] at h;cases h}
 {
 rw[if_neg B];simp only;obtain⟨_,_,a3⟩:=F;constructor
 {
 refine Int.le_ediv_of_mul_le (by omega) ?_;have:G*(2*m)=2*(G*m):=by rw[Int.mul_left_comm]
 omega}
 {
 have:(2*s+m)/(2*m)<u+1:=by{
 refine Int.ediv_lt_of_lt_mul (by omega) ?_;have e:(u+1)*(2*m)=2*(u*m)+2*m:=by rw[Int.add_mul,Int.one_mul,Int.mul_left_comm]
 omega}
 omega}}}
end Go.Proofs.YtnpldahkhaacnaaGreatDoor

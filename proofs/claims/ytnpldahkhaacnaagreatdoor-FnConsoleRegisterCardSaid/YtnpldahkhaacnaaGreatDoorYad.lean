/- Texts of the walk: Qs Zmc Cf Ns. -/
import Derived.Sort.Grow
import Derived.RangeFuncNested
import Derived.RangeFuncBound
import Derived.RangeFuncCalls
import Derived.RangeFuncLeaves
import Derived.Shelf.Abstract
import Derived.TacticsInMore
import Derived.LoopNIn
import Derived.LoopIn
import Derived.Shelf.SlSortCmp.WholeK
import Derived.Shelf.SlSortCmp.NoneTotal
import Derived.Ground.SlsfProg
import Derived.Test.YtnpldahkhaacnaaGreatDoorYac
set_option linter.unusedVariables false
set_option linter.unusedSimpArgs false
set_option maxRecDepth 100000
set_option maxHeartbeats 32000000
namespace Go.Proofs.YtnpldahkhaacnaaGreatDoor
open Go.RowKit Go.Sort Go.Proofs.Tryz
def aB (w:LB):Int×Bool:=((fq w).1,(fq w).2&&decide ((Lib.trimPrefix w [45]).length≤15))
theorem pD (s:ByteArray)(L:s.size≤2097152)(w:World)(B:Pow w)(u:ErrV w)(G:∀h,BL w h→Pow h):Calls prog 95 #[.string s] w λe h=>e=.returned (.tuple #[.int .i64 (aB s.data.toList).1,.bool (aB s.data.toList).2])∧BL w h:=by{
 have F:=hI (lB s L w B u G);have I:=hI (λh=>strings_TrimPrefix s ⟨#[45]⟩ h);have H:(⟨(Lib.trimPrefix s.data.toList (ByteArray.mk #[45]).data.toList).toArray⟩:ByteArray).size=(Lib.trimPrefix s.data.toList [45]).length:=by{
 show(ag _).size=_;rw[aj]}
 unfold aB;generalize fq s.data.toList=r at *;obtain⟨v,M⟩:=r;have J:=hI H;generalize (Lib.trimPrefix s.data.toList [45]).length=m at *;generalize (⟨(Lib.trimPrefix s.data.toList (ByteArray.mk #[45]).data.toList).toArray⟩:ByteArray)=N at *;simp only at F ⊢;clear H B u G
 cases M with
 | false=>{
 simp only[Bool.false_and];go_enter func95,ntmps95;go_wp2_with fail
 refine F.mono ?_;rintro e G⟨rfl,u⟩;have B:=hI u;clear u;go_wp2_with fail
 go_ret2;exact⟨rfl,B⟩}
 | true=>{
 simp only[Bool.true_and];go_enter func95,ntmps95;go_wp2_with fail
 refine F.mono ?_;rintro e G⟨rfl,u⟩;have B:=hI u;clear u;go_wp2_with fail
 refine(I _).mono ?_;rintro e u⟨rfl,rfl⟩;go_wp2_with fail
 go_ret2;exact⟨by rw[←J.out];simp;omega,B⟩}}
def aT (h:List LB):Bool:=h.all λw=>(aB w).2
def IZ (w:World) (h:List LB) (e:Ending) (u:World):Prop:=∃A n c,e=.returned (.tuple #[.slice A n c,.bool (aT h)])∧(aT h=true→Rd u 1 A n (ints (h.map λw=>(aB w).1)))∧BL w u
theorem BJ (A:OA)(n c:Nat)(h:List LB)(w:World)(G:Rd w 1 A n (strs h))(hn:n≤4194304)(B:∀x∈h,x.length≤2097152)(u:∀Z,BL w Z→gu Z):Calls prog 67 #[.slice A n c] w (IZ w h):=by{
 have HR:=hI G;have a7:=hI G.len_str;have a':=hI B;have ad:=hI u;have F:=hI (show(h.map λw=>(aB w).1)=[]++((h.drop 0).map λw=>(aB w).1) from by simp);clear G B u;go_enter func67,ntmps67;go_wp2_with fail
 have B:=hI (show(w.alloc (.cells #[] 2)).ownsRow w.heap.size 2 1 (.slice (some ⟨w.heap.size,0,none⟩) 0 0) 0 (ints []) from bg w w.heap.size 2 1 (qA _));have u:=hI ((qB w.heap.size w).alloc (qA _) (.cells #[] 2));go_loopw [4,12] (λo i wr=>∃(k T:Nat) (R:OA) (I:LI),k≤n∧o=.slice R k T∧i=.int .i64 k∧Hid (aT h=aT (h.drop k))∧Hid ((h.map λw=>(aB w).1)=I++((h.drop k).map λw=>(aB w).1))∧Hid (wr.ownsRow w.heap.size 2 1 (.slice R k T) k (ints I))∧Hid (BL w wr)) (λ_ i _=>n-(intOf i).toNat)
 case atStart=>exact⟨0,0,_,[],qH _,rfl,rfl,hI (by rw[qd]),F,B,u⟩
 case round=>(
 clear B u F;obtain⟨k,T,R,I,_,rfl,rfl,L,N,M,F⟩:=hrel;obtain⟨wo,bk⟩:∃wo:World,wo=wr:=⟨_,rfl⟩;subst bk;by_cases av:k<n
 {
 have bb:decide ((k:Int)<(n:Int))=true:=by simpa using av
 obtain⟨b,_,x,rfl,hx,U,hc⟩:=(HR.below F).str av;have a1:=a' x (qF hx);have W:=ad _ F;have H:=hI (pD (ag x) (by rw[aj];exact a1) wo W.pow W.err (λZ B=>(ad _ (F.trans (B.mono F.size))).pow));rw[aw] at H;have u:=hI (show aT h=((aB x).2&&aT (h.drop (k+1))) from by rw[L.out,U];rfl);have O:=hI (show(h.map λw=>(aB w).1)=I++[(aB x).1]++((h.drop (k+1)).map λw=>(aB w).1) from by rw[N.out,U];simp);generalize aB x=r at *;obtain⟨v,ok⟩:=r;simp only at u O;clear hx U a1 W L N
 cases ok with
 | false=>{
 simp only[Bool.false_and] at u;go_wp2_with fail
 refine H.mono ?_;rintro e w1⟨rfl,B⟩;have J:=zb F B;clear B hc H M;simp only;go_wp2_with fail
 go_ret2;exact⟨_,_,_,by rw[u.out];rfl,(λG=>by rw[u.out] at G;cases G),J⟩}
 | true=>{
 simp only[Bool.true_and] at u;go_wp2_with fail
 refine H.mono ?_;rintro e w1⟨rfl,B⟩;have J:=zb F B;have V:=hI (aa M B);have ba:=J.size;clear B hc H M;simp only;go_wp2_with(at_builtin;refine ly (y:=v) _ rfl _ _ rfl rfl (aa V (za _ _)) rfl (heap_alloc_new _ _) (by omega) ?cBa ?_;rotate_left;intro g9 c9 w9 a2 Y _ _)
 {
 have a6:=hI ((J.alloc ba _).grown Y (by simp;omega) (λj hj=>(V.lt j hj).1));have a8:=hI a2;clear a2 Y;go_roundw
 case rel=>exact⟨k+1,c9,_,_,by omega,rfl,by go_num,u,O,a8,a6⟩
 case measure=>simp[intOf]<;>omega}
 {first|omega|(simp;omega)}}}
 {
 obtain rfl:k=n:=by omega
 have bb:decide ((k:Int)<(k:Int))=false:=by simp
 have ar:h.drop k=[]:=qK (by have:=a7.out;omega);have V:=L.out;have Y:=N.out;rw[ar] at V Y;have u:=hI (show aT h=true from V);have O:=hI (show(h.map λw=>(aB w).1)=I from by rw[Y];simp);clear V Y ar L N;go_wp2_with fail
 go_ret2;exact⟨_,_,_,by rw[u.out];rfl,(λ_=>by rw[O.out];exact az M),F⟩})}
def lW (h:LB):Nat→Int→Int×Bool|0,_=>(0,false)|f+1,c=>if aD c=h then(c,true) else lW h f (c+1)
def fe (h:LB):Int×Bool:=lW h 10 0
theorem pu (s:ByteArray)(w:World):Calls prog 68 #[.string s] w λe U=>e=.returned (.tuple #[.int .i64 (fe s.data.toList).1,.bool (fe s.data.toList).2])∧BL w U:=by{
 have B:=fw s;generalize s.data.toList=J at *;have R:=hI B;obtain⟨H,h⟩:∃H,H=fe J:=⟨_,rfl⟩;rw[←h];have u:=hI (show lW J (10-0) ((0:Nat):Int)=H from h.symm);clear B h;go_enter func68,ntmps68;go_wp2_with fail
 go_loopw [4] (λi wr=>∃k:Nat,k≤10∧i=.int .i64 k∧Hid (lW J (10-k) k=H)∧Hid (BL w wr)) (λi _=>10-(intOf i).toNat)
 case atStart=>exact⟨0,by omega,rfl,u,hI (qB _ _)⟩
 case round=>(
 clear u;obtain⟨k,_,rfl,F,L⟩:=hrel;obtain⟨O,T⟩:∃O:World,O=wr:=⟨_,rfl⟩;subst T;by_cases Z:k≤9
 {
 have Y:decide ((k:Int)≤9)=true:=by simp;omega
 have B:=hI (mL k O);have h:=F.out;rw[show 10-k=(10-(k+1))+1 from by omega,lW] at h;by_cases u:aD k=J
 {
 rw[if_pos u] at h;have G:=hI h;have N:ag (aD k)=s:=by rw[u,R.out]
 rw[N] at B;clear h F u N;go_wp2_with fail
 refine B.mono ?_;rintro e V⟨rfl,I⟩;have M:=zb L I;clear I B;go_wp2_with fail
 go_ret2;exact⟨by rw[←G.out];rfl,M⟩}
 {
 rw[if_neg u,show(k:Int)+1=((k+1:Nat):Int) from by omega] at h;have G:=hI h;have N:((ag (aD k)).toList==s.toList)=false:=kt (λe=>u (by rw[←aw (aD k),e,←R.out,aw]));generalize ag (aD k)=W at *;clear h F u;go_wp2_with fail
 refine B.mono ?_;rintro e V⟨rfl,I⟩;have M:=zb L I;clear I B;go_wp2_with fail
 go_roundw
 case rel=>exact⟨k+1,by omega,by go_num,G,M⟩
 case measure=>simp[intOf]<;>omega}}
 {
 obtain rfl:k=10:=by omega
 have h:=F.out;rw[Nat.sub_self] at h;have G:=hI (show(0,false)=H from h);clear h F;go_wp2_with fail
 go_ret2;exact⟨by rw[←G.out];rfl,L⟩})}
theorem ka (s:ByteArray)(w:World):Calls prog 234 #[.string s] w λe U=>e=.returned (.tuple #[.int .i64 (fe s.data.toList).1,.bool (fe s.data.toList).2])∧BL w U:=by{
 have B:=fw s;generalize s.data.toList=J at *;have R:=hI B;obtain⟨H,h⟩:∃H,H=fe J:=⟨_,rfl⟩;rw[←h];have u:=hI (show lW J (10-0) ((0:Nat):Int)=H from h.symm);clear B h;go_enter func234,ntmps234;go_wp2_with fail
 go_loopw [4] (λi wr=>∃k:Nat,k≤10∧i=.int .i64 k∧Hid (lW J (10-k) k=H)∧Hid (BL w wr)) (λi _=>10-(intOf i).toNat)
 case atStart=>exact⟨0,by omega,rfl,u,hI (qB _ _)⟩
 case round=>(
 clear u;obtain⟨k,_,rfl,F,L⟩:=hrel;obtain⟨O,T⟩:∃O:World,O=wr:=⟨_,rfl⟩;subst T;by_cases Z:k≤9
 {
 have Y:decide ((k:Int)≤9)=true:=by simp;omega
 have B:=hI (mP k O);have h:=F.out;rw[show 10-k=(10-(k+1))+1 from by omega,lW] at h;by_cases u:aD k=J
 {
 rw[if_pos u] at h;have G:=hI h;have N:ag (aD k)=s:=by rw[u,R.out]
 rw[N] at B;clear h F u N;go_wp2_with fail
 refine B.mono ?_;rintro e V⟨rfl,I⟩;have M:=zb L I;clear I B;go_wp2_with fail
 go_ret2;exact⟨by rw[←G.out];rfl,M⟩}
 {
 rw[if_neg u,show(k:Int)+1=((k+1:Nat):Int) from by omega] at h;have G:=hI h;have N:((ag (aD k)).toList==s.toList)=false:=kt (λe=>u (by rw[←aw (aD k),e,←R.out,aw]));generalize ag (aD k)=W at *;clear h F u;go_wp2_with fail
 refine B.mono ?_;rintro e V⟨rfl,I⟩;have M:=zb L I;clear I B;go_wp2_with fail
 go_roundw
 case rel=>exact⟨k+1,by omega,by go_num,G,M⟩
 case measure=>simp[intOf]<;>omega}}
 {
 obtain rfl:k=10:=by omega
 have h:=F.out;rw[Nat.sub_self] at h;have G:=hI (show(0,false)=H from h);clear h F;go_wp2_with fail
 go_ret2;exact⟨by rw[←G.out];rfl,L⟩})}
section
open Go.Shelf Go.Shelf Go.Shelf
def iW (kind points:Int):Bool:=if kind=3 then af points 0 10000 else af kind 1 2&&(points==0)
namespace E
abbrev race (x:EntryT):Int:=x.1
abbrev boat (x:EntryT):Int:=x.2.1
abbrev rev (x:EntryT):Int:=x.2.2.1
abbrev code (x:EntryT):Int:=x.2.2.2.1
abbrev time (x:EntryT):Int:=x.2.2.2.2.1
abbrev kind (x:EntryT):Int:=x.2.2.2.2.2.1
abbrev points (x:EntryT):Int:=x.2.2.2.2.2.2
end E
def fT (b:Int) (x:EntryT):Bool:=af (E.race x) 0 11&&af (E.boat x) 0 (b-1)&&dP (E.boat x,E.code x,E.time x)&&(if E.kind x=0 then(E.points x==0) else(E.code x==9)&&iW (E.kind x) (E.points x))
def im (n:Int):Bool:=af n 1 1000
def bK (x y:EntryT):Bool:=E.race x==E.race y&&E.boat x==E.boat y&&E.rev x==E.rev y
def nD (h:List EntryT) (x:EntryT):Bool:=h.any λy=>bK y x
def gP (b:Int):List EntryT→List EntryT→Bool|_,[]=>true|h,x::r=>fT b x&&im (E.rev x)&&!nD h x&&gP b (h++[x]) r
def dC (b s:Int) (h:List EntryT):Bool:=af b 1 16&&af s 0 1&&decide (h.length≤400)&&gP b [] h
structure cE (b s : Int) (xs : List EntryT) : Prop where
 b1 : 1 ≤ b
 b2 : b ≤ 16
 s0 : 0 ≤ s
 s1 : s ≤ 1
 len : xs.length ≤ 400
 ent : ∀x ∈ xs, fT b x = true ∧ 1 ≤ E.rev x ∧ E.rev x ≤ 1000
 key : xs.Pairwise λx y=>bK x y = false
theorem iI {x y:EntryT}:bK x y=true↔E.race x=E.race y∧E.boat x=E.boat y∧E.rev x=E.rev y:=by{
 unfold bK;simp[and_assoc]}
theorem kO (b:Int):∀(F B:List EntryT),gP b B F=true↔(∀x∈F,fT b x=true∧im (E.rev x)=true)∧(∀x∈F,∀y∈B,bK y x=false)∧F.Pairwise λx y=>bK x y=false:=by{
 intro F
 induction F with
 | nil=>intro B;simp[gP]
 | cons x r O=>{
 intro B;rw[gP,Bool.and_eq_true,O,List.pairwise_cons];have N:(!nD B x)=true↔∀y∈B,bK y x=false:=by{
 unfold nD;simp[List.any_eq_false]}
 simp only[Bool.and_eq_true,N,List.mem_append,List.mem_cons,List.not_mem_nil,or_false];constructor
 {
 rintro⟨⟨⟨G,H⟩,I⟩,J,L,M⟩;refine⟨λy h=>?_,λy h z u=>?_,λy h=>L y h x (.inr rfl),M⟩
 {
 rcases h with rfl|h
 {exact⟨G,H⟩}
 {exact J y h}}
 {
 rcases h with rfl|h
 {exact I z u}
 {exact L y h z (.inl u)}}}
 {
 rintro⟨G,H,I,J⟩;refine⟨⟨G x (.inl rfl),H x (.inl rfl)⟩,λy h=>G y (.inr h),λy h z u=>?_,J⟩;rcases u with u|rfl
 {exact H y (.inr h) z u}
 {exact I y h}}}}
theorem fA {b s:Int}{u:List EntryT}(h:dC b s u=true):cE b s u:=by{
 unfold dC at h;simp only[Bool.and_eq_true,decide_eq_true_eq] at h;obtain⟨⟨⟨H,I⟩,J⟩,L⟩:=h;have B:=ai.1 H;have F:=ai.1 I;obtain⟨a,_,c⟩:=(kO b u []).1 L;exact⟨B.1,B.2,F.1,F.2,J,λx G=>⟨(a x G).1,ai.1 (a x G).2⟩,c⟩}
theorem cE.regB {b s:Int}{B:List EntryT}(h:cE b s B):dC b s B=true:=by{
 unfold dC;rw[ai.2 ⟨h.b1,h.b2⟩,ai.2 ⟨h.s0,h.s1⟩,decide_eq_true h.len,(kO b B []).2 ⟨λx u=>⟨(h.ent x u).1,ai.2 (h.ent x u).2⟩,λx u y F=>(by cases F),h.key⟩];rfl}
def dS (race boat:Int) (h:List EntryT):List EntryT:=h.filter λx=>E.race x==race&&E.boat x==boat
def ex (h:List EntryT) (race boat:Int):List EntryT:=(dS race boat h).mergeSort λx y=>decide (E.rev x≤E.rev y)
theorem zC {h u:List EntryT}(G:h.Perm u)(B:h.Pairwise λx y=>E.rev x<E.rev y)(F:u.Pairwise λx y=>E.rev x<E.rev y):h=u:=G.eq_of_pairwise (λa b _ _ H I=>by omega) B F
def IS (n:Int):Int:=if n<0 then -1 else if n=0 then 0 else 1
theorem FP (n:Int)(w:World):Calls prog 89 #[n] w λe w'=>e=.returned (.int .i64 (IS n))∧w=w':=by{
 unfold IS;rcases (by omega:n<0∨n=0∨0<n) with h|h|h
 {
 rw[if_pos h];go_enter func89,ntmps89;go_wp2_with fail
 go_ret;refine⟨dK ?_,rfl⟩;first|omega|rfl|(simp<;>omega)}
 {
 subst h;go_enter func89,ntmps89;go_wp2_with fail
 go_ret;exact⟨rfl,rfl⟩}
 {
 rw[if_neg (by omega),if_neg (by omega)];go_enter func89,ntmps89;go_wp2_with fail
 go_ret;refine⟨dK ?_,rfl⟩;first|omega|rfl|(simp<;>omega)}}
def rL (x:EntryT):Prop:=0≤E.race x∧E.race x≤11∧0≤E.boat x∧E.boat x≤15∧1≤E.rev x∧E.rev x≤1000
def fH (x:EntryT):Int:=1000000*E.race x+10000*E.boat x+E.rev x
theorem y_ {x y:EntryT}(h:rL x)(u:rL y):fH x=fH y↔bK x y=true:=by{
 obtain⟨_,_,a3,a4,a5,_⟩:=h;obtain⟨_,_,_,_,_,_⟩:=u;unfold fH;rw[iI];constructor
 {intro B;omega}
 {rintro⟨_,_,_⟩;omega}}
theorem yQ {b:Int}{x:EntryT}(F:b≤16)(h:fT b x=true)(u:1≤E.rev x)(B:E.rev x≤1000):rL x:=by{
 unfold fT at h;simp only[Bool.and_eq_true] at h;have r:=ai.1 h.1.1.1;have q:=ai.1 h.1.1.2;exact⟨r.1,r.2,q.1,by omega,u,B⟩}
theorem mC (x0 x1 x2 x3 x4 x5 x6 h u B F G H I:Int)(hx:rL (x0,x1,x2,x3,x4,x5,x6))(hy:rL (h,u,B,F,G,H,I))(M:World):Calls prog 57 #[.agg #[x0,x1,x2,x3,x4,x5,x6],.agg #[h,u,B,F,G,H,I]] M λe w'=>e=.returned (.int .i64 (IS (fH (x0,x1,x2,x3,x4,x5,x6)-fH (h,u,B,F,G,H,I))))∧∃q ad,w'=grow (M.drewN q) ad:=by{
 obtain⟨O,R,a3,a4,a5,T⟩:=hx;obtain⟨U,V,W,Y,Z,b6⟩:=hy;simp only[E.race,E.boat,E.rev] at O R a3 a4 a5 T U V W Y Z b6;have J:=hI (show fH (x0,x1,x2,x3,x4,x5,x6)-fH (h,u,B,F,G,H,I)=1000000*(x0-h)+10000*(x1-u)+x2-B from by unfold fH;simp only[E.race,E.boat,E.rev];omega);rw[J.out];generalize N:IS (1000000*(x0-h)+10000*(x1-u)+x2-B)=r;have L:=hI (λw=>FP (1000000*(x0-h)+10000*(x1-u)+x2-B) w);rw[N] at L;clear N J;go_enter func57,ntmps57;go_wp2_with(go_at_call 89;refine(L _).mono ?_;rintro e w'⟨rfl,rfl⟩)
 go_ret;exact⟨rfl,0,_,by rw[alloc_eq_grow,alloc_eq_grow,grow_grow];rfl⟩}
theorem qw (x0 x1 x2 x3 x4 x5 x6 h u B F G H I:Int)(w:World):Calls prog 59 #[.agg #[x0,x1,x2,x3,x4,x5,x6],.agg #[h,u,B,F,G,H,I]] w λe w'=>e=.returned (.bool (bK (x0,x1,x2,x3,x4,x5,x6) (h,u,B,F,G,H,I)))∧BL w w':=by{
 have M:=hI (show ∀J L,BL w ((w.alloc J).alloc L) from λJ L=>(za _ _).alloc (by simp) _);have J:bK (x0,x1,x2,x3,x4,x5,x6) (h,u,B,F,G,H,I)=(x0==h&&x1==u&&x2==B):=rfl;rw[J];clear J;go_enter func59,ntmps59;go_wp2_with fail
 all_goals{
 go_ret;refine⟨ak ?_,M _ _⟩;simp_all}}
attribute [local go_sem] Oper.semAt_some
def Ej (x:EntryT):Array Value:=#[.agg (po x).toArray]
theorem zZ (M:Fence)(n:Nat)(hF:M.fn 88)(bb:M.round=none)(hn:1≤n)(l R J:Nat)(A:OA)(B a8:Nat)(L:List EntryT)(H V:List EntryT→World→Prop)(h:World)(hJ:AbidesFrom h.heap.size H)(hY:∀G x h,H G h→G.length<B→YieldAt M (n-1) prog l (Ej x) h λe I=>(e=.returned (.bool true)∧H (G++[x]) I∧Below J h I)∨(e=.returned (.bool false)∧V (G++[x]) I))(ba:J≤h.heap.size)(bo:h.cell? ⟨R,0,none⟩=some (.slice A B a8))(O:Rd h 7 A B (ents L))(hb:0<B→∀b o,A=some ⟨b,o,none⟩→b<J)(h0:H [] h):CallsIn M n prog 88 #[.func (.yield l) #[] #[],.pointer (some ⟨R,0,none⟩)] h λe I=>(∃v,e=.returned v)∧((∃u,u=L∧H u I)∨(∃G,G <+: L∧V G I)):=by{
 have F:=O.len_ent;have bp:=O.le;refine callsIn_of_wp func88 rfl hF ?_ bb;simp only[ntmps88,List.size_toArray,qO,qT,Nat.reduceAdd,Nat.reduceSub,Array.replicate_succ,Array.replicate_zero,List.push_toArray,List.append_toArray,List.nil_append,List.cons_append];gi_wp2
 gi_loopw [7] (λi wr=>∃k:Nat,k≤B∧i=.int .i64 k∧H (L.take k) wr∧Below J h wr) (λi _=>B-(intOf i).toNat)
 case atStart=>exact⟨0,qH _,rfl,h0,qB _ _⟩
 case round=>(
 obtain⟨k,_,rfl,N,u⟩:=hrel;have T:=hI F;clear F;by_cases a':k<B
 {
 obtain⟨b,o,x0,x1,x2,x3,x4,x5,x6,rfl,hx,hd,Y,Z,ad,ar,av,a1,a2⟩:=O.ent a';have F:=hb (by omega) b o rfl;have a6:=am hx;have U:=hI a6;have e0:=(u.cell (p:=⟨b,o+k*7,none⟩) F).trans Y;have e1:=(u.cell (p:=⟨b,o+k*7+1,none⟩) F).trans Z;have e2:=(u.cell (p:=⟨b,o+k*7+2,none⟩) F).trans ad;have e3:=(u.cell (p:=⟨b,o+k*7+3,none⟩) F).trans ar;have e4:=(u.cell (p:=⟨b,o+k*7+4,none⟩) F).trans av;have e5:=(u.cell (p:=⟨b,o+k*7+5,none⟩) F).trans a1;have e6:=(u.cell (p:=⟨b,o+k*7+6,none⟩) F).trans a2;have W:=hJ _ _ (wr.alloc (.cells #[x0,x1,x2,x3,x4,x5,x6] 25)) none N (World.grownBy_alloc _ _ _) (λr e=>by cases e);obtain⟨_,tmps,assign,body,hy,hR⟩:=hY _ (x0,x1,x2,x3,x4,x5,x6) _ W (by rw[qS,T.out];omega);simp only[Ej,po] at hy;have bk:J≤wr.heap.size:=qM ba u.size;have a7:=hI u;clear hx hd Y Z ad ar av a1 a2 a6 u N W;gi_wp2
 refine hR.mono ?_;rintro e W3 (⟨rfl,W,Z⟩|⟨rfl,Y⟩)
 {
 gi_wp2
 go_roundw
 case rel=>exact⟨k+1,by omega,by go_num,by rw[U.out];exact W,a7.trans (((qB J wr).alloc bk _).trans Z)⟩
 case measure=>simp[intOf]<;>omega}
 {
 gi_wp2
 refine bodyPost_ret (results_none rfl _ _ _) rfl ?_;exact⟨⟨_,rfl⟩,.inr ⟨_,by rw[←U.out];exact List.take_prefix _ _,Y⟩⟩}}
 {
 obtain rfl:k=B:=by omega
 have F:L.take k=L:=qI (by rw[T.out];exact qA _);rw[F] at N;clear F;gi_wp2
 go_end0;exact⟨⟨_,rfl⟩,.inl ⟨_,rfl,N⟩⟩})}
theorem Eq (h:Fence)(n:Nat)(F:h.fn 56)(G:h.round=none)(A:OA)(B u:Nat)(w:World):CallsIn h n prog 56 #[.slice A B u] w λe w'=>e=.returned (.func (.func 88) #[] #[.pointer (some ⟨w.heap.size,0,none⟩)])∧w'=w.alloc (.cells #[.slice A B u] 30):=by{
 refine callsIn_of_wp func56 rfl F ?_ G;simp only[ntmps56,List.size_toArray,qO,qT,Nat.reduceAdd,Nat.reduceSub,Array.replicate_succ,Array.replicate_zero,List.push_toArray,List.append_toArray,List.nil_append,List.cons_append];gi_wp2
 go_ret;exact⟨rfl,rfl⟩}
theorem wU (B:Fence)(n:Nat)(R:B.fn 88)(ad:B.round=none)(W:1≤n)(h F:Nat)(A:OA)(u I:Nat)(G:List EntryT)(w:World)(O:h<w.heap.size)(Y:F≤w.heap.size)(hc:w.cell? ⟨h,0,none⟩=some (.slice A u I))(Z:Rd w 7 A u (ents G))(V:0<u→∀b o,A=some ⟨b,o,none⟩→b<F):SeqStopsK B n prog 88 #[.pointer (some ⟨h,0,none⟩)] Ej (Below F) (λH=>H=G) (λH=>H <+: G) u w:=λl J L M H T _ U N=>zZ B n R ad W l h F A u I G J L M T U (qM Y H.size) ((H.cell (p:=⟨h,0,none⟩) O).trans hc) (Z.below H) V N
section
variable {α : Type} [Inhabited α] {f : α → List Value} {k : Nat}
theorem tc (B:∀x,(f x).length=k)(d:Array α):(flatK f k d).toList=d.toList.flatMap f:=by{
 apply List.ext_getElem?;intro t;by_cases h:t<d.size*k
 {
 have I:0<k:=by rcases Nat.eq_zero_or_pos k with u|u;{subst u;simp at h};{exact u}
 have H:t/k<d.size:=Nat.div_lt_of_lt_mul (by rw[Nat.mul_comm];exact h);have e:t=t/k*k+t%k:=by have:=Nat.div_add_mod t k;rw[Nat.mul_comm] at this;exact this.symm
 have L:d.toList[t/k]?=some d[t/k]:=by simp[H]
 have F:=sH B L (j:=t%k) (Nat.mod_lt t I);rw[←e] at F;rw[F,Array.getElem?_toList];have J:(flatK f k d)[t]?=some ((flatK f k d)[t]!):=by{rw[getElem!_pos _ t (by simpa using h),Array.getElem?_eq_getElem]}
 rw[J,get_flatK _ _ _ _ h,getElem!_pos d (t/k) H];have G:t%k<(f d[t/k]).length:=by rw[B];exact Nat.mod_lt t I
 rw[qG G,getElem!_pos (f d[t/k]) (t%k) G]}
 {rw[qY (by simp;omega),qY (by rw[fp B];simp;omega)]}}
theorem BK (I:∀x,(f x).length=k){w:World}{base e g n c:Nat}{h:List α}(u:w.ownsRow base e k (.slice (some ⟨g,0,none⟩) n c) n (h.flatMap f)):HoldsK f k w g 0 h.toArray:=by{
 intro j G;rw[size_flatK] at G;have B:(flatK f k h.toArray).toList[j]?=some ((flatK f k h.toArray)[j]!):=by{rw[Array.getElem?_toList,getElem!_pos _ j (by simpa using G),Array.getElem?_eq_getElem]}
 rw[tc I] at B;have F:=u.cells (g:=g) rfl j _ B;have H:(⟨g,0,none⟩:Addr).add j=⟨g,0+j,none⟩:=by unfold Addr.add;split<;>simp_all
 rw[H] at F;exact⟨F,by rw[Nat.zero_add];exact u.frozenAt j⟩}
theorem rp {w:World}{g n:Nat}{B:Array Obj}(d:Array α):w.grownBy (sortWorldK f k w g 0 n d B) (some g):=by{
 refine⟨rfl,rfl,rfl,by simp[sortWorldK,putRowK,putRow,mapBlock,Sort.ahead],λj h u=>?_⟩;unfold sortWorldK;rw[heap_grow_old _ _ (by simpa[putRowK,putRow,mapBlock,Sort.ahead] using h)];have:g≠j:=λe=>u (by rw[e])
 simp[putRowK,putRow,mapBlock,Sort.ahead,Array.getElem?_modify,this]}
theorem xT (G:∀x,(f x).length=k){w:World}{base e g m c n:Nat}{os:Array Obj}{R ys:List α}(J:w.ownsRow base e k (.slice (some ⟨g,0,none⟩) m c) m (R.flatMap f))(N:ys.length=R.length):(sortWorldK f k w g 0 n ys.toArray os).ownsRow base e k (.slice (some ⟨g,0,none⟩) m c) m (ys.flatMap f):=by{
 have B:=J.1;rw[fp G] at B;refine⟨by rw[fp G,N];exact B,?_⟩;rcases J.2 with⟨I,_⟩|⟨_,_,u,I,T,M,O,V,L,_⟩
 {cases I}
 injection I with h _ U;injection h with h;injection h with h;subst h U;have W:g<w.heap.size:=(Array.getElem?_eq_some_iff.1 M).1;refine .inr ⟨g,c,putCells id 0 (flatK f k ys.toArray) u,rfl,T,?_,O,V,by simp[putCells,L],?_⟩
 {
 unfold sortWorldK;rw[heap_grow_old _ _ (by simpa[putRowK,putRow,mapBlock,Sort.ahead] using W)];simp[putRowK,putRow,mapBlock,Sort.ahead,Array.getElem?_modify,M,onCells]}
 {
 have H:(flatK f k ys.toArray).size=m*k:=by rw[size_flatK];simp only[List.size_toArray];rw[N,B]
 have Y:m*k≤u.size:=by rw[L];exact Nat.mul_le_mul_right k O
 rw[←tc G ys.toArray];apply List.ext_getElem?;intro j;by_cases F:j<m*k
 {
 rw[List.getElem?_take_of_lt F,Array.getElem?_toList,Array.getElem?_toList];simp only[putCells,Array.getElem?_mapIdx];rw[Array.getElem?_eq_getElem (show j<u.size by omega)];simp only[Option.map_some,Nat.zero_add,qH,true_and,Nat.sub_zero,H,F,if_true,id];rw[getElem!_pos _ j (by rw[H];exact F),Array.getElem?_eq_getElem]}
 {rw[List.getElem?_take_eq_none (by omega),qY (by simp only[Array.length_toList];rw[H];omega)]}}}
end
theorem zU {α:Type}[Inhabited α]{d d':Array α}(B:PermIn 0 d.size d d'):d'.toList.Perm d.toList:=by{
 obtain⟨F,_,G⟩:=B;have h:d.extract 0 d.size=d:=by simp
 have u:d'.extract 0 d.size=d':=by rw[←F];simp
 rwa [h,u] at G}
theorem vR {α:Type}[Inhabited α]{u:α→α→Bool}{d:Array α}{n:Nat}(J:n=d.size)(B:SortedIn u 0 n d):d.toList.Pairwise λx y=>u y x=false:=by{
 subst J;rw[List.pairwise_iff_getElem];intro i j F I H;have G:i<d.size:=by simpa using F
 have h:j<d.size:=by simpa using I
 have:=B i j (qH _) H h;rw[getElem!_pos d i G,getElem!_pos d j h] at this;simpa using this}
abbrev EV:Type:={ x:EntryT // rL x }
instance : Inhabited EV := ⟨⟨(0, 0, 1, 0, 0, 0, 0), by unfold rL; simp [E.race, E.boat, E.rev]⟩⟩
def Es (x:EV):List Value:=po x.1
def F_ (x y:EV):Int:=IS (fH x.1-fH y.1)
theorem th (x:EV):(Es x).length=7:=rfl
theorem FE (x:EV):∀v∈Es x,v.oneCell'=true:=by{
 intro v h;obtain⟨⟨x0,x1,x2,x3,x4,x5,x6⟩,_⟩:=x;simp[Es,po] at h;rcases h with rfl|rfl|rfl|rfl|rfl|rfl|rfl<;>rfl}
theorem Ji (x y:EV):ltOf F_ x y=decide (fH x.1<fH y.1):=by{
 unfold ltOf F_ IS;by_cases h:fH x.1<fH y.1
 {rw[if_pos (by omega)];simp[h]}
 {
 rw[if_neg (by omega)];by_cases u:fH x.1-fH y.1=0
 {rw[if_pos u];simp[h]}
 {rw[if_neg u];simp[h]}}}
theorem Jo : SWO (ltOf F_) where
 irrefl x := by rw[Ji]; simp
 trans x y z h1 h2 := by rw[Ji] at *; simp at *; omega
 ntrans x y z h1 h2 := by rw[Ji] at *; simp at *; omega
theorem Hl:∀(h:List EntryT),(∀x∈h,rL x)→∃u:List EV,u.map (·.1)=h:=by{
 intro h
 induction h with
 | nil=>intro _;exact⟨[],rfl⟩
 | cons x r H=>{
 intro B;obtain⟨u,F⟩:=H λy G=>B y (List.mem_cons_of_mem _ G)
 exact⟨⟨x,B x (List.mem_cons_self ..)⟩::u,by rw[List.map_cons,F]⟩}}
theorem uL (h:List EV):ents (h.map (·.1))=h.flatMap Es:=by{
 unfold ents;rw[List.flatMap_map];rfl}
def yK:Go.Shelf.Ren:=⟨fun|6=>87|15=>130|14=>129|28=>191|29=>192|20=>183|21=>184|22=>185|23=>186|24=>187|25=>188|26=>189|27=>190|46=>253|47=>254|48=>255|49=>256|50=>257|57=>302|n=>n,fun|22=>30|24=>25|25=>84|3=>3|39=>165|0=>0|53=>218|55=>167|4=>4|46=>211|45=>210|50=>215|5=>5|9=>9|66=>257|70=>261|76=>292|77=>293|n=>n,fun|n=>n⟩
theorem BS : Go.Proofs.SlLaysF0.n6 prog yK := {
 mixed := by kernel_rfl,
 f6 := ⟨f87.name, by decide, func87.trans (congrArg some (by kernel_rfl))⟩,
 f14 := ⟨f129.name, by decide, func129.trans (congrArg some (by kernel_rfl))⟩,
 f15 := func130.trans (congrArg some (by kernel_rfl)),
 f20 := ⟨f183.name, by decide, func183.trans (congrArg some (by kernel_rfl))⟩,
 f21 := ⟨f184.name, by decide, func184.trans (congrArg some (by kernel_rfl))⟩,
 f22 := ⟨f185.name, by decide, func185.trans (congrArg some (by kernel_rfl))⟩,
 f23 := ⟨f186.name, by decide, func186.trans (congrArg some (by kernel_rfl))⟩,
 f24 := ⟨f187.name, by decide, func187.trans (congrArg some (by kernel_rfl))⟩,
 f25 := ⟨f188.name, by decide, func188.trans (congrArg some (by kernel_rfl))⟩,
 f26 := ⟨f189.name, by decide, func189.trans (congrArg some (by kernel_rfl))⟩,
 f27 := ⟨f190.name, by decide, func190.trans (congrArg some (by kernel_rfl))⟩,
 f28 := func191.trans (congrArg some (by kernel_rfl)),
 f29 := func192.trans (congrArg some (by kernel_rfl)),
 f46 := ⟨f253.name, by decide, func253.trans (congrArg some (by kernel_rfl))⟩,
 f47 := func254.trans (congrArg some (by kernel_rfl)),
 f48 := func255.trans (congrArg some (by kernel_rfl)),
 f49 := ⟨f256.name, by decide, func256.trans (congrArg some (by kernel_rfl))⟩,
 f50 := ⟨f257.name, by decide, func257.trans (congrArg some (by kernel_rfl))⟩,
 f57 := ⟨f302.name, by decide, func302.trans (congrArg some (by kernel_rfl))⟩,
 t0 := underlying0,
 a0 := isAgg0,
 z0 := sizeOf0,
 v0 := zeroValue0,
 t3 := underlying3,
 a3 := isAgg3,
 z3 := sizeOf3,
 v3 := zeroValue3,
 t4 := underlying4,
 a4 := isAgg4,
 z4 := sizeOf4,
 v4 := zeroValue4,
 t5 := underlying5,
 a5 := isAgg5,
 z5 := sizeOf5,
 v5 := zeroValue5,
 t9 := underlying9,
 a9 := isAgg9,
 z9 := sizeOf9,
 v9 := zeroValue9,
 t22 := underlying30,
 a22 := isAgg30,
 z22 := sizeOf30,
 v22 := zeroValue30,
 t25 := underlying84,
 a25 := isAgg84,
 z25 := sizeOf84,
 v25 := zeroValue84,
 t39 := underlying165,
 a39 := isAgg165,
 z39 := sizeOf165,
 v39 := zeroValue165,
 t45 := underlying210,
 a45 := isAgg210,
 z45 := sizeOf210,
 v45 := zeroValue210,
 t46 := underlying211,
 a46 := isAgg211,
 z46 := sizeOf211,
 v46 := zeroValue211,
 t50 := underlying215,
 a50 := isAgg215,
 z50 := sizeOf215,
 v50 := zeroValue215,
 t53 := underlying218,
 a53 := isAgg218,
 z53 := sizeOf218,
 v53 := zeroValue218,
 t55 := underlying167,
 a55 := isAgg167,
 z55 := sizeOf167,
 v55 := zeroValue167,
 t66 := underlying257,
 a66 := isAgg257,
 z66 := sizeOf257,
 v66 := zeroValue257,
 t70 := underlying261,
 a70 := isAgg261,
 z70 := sizeOf261,
 v70 := zeroValue261,
 t76 := underlying292,
 a76 := isAgg292,
 z76 := sizeOf292,
 v76 := zeroValue292,
 t77 := underlying293,
 a77 := isAgg293,
 z77 := sizeOf293,
 v77 := zeroValue293 }
theorem ET (h F size:Nat)(w:World):CmpLays prog 57 #[] Es 7 F_ h F size w:=λ_ _ _ _ x y=>by{
 obtain⟨⟨x0,x1,x2,x3,x4,x5,x6⟩,u⟩:=x;obtain⟨⟨G,H,I,J,L,M,N⟩,B⟩:=y;exact mC x0 x1 x2 x3 x4 x5 x6 G H I J L M N u B _}
def Hv (w:World) (base:Nat) (A:OA) (n c:Nat) (u:List EntryT) (e:Ending) (w':World):Prop:=e=.returned (.tuple #[])∧∃h:List EntryT,h.Perm u∧(h.Pairwise λx y=>fH x≤fH y)∧w'.ownsRow base 25 7 (.slice A n c) n (ents h)∧w.grownBy w' (Value.slice A n c).ownBlock
theorem nY (base:Nat)(A:OA)(n c:Nat)(B:List EntryT)(U:∀x∈B,rL x)(hn:n≤1048576)(w:World)(u:w.ownsRow base 25 7 (.slice A n c) n (ents B)):Calls prog 87 #[.slice A n c,.func (.func 57) #[] #[]] w (Hv w base A n c B):=by{
 have G:B.length=n:=aN bw (by decide) u;rcases Nat.eq_zero_or_pos n with L|L
 {
 subst L;obtain rfl:B=[]:=List.eq_nil_of_length_eq_zero G;have h:=AnyF.slices_SortFunc_none { BS with } A c (.func (.func 57) #[] #[]) w;change Calls prog 87 _ _ _ at h;refine h.mono ?_;rintro e w'⟨rfl,rfl⟩;exact⟨rfl,[],.nil,.nil,u,World.grownBy.refl _ _⟩}
 {
 obtain⟨F,rfl⟩:=Hl B U;rw[uL] at u;rw[qV] at G;obtain⟨g,rfl,T⟩:∃g,A=some ⟨g,0,none⟩∧g<w.heap.size:=by{
 rcases u.2 with⟨h,_⟩|⟨g,_,_,h,_,I,_⟩
 {omega}
 {
 injection h with H;exact⟨g,H,(Array.getElem?_eq_some_iff.1 I).1⟩}}
 have R:=BK th u;have O:∀J w,(callFunc 57 J).run prog w=.ok (.enter 57 J) w:=enters_of func57 (by kernel_rfl) rfl;have H:=AnyQ.slices_SortFunc BS 7 isAgg25 sizeOf25 Es th FE F_ Jo 57 #[] g 0 c F.toArray w O (ET g 0 F.toArray.size w) R T (by simp only[List.size_toArray];omega);change Calls prog 87 _ _ _ at H;simp only[List.size_toArray,G] at H;refine H.mono ?_;rintro e w'⟨rfl,h,q,Z,V,W,rfl⟩;have N:=zU (d:=F.toArray) (d':=h) (by simp only[List.size_toArray,G];exact V);have M:h.toList.length=F.length:=by have:=N.length_eq;simpa using this
 have Y:=vR (n:=n) (by have:h.size=F.length:=(by simpa using M);omega) W;refine⟨rfl,h.toList.map (·.1),N.map _,?_,?_,rp h⟩
 {
 rw[List.pairwise_map];refine Y.imp ?_;intro x y I;rw[Ji] at I;simp at I;exact I}
 {
 rw[uL];have:=xT (n:=q) (os:=Z) th u (ys:=h.toList) M;simpa using this}}}
attribute [local go_sem] Oper.semAt_some
def Js (B:Nat) (u:Value) (x:EntryT) (G:Act) (F:World):Prop:=∃h,B<h∧aO F h (po x).toArray 25∧G={ tmps:=#[.slice none 0 0,u,.pointer (some ⟨B,0,none⟩),undef,.slice none 0 0,.pointer (some ⟨h,0,none⟩),u,.agg (po x).toArray,undef,undef,undef,undef,undef],defers:=[] }
theorem wH (I:Fence)(n:Nat)(hF:I.fn 128)(ad:I.round=none)(hn:3≤n)(g:Nat)(lb:Array Value)(av:I.fn g)(eg:∀U w,(callFunc g U).run prog w=.ok (.enter g U) w)(Sp:List EntryT→Prop)(R:Nat)(hN:R≤1048576)(O:List EntryT)(w:World)(ba:SeqStopsK I (n-1) prog g lb Ej (Below w.heap.size) (λys=>ys=O) Sp R w):CallsIn I n prog 128 #[.slice none 0 0,.func (.func g) #[] lb] w λe T=>∃v,e=.returned v∧T.ownsRow w.heap.size 25 7 v O.length (ents O)∧BL w T:=by{
 have M:1≤n:=by omega
 obtain⟨i0,hi,bk,bo,bp⟩:=info_parts iT;refine callsIn_of_wp_marks func128 rfl hF ?_ ad;simp only[ntmps128,List.size_toArray,qO,qT,Nat.reduceAdd,Nat.reduceSub,Array.replicate_succ,Array.replicate_zero,List.push_toArray,List.append_toArray,List.nil_append,List.cons_append];gi_wp2
 have bO:=Boxed.new w 30 (.slice none 0 0);have V:BL w (w.alloc (.cells #[.slice none 0 0] 30)):=(qB _ w).alloc (qA _) _;refine wpIn_rangeFunc_ownH ad M (gf:=g) (lb:=lb) rfl av eg ba belowK_t (belowK_b (by simp)) V (λ_=>rfl) (λu h=>(∃v,Boxed h w.heap.size 30 v∧h.ownsRow w.heap.size 25 7 v u.length (ents u)∧True)∧BL w h) (λ_ _ _=>False) (OwnFrom.and (Own.from (holdsRow_own w.heap.size w.heap.size 30 25 7 (λu=>u.length) (λu=>ents u) (λ_ _=>True)) _) (ownFrom_below (qA _) (by simp))) (λ_ _ _ _ _ B _ _=>B) ⟨⟨_,bO,World.ownsRow_nil _ _ _ _,trivial⟩,V⟩ (λx L h=>Js w.heap.size (.func (.func g) #[] lb) x L h) (by{
 rintro x L s X J W⟨G,M,B,ha⟩ H Z;exact⟨G,M,(H.block G B.lt (λe=>by obtain⟨_,o,F,N⟩:=Z G e.symm;rw[show X.heap[G]?=_ from B] at F;cases F;cases N)).trans B,ha⟩}) ?assign ?body ?done ?stop
 case assign=>(
 rintro l u⟨x0,x1,x2,x3,x4,x5,x6⟩ h K⟨⟨v,F,H,_⟩,B⟩ J;simp only[Ej,po];gi_wp2
 exact J _ _ ((KeepsOthers.alloc _ _).from _) ((qB _ h).alloc B.size _) ⟨⟨v,F.alloc _,H.alloc _,trivial⟩,B.alloc B.size _⟩ ⟨h.heap.size,F.lt,aO.new _ _ _,rfl⟩)
 case body=>(
 rintro l u⟨x0,x1,x2,x3,x4,x5,x6⟩ L h hl Z⟨⟨v,F,H,_⟩,B⟩⟨G,_,a1,rfl⟩ bt;have N:=F.cell;have a2:aO h G #[x0,x1,x2,x3,x4,x5,x6] 25:=a1;obtain⟨_,_,_,_,_,_,_,_⟩:=a2.f7;simp only[po];gi_wp2_with (gi_at_builtin;refine wpListIn_append_own _ rfl _ _ 30 rfl w.heap.size 25 i0 (.agg #[(0:Int),(0:Int),(0:Int),(0:Int),(0:Int),(0:Int),(0:Int)]) 7 56 underlying30 hi bk bo bp rfl (by decide) _ _ _ rfl (H.alloc _) ⟨h.heap.size,0,none⟩ 1 1 [.int .i64 x0,.int .i64 x1,.int .i64 x2,.int .i64 x3,.int .i64 x4,.int .i64 x5,.int .i64 x6] rfl rfl (World.news_of_block (cs:=#[x0,x1,x2,x3,x4,x5,x6]) (heap_alloc_new _ _)) (by intro Y W;simp at W;rcases W with rfl|rfl|rfl|rfl|rfl|rfl|rfl<;>rfl) (by unfold maxLen;omega) (by omega) (by have:=B.size;simp;omega) ?_;intro v' w1 Y a6 _;obtain⟨_,_,rfl⟩:=ownsRow_succ Y;obtain⟨ar,bb,a8,a7,W⟩:=F.appended (by decide) H B.size (qA _) Y a6;have bq:=ar.cell;have bs:=ar.frozen)
 have Y:ents (u++[(x0,x1,x2,x3,x4,x5,x6)])=ents u++[.int .i64 x0,.int .i64 x1,.int .i64 x2,.int .i64 x3,.int .i64 x4,.int .i64 x5,.int .i64 x6]:=by unfold ents;rw[List.flatMap_append];rfl
 exact⟨a7.from _,W,⟨_,bb,by rw[Y,qJ];exact a8,trivial⟩,B.trans W⟩)
 case done=>(
 rintro D ys h W rfl⟨⟨v,F,H,_⟩,B⟩ J;have N:=F.cell;gi_wp2
 refine⟨by simp,.inl ⟨_,_,rfl,run_takeDeferred J,?_⟩⟩;exact⟨_,results_tmp rfl _ _ _,v,rfl,ownsRow_putObj H _ J rfl,B.trans (belowK_b (w:=w) (qA _) h D _ _ (by simp at W;omega) J rfl rfl)⟩)
 case stop=>(
 rintro D c u h _ _ W _;exact W.elim)}
theorem Ak (h:Fence)(n:Nat)(L:h.fn 86)(M:h.fn 128)(I:h.round=none)(W:4≤n)(g:Nat)(lb:Array Value)(N:h.fn g)(J:∀H w,(callFunc g H).run prog w=.ok (.enter g H) w)(F:List EntryT→Prop)(B:Nat)(O:B≤1048576)(u:List EntryT)(w:World)(U:SeqStopsK h (n-1-1) prog g lb Ej (Below w.heap.size) (λG=>G=u) F B w):CallsIn h n prog 86 #[.func (.func g) #[] lb] w λe G=>∃v,e=.returned v∧G.ownsRow w.heap.size 25 7 v u.length (ents u)∧BL w G:=by{
 have V:1≤n:=by omega
 refine callsIn_of_wp func86 rfl L ?_ I;simp only[ntmps86,List.size_toArray,qO,qT,Nat.reduceAdd,Nat.reduceSub,Array.replicate_succ,Array.replicate_zero,List.push_toArray,List.append_toArray,List.nil_append,List.cons_append];gi_wp2_with (gi_at_call 128;refine(wH h (n-1) M I (by omega) g lb N J F B O u _ U).mono ?_;rintro e w'⟨v,rfl,T,R⟩)
 go_ret;exact⟨v,rfl,T,R⟩}
theorem xo (A:OA)(u I:Nat)(F:List EntryT)(R:u≤1048576)(B:Nat)(w:World)(hc:w.cell? ⟨B,0,none⟩=some (.slice A u I))(G:Rd w 7 A u (ents F)):Calls prog 86 #[.func (.func 88) #[] #[.pointer (some ⟨B,0,none⟩)]] w λe H=>∃v,e=.returned v∧H.ownsRow w.heap.size 25 7 v u (ents F)∧BL w H:=by{
 have N:B<w.heap.size:=au hc;have O:=G.len_ent;have J:=Ak Fence.wide 9 trivial trivial rfl (by omega) 88 #[.pointer (some ⟨B,0,none⟩)] trivial (enters_of func88 (by kernel_rfl) rfl) (λh=>h <+: F) u R F w (wU Fence.wide 7 trivial rfl (by omega) B w.heap.size A u I F w N (qA _) hc G (λM b o e=>by{
 obtain⟨_,_,x0,x1,x2,x3,x4,x5,x6,h,_,_,L,_⟩:=G.ent (k:=0) M;rw[e] at h;injection h with h;injection h with h _;subst h;exact au L}))
 rw[O] at J;exact callsIn_wide.1 J}
def CY (w:World) (u:List EntryT) (e:Ending) (w':World):Prop:=∃A n c h,e=.returned (.slice A n c)∧h.Perm u∧(h.Pairwise λx y=>fH x≤fH y)∧w'.ownsRow w.heap.size 25 7 (.slice A n c) n (ents h)∧BL w w'
theorem oV {w:World}{base e s n:Nat}{v:Value}{B:List Value}(u:w.ownsRow base e s v n B):∃A c,v=.slice A n c:=by{
 rcases u.2 with⟨rfl,rfl⟩|⟨g,h,_,rfl,_⟩
 {exact⟨none,0,rfl⟩}
 {exact⟨some ⟨g,0,none⟩,h,rfl⟩}}
theorem tm (A:OA)(h J:Nat)(u:List EntryT)(V:∀x∈u,rL x)(M:h≤1048576)(F:Nat)(w:World)(hc:w.cell? ⟨F,0,none⟩=some (.slice A h J))(B:Rd w 7 A h (ents u)):Calls prog 55 #[.func (.func 88) #[] #[.pointer (some ⟨F,0,none⟩)],.func (.func 57) #[] #[]] w (CY w u):=by{
 have H:=hI (xo A h J u M F w hc B);clear hc B;go_enter func55,ntmps55;go_wp2_with fail
 refine H.mono ?_;rintro e Z⟨v,rfl,B,L⟩;obtain⟨N,T,rfl⟩:=oV B;have I:=hI (nY _ N h T u V M Z B);have G:=hI L;have O:=hI B;clear B L H;go_wp2_with fail
 refine I.mono ?_;rintro e w2⟨rfl,ys,W,Y,H,B⟩;have R:=hI H;have L:=hI (G.grown B G.size (λk U=>(O.lt k U).1));clear H B I;go_wp2_with fail
 go_ret;exact⟨_,_,_,ys,rfl,W,Y,R,L⟩}
def EO (w:World) (b s:Int) (h:List EntryT) (e:Ending) (w':World):Prop:=∃A n c,e=.returned (.agg #[b,s,.slice A n c])∧w'.ownsRow w.heap.size 25 7 (.slice A n c) n (ents h)∧n≤1048576∧BL w w'
theorem IsRow.u8 {w:World}{a:OA}{h J:Nat}{F:LI}(u:IsRow .u8 w a h J F):Rd w 1 a h (mQ (F.take h))∧∀c∈F.take h,0≤c∧c≤255:=by{
 rcases u with⟨rfl,rfl,rfl,rfl⟩|⟨x,rfl,_,L,_,I,M⟩
 {exact⟨⟨rfl,by omega,λu=>by omega⟩,λc B=>by simp at B⟩}
 {
 unfold maxLen at L;refine⟨⟨by simp[mQ];omega,by omega,λV=>?_⟩,?_⟩
 {
 have H:=I 0 (by omega);have O:x.add 0=x:=by simp[Addr.add]
 rw[O] at H;obtain⟨b,o,U⟩:=x;obtain rfl:U=none:=uQ H;refine⟨b,o,rfl,λi W G=>?_⟩;have T:i<(mQ (F.take h)).length:=by{
 rcases Nat.lt_or_ge i (mQ (F.take h)).length with u|u
 {exact u}
 {rw[qY u] at G;cases G}}
 have R:i<h:=by simp[mQ] at T;omega
 have B:=I i (by omega);have N:(⟨b,o,none⟩:Addr).add i=⟨b,o+i,none⟩:=by unfold Addr.add;split<;>simp_all
 rw[N] at B;rw[B,←G];simp[mQ,R,qG (show i<F.length by omega)]}
 {
 intro c B;have G:=M c (qi B);simp[Lit.wf,IntKind.min,IntKind.max,IntKind.signed,IntKind.bits] at G;omega}}}
end
def iv:List EntryT→Bool|x::y::r=>bK y x||iv (y::r)|_=>false
theorem iP {w:World}{u e s n c:Nat}{A:OA}{F:List Value}(B:w.ownsRow u e s (.slice A n c) n F):n≤c:=by{
 rcases B.2 with⟨h,_⟩|⟨g,_,_,h,_,_,_,_⟩
 {omega}
 {injection h with _ _ G;omega}}
def AX (u n:Nat) (w:World) (G:List EntryT) (e:Ending) (F:World):Prop:=∃h m B,e=.returned (.slice h m B)∧decide (m=n)=!iv G∧Below u w F
theorem r_ {h g:Nat}(F:List Value):∀{a w:World} (i:Nat),Below h a w→h≤g→Below h a (w.setCells g i F):=by{
 induction F with
 | nil=>intro a w i u _;exact u
 | cons v r G=>intro a w i u B;exact G (i+1) (u.setCell B _) B}
theorem rY {G g n c h m:Nat}{J:List Value}(w:World)(I:TypeId)(u:w.ownsRow G 25 7 (.slice (some ⟨g,0,none⟩) n c) n J)(L:h<n):(Builtin.clear_ #[30] I #[.slice (some ⟨g,h*7,none⟩) (n-h) m]).run prog w=.ok (.tuple #[]) (w.setCells g (h*7) (List.replicate ((n-h)*7) (.int .i64 0))):=by{
 have F:(Builtin.zeroCells (Value.agg #[(0:Int),(0:Int),(0:Int),(0:Int),(0:Int),(0:Int),(0:Int)]).cells (n-h)).toList=List.replicate ((n-h)*7) (.int .i64 0):=by{
 apply List.ext_getElem
 {simp[Builtin.zeroCells,Value.cells]}
 {
 intro i B H;simp only[Builtin.zeroCells,Value.cells,Array.toList_map,List.getElem_map,List.getElem_replicate];exact IG _ _ (by simp;omega)}}
 have B:=run_storeCells_cells (P:=prog) g (h*7) (List.replicate ((n-h)*7) (.int .i64 0)) 0 w (λj H=>by{
 rw[List.length_replicate] at H;have M:=u.1;have:=u.cellAt (h*7+j) (by omega);rw[qW,this,qG (by omega)];rfl}) (λj _=>u.frozenAt _) (by intro v H;rw[List.eq_of_mem_replicate H];rfl)
 simp only[qW] at B;obtain⟨q,H⟩:∃q,n-h=q+1:=⟨n-h-1,by omega⟩;rw[H] at B F ⊢;simp[Builtin.clear_,run_underlying underlying30,zeroValue25,F,B]}
theorem xU (I:Nat)(A:OA)(n c:Nat)(H:List EntryT)(hn:n≤1048576)(w:World)(b':I≤w.heap.size)(u:w.ownsRow I 25 7 (.slice A n c) n (ents H)):Calls prog 58 #[.slice A n c,.func (.func 59) #[] #[]] w (AX I n w H):=by{
 have h:=aN bw (by decide) u;have HL:=hI h;have cL:=iP u;by_cases h2:n<2
 {
 have cp:iv H=false:=by{
 match H,h with
 | [],_=>rfl
 | [x],_=>rfl
 | x::y::r,h=>simp at h;omega}
 have HA:=hI cp;clear cp h;go_enter func58,ntmps58;go_wp2_with fail
 go_ret;exact⟨_,_,_,rfl,by rw[HA.out];simp,qB _ _⟩}
 obtain⟨g,rfl,cq,_⟩:∃g,A=some ⟨g,0,none⟩∧I≤g∧g<w.heap.size:=by{
 rcases u.2 with⟨B,_⟩|⟨g,_,_,B,hb,G,_⟩
 {omega}
 {
 injection B with F;exact⟨g,F,hb,(Array.getElem?_eq_some_iff.1 G).1⟩}}
 have HO:=hI u;have co:=hI qw;clear u h;go_enter func58,ntmps58;go_wp2_with fail
 go_loopw [5] (λi wr=>∃k:Nat,1≤k∧k≤n∧i=.int .i64 k∧Hid (iv H=iv (H.drop (k-1)))∧BL w wr) (λi _=>n-(intOf i).toNat)
 case atStart=>exact⟨1,by omega,by omega,rfl,hI rfl,qB _ _⟩
 case round=>(
 obtain⟨k,_,_,rfl,HR,hb⟩:=hrel;have HB:=hI hb;clear hb;by_cases cy:k<n
 {
 have ho:=aa HO HB;obtain⟨J,x0,x1,x2,x3,x4,x5,x6,F,_,_,_,G,a0,a1,a2,a3,a4,a5,a6,_⟩:=bU ho (k:=k-1) (by omega);obtain rfl:g=J:=by injection F with F;injection F
 obtain⟨J,y0,y1,y2,y3,y4,y5,y6,ad,_,_,_,L,R,T,U,V,W,Y,Z,_⟩:=bU ho (k:=k) cy;obtain rfl:g=J:=by injection ad with ad;injection ad
 have u:iv (H.drop (k-1))=(bK (y0,y1,y2,y3,y4,y5,y6) (x0,x1,x2,x3,x4,x5,x6)||iv (H.drop k)):=by{rw[G,show k-1+1=k by omega,L];rfl}
 have cf:=hI u;have B:=hI (λw=>co y0 y1 y2 y3 y4 y5 y6 x0 x1 x2 x3 x4 x5 x6 w);have h:((k:Int)-1)=((k-1:Nat):Int):=by omega
 have cx:=hI h;have cC:=hI (show I≤wr.heap.size from qM b' HB.size);clear G L u F ad ho h;rw[show k-1=k-1 from rfl] at *;obtain⟨q,rfl⟩:∃q,k=q+1:=⟨k-1,by omega⟩;simp only[Nat.add_sub_cancel] at *;have G:IntKind.i64.wrap (((q+1:Nat):Int)-1)=((q:Nat):Int):=by rw[IntWalk.i64_in _ (by omega)];omega
 have b7:=hI G;clear G
 cases M:bK (y0,y1,y2,y3,y4,y5,y6) (x0,x1,x2,x3,x4,x5,x6) with
 | false=>{
 rw[M] at B;have u:=hI M;clear M;go_wp2_with fail
 have G:=b7.out;have a':=cell_regrown (a0);have ba:=cell_regrown (a1);have bp:=cell_regrown (a2);have bq:=cell_regrown (a3);have bs:=cell_regrown (a4);have bt:=cell_regrown (a5);have bv:=cell_regrown (a6);have bN:=cell_regrown (R);have bO:=cell_regrown (T);have bP:=cell_regrown (U);have bb:=cell_regrown (V);have bk:=cell_regrown (W);have bn:=cell_regrown (Y);have bo:=cell_regrown (Z);refine wp_region_quiet_below (by kernel_rfl) (by kernel_rfl) ?_;repeat (first|go_big_quiet_step ((first|(go_at_call 59;(with_reducible exact Calls.regrown_of (B.out _)))))|quiet_step ((first|(go_at_call 59;(with_reducible exact Calls.regrown_of (B.out _))))))
 refine wpQuiet_nil ?_;intro _ a7;obtain⟨⟨dq,bR⟩,a8⟩:=a7;subst a8;obtain⟨N,L,h⟩:∃O,O=grow (redrawn wr dq) bR∧BL wr O:=⟨_,rfl,below_regrown _ _ _⟩;rw[←L];clear L a' ba bp bq bs bt bv bN bO bP bb bk bn bo;clear G;have bW:=zb HB h;go_wp2_with fail
 go_roundw
 case rel=>exact⟨q+1+1,by omega,by omega,by go_num,hI (by rw[HR.out,cf.out,u.out];rfl),bW⟩
 case measure=>simp[intOf]<;>omega}
 | true=>{
 rw[M] at B;have u:=hI M;clear M;have cw:=hI (show iv H=true from by rw[HR.out,cf.out,u.out];rfl);clear cf HR u cx;have cN:q+1<c:=by omega
 have cR:(c=q+1)=False:=by simp;omega
 go_wp2_with fail
 have G:=b7.out;have a':=cell_regrown (a0);have ba:=cell_regrown (a1);have bp:=cell_regrown (a2);have bq:=cell_regrown (a3);have bs:=cell_regrown (a4);have bt:=cell_regrown (a5);have bv:=cell_regrown (a6);have bN:=cell_regrown (R);have bO:=cell_regrown (T);have bP:=cell_regrown (U);have bb:=cell_regrown (V);have bk:=cell_regrown (W);have bn:=cell_regrown (Y);have bo:=cell_regrown (Z);refine wp_region_quiet_below (by kernel_rfl) (by kernel_rfl) ?_;repeat (first|go_big_quiet_step ((first|(go_at_call 59;(with_reducible exact Calls.regrown_of (B.out _)))))|quiet_step ((first|(go_at_call 59;(with_reducible exact Calls.regrown_of (B.out _))))))
 refine wpQuiet_nil ?_;intro _ a7;obtain⟨⟨dq,bR⟩,a8⟩:=a7;subst a8;obtain⟨N,L,h⟩:∃O,O=grow (redrawn wr dq) bR∧BL wr O:=⟨_,rfl,below_regrown _ _ _⟩;rw[←L];clear L a' ba bp bq bs bt bv bN bO bP bb bk bn bo;clear G b7;have bW:=zb HB h;have cm:=hI (aa HO bW);have cl:=hI (show Below I w N from bW.mono b');have cr:g<N.heap.size:=by have:=bW.size;omega
 clear h a0 a1 a2 a3 a4 a5 a6 R T U V W Y Z B HB HO;go_wp2_with fail
 go_loopw [5,7] (λs5 s7 wr=>∃(u p:Nat) (zs:List EntryT),q+1≤u∧u≤q+1+p∧q+1+p<n∧s5=.int .i64 u∧s7=.int .i64 ((p+1:Nat):Int)∧Hid (wr.ownsRow I 25 7 (.slice (some ⟨g,0,none⟩) n c) n (ents zs))∧Hid (Below I w wr)∧g<wr.heap.size) (λ_ s7 _=>n-(intOf s7).toNat)
 case atStart=>exact⟨q+1,0,H,by omega,by omega,by omega,rfl,rfl,cm,cl,cr⟩
 case round=>(
 clear cm cl cr bW;obtain⟨u,p,zs,_,_,_,rfl,rfl,cd,ca,ar⟩:=hrel;by_cases hp:p+1<n-(q+1)
 {
 have ho:=cd.out;obtain⟨J,x0,x1,x2,x3,x4,x5,x6,F,_,_,_,_,a0,a1,a2,a3,a4,a5,a6,_⟩:=bU ho (k:=q+1+p) (by omega);obtain rfl:g=J:=by injection F with F;injection F
 obtain⟨J,y0,y1,y2,y3,y4,y5,y6,ad,_,_,cB,_,R,T,U,V,W,Y,Z,_⟩:=bU ho (k:=q+1+(p+1)) (by omega);obtain rfl:g=J:=by injection ad with ad;injection ad
 obtain⟨J,z0,z1,z2,z3,z4,z5,z6,cc,_,_,_,_,c0,c1,c2,c3,c4,c5,c6,f0,f1,f2,f3,f4,f5,f6⟩:=bU ho (k:=u) (by omega);obtain rfl:g=J:=by injection cc with cc;injection cc
 have cs:(q+1+p)*7=(q+1)*7+p*7:=by omega
 have cv:(q+1+(p+1))*7=(q+1)*7+(p+1)*7:=by omega
 rw[cs] at a0 a1 a2 a3 a4 a5 a6;rw[cv] at R T U V W Y Z;have B:=hI (λw=>co y0 y1 y2 y3 y4 y5 y6 x0 x1 x2 x3 x4 x5 x6 w);have G:IntKind.i64.wrap (((p+1:Nat):Int)-1)=((p:Nat):Int):=by rw[IntWalk.i64_in _ (by omega)];omega
 have b7:=hI G;have ck:=hI (show ∀N,BL wr N→(N.ownsRow I 25 7 (.slice (some ⟨g,0,none⟩) n c) n (ents zs)∧Below I w N∧g<N.heap.size) from λN hb=>⟨aa cd hb,ca.trans (hb.mono (qM b' ca.size)),qe ar hb.size⟩);have c7:I≤wr.heap.size:=qM b' ca.size;clear cs cv G ho F ad cc cB
 cases M:bK (y0,y1,y2,y3,y4,y5,y6) (x0,x1,x2,x3,x4,x5,x6) with
 | true=>{
 rw[M] at B;clear M;go_wp2_with fail
 have G:=b7.out;have a':=cell_regrown (a0);have ba:=cell_regrown (a1);have bp:=cell_regrown (a2);have bq:=cell_regrown (a3);have bs:=cell_regrown (a4);have bt:=cell_regrown (a5);have bv:=cell_regrown (a6);have bN:=cell_regrown (R);have bO:=cell_regrown (T);have bP:=cell_regrown (U);have bb:=cell_regrown (V);have bk:=cell_regrown (W);have bn:=cell_regrown (Y);have bo:=cell_regrown (Z);refine wp_region_quiet_below (by kernel_rfl) (by kernel_rfl) ?_;repeat (first|go_big_quiet_step ((first|(go_at_call 59;(with_reducible exact Calls.regrown_of (B.out _)))))|quiet_step ((first|(go_at_call 59;(with_reducible exact Calls.regrown_of (B.out _))))))
 refine wpQuiet_nil ?_;intro _ a7;obtain⟨⟨dq,bR⟩,a8⟩:=a7;subst a8;obtain⟨N,L,h⟩:∃O,O=grow (redrawn wr dq) bR∧BL wr O:=⟨_,rfl,below_regrown _ _ _⟩;rw[←L];clear L a' ba bp bq bs bt bv bN bO bP bb bk bn bo;clear G;obtain⟨av,b9,ch⟩:=ck _ h;have cn:=hI av;have cb:=hI b9;clear av b9 h;go_wp2_with fail
 go_roundw
 case rel=>exact⟨u,p+1,zs,by omega,by omega,by omega,rfl,by go_num,cn,cb,ch⟩
 case measure=>simp[intOf]<;>omega}
 | false=>{
 rw[M] at B;clear M;have M:=hI (And.intro f0 (And.intro f1 (And.intro f2 (And.intro f3 (And.intro f4 (And.intro f5 f6))))));go_wp2_with fail
 have G:=b7.out;have a':=cell_regrown (a0);have ba:=cell_regrown (a1);have bp:=cell_regrown (a2);have bq:=cell_regrown (a3);have bs:=cell_regrown (a4);have bt:=cell_regrown (a5);have bv:=cell_regrown (a6);have bN:=cell_regrown (R);have bO:=cell_regrown (T);have bP:=cell_regrown (U);have bb:=cell_regrown (V);have bk:=cell_regrown (W);have bn:=cell_regrown (Y);have bo:=cell_regrown (Z);refine wp_region_quiet_below (by kernel_rfl) (by kernel_rfl) ?_;repeat (first|go_big_quiet_step ((first|(go_at_call 59;(with_reducible exact Calls.regrown_of (B.out _)))))|quiet_step ((first|(go_at_call 59;(with_reducible exact Calls.regrown_of (B.out _))))))
 refine wpQuiet_nil ?_;intro _ a7;obtain⟨⟨dq,bR⟩,a8⟩:=a7;subst a8;obtain⟨N,L,h⟩:∃O,O=grow (redrawn wr dq) bR∧BL wr O:=⟨_,rfl,below_regrown _ _ _⟩;rw[←L];clear L a' ba bp bq bs bt bv bN bO bP bb bk bn bo;clear G;obtain⟨av,b9,ch⟩:=ck _ h;have cn:=hI av;have cb:=hI b9;obtain⟨_,_,_,_,_,_,_⟩:=(show _∧_∧_∧_∧_∧_∧_ from⟨(h.cell (p:=⟨g,(q+1)*7+(p+1)*7,none⟩) ar).trans R,(h.cell (p:=⟨g,(q+1)*7+(p+1)*7+1,none⟩) ar).trans T,(h.cell (p:=⟨g,(q+1)*7+(p+1)*7+2,none⟩) ar).trans U,(h.cell (p:=⟨g,(q+1)*7+(p+1)*7+3,none⟩) ar).trans V,(h.cell (p:=⟨g,(q+1)*7+(p+1)*7+4,none⟩) ar).trans W,(h.cell (p:=⟨g,(q+1)*7+(p+1)*7+5,none⟩) ar).trans Y,(h.cell (p:=⟨g,(q+1)*7+(p+1)*7+6,none⟩) ar).trans Z⟩);clear a0 a1 a2 a3 a4 a5 a6 R T U V W Y Z c0 c1 c2 c3 c4 c5 c6 f0 f1 f2 f3 f4 f5 f6 M;obtain⟨J,z0,z1,z2,z3,z4,z5,z6,F,_,_,_,_,c0,c1,c2,c3,c4,c5,c6,f0,f1,f2,f3,f4,f5,f6⟩:=bU av (k:=u) (by omega);obtain rfl:g=J:=by injection F with F;injection F
 have L:=hI (qE av (k:=u) (by omega) y0 y1 y2 y3 y4 y5 y6);have G:=hI (DB [.int .i64 y0,.int .i64 y1,.int .i64 y2,.int .i64 y3,.int .i64 y4,.int .i64 y5,.int .i64 y6] (u*7) b9 cq);clear av b9 h F;go_wp2_with fail
 go_roundw
 case rel=>exact⟨u+1,p+1,_,by omega,by omega,by omega,by go_num,by go_num,L,G,by simpa[World.setCell] using ch⟩
 case measure=>simp[intOf]<;>omega}}
 {
 have F:=λh=>rY (m:=c-u) wr h cd (show u<n by omega)
 have cb:=hI (r_ (List.replicate ((n-u)*7) (.int .i64 0)) (u*7) ca cq);have G:(c=u)=False:=by simp;omega
 go_wp2_with fail
 go_ret;exact⟨_,_,_,rfl,by rw[cw.out];simp;omega,cb⟩})}}
 {
 obtain rfl:k=n:=by omega
 have u:=hI (show iv H=false from by{
 rw[HR.out];have h:=qX (i:=k-1) (l:=H);rw[HL.out] at h
 match hq:H.drop (k-1),h with
 | [],_=>rfl
 | [x],_=>rfl
 | x::y::r,h=>simp at h;omega})
 go_wp2_with fail
 go_ret;exact⟨_,_,_,rfl,by rw[u.out];simp,HB.mono b'⟩})}
def Io (w:World) (h:List LB) (e:Ending) (u:World):Prop:=∃A n c,e=.returned (.tuple #[.slice A n c,.bool (aT h)])∧(aT h=true→u.ownsRow w.heap.size 2 1 (.slice A n c) n (ints (h.map λw=>(aB w).1)))∧BL w u
theorem yZ (A:OA)(n c:Nat)(h:List LB)(w:World)(G:Rd w 1 A n (strs h))(hn:n≤4194304)(B:∀x∈h,x.length≤2097152)(u:∀Z,BL w Z→gu Z):Calls prog 67 #[.slice A n c] w (Io w h):=by{
 have HR:=hI G;have a7:=hI G.len_str;have a':=hI B;have ad:=hI u;have F:=hI (show(h.map λw=>(aB w).1)=[]++((h.drop 0).map λw=>(aB w).1) from by simp);clear G B u;go_enter func67,ntmps67;go_wp2_with fail
 have B:=hI (show(w.alloc (.cells #[] 2)).ownsRow w.heap.size 2 1 (.slice (some ⟨w.heap.size,0,none⟩) 0 0) 0 (ints []) from bg w w.heap.size 2 1 (qA _));have u:=hI ((qB w.heap.size w).alloc (qA _) (.cells #[] 2));go_loopw [4,12] (λo i wr=>∃(k T:Nat) (R:OA) (I:LI),k≤n∧o=.slice R k T∧i=.int .i64 k∧Hid (aT h=aT (h.drop k))∧Hid ((h.map λw=>(aB w).1)=I++((h.drop k).map λw=>(aB w).1))∧Hid (wr.ownsRow w.heap.size 2 1 (.slice R k T) k (ints I))∧Hid (BL w wr)) (λ_ i _=>n-(intOf i).toNat)
 case atStart=>exact⟨0,0,_,[],qH _,rfl,rfl,hI (by rw[qd]),F,B,u⟩
 case round=>(
 clear B u F;obtain⟨k,T,R,I,_,rfl,rfl,L,N,M,F⟩:=hrel;obtain⟨wo,bk⟩:∃wo:World,wo=wr:=⟨_,rfl⟩;subst bk;by_cases av:k<n
 {
 have bb:decide ((k:Int)<(n:Int))=true:=by simpa using av
 obtain⟨b,_,x,rfl,hx,U,hc⟩:=(HR.below F).str av;have a1:=a' x (qF hx);have W:=ad _ F;have H:=hI (pD (ag x) (by rw[aj];exact a1) wo W.pow W.err (λZ B=>(ad _ (F.trans (B.mono F.size))).pow));rw[aw] at H;have u:=hI (show aT h=((aB x).2&&aT (h.drop (k+1))) from by rw[L.out,U];rfl);have O:=hI (show(h.map λw=>(aB w).1)=I++[(aB x).1]++((h.drop (k+1)).map λw=>(aB w).1) from by rw[N.out,U];simp);generalize aB x=r at *;obtain⟨v,ok⟩:=r;simp only at u O;clear hx U a1 W L N
 cases ok with
 | false=>{
 simp only[Bool.false_and] at u;go_wp2_with fail
 refine H.mono ?_;rintro e w1⟨rfl,B⟩;have J:=zb F B;clear B hc H M;simp only;go_wp2_with fail
 go_ret2;exact⟨_,_,_,by rw[u.out];rfl,(λG=>by rw[u.out] at G;cases G),J⟩}
 | true=>{
 simp only[Bool.true_and] at u;go_wp2_with fail
 refine H.mono ?_;rintro e w1⟨rfl,B⟩;have J:=zb F B;have V:=hI (aa M B);have ba:=J.size;clear B hc H M;simp only;go_wp2_with(at_builtin;refine ly (y:=v) _ rfl _ _ rfl rfl (aa V (za _ _)) rfl (heap_alloc_new _ _) (by omega) ?cBa ?_;rotate_left;intro g9 c9 w9 a2 Y _ _)
 {
 have a6:=hI ((J.alloc ba _).grown Y (by simp;omega) (λj hj=>(V.lt j hj).1));have a8:=hI a2;clear a2 Y;go_roundw
 case rel=>exact⟨k+1,c9,_,_,by omega,rfl,by go_num,u,O,a8,a6⟩
 case measure=>simp[intOf]<;>omega}
 {first|omega|(simp;omega)}}}
 {
 obtain rfl:k=n:=by omega
 have bb:decide ((k:Int)<(k:Int))=false:=by simp
 have ar:h.drop k=[]:=qK (by have:=a7.out;omega);have V:=L.out;have Y:=N.out;rw[ar] at V Y;have u:=hI (show aT h=true from V);have O:=hI (show(h.map λw=>(aB w).1)=I from by rw[Y];simp);clear V Y ar L N;go_wp2_with fail
 go_ret2;exact⟨_,_,_,by rw[u.out];rfl,(λ_=>by rw[O.out];exact M),F⟩})}
end Go.Proofs.YtnpldahkhaacnaaGreatDoor

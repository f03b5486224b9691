/- Texts of the walk: Zmb Es Wd Qp Fr Wy Tb Tp Ta Wp Ap Tk Yp Rs. -/
import Derived.Maps.AppendAt
import Derived.Lib.AppendZeros
import Derived.StillTailTactics
import Derived.Deep.RegionHeld3
import Derived.Lib.BufferMore
import Derived.Test.YtnpldahkhaacnaaGreatDoorYaa
set_option linter.unusedVariables false
set_option linter.unusedSimpArgs false
set_option maxRecDepth 100000
set_option maxHeartbeats 32000000
namespace Go.Proofs.YtnpldahkhaacnaaGreatDoor
open Go.RowKit Go.Sort Go.Proofs.Tryz
section
open Go.Lib
theorem gj (n k:Nat)(O:n≤1000000000000)(U:k≤10)(w:World):Calls prog 93 #[n,k] w λe w'=>e=.returned (.string (ag (aG k n [])))∧BL w w':=by{
 go_enter func93,ntmps93;go_wp2_with fail
 go_loopw [0,5,6] (λm s i wr=>∃(q x:Nat) (l:LB),q≤k∧x≤1000000000000∧l.length=q∧i=.int .i64 q∧m=.int .i64 x∧s=.string (ag l)∧Hid (aG (k-q) x l=aG k n [])∧Hid (BL w wr)) (λ_ _ i _=>k-(intOf i).toNat)
 case atStart=>exact⟨0,n,[],qH _,O,rfl,rfl,rfl,rfl,hI rfl,hI (qB _ _)⟩
 case round=>(
 obtain⟨q,x,l,_,_,B,rfl,rfl,rfl,u,F⟩:=hrel;obtain⟨G,T⟩:∃G:World,G=wr:=⟨_,rfl⟩;subst T;have I:=hI B;by_cases N:q<k
 {
 have M:decide ((q:Int)<(k:Int))=true:=by simpa using N
 have L:=iG G (48+(x:Int)%10);have H:=aj l;rw[B] at H;have V:(ag l).size≤10:=by omega
 have R:(ag [UInt8.ofNat (48+(x:Int)%10).toNat]).size≤1:=by rw[aj];exact qA _
 rw[wW] at L R;have h:=u.out;rw[show k-q=(k-(q+1))+1 from by omega,aG] at h;have J:=hI h;clear h u H B;go_wp2_with fail
 go_roundw
 case rel=>exact⟨q+1,x/10,dgt x::l,by omega,by omega,by simp[I.out],by go_num,by go_num,by rw[aA];rfl,J,hI (F.alloc F.size _)⟩
 case measure=>simp[intOf]<;>omega}
 {
 obtain rfl:q=k:=by omega
 have M:decide ((q:Int)<(q:Int))=false:=by simp
 have h:=u.out;rw[Nat.sub_self,aG] at h;subst h;clear u B;go_wp2_with fail
 go_ret;exact⟨rfl,F⟩})}
theorem nM (t:Int)(w:World):Calls prog 91 #[t] w λe w'=>e=.returned (.bool (af t 0 1000000000))∧w=w':=by{
 have h:=hI (bc t 0 1000000000 w);go_enter func91,ntmps91;go_wp2_with fail
 refine h.mono ?_;rintro e w'⟨rfl,rfl⟩;go_wp2_with fail
 go_ret;exact⟨rfl,rfl⟩}
theorem zY {a b c:LB}:ag a++ag [58]++ag b++ag [46]++ag c=ag (a++[58]++b++[46]++c):=by rw[aA,aA,aA,aA]
theorem f_ (t:Nat)(L:t≤1000000000)(w:World):Calls prog 65 #[t] w λe w'=>e=.returned (.string (ag (aX t)))∧BL w w':=by{
 have u:=hI (λw'=>cu (t/60000) (t/60000) (qA _) (by omega) w');have B:=hI (λw'=>gj (t/1000%60) 2 (by omega) (by omega) w');have F:=hI (λw'=>gj t 3 (by omega) (by omega) w');have J:=hI (show ag (aX t)=ag (aP (t/60000))++ag [58]++ag (aG 2 (t/1000%60) [])++ag [46]++ag (aG 3 t []) from by rw[zY];rfl);have h:=bd 9 (t/60000) (by omega);have O:(ag (aP (t/60000))).size≤10:=by rw[aj];exact h
 have R:(ag (aG 2 (t/1000%60) [])).size≤2:=by rw[aj,bV];exact qA _
 have z3:(ag (aG 3 t [])).size≤3:=by rw[aj,bV];exact qA _
 generalize aP (t/60000)=a at *;generalize aG 2 (t/1000%60) []=b at *;generalize aG 3 t []=c at *;clear h;go_enter func65,ntmps65;go_wp2_with fail
 refine(u _).mono ?_;rintro e M⟨rfl,h⟩;have G:=hI h;clear h;go_wp2_with fail
 refine(B _).mono ?_;rintro e w2⟨rfl,h⟩;have H:=zb G h;clear h;go_wp2_with fail
 refine(F _).mono ?_;rintro e N⟨rfl,h⟩;have I:=zb H h;clear h;go_wp2_with fail
 go_ret;exact⟨by rw[J.out];rfl,I⟩}
theorem Rd.str {w:World}{A:OA}{n k:Nat}{h:List LB}(u:Rd w 1 A n (strs h))(G:k<n):∃b o x,A=some ⟨b,o,none⟩∧h[k]?=some x∧h.drop k=x::h.drop (k+1)∧w.cell? ⟨b,o+k,none⟩=some (.string (ag x)):=by{
 obtain⟨b,o,e,F⟩:=u.pos (by omega);have H:h.length=n:=by have:=u.len;rw[gi] at this;omega
 have B:h[k]?=some h[k]:=qG (by omega);exact⟨b,o,h[k],e,B,List.drop_eq_getElem_cons (by omega),F k _ (xY B)⟩}
theorem Rd.len_str {w:World}{A:OA}{n:Nat}{h:List LB}(u:Rd w 1 A n (strs h)):h.length=n:=by have:=u.len;rw[gi] at this;omega
theorem Dx:(prog.info? 2).map (λi=>(i.zero,i.size,i.bytes))=some (some (.int .i64 0),1,8):=by kernel_rfl
theorem ly {ops:Array Oper}{rest:List Oper}{o:Oper}{a:Act}{Q:Exit→Act→World→Prop}(w:World)(I:o.guard=none)(s x:Operand)(L:o.op=.call { callee:=.builtin .append,args:=#[s,x],argTypes:=#[44,44] }){base n c:Nat}{A:OA}{h:LI}{y:Int}(N:a.eval s=.slice A n c)(M:w.ownsRow base 2 1 (.slice A n c) n (ints h)){b:Nat}(R:a.eval x=.slice (some ⟨b,0,none⟩) 1 1)(hc:w.heap[b]?=some (.cells #[y] 2 (0,0)))(U:n≤1099511627776)(H:base≤w.heap.size)(F:∀g u w',w'.ownsRow base 2 1 (.slice (some ⟨g,0,none⟩) (n+1) u) (n+1) (ints (h++[y]))→w.grownBy w' (Value.slice A n c).ownBlock→((Value.slice A n c).ownBlock=some g∨g=w.heap.size)→g<w'.heap.size→wpList prog ops Q rest (a.put o.dst (.slice (some ⟨g,0,none⟩) (n+1) u)) w'):wpList prog ops Q (o::rest) a w:=by{
 obtain⟨i,J,T,O,G⟩:=info_parts Dx;have e:ints h++[.int .i64 y]=ints (h++[y]):=by rw[jx];rfl
 exact wpList_append_lies w I s x 44 L base 2 i (.int .i64 0) 1 8 underlying44 J T O G rfl (by decide) (.slice A n c) n (ints h) N M ⟨b,0,none⟩ 1 1 [.int .i64 y] R rfl (World.news_of_block (cs:=#[y]) hc) (by intro V B;simp at B;subst B;rfl) (by decide) (by unfold maxLen;omega) (by omega) H _ rfl (by rw[e];exact F)}
def nums (h:List LB):LI:=h.map λw=>(fq w).1
theorem uu:(prog.info? 5).map (λi=>(i.zero,i.size,i.bytes))=some (some (.int .u8 0),1,1):=by kernel_rfl
theorem Hg (B:LI):∀u∈mQ B,u.oneCell'=true:=by{
 intro u h;unfold mQ at h;obtain⟨y,_,rfl⟩:=List.mem_map.1 h;rfl}
theorem Gg {w:World}{b o m:Nat}{F:LI}(u:Rd w 1 (some ⟨b,o,none⟩) m (mQ F)):∀(j:Nat) (h:Value),(mQ F)[j]?=some h→w.cell? ((⟨b,o,none⟩:Addr).add j)=some h:=by{
 intro j h B;have M:=u.len;have L:=(List.getElem?_eq_some_iff.1 B).1;obtain⟨_,_,e,J⟩:=u.pos (by omega);injection e with e;injection e with G H;subst G H;have I:(⟨b,o,none⟩:Addr).add j=⟨b,o+j,none⟩:=by unfold Addr.add;split<;>simp_all
 rw[I];exact J j h B}
theorem pF (w:World)(F:TypeId)(A:OA)(n c:Nat)(B:n≤c)(h:OA)(d:Nat):(Builtin.append_ #[22,22] F #[.slice A n c,.slice h 0 d]).run prog w=.ok (.slice A n c) w:=by{
 obtain⟨i,u,_,_,_⟩:=info_parts uu
 cases A<;>cases h<;>simp[Builtin.append_,run_underlying underlying22,sizeOf,typeInfo,u,Builtin.lenOf,Builtin.firstCells,loadCells,loadCellsFrom,storeCells,B]}
theorem GF (w:World)(G:TypeId){base u:Nat}{k:Int}(L:w.ownsRow base 5 1 (.slice (some ⟨u,0,none⟩) 1 1) 1 (mQ [k])){A:OA}{n d:Nat}{code:LI}(F:Rd w 1 A n (mQ code))(Y:n≤8192)(T:base≤w.heap.size):∃H h w',(Builtin.append_ #[22,22] G #[.slice (some ⟨u,0,none⟩) 1 1,.slice A n d]).run prog w=.ok (.slice H (1+n) h) w'∧w'.ownsRow base 5 1 (.slice H (1+n) h) (1+n) (mQ (k::code))∧w.grownBy w' (some u):=by{
 have J:(mQ code).length=n:=by have:=F.len;omega
 rcases Nat.eq_zero_or_pos n with I|I
 {
 subst I;have B:code=[]:=by{
 have:code.length=0:=by rwa [nK] at J
 exact List.eq_nil_of_length_eq_zero this}
 subst B;exact⟨_,1,w,pF w G _ 1 1 (qA _) A d,L,World.grownBy.refl _ _⟩}
 {
 obtain⟨b,f,rfl,_⟩:=F.pos (by omega);obtain⟨i,U,W,V,R⟩:=info_parts uu;obtain⟨_,w',N,B,O,_,_⟩:=run_append_own_at (P:=prog) w base 22 G 5 i (.int .u8 0) 1 1 underlying22 U W V R rfl (by decide) (.slice (some ⟨u,0,none⟩) 1 1) 1 (mQ [k]) L ⟨b,f,none⟩ n d (mQ code) (by rw[J];omega) (Gg F) (Hg code) (by unfold maxLen;omega) (by omega) T;have e:mQ [k]++mQ code=mQ (k::code):=rfl;rw[e] at B;rcases B.2 with⟨M,_⟩|⟨_,h,_,M,_⟩
 {omega}
 {
 subst M;exact⟨_,h,w',N,B,O⟩}}}
section
variable {ops : Array Oper} {rest : List Oper} {o : Oper} {a : Act} {Q : Exit → Act → World → Prop}
theorem xx (w:World)(L:o.guard=none)(s x:Operand)(N:o.op=.call { callee:=.builtin .append,args:=#[s,x],argTypes:=#[22,22] }){base B:Nat}{k:Int}(T:a.eval s=.slice (some ⟨B,0,none⟩) 1 1)(O:w.ownsRow base 5 1 (.slice (some ⟨B,0,none⟩) 1 1) 1 (mQ [k])){A:OA}{n d:Nat}{code:LI}(U:a.eval x=.slice A n d)(R:Rd w 1 A n (mQ code))(M:n≤8192)(J:base≤w.heap.size)(F:∀h u w',w'.ownsRow base 5 1 (.slice h (1+n) u) (1+n) (mQ (k::code))→w.grownBy w' (some B)→wpList prog ops Q rest (a.put o.dst (.slice h (1+n) u)) w'):wpList prog ops Q (o::rest) a w:=by{
 obtain⟨h,u,w',G,H,I⟩:=GF w o.type O R (d:=d) M J;exact Lib.wpList_append_run w L s x _ _ N _ _ T U _ w' G (F h u w' H I)}
end
def b8 (h:LB):LI:=h.map λc=>(c.toNat:Int)
theorem Iy (h:LB):strOfNums (b8 h)=ag h:=by{
 unfold strOfNums ag b8;congr 1;congr 1;rw[List.map_map];refine(List.map_congr_left λc _=>?_).trans (List.map_id h);simp}
theorem GO (n:Nat)(h:LB):b8 (dgt n::h)=(48+(n:Int)%10)::b8 h:=by{
 unfold b8;rw[List.map_cons,mb];congr 1}
theorem Hy (w:World)(base:Nat)(k:Int)(h:base≤w.heap.size):(w.alloc (.cells #[.int .u8 k] 5)).ownsRow base 5 1 (.slice (some ⟨w.heap.size,0,none⟩) 1 1) 1 (mQ [k]):=by{
 have:=World.ownsRow_lit (base:=base) (e:=5) (size:=1) w #[.int .u8 k] 1 h (by unfold maxLen;omega) (by simp);simpa[mQ] using this}
theorem IW {w:World}{base m c:Nat}{A:OA}{h:LB}(B:w.ownsRow base 5 1 (.slice A m c) m (mQ (b8 h)))(I:0<m):(convert 22 9 (.slice A m c)).run prog w=.ok (.string (ag h)) w:=by{
 have u:=az B;obtain⟨b,o,rfl,G⟩:=u.pos I;have H:(b8 h).length=m:=by have:=u.len;rw[nK] at this;omega
 have J:=run_convert_bytes_arg (P:=prog) w 22 5 underlying22 underlying5 b o m c (b8 h) H (λi L=>by{
 have F:(b8 h)[i]?=some ((b8 h).getD i 0):=by simp[List.getD,qG (show i<(b8 h).length by omega)]
 exact G i _ (Cc F)}) 9 underlying9
 rw[J,Iy]}
def IQ:Value→Nat|.slice _ n _=>n|_=>0
theorem ov (n:Nat)(hn:n≤1000000000000)(w:World):Calls prog 247 #[n] w λe w'=>e=.returned (.string (ag (aP n)))∧BL w w':=by{
 go_enter func247,ntmps247;go_wp2_with fail
 have B:=hI (show(w.alloc (.cells #[] 5)).ownsRow w.heap.size 5 1 (.slice (some ⟨w.heap.size,0,none⟩) 0 0) 0 (mQ (b8 [])) from bg w w.heap.size 5 1 (qA _));have u:=hI ((qB w.heap.size w).alloc (qA _) (.cells #[] 5));go_loopw [3,4] (λd r wr=>∃(m c x:Nat) (A:OA) (h:LB),x≤1000000000000∧m+1≤20∧d=.slice A m c∧r=.int .i64 x∧Hid ((x=0∧0<m∧h=aP n)∨((0<x∨m=0)∧aP x++h=aP n∧(aP x).length+m≤13))∧Hid (wr.ownsRow w.heap.size 5 1 (.slice A m c) m (mQ (b8 h)))∧Hid (BL w wr)) (λd r _=>2*(intOf r).toNat+(1-IQ d))
 case atStart=>exact⟨0,0,n,_,[],hn,by omega,rfl,rfl,hI (.inr ⟨.inr rfl,by simp,bd 12 n (by omega)⟩),B,u⟩
 case round=>(
 clear B u;obtain⟨m,c,x,A,h,_,_,rfl,rfl,J,V,I⟩:=hrel;obtain⟨H,ad⟩:∃H:World,H=wr:=⟨_,rfl⟩;subst ad;by_cases T:0<x∨m=0
 {
 obtain⟨u,F⟩:aP x++h=aP n∧(aP x).length+m≤13:=by{
 rcases J.out with B|B
 {omega}
 {exact B.2}}
 have U:=hI (show(x/10=0∧0<m+1∧dgt x::h=aP n)∨((0<x/10∨m+1=0)∧aP (x/10)++(dgt x::h)=aP n∧(aP (x/10)).length+(m+1)≤13) from by{
 by_cases G:x<10
 {
 rw[bZ G] at u;exact .inl ⟨by omega,by omega,u⟩}
 {
 rw[fY G] at u F;simp at F;exact .inr ⟨.inl (by omega),by rw[←u];simp,by omega⟩}})
 have R:=I.size;have W:=hI (Hy H w.heap.size (48+(x:Int)%10) R);have Y:=hI ((az V).below ((qB H.heap.size H).alloc (qA _) (.cells #[.int .u8 (48+(x:Int)%10)] 5)));have ar:m≤13:=by omega
 clear u F J;by_cases Z:0<x
 {
 have av:decide (0<x)=true:=by simpa using Z
 have a1:decide ((0:Int)<(x:Int))=true:=by simp;omega
 clear T;go_wp2_with(at_builtin;refine xx _ rfl _ _ rfl rfl W rfl Y (by omega) ?cBa ?_;rotate_left;intro L O w9 u F)
 {
 have M:=hI ((I.alloc R _).grown F (by simp;omega) (λj G=>by injection G with G;omega));rw[show 1+m=m+1 from by omega,←GO] at u;have N:=hI u;clear u F;go_roundw
 case rel=>exact⟨m+1,O,x/10,L,dgt x::h,by omega,by omega,by go_num,by go_num,U,N,M⟩
 case measure=>simp[intOf,IQ]<;>omega}
 {first|omega|(simp;omega)}}
 {
 obtain rfl:x=0:=by omega
 obtain rfl:m=0:=by omega
 clear T Z;go_wp2_with(at_builtin;refine xx _ rfl _ _ rfl rfl W rfl Y (by omega) ?cBb ?_;rotate_left;intro L O w9 u F)
 {
 have M:=hI ((I.alloc R _).grown F (by simp;omega) (λj G=>by injection G with G;omega));rw[←GO] at u;have N:=hI u;clear u F;go_roundw
 case rel=>exact⟨1,O,0,L,dgt 0::h,by omega,by omega,by go_num,by go_num,U,N,M⟩
 case measure=>simp[intOf,IQ]<;>omega}
 {first|omega|(simp;omega)}}}
 {
 have L:x=0:=by omega
 subst L;have G:0<m:=by omega
 have u:h=aP n:=by rcases J.out with B|B;exact B.2.2;omega
 have N:((m:Int)==0)=false:=by simp;omega
 have F:=IW V G;rw[u] at F;have M:=hI u;clear T u J;go_wp2_with fail
 go_ret;exact⟨rfl,I⟩})}
theorem kh:(prog.info? 2).map (λi=>(i.zero,i.size,i.bytes))=some (some (.int .i64 0),1,8):=by kernel_rfl
theorem kB (n:Nat)(H:n≤1048576)(w:World):(Instr.makeSlice 44 (.int .i64 (n:Int)) (.int .i64 (n:Int))).run prog w=.ok (.slice (some ⟨w.heap.size,0,none⟩) n n) (w.alloc (.cells (madeCells #[(0:Int)] n) 2)):=by{
 obtain⟨i,B,G,F,u⟩:=info_parts kh;have h:=run_make (P:=prog) w 44 2 i (.int .i64 0) underlying44 B G .i64 .i64 n n (by omega) (by omega) (by rw[u];omega) (by omega);rw[F,Nat.mul_one,qP] at h;exact h}
def pf (w:World) (h:LI) (e:Ending) (w':World):Prop:=∃A n c,e=.returned (.slice A n c)∧w'.ownsRow w.heap.size 2 1 (.slice A n c) n (ints h)∧n≤1048576∧BL w w'
theorem nP {ops:Array Oper}{rest:List Oper}{o:Oper}{a:Act}{Q:Exit→Act→World→Prop}(w:World)(N:o.guard=none)(s x:Operand)(R:o.op=.call { callee:=.builtin .append,args:=#[s,x],argTypes:=#[44,44] }){base n c:Nat}{A:OA}{B:LI}(U:a.eval s=.slice A n c)(T:w.ownsRow base 2 1 (.slice A n c) n (ints B)){h:Addr}{x0:Int}(W:a.eval x=.slice (some h) 1 1)(hc:w.cell? h=some (.int .i64 x0))(hn:n≤1099511627776)(M:base≤w.heap.size)(I:∀F G w',w'.ownsRow base 2 1 (.slice F (n+1) G) (n+1) (ints (B++[x0]))→w.grownBy w' (Value.slice A n c).ownBlock→wpList prog ops Q rest (a.put o.dst (.slice F (n+1) G)) w'):wpList prog ops Q (o::rest) a w:=by{
 obtain⟨i,O,Y,V,L⟩:=info_parts kh;refine wpList_append_own w N s x 44 R base 2 i (.int .i64 0) 1 8 underlying44 O Y V L rfl (by decide) (.slice A n c) n (ints B) U T h 1 1 [.int .i64 x0] W rfl ?_ ?_ (by unfold maxLen;omega) (by omega) M ?_
 {
 intro j Z u;have J:j=0:=by{
 rcases j with _|j
 {rfl}
 {simp at u}}
 subst J;have H:h.add 0=h:=by simp[Addr.add]
 rw[H,hc];simpa using u}
 {
 intro Z u;simp at u;subst u;rfl}
 {
 intro v' w' H J _;rcases H.2 with⟨rfl,_⟩|⟨g,_,_,rfl,_⟩
 {omega}
 {
 refine I _ _ w' ?_ J;rw[jx];exact H}}}
theorem iF {h base n c e:Nat}{w wr u:World}{A:OA}{L:List Value}{o:Obj}(F:Below h w wr)(B:h≤wr.heap.size)(G:h≤base)(J:wr.ownsRow base e 1 (.slice A n c) n L)(H:(wr.alloc o).grownBy u (Value.slice A n c).ownBlock):Below h w u:=(F.alloc B o).grown H (by simp;omega) (λk I=>qM G (J.lt k I).1)
def I_ (w:World) (r:LI×Int) (e:Ending) (w':World):Prop:=∃A n c,e=.returned (.tuple #[.slice A n c,r.2])∧w'.ownsRow w.heap.size 2 1 (.slice A n c) n (ints r.1)∧n≤1048576∧BL w w'
theorem I_.nil (w w':World)(code:Int)(h:BL w w'):I_ w ([],code) (.returned (.tuple #[.slice none 0 0,code])) w':=⟨none,0,0,rfl,World.ownsRow_nil _ _ _ _,by omega,h⟩
abbrev ah:=Int×Int×Int
def IF (p:ah):List Value:=[.int .i64 p.1,.int .i64 p.2.1,.int .i64 p.2.2]
theorem lQ (p:ah):(IF p).length=3:=rfl
def fins (h:List ah):List Value:=h.flatMap IF
theorem Rd.fin {w:World}{A:OA}{n k:Nat}{h:List ah}(B:Rd w 3 A n (fins h))(H:k<n):∃b o x0 x1 x2,A=some ⟨b,o,none⟩∧h[k]?=some (x0,x1,x2)∧h.drop k=(x0,x1,x2)::h.drop (k+1)∧w.cell? ⟨b,o+k*3,none⟩=some (.int .i64 x0)∧w.cell? ⟨b,o+k*3+1,none⟩=some (.int .i64 x1)∧w.cell? ⟨b,o+k*3+2,none⟩=some (.int .i64 x2):=by{
 obtain⟨b,o,⟨x0,x1,x2⟩,e,F,G,u⟩:=Rd.flat lQ (by decide) B H;exact⟨b,o,x0,x1,x2,e,F,G,u 0 _ rfl,u 1 _ rfl,u 2 _ rfl⟩}
theorem Rd.len_fin {w:World}{A:OA}{n:Nat}{h:List ah}(u:Rd w 3 A n (fins h)):h.length=n:=Rd.len_flat lQ (by decide) u
theorem sa {w:World}{base e n c k:Nat}{A:OA}{h:List ah}(F:w.ownsRow base e 3 (.slice A n c) n (fins h))(L:k<n):∃g x0 x1 x2,A=some ⟨g,0,none⟩∧base≤g∧g<w.heap.size∧h[k]?=some (x0,x1,x2)∧h.drop k=(x0,x1,x2)::h.drop (k+1)∧w.cell? ⟨g,k*3,none⟩=some (.int .i64 x0)∧w.cell? ⟨g,k*3+1,none⟩=some (.int .i64 x1)∧w.cell? ⟨g,k*3+2,none⟩=some (.int .i64 x2)∧w.frozen? ⟨g,k*3,none⟩=false∧w.frozen? ⟨g,k*3+1,none⟩=false∧w.frozen? ⟨g,k*3+2,none⟩=false:=by{
 obtain⟨g,⟨x0,x1,x2⟩,e,G,H,I,J,u,B⟩:=yY lQ (by decide) F L;exact⟨g,x0,x1,x2,e,G,H,I,J,u 0 _ rfl,u 1 _ rfl,u 2 _ rfl,B _,B _,B _⟩}
theorem xC {w:World}{base e g n c k:Nat}{u:List ah}(B:w.ownsRow base e 3 (.slice (some ⟨g,0,none⟩) n c) n (fins u))(F:k<n)(x0 x1 x2:Int):(((w.setCell ⟨g,k*3,none⟩ (.int .i64 x0)).setCell ⟨g,k*3+1,none⟩ (.int .i64 x1)).setCell ⟨g,k*3+2,none⟩ (.int .i64 x2)).ownsRow base e 3 (.slice (some ⟨g,0,none⟩) n c) n (fins (u.set k (x0,x1,x2))):=by{
 have h:=Cq (IF (x0,x1,x2)) (k*3) B;unfold fins at h;rw[yC lQ u k (x0,x1,x2) (by rw[aN lQ (by decide) B];exact F)] at h;exact h}
theorem Fs:(prog.info? 53).map (λi=>(i.zero,i.size,i.bytes))=some (some (.agg #[(0:Int),(0:Int),(0:Int)]),3,24):=by kernel_rfl
section
variable {ops : Array Oper} {rest : List Oper} {o : Oper} {a : Act} {K : Act → World → Prop} {Q : Exit → Act → World → Prop} {E : Prop}
theorem Cs (w:World)(J:o.guard=none)(s x:Operand)(M:o.op=.call { callee:=.builtin .append,args:=#[s,x],argTypes:=#[155,155] }){base n c:Nat}{A:OA}{h:List ah}(O:a.eval s=.slice A n c)(N:w.ownsRow base 53 3 (.slice A n c) n (fins h)){b:Nat}{x0 x1 x2:Int}(T:a.eval x=.slice (some ⟨b,0,none⟩) 1 1)(hc:w.heap[b]?=some (.cells #[x0,x1,x2] 53 (0,0)))(V:n≤1099511627776)(I:base≤w.heap.size)(G:∀g B w',w'.ownsRow base 53 3 (.slice (some ⟨g,0,none⟩) (n+1) B) (n+1) (fins (h++[(x0,x1,x2)]))→w.grownBy w' (Value.slice A n c).ownBlock→((Value.slice A n c).ownBlock=some g∨g=w.heap.size)→g<w'.heap.size→wpList prog ops Q rest (a.put o.dst (.slice (some ⟨g,0,none⟩) (n+1) B)) w'):wpList prog ops Q (o::rest) a w:=by{
 obtain⟨i,L,U,R,H⟩:=info_parts Fs;have e:∀(u:List ah),fins u++[.int .i64 x0,.int .i64 x1,.int .i64 x2]=fins (u++[(x0,x1,x2)]):=λu=>by unfold fins;rw[List.flatMap_append];rfl
 exact wpList_append_lies w J s x 155 M base 53 i (.agg #[(0:Int),(0:Int),(0:Int)]) 3 24 underlying155 L U R H rfl (by decide) (.slice A n c) n (fins h) O N ⟨b,0,none⟩ 1 1 [.int .i64 x0,.int .i64 x1,.int .i64 x2] T rfl (World.news_of_block (cs:=#[x0,x1,x2]) hc) (by intro W F;simp at F;rcases F with rfl|rfl|rfl<;>rfl) (by decide) (by unfold maxLen;omega) (by omega) I _ rfl (by rw[e];exact G)}
end
def dP (f:ah):Bool:=if f.2.1=0 then af f.2.2 1 1000000000 else af f.2.1 1 9&&(f.2.2==0)
def nF (f:ah):Bool:=af f.1 0 15&&dP f
def cH:Nat→List ah→Bool|_,[]=>true|i,f::r=>(f.1==(i:Int))&&dP f&&cH (i+1) r
def e_ (b:Int) (h:List ah):Bool:=af b 1 16&&((h.length:Int)==b)&&cH 0 h
theorem Dm:∀{u:List ah} {i:Nat},cH i u=true→∀(k:Nat) (f:ah),u[k]?=some f→f.1=((i+k:Nat):Int)∧dP f=true:=by{
 intro u
 induction u with
 | nil=>intro i h k f hf;simp at hf
 | cons g r B=>{
 intro i h k f hf;simp only[cH,Bool.and_eq_true,beq_iff_eq] at h
 cases k with
 | zero=>simp at hf;subst hf;exact⟨by simpa using h.1.1,h.1.2⟩
 | succ k=>{
 have:=B h.2 k f (by simpa using hf);exact⟨by rw[this.1];congr 1;omega,this.2⟩}}}
theorem rO {f:ah}(h:dP f=true):0≤f.2.1∧f.2.1≤9∧0≤f.2.2∧f.2.2≤1000000000:=by{
 unfold dP at h;split at h
 {have:=ai.1 h;omega}
 {
 simp only[Bool.and_eq_true,beq_iff_eq] at h;have:=ai.1 h.1;omega}}
structure IC (b : Int) (fs : List ah) : Prop where
 b1 : 1 ≤ b
 b2 : b ≤ 16
 len : (fs.length : Int) = b
 fin : ∀(k : Nat) (f : ah), fs[k]? = some f → f.1 = (k : Int) ∧ dP f = true
theorem ot {b:Int}{u:List ah}(h:e_ b u=true):IC b u:=by{
 unfold e_ at h;simp only[Bool.and_eq_true,beq_iff_eq] at h;have B:=ai.1 h.1.1;exact⟨B.1,B.2,h.1.2,λk f hf=>by have:=Dm h.2 k f hf;simpa using this⟩}
def ltN (t:Int) (h:List ah):Nat:=(h.filter λg=>g.2.1==0&&decide (g.2.2<t)).length
def eqN (t:Int) (h:List ah):Nat:=(h.filter λg=>g.2.1==0&&(g.2.2==t)).length
def ci (h:List ah) (f:ah):Int×Int:=if f.2.1=0 then(1+ltN f.2.2 h,eqN f.2.2 h) else(0,0)
def bh (h:Int):List ah→LI→List ah|f::r,x::l=>if x=h then f::bh h r l else bh h r l|_,_=>[]
theorem zI (u:Int):∀(h:List ah) (l:LI),(bh u h l).length≤h.length:=by{
 intro h
 induction h with
 | nil=>intro l;simp[bh]
 | cons f r B=>{
 intro l
 cases l with
 | nil=>simp[bh]
 | cons x l=>{
 have:=B l;unfold bh;split
 {simp;omega}
 {simp;omega}}}}
theorem pO (t:Int)(h:List ah):ltN t h≤h.length:=List.length_filter_le _ _
theorem pI (t:Int)(h:List ah):eqN t h≤h.length:=List.length_filter_le _ _
theorem aO.l1 {w:World}{b:Nat}{x:Value}{t:TypeId}(h:aO w b #[x] t):w.cell? ⟨b,0,none⟩=some x∧w.frozen? ⟨b,0,none⟩=false∧b<w.heap.size:=⟨h.cell rfl,h.fz,h.lt⟩
abbrev St:=Nat×Int
def Jj (code:LI) (s:St):Prop:=s.1≤code.length∧0≤s.2∧s.2<2147483647
end
abbrev EntryT:=Int×Int×Int×Int×Int×Int×Int
set_option synthInstance.maxSize 2000 in
set_option synthInstance.maxHeartbeats 400000 in
instance : DecidableEq EntryT := inferInstanceAs (DecidableEq (Int × Int × Int × Int × Int × Int × Int))
def po (p:EntryT):List Value:=[.int .i64 p.1,.int .i64 p.2.1,.int .i64 p.2.2.1,.int .i64 p.2.2.2.1,.int .i64 p.2.2.2.2.1,.int .i64 p.2.2.2.2.2.1,.int .i64 p.2.2.2.2.2.2]
theorem bw (p:EntryT):(po p).length=7:=rfl
def ents (h:List EntryT):List Value:=h.flatMap po
theorem IG (v:Value)(i:Nat)(h:i<(#[v,v,v,v,v,v,v]:Array Value).size):(#[v,v,v,v,v,v,v]:Array Value)[i]! = v:=by{
 have:i=0∨i=1∨i=2∨i=3∨i=4∨i=5∨i=6:=by simp at h;omega
 rcases this with rfl|rfl|rfl|rfl|rfl|rfl|rfl<;>rfl}
theorem Rd.ent {w:World}{A:OA}{n k:Nat}{u:List EntryT}(B:Rd w 7 A n (ents u))(H:k<n):∃b o x0 x1 x2 x3 x4 x5 x6,A=some ⟨b,o,none⟩∧u[k]?=some (x0,x1,x2,x3,x4,x5,x6)∧u.drop k=(x0,x1,x2,x3,x4,x5,x6)::u.drop (k+1)∧w.cell? ⟨b,o+k*7,none⟩=some (.int .i64 x0)∧w.cell? ⟨b,o+k*7+1,none⟩=some (.int .i64 x1)∧w.cell? ⟨b,o+k*7+2,none⟩=some (.int .i64 x2)∧w.cell? ⟨b,o+k*7+3,none⟩=some (.int .i64 x3)∧w.cell? ⟨b,o+k*7+4,none⟩=some (.int .i64 x4)∧w.cell? ⟨b,o+k*7+5,none⟩=some (.int .i64 x5)∧w.cell? ⟨b,o+k*7+6,none⟩=some (.int .i64 x6):=by{
 obtain⟨b,o,⟨x0,x1,x2,x3,x4,x5,x6⟩,e,F,G,h⟩:=Rd.flat bw (by decide) B H;exact⟨b,o,x0,x1,x2,x3,x4,x5,x6,e,F,G,h 0 _ rfl,h 1 _ rfl,h 2 _ rfl,h 3 _ rfl,h 4 _ rfl,h 5 _ rfl,h 6 _ rfl⟩}
theorem Rd.len_ent {w:World}{A:OA}{n:Nat}{h:List EntryT}(u:Rd w 7 A n (ents h)):h.length=n:=Rd.len_flat bw (by decide) u
theorem bU {w:World}{base e n c k:Nat}{A:OA}{B:List EntryT}(F:w.ownsRow base e 7 (.slice A n c) n (ents B))(L:k<n):∃g x0 x1 x2 x3 x4 x5 x6,A=some ⟨g,0,none⟩∧base≤g∧g<w.heap.size∧B[k]?=some (x0,x1,x2,x3,x4,x5,x6)∧B.drop k=(x0,x1,x2,x3,x4,x5,x6)::B.drop (k+1)∧w.cell? ⟨g,k*7,none⟩=some (.int .i64 x0)∧w.cell? ⟨g,k*7+1,none⟩=some (.int .i64 x1)∧w.cell? ⟨g,k*7+2,none⟩=some (.int .i64 x2)∧w.cell? ⟨g,k*7+3,none⟩=some (.int .i64 x3)∧w.cell? ⟨g,k*7+4,none⟩=some (.int .i64 x4)∧w.cell? ⟨g,k*7+5,none⟩=some (.int .i64 x5)∧w.cell? ⟨g,k*7+6,none⟩=some (.int .i64 x6)∧w.frozen? ⟨g,k*7,none⟩=false∧w.frozen? ⟨g,k*7+1,none⟩=false∧w.frozen? ⟨g,k*7+2,none⟩=false∧w.frozen? ⟨g,k*7+3,none⟩=false∧w.frozen? ⟨g,k*7+4,none⟩=false∧w.frozen? ⟨g,k*7+5,none⟩=false∧w.frozen? ⟨g,k*7+6,none⟩=false:=by{
 obtain⟨g,⟨x0,x1,x2,x3,x4,x5,x6⟩,e,G,H,I,J,h,u⟩:=yY bw (by decide) F L;exact⟨g,x0,x1,x2,x3,x4,x5,x6,e,G,H,I,J,h 0 _ rfl,h 1 _ rfl,h 2 _ rfl,h 3 _ rfl,h 4 _ rfl,h 5 _ rfl,h 6 _ rfl,u _,u _,u _,u _,u _,u _,u _⟩}
theorem qE {w:World}{base e g n c k:Nat}{u:List EntryT}(B:w.ownsRow base e 7 (.slice (some ⟨g,0,none⟩) n c) n (ents u))(F:k<n)(x0 x1 x2 x3 x4 x5 x6:Int):(((((((w.setCell ⟨g,k*7,none⟩ (.int .i64 x0)).setCell ⟨g,k*7+1,none⟩ (.int .i64 x1)).setCell ⟨g,k*7+2,none⟩ (.int .i64 x2)).setCell ⟨g,k*7+3,none⟩ (.int .i64 x3)).setCell ⟨g,k*7+4,none⟩ (.int .i64 x4)).setCell ⟨g,k*7+5,none⟩ (.int .i64 x5)).setCell ⟨g,k*7+6,none⟩ (.int .i64 x6)).ownsRow base e 7 (.slice (some ⟨g,0,none⟩) n c) n (ents (u.set k (x0,x1,x2,x3,x4,x5,x6))):=by{
 have h:=Cq (po (x0,x1,x2,x3,x4,x5,x6)) (k*7) B;unfold ents at h;rw[yC bw u k (x0,x1,x2,x3,x4,x5,x6) (by rw[aN bw (by decide) B];exact F)] at h;exact h}
theorem iT:(prog.info? 25).map (λi=>(i.zero,i.size,i.bytes))=some (some (.agg #[(0:Int),(0:Int),(0:Int),(0:Int),(0:Int),(0:Int),(0:Int)]),7,56):=by kernel_rfl
def kc (w:World) (h:List EntryT) (e:Ending) (w':World):Prop:=∃A n c,e=.returned (.slice A n c)∧w'.ownsRow w.heap.size 25 7 (.slice A n c) n (ents h)∧n≤1048576∧BL w w'
section
variable {ops : Array Oper} {rest : List Oper} {o : Oper} {a : Act} {K : Act → World → Prop} {Q : Exit → Act → World → Prop} {E : Prop}
theorem kM (w:World)(J:o.guard=none)(s x:Operand)(M:o.op=.call { callee:=.builtin .append,args:=#[s,x],argTypes:=#[30,30] }){base n c:Nat}{A:OA}{h:List EntryT}(O:a.eval s=.slice A n c)(N:w.ownsRow base 25 7 (.slice A n c) n (ents h)){b:Nat}{x0 x1 x2 x3 x4 x5 x6:Int}(T:a.eval x=.slice (some ⟨b,0,none⟩) 1 1)(hc:w.heap[b]?=some (.cells #[x0,x1,x2,x3,x4,x5,x6] 25 (0,0)))(V:n≤1099511627776)(I:base≤w.heap.size)(G:∀g B w',w'.ownsRow base 25 7 (.slice (some ⟨g,0,none⟩) (n+1) B) (n+1) (ents (h++[(x0,x1,x2,x3,x4,x5,x6)]))→w.grownBy w' (Value.slice A n c).ownBlock→((Value.slice A n c).ownBlock=some g∨g=w.heap.size)→g<w'.heap.size→wpList prog ops Q rest (a.put o.dst (.slice (some ⟨g,0,none⟩) (n+1) B)) w'):wpList prog ops Q (o::rest) a w:=by{
 obtain⟨i,L,U,R,H⟩:=info_parts iT;have e:∀(u:List EntryT),ents u++[.int .i64 x0,.int .i64 x1,.int .i64 x2,.int .i64 x3,.int .i64 x4,.int .i64 x5,.int .i64 x6]=ents (u++[(x0,x1,x2,x3,x4,x5,x6)]):=λu=>by unfold ents;rw[List.flatMap_append];rfl
 exact wpList_append_lies w J s x 30 M base 25 i (.agg #[(0:Int),(0:Int),(0:Int),(0:Int),(0:Int),(0:Int),(0:Int)]) 7 56 underlying30 L U R H rfl (by decide) (.slice A n c) n (ents h) O N ⟨b,0,none⟩ 1 1 [.int .i64 x0,.int .i64 x1,.int .i64 x2,.int .i64 x3,.int .i64 x4,.int .i64 x5,.int .i64 x6] T rfl (World.news_of_block (cs:=#[x0,x1,x2,x3,x4,x5,x6]) hc) (by intro W F;simp at F;rcases F with rfl|rfl|rfl|rfl|rfl|rfl|rfl<;>rfl) (by decide) (by unfold maxLen;omega) (by omega) I _ rfl (by rw[e];exact G)}
theorem tE (w:World)(J:o.guard=none)(s x:Operand)(M:o.op=.call { callee:=.builtin .append,args:=#[s,x],argTypes:=#[30,30] }){base n c:Nat}{A:OA}{h:List EntryT}(O:a.eval s=.slice A n c)(N:w.ownsRow base 25 7 (.slice A n c) n (ents h)){b:Nat}{x0 x1 x2 x3 x4 x5 x6:Int}(T:a.eval x=.slice (some ⟨b,0,none⟩) 1 1)(hc:w.heap[b]?=some (.cells #[x0,x1,x2,x3,x4,x5,x6] 25 (0,0)))(V:n≤1099511627776)(I:base≤w.heap.size)(G:∀g B w',w'.ownsRow base 25 7 (.slice (some ⟨g,0,none⟩) (n+1) B) (n+1) (ents (h++[(x0,x1,x2,x3,x4,x5,x6)]))→w.grownBy w' (Value.slice A n c).ownBlock→((Value.slice A n c).ownBlock=some g∨g=w.heap.size)→g<w'.heap.size→K (a.put o.dst (.slice (some ⟨g,0,none⟩) (n+1) B)) w'):if Region.wanted o (yielded ops a.tmps)=true then Oper.wp prog o a w K Q else E:=by{
 obtain⟨i,L,U,R,H⟩:=info_parts iT;have e:∀(u:List EntryT),ents u++[.int .i64 x0,.int .i64 x1,.int .i64 x2,.int .i64 x3,.int .i64 x4,.int .i64 x5,.int .i64 x6]=ents (u++[(x0,x1,x2,x3,x4,x5,x6)]):=λu=>by unfold ents;rw[List.flatMap_append];rfl
 exact step_append_lies w J s x 30 M base 25 i (.agg #[(0:Int),(0:Int),(0:Int),(0:Int),(0:Int),(0:Int),(0:Int)]) 7 56 underlying30 L U R H rfl (by decide) (.slice A n c) n (ents h) O N ⟨b,0,none⟩ 1 1 [.int .i64 x0,.int .i64 x1,.int .i64 x2,.int .i64 x3,.int .i64 x4,.int .i64 x5,.int .i64 x6] T rfl (World.news_of_block (cs:=#[x0,x1,x2,x3,x4,x5,x6]) hc) (by intro W F;simp at F;rcases F with rfl|rfl|rfl|rfl|rfl|rfl|rfl<;>rfl) (by decide) (by unfold maxLen;omega) (by omega) I _ rfl (by rw[e];exact G)}
end
structure hU (w0 : World) (A : OA) (n : Nat) (code : LI) : Prop where
 rd : Rd w0 1 A n (mQ code)
 n4 : n ≤ 8192
 byte : ∀c ∈ code, 0 ≤ c ∧ c ≤ 255
theorem hU.len {u:World}{A:OA}{n:Nat}{code:LI}(h:hU u A n code):code.length=n:=by{
 have:=h.rd.len;rwa [nK,Nat.mul_one] at this}
theorem hU.at_ {F w:World}{A:OA}{n k:Nat}{code:LI}(h:hU F A n code)(G:BL F w)(I:k<n):∃b o c,A=some ⟨b,o,none⟩∧code[k]?=some c∧0≤c∧c≤255∧w.cell? ⟨b,o+k,none⟩=some (.int .u8 c):=by{
 obtain⟨b,o,e,H⟩:=h.rd.pos (by omega);obtain⟨c,u,_⟩:=dd (xs:=code) (k:=k) (by rw[h.len];exact I);have B:=h.byte c (qF u);exact⟨b,o,c,e,u,B.1,B.2,fW.below G _ _ (H k _ (Cc u))⟩}
structure kY (w0 w : World) (A : OA) (n cap : Nat) (code : LI) (g : Nat) (s : St) : Prop where
 blk : w.heap[g]? = some (.cells #[.slice A n cap, .int .i64 (s.1 : Int), s.2] 88 (0, 0))
 old : w0.heap.size ≤ g
 bel : BL w0 w
 ok : Jj code s
theorem kY.lt {B w:World}{A:OA}{n h:Nat}{code:LI}{g:Nat}{s:St}(u:kY B w A n h code g s):g<w.heap.size:=(Array.getElem?_eq_some_iff.1 u.blk).1
theorem kY.c0 {B w:World}{A:OA}{n h:Nat}{code:LI}{g:Nat}{s:St}(u:kY B w A n h code g s):w.cell? ⟨g,0,none⟩=some (.slice A n h):=by simp[World.cell?,u.blk]
theorem kY.c1 {B w:World}{A:OA}{n h:Nat}{code:LI}{g:Nat}{s:St}(u:kY B w A n h code g s):w.cell? ⟨g,1,none⟩=some (.int .i64 (s.1:Int)):=by simp[World.cell?,u.blk]
theorem kY.c2 {B w:World}{A:OA}{n h:Nat}{code:LI}{g:Nat}{s:St}(u:kY B w A n h code g s):w.cell? ⟨g,2,none⟩=some (.int .i64 s.2):=by simp[World.cell?,u.blk]
theorem kY.fz {B w:World}{A:OA}{n h:Nat}{code:LI}{g:Nat}{s:St}(u:kY B w A n h code g s)(i:Nat):w.frozen? ⟨g,i,none⟩=false:=by simp[World.frozen?,u.blk]
theorem kY.drewN {B w:World}{A:OA}{n u:Nat}{code:LI}{g:Nat}{s:St}(h:kY B w A n u code g s)(q:Nat):kY B (w.drewN q) A n u code g s:=⟨h.blk,h.old,bx h.bel q,h.ok⟩
theorem kY.below {B w w':World}{A:OA}{n u:Nat}{code:LI}{g:Nat}{s:St}(h:kY B w A n u code g s)(k:BL w w'):kY B w' A n u code g s:=⟨(k.block g h.lt).trans h.blk,h.old,h.bel.trans (k.mono h.bel.size),h.ok⟩
theorem kY.chg {G w F:World}{A:OA}{n u:Nat}{code:LI}{g B H:Nat}{s:St}(h:kY G w A n u code g s)(k:aK B H w F)(I:g<B):kY G F A n u code g s:=⟨(k.block g h.lt (.inl I)).trans h.blk,h.old,ao h.bel k (by have:=h.old;omega) h.bel.size,h.ok⟩
theorem bD {u h:Nat}{w B:World}(F:aK u h w B){g i:Nat}(G:u≤g)(H:g<h)(v:Value):aK u h w (B.setCell ⟨g,i,none⟩ v):=F.trans ⟨rfl,rfl,rfl,by simp[World.setCell],λk I J=>Below.heap_setCell _ _ _ _ (by simp;omega)⟩
theorem eJ:∀(l:LB),∀x∈wordsL l,x.length≤l.length:=by{
 intro l
 induction l with
 | nil=>intro x h;simp[wordsL] at h;subst h;simp
 | cons c r u=>{
 intro x h;by_cases B:c=32
 {
 subst B;rw[dW] at h;rcases List.mem_cons.1 h with rfl|h
 {simp}
 {have:=u x h;simp;omega}}
 {
 rw[dQ B] at h
 cases F:wordsL r with
 | nil=>exact absurd F (bY r)
 | cons w G=>{
 rw[F] at h u;simp only[cj] at h;rcases List.mem_cons.1 h with rfl|h
 {have:=u w List.mem_cons_self;simp;omega}
 {have:=u x (List.mem_cons_of_mem _ h);simp;omega}}}}}
theorem ct {n a b:Int}{r:Bool}(h:af n a b=r)(w:World):Calls prog 30 #[n,a,b] w λe u=>e=.returned (.bool r)∧w=u:=by{subst h;exact bc n a b w}
theorem bj {n a b:Int}{r:Bool}(h:af n a b=r)(w:World):Calls prog 34 #[n,a,b] w λe u=>e=.returned (.bool r)∧w=u:=by{subst h;exact bi n a b w}
theorem AI (n:Int)(w:World):Calls prog 60 #[n] w λe h=>e=.returned (.bool (af n 0 15))∧w=h:=by{
 go_enter func60,ntmps60;go_wp2_with(go_at_call 30;refine(bc _ _ _ _).mono ?_;rintro e h⟨rfl,rfl⟩)
 go_ret;exact⟨rfl,rfl⟩}
theorem gQ {n:Int}{r:Bool}(h:af n 0 15=r)(w:World):Calls prog 60 #[n] w λe u=>e=.returned (.bool r)∧w=u:=by{subst h;exact AI n w}
theorem kK (I G J:Int)(w:World):Calls prog 31 #[.agg #[I,G,J]] w λe h=>e=.returned (.bool (nF (I,G,J)))∧BL w h:=by{
 have H:=hI (show ∀o,BL w (w.alloc o) from λo=>(qB _ _).alloc (qA _) o);show Calls _ _ _ _ λe h=>e=.returned (.bool (af I 0 15&&if G=0 then af J 1 1000000000 else af G 1 9&&(J==0)))∧BL w h
 by_cases L:G=0
 {
 subst L;rw[if_pos rfl]
 cases u:af I 0 15 with
 | false=>{
 have F:=hI (λw=>gQ u w);have B:=hI (λw=>gQ u w);clear u;go_enter func31,ntmps31;go_wp2_with(first|(go_at_call 60;(with_reducible refine(F.out _).mono ?_);rintro e h⟨rfl,rfl⟩)|(go_at_call 30;(with_reducible refine(B.out _).mono ?_);rintro e h⟨rfl,rfl⟩))
 go_ret;exact⟨rfl,H _⟩}
 | true=>{
 have F:=hI (λw=>gQ u w);have B:=hI (λw=>bc J 1 1000000000 w);clear u;go_enter func31,ntmps31;go_wp2_with(first|(go_at_call 60;(with_reducible refine(F.out _).mono ?_);rintro e h⟨rfl,rfl⟩)|(go_at_call 30;(with_reducible refine(B.out _).mono ?_);rintro e h⟨rfl,rfl⟩))
 go_ret;exact⟨ak (by simp),H _⟩}}
 {
 rw[if_neg L];have M:(G==0)=false:=by simp[L]
 cases u:af I 0 15 with
 | false=>{
 have F:=hI (λw=>gQ u w);have B:=hI (λw=>gQ u w);clear u;go_enter func31,ntmps31;go_wp2_with(first|(go_at_call 60;(with_reducible refine(F.out _).mono ?_);rintro e h⟨rfl,rfl⟩)|(go_at_call 30;(with_reducible refine(B.out _).mono ?_);rintro e h⟨rfl,rfl⟩))
 go_ret;exact⟨rfl,H _⟩}
 | true=>{
 have F:=hI (λw=>gQ u w);clear u
 cases u:af G 1 9 with
 | false=>{
 have B:=hI (λw=>ct u w);clear u;go_enter func31,ntmps31;go_wp2_with(first|(go_at_call 60;(with_reducible refine(F.out _).mono ?_);rintro e h⟨rfl,rfl⟩)|(go_at_call 30;(with_reducible refine(B.out _).mono ?_);rintro e h⟨rfl,rfl⟩))
 go_ret;exact⟨rfl,H _⟩}
 | true=>{
 have B:=hI (λw=>ct u w);clear u;go_enter func31,ntmps31;go_wp2_with(first|(go_at_call 60;(with_reducible refine(F.out _).mono ?_);rintro e h⟨rfl,rfl⟩)|(go_at_call 30;(with_reducible refine(B.out _).mono ?_);rintro e h⟨rfl,rfl⟩))
 go_ret;exact⟨ak (by simp),H _⟩}}}}
theorem rI (u:Int)(A:OA)(n c:Nat)(F:List ah)(w:World)(Z:Rd w 3 A n (fins F)):Calls prog 277 #[u,.slice A n c] w λe R=>e=.returned (.bool (e_ u F))∧BL w R:=by{
 have W:=hI Z.len_fin;have hn:=Z.le;have E:=hI (show e_ u F=(af u 1 16&&((F.length:Int)==u)&&cH 0 F) from rfl)
 cases h:af u 1 16 with
 | false=>{
 go_enter func277,ntmps277;go_wp2_with(go_at_call 30;refine(bc _ _ _ _).mono ?_;rintro e R⟨rfl,rfl⟩)
 go_ret;exact⟨ak (by rw[E.out,h];rfl),qB _ _⟩}
 | true=>{
 have hB:=ai.1 h;by_cases h2:(n:Int)=u
 {
 subst h2;have ar:=hI h;go_enter func277,ntmps277;go_wp2_with(go_at_call 30;refine(bc _ _ _ _).mono ?_;rintro e R⟨rfl,rfl⟩)
 clear h;go_loopw [18] (λi wr=>∃k:Nat,k≤n∧i=.int .i64 k∧Hid (cH k (F.drop k)=cH 0 F)∧BL w wr) (λi _=>n-(intOf i).toNat)
 case atStart=>exact⟨0,qH _,rfl,hI rfl,qB _ _⟩
 case round=>(
 obtain⟨k,_,rfl,N,O⟩:=hrel;by_cases av:k<n
 {
 obtain⟨b,o,T,H,I,rfl,B,h,_,_,_⟩:=(Z.below O).fin av;have U:=hI h;clear B h;have h:=hI O;clear O;by_cases Y:T=(k:Int)
 {
 subst Y;have ad:af (k:Int) 0 15=true:=ai.2 (by omega);have e0:((k:Int) !=(k:Int))=false:=by simp
 cases G:dP ((k:Int),H,I) with
 | false=>{
 have L:=hI (λw=>kK (k:Int) H I w);have B:nF ((k:Int),H,I)=false:=by unfold nF;rw[G,Bool.and_false]
 rw[B] at L;have V:=hI G;clear ad G B;go_wp2_with fail
 refine(L _).mono ?_;rintro e w2⟨rfl,M⟩;have J:=hI ((h.alloc h.size _).trans (M.mono (by simp;have:=h.size;omega)));clear M;go_wp2_with fail
 go_ret;exact⟨ak (by rw[E.out,←N.out,U.out,cH,V.out];simp),J⟩}
 | true=>{
 have L:=hI (λw=>kK (k:Int) H I w);have B:nF ((k:Int),H,I)=true:=by unfold nF;rw[G,ad];rfl
 rw[B] at L;have V:=hI G;clear ad G B;go_wp2_with fail
 refine(L _).mono ?_;rintro e w2⟨rfl,M⟩;have J:=hI ((h.alloc h.size _).trans (M.mono (by simp;have:=h.size;omega)));clear M;go_wp2_with fail
 go_roundw
 case rel=>exact⟨k+1,by omega,by go_num,hI (by rw[←N.out,U.out,cH,V.out];simp),J⟩
 case measure=>simp[intOf]<;>omega}}
 {
 have e0:(T !=(k:Int))=true:=by simp[Y]
 have B:(T==(k:Int))=false:=by simp[Y]
 have G:=hI B;have J:=hI (h.alloc h.size (.cells #[T,H,I] 53));clear B;go_wp2_with fail
 go_ret;exact⟨ak (by rw[E.out,←N.out,U.out,cH,G.out];simp),J⟩}}
 {
 obtain rfl:k=n:=by omega
 go_wp2_with fail
 go_ret;exact⟨ak (by rw[E.out,ar.out,←N.out,qK (by rw[W.out];exact qA _),W.out];simp[cH]),O⟩})}
 {
 have h:((n:Int) !=u)=true:=by simp[h2]
 go_enter func277,ntmps277;go_wp2_with(go_at_call 30;refine(bc _ _ _ _).mono ?_;rintro e R⟨rfl,rfl⟩)
 go_ret;exact⟨ak (by rw[E.out,W.out];simp[h2]),qB _ _⟩}}}
theorem tw (u:Int)(A:OA)(n c:Nat)(B:List ah)(w:World)(F:Rd w 3 A n (fins B)):Calls prog 225 #[u,.agg #[.slice A n c]] w λe h=>e=.returned (.bool (e_ u B))∧BL w h:=by{
 have I:=hI (λh (G:BL w h)=>rI u A n c B h (F.below G));clear F;obtain⟨_,G,J,F,_⟩:=ae w #[.slice A n c] 157;go_enter func225,ntmps225;go_wp2_with fail
 rw[←G];clear G;refine(I _ F).mono ?_;rintro e L⟨rfl,G⟩;have H:=hI (F.trans (G.mono F.size));clear G J;go_wp2_with fail
 go_ret;exact⟨rfl,H⟩}
theorem lq (x:Int)(w:World):Calls prog 279 #[x] w λe h=>e=.returned (.bool (af x 0 9))∧w=h:=by{
 go_enter func279,ntmps279;go_wp2_with(go_at_call 34;refine(bi _ _ _ _).mono ?_;rintro e h⟨rfl,rfl⟩)
 go_ret;exact⟨rfl,rfl⟩}
theorem jC {x:Int}{r:Bool}(h:af x 0 9=r)(w:World):Calls prog 279 #[x] w λe u=>e=.returned (.bool r)∧w=u:=by{subst h;exact lq x w}
theorem vl {x0 h x2:Int}(u:af h 0 9=false):dP (x0,h,x2)=false:=by{
 unfold dP;rw[gY] at u;by_cases B:h=0
 {omega}
 {
 have:af h 1 9=false:=gY.2 (by omega);simp[B,this]}}
theorem qy (T:Int)(A:OA)(n c:Nat)(L:List ah)(w:World)(B:Rd w 3 A n (fins L)):Calls prog 288 #[T,.agg #[.slice A n c]] w λe u=>e=.returned (.bool (((L.length:Int)==T)&&cH 0 L))∧BL w u:=by{
 have W:=hI B.len_fin;have hn:=B.le;obtain⟨av,h⟩:∃av,av=(((L.length:Int)==T)&&cH 0 L):=⟨_,rfl⟩;rw[←h];have E:=hI h;clear h;obtain⟨w1,ad,X0,F,G⟩:=ae w #[.slice A n c] 157;have h:=hI F;have a1:=hI (B.below F);clear B F G;by_cases h2:(n:Int)=T
 {
 subst h2;go_enter func288,ntmps288;go_wp2_with fail
 rw[←ad];clear ad;go_loopw [5] (λi wr=>∃k:Nat,k≤n∧i=.int .i64 k∧Hid (cH k (L.drop k)=cH 0 L)∧BL w1 wr) (λi _=>n-(intOf i).toNat)
 case atStart=>exact⟨0,qH _,rfl,hI rfl,qB _ _⟩
 case round=>(
 obtain⟨k,_,rfl,J,O⟩:=hrel;have F0:=(X0.below O).l1;by_cases a2:k<n
 {
 obtain⟨b,o,V,H,I,rfl,F,B,_,_,_⟩:=(a1.below O).fin a2;have N:=hI B;clear F B;have M:=hI (O.alloc O.size (.cells #[V,H,I] 53));clear O X0;by_cases Y:V=(k:Int)
 {
 subst Y;have e0:((k:Int) !=(k:Int))=false:=by simp
 cases R:af H 0 9 with
 | false=>{
 have F:=hI (λw=>jC R w);have G:=F;have B:=hI (vl (x0:=(k:Int)) (x2:=I) R);clear R;go_wp2_with(first|(go_at_call 279;(with_reducible refine(F.out _).mono ?_);rintro e u⟨rfl,rfl⟩)|(go_at_call 34;(with_reducible refine(G.out _).mono ?_);rintro e u⟨rfl,rfl⟩))
 go_ret;exact⟨ak (by rw[E.out,←J.out,N.out,cH,B.out];simp),h.trans (M.mono h.size)⟩}
 | true=>{
 have F:=hI (λw=>jC R w);have a7:=ai.1 R;clear R;by_cases U:H=0
 {
 subst U
 cases R:af I 1 1000000000 with
 | false=>{
 have G:=hI (λw=>bj R w);have B:=hI (show dP ((k:Int),0,I)=false from by unfold dP;rw[if_pos rfl];exact R);clear R;go_wp2_with(first|(go_at_call 279;(with_reducible refine(F.out _).mono ?_);rintro e u⟨rfl,rfl⟩)|(go_at_call 34;(with_reducible refine(G.out _).mono ?_);rintro e u⟨rfl,rfl⟩))
 go_ret;exact⟨ak (by rw[E.out,←J.out,N.out,cH,B.out];simp),h.trans (M.mono h.size)⟩}
 | true=>{
 have G:=hI (λw=>bj R w);have B:=hI (show dP ((k:Int),0,I)=true from by unfold dP;rw[if_pos rfl];exact R);clear R;go_wp2_with(first|(go_at_call 279;(with_reducible refine(F.out _).mono ?_);rintro e u⟨rfl,rfl⟩)|(go_at_call 34;(with_reducible refine(G.out _).mono ?_);rintro e u⟨rfl,rfl⟩))
 go_roundw
 case rel=>exact⟨k+1,by omega,by go_num,hI (by rw[←J.out,N.out,cH,B.out];simp),M⟩
 case measure=>simp[intOf]<;>omega}}
 {
 have e1:(H==0)=false:=by simp[U]
 have a6:(H !=0)=true:=by simp[U]
 have ar:af H 1 9=true:=ai.2 (by omega);have G:=F;by_cases Z:I=0
 {
 subst Z;have B:=hI (show dP ((k:Int),H,0)=true from by unfold dP;rw[if_neg U,ar];rfl);clear ar;go_wp2_with(first|(go_at_call 279;(with_reducible refine(F.out _).mono ?_);rintro e u⟨rfl,rfl⟩)|(go_at_call 34;(with_reducible refine(G.out _).mono ?_);rintro e u⟨rfl,rfl⟩))
 go_roundw
 case rel=>exact⟨k+1,by omega,by go_num,hI (by rw[←J.out,N.out,cH,B.out];simp),M⟩
 case measure=>simp[intOf]<;>omega}
 {
 have e2:(I !=0)=true:=by simp[Z]
 have B:=hI (show dP ((k:Int),H,I)=false from by unfold dP;rw[if_neg U];simp[Z]);clear ar;go_wp2_with(first|(go_at_call 279;(with_reducible refine(F.out _).mono ?_);rintro e u⟨rfl,rfl⟩)|(go_at_call 34;(with_reducible refine(G.out _).mono ?_);rintro e u⟨rfl,rfl⟩))
 go_ret;exact⟨ak (by rw[E.out,←J.out,N.out,cH,B.out];simp),h.trans (M.mono h.size)⟩}}}}
 {
 have e0:(V !=(k:Int))=true:=by simp[Y]
 have B:=hI (show(V==(k:Int))=false by simp[Y]);go_wp2_with fail
 go_ret;exact⟨ak (by rw[E.out,←J.out,N.out,cH,B.out];simp),h.trans (M.mono h.size)⟩}}
 {
 obtain rfl:k=n:=by omega
 go_wp2_with fail
 go_ret;exact⟨ak (by rw[E.out,←J.out,qK (by rw[W.out];exact qA _),W.out];simp[cH]),h.trans (O.mono h.size)⟩})}
 {
 have B:((n:Int) !=T)=true:=by simp[h2]
 go_enter func288,ntmps288;go_wp2_with fail
 rw[←ad];go_ret;exact⟨ak (by rw[E.out,W.out];simp[h2]),h⟩}}
theorem sv (h:Int)(A:OA)(n c:Nat)(u:List ah)(w:World)(F:Rd w 3 A n (fins u)):Calls prog 244 #[h,.agg #[.slice A n c]] w λe B=>e=.returned (.bool (e_ h u))∧BL w B:=by{
 have L:=hI (λB (G:BL w B)=>qy h A n c u B (F.below G));clear F;have E:=hI (show e_ h u=(af h 1 16&&(((u.length:Int)==h)&&cH 0 u)) from by unfold e_;rw[Bool.and_assoc]);generalize (((u.length:Int)==h)&&cH 0 u)=N at *;obtain⟨_,H,M,F,_⟩:=ae w #[.slice A n c] 157
 cases I:af h 1 16 with
 | false=>{
 have G:=hI I;go_enter func244,ntmps244;go_wp2_with(go_at_call 34;refine(bi _ _ _ _).mono ?_;rintro e B⟨rfl,rfl⟩)
 rw[←H];go_ret;exact⟨ak (by rw[E.out,G.out];rfl),F⟩}
 | true=>{
 have G:=hI I;go_enter func244,ntmps244;go_wp2_with(go_at_call 34;refine(bi _ _ _ _).mono ?_;rintro e B⟨rfl,rfl⟩)
 rw[←H];clear H;refine(L _ F).mono ?_;rintro e O⟨rfl,H⟩;have J:=hI (F.trans (H.mono F.size));clear H M F;go_wp2_with fail
 go_ret;exact⟨ak (by rw[E.out,G.out,Bool.true_and]),J⟩}}
theorem DD:(prog.info? 44).map (λi=>(i.zero,i.size,i.bytes))=some (some (.slice none 0 0),1,24):=by kernel_rfl
def eF:List LI→Nat|[]=>0|x::r=>x.length+eF r
theorem fL {rows:List LI}{m:Nat}(h:∀x∈rows,x.length≤m):eF rows≤rows.length*m:=by{
 induction rows with
 | nil=>simp[eF]
 | cons x r B=>{
 have F:=h x (by simp);have G:=B (λy u=>h y (by simp[u]));simp only[eF,qO,Nat.add_mul,Nat.one_mul];omega}}
def Jg (w:World) (r:List LI×Int) (e:Ending) (h:World):Prop:=∃A n c u,e=.returned (.tuple #[.slice A n c,r.2])∧ap h w.heap.size 44 2 A n c u r.1∧eF r.1≤576460752303423488∧BL w h
theorem Jg.nil (w h:World)(code:Int)(u:BL w h):Jg w ([],code) (.returned (.tuple #[.slice none 0 0,code])) h:=⟨none,0,0,[],rfl,ap.nil _ _ _ _,by simp[eF],u⟩
structure Tb where
 boats : Int
 pts : List LI
 cds : List LI
structure RdT (w : World) (P : OA) (n : Nat) (C : OA) (m : Nat) (t : Tb) : Prop where
 pts : gq w P n t.pts
 cds : gq w C m t.cds
theorem RdT.below {w w':World}{P C:OA}{n m:Nat}{t:Tb}(h:RdT w P n C m t)(k:BL w w'):RdT w' P n C m t:=⟨h.pts.below k,h.cds.below k⟩
theorem RdT.keep {w w':World}{P C:OA}{n m:Nat}{t:Tb}(h:RdT w P n C m t)(k:fW w w'):RdT w' P n C m t:=⟨h.pts.keep k,h.cds.keep k⟩
structure ds (w : World) (base : Nat) (P : OA) (n c : Nat) (vs : List Value) (C : OA) (m d : Nat) (us : List Value) (t : Tb) : Prop where
 pts : ap w base 44 2 P n c vs t.pts
 cds : ap w base 44 2 C m d us t.cds
 apO : ∀g, (Value.slice P n c).ownBlock = some g → (Value.slice C m d).ownBlock ≠ some g
 apR : ∀v ∈ vs, ∀u ∈ us, ∀g, v.ownBlock = some g → u.ownBlock ≠ some g
def Jp (u h:Nat) (P:OA) (n c:Nat) (vs:List Value) (C:OA) (m d:Nat) (us:List Value):Prop:=lz u h P n c vs∧lz u h C m d us
section
variable {w w' : World} {base n c m d : Nat} {P C : Option Addr} {vs us : List Value} {t : Tb}
theorem ds.rd (h:ds w base P n c vs C m d us t):RdT w P n C m t:=⟨h.pts.rd,h.cds.rd⟩
theorem ds.in_ (h:ds w base P n c vs C m d us t):Jp base w.heap.size P n c vs C m d us:=⟨h.pts.in_,h.cds.in_⟩
theorem ds.below (h:ds w base P n c vs C m d us t)(k:BL w w'):ds w' base P n c vs C m d us t:=⟨h.pts.below k,h.cds.below k,h.apO,h.apR⟩
theorem ds.base' {u:Nat}(h:ds w base P n c vs C m d us t)(B:u≤base):ds w u P n c vs C m d us t:=⟨h.pts.base' B,h.cds.base' B,h.apO,h.apR⟩
theorem ds.chg {H B:Nat}(h:ds w base P n c vs C m d us t)(k:aK H B w w'){I F:Nat}(G:Jp I F P n c vs C m d us)(u:F≤H∨B≤I):ds w' base P n c vs C m d us t:=⟨h.pts.chg k G.1 u,h.cds.chg k G.2 u,h.apO,h.apR⟩
theorem ds.join {B:Nat}(I:ap w base 44 2 P n c vs t.pts)(F:ap w B 44 2 C m d us t.cds)(J:base≤B)(H:lz base B P n c vs):ds w base P n c vs C m d us t:=by{
 have G:=F.in_;refine⟨I,F.base' J,λg h u=>?_,λv M N L g h u=>?_⟩
 {have:=H.1 g h;have:=G.1 g u;omega}
 {have:=H.2 v M g h;have:=G.2 N L g u;omega}}
end
def oY (w:World) (t:Tb) (e:Ending) (w':World):Prop:=∃P n c vs C m d us,e=.returned (.agg #[t.boats,.slice P n c,.slice C m d])∧ds w' w.heap.size P n c vs C m d us t∧(eF t.pts≤1099511627776∧eF t.cds≤1099511627776)∧BL w w'
def ke (w:World) (r:Tb×Int) (e:Ending) (w':World):Prop:=∃P n c vs C m d us,e=.returned (.tuple #[.agg #[r.1.boats,.slice P n c,.slice C m d],r.2])∧ds w' w.heap.size P n c vs C m d us r.1∧(eF r.1.pts≤1099511627776∧eF r.1.cds≤1099511627776)∧BL w w'
def IV:Tb:=⟨0,[],[]⟩
theorem ds.nil (w:World)(base:Nat):ds w base none 0 0 [] none 0 0 [] IV:=⟨ap.nil _ _ _ _,ap.nil _ _ _ _,λg h=>by simp[Value.ownBlock] at h,λv u=>by simp at u⟩
theorem ke.nil (w w':World)(code:Int)(h:BL w w'):ke w (IV,code) (.returned (.tuple #[.agg #[(0:Int),.slice none 0 0,.slice none 0 0],code])) w':=⟨none,0,0,[],none,0,0,[],rfl,ds.nil _ _,by simp[IV,eF],h⟩
def gX (b:Int):List LI→List LI→Bool|p::u,c::h=>lf p b 10000&&lf c b 9&&gX b u h|_,_=>true
theorem GL (b:Int)(h:List LI):gX b [] h=true:=by cases h<;>rfl
def iq (t:Tb):Bool:=af t.boats 1 16&&decide (t.pts.length≤12)&&decide (t.pts.length=t.cds.length)&&gX t.boats t.pts t.cds
def kX:LI→LI→Bool|p::u,c::h=>af p 0 10000&&af c 0 9&&kX u h|_,_=>true
theorem DS (q:LI):kX [] q=true:=by cases q<;>rfl
theorem EA (b:Int):∀(p c:LI),(p.length:Int)=b→(c.length:Int)=b→(lf p b 10000&&lf c b 9)=kX p c:=by{
 intro p c B F;have G:p.length=c.length:=by omega
 have H:∀(p c:LI),p.length=c.length→(p.all (λx=>af x 0 10000)&&c.all (λx=>af x 0 9))=kX p c:=by{
 intro p
 induction p with
 | nil=>intro c h;cases c<;>simp_all[kX]
 | cons x p u=>{
 intro c h
 cases c with
 | nil=>simp at h
 | cons y c=>{
 have:=u c (by simpa using h);simp only[List.all_cons,kX,←this]
 cases af x 0 10000<;>cases af y 0 9<;>simp[Bool.and_comm]}}}
 rw[←H p c G];unfold lf;have h:((p.length:Int)==b)=true:=by simp[B]
 have u:((c.length:Int)==b)=true:=by simp[F]
 rw[h,u];simp}
theorem sU {xs:LI}{b u:Int}(h:(xs.length:Int)≠b):lf xs b u=false:=by{
 unfold lf;have:((xs.length:Int)==b)=false:=by simpa using h
 rw[this,Bool.and_false]}
theorem Co {u:LI}{b B:Int}(h:lf u b B=true):(u.length:Int)=b∧∀x∈u,0≤x∧x≤B:=by{
 unfold lf at h;simp only[Bool.and_eq_true,List.all_eq_true,beq_iff_eq] at h;exact⟨h.2,λx F=>ai.1 (h.1 x F)⟩}
theorem Cp {b:Int}:∀{B h:List LI},gX b B h=true→∀(k:Nat) (p c:LI),B[k]?=some p→h[k]?=some c→lf p b 10000=true∧lf c b 9=true:=by{
 intro B
 induction B with
 | nil=>intro h F k p c u;simp at u
 | cons J B H=>{
 intro h F k p c u G
 cases h with
 | nil=>simp at G
 | cons I h=>{
 simp only[gX,Bool.and_eq_true] at F
 cases k with
 | zero=>simp at u G;subst u;subst G;exact F.1
 | succ k=>exact H F.2 k p c (by simpa using u) (by simpa using G)}}}
structure bl (t : Tb) : Prop where
 b1 : 1 ≤ t.boats
 b2 : t.boats ≤ 16
 many : t.pts.length ≤ 12
 same : t.pts.length = t.cds.length
 row : ∀(k : Nat) (p c : LI), t.pts[k]? = some p → t.cds[k]? = some c → ((p.length : Int) = t.boats ∧ ∀x ∈ p, 0 ≤ x ∧ x ≤ 10000) ∧ ((c.length : Int) = t.boats ∧ ∀x ∈ c, 0 ≤ x ∧ x ≤ 9)
theorem pQ {t:Tb}(h:iq t=true):bl t:=by{
 unfold iq at h;simp only[Bool.and_eq_true,decide_eq_true_eq] at h;obtain⟨⟨⟨H,I⟩,J⟩,u⟩:=h;have B:=ai.1 H;exact⟨B.1,B.2,I,J,λk p c G F=>⟨Co (Cp u k p c G F).1,Co (Cp u k p c G F).2⟩⟩}
theorem bl.tableB {t:Tb}(h:bl t):iq t=true:=by{
 have M:∀(B u:List LI),(∀(k:Nat) (p c:LI),B[k]?=some p→u[k]?=some c→((p.length:Int)=t.boats∧∀x∈p,0≤x∧x≤10000)∧((c.length:Int)=t.boats∧∀x∈c,0≤x∧x≤9))→gX t.boats B u=true:=by{
 intro B
 induction B with
 | nil=>intro u _;simp[gX]
 | cons p B N=>{
 intro u h
 cases u with
 | nil=>simp[gX]
 | cons c u=>{
 obtain⟨⟨G,H⟩,I,J⟩:=h 0 p c rfl rfl;have:=N u (λk p c L F=>h (k+1) p c (by simpa using L) (by simpa using F));simp only[gX,this,Bool.and_true,Bool.and_eq_true,lf,List.all_eq_true,beq_iff_eq];exact⟨⟨λx F=>ai.2 (H x F),G⟩,λx F=>ai.2 (J x F),I⟩}}}
 unfold iq;rw[M _ _ h.row,ai.2 ⟨h.b1,h.b2⟩];rw[decide_eq_true h.many,decide_eq_true h.same];rfl}
def cA (race kind:Int) (k:Nat):Bool:=!((k:Int)==race)&&!(kind==2&&decide (race<(k:Int)))
theorem ks {race kind:Int}(k:Nat)(B:kind=1∨kind=2):cA race kind k=(decide ((k:Int)<race)||(decide ((k:Int)>race)&&(kind==1))):=by{
 unfold cA;rcases B with rfl|rfl
 {
 by_cases h:(k:Int)<race
 {simp[h];omega}
 {by_cases u:(k:Int)>race<;>simp[h,u]<;>omega}}
 {
 by_cases h:(k:Int)<race
 {simp[h];omega}
 {by_cases u:(k:Int)>race<;>simp[h,u]<;>omega}}}
def dw (race kind:Int) (b:Nat):Nat→List LI→List LI→Int→Int→Int×Int|k,p::u,c::h,s,m=>if (cA race kind k&&!(c.getD b 0==9))=true then dw race kind b (k+1) u h (s+p.getD b 0) (m+1) else dw race kind b (k+1) u h s m|_,_,_,s,m=>(s,m)
theorem uE (race kind:Int)(b k:Nat)(h:List LI)(s m:Int):dw race kind b k [] h s m=(s,m):=by cases h<;>rfl
def uW (r:Int×Int):Int×Bool:=if r.2=0 then(0,false) else((2*r.1+r.2)/(2*r.2),true)
def iA (t:Tb) (race boat kind:Int):Int×Bool:=uW (dw race kind boat.toNat 0 t.pts t.cds 0 0)
abbrev gz:=Int×Int×Int×Int
def my (kind points:Int):Bool:=if kind=3 then af points 0 10000 else af kind 1 2&&(points==0)
def vT (t:Tb) (race boat:Int):Int:=(t.cds.getD race.toNat []).getD boat.toNat 0
def nE (t:Tb) (x:gz):Bool:=af x.1 0 ((t.pts.length:Int)-1)&&af x.2.1 0 (t.boats-1)&&my x.2.2.1 x.2.2.2&&(vT t x.1 x.2.1==9)&&(x.2.2.1==3||(iA t x.1 x.2.1 x.2.2.1).2)
def Hx (y x:gz):Bool:=decide (y.1<x.1)||((y.1==x.1)&&decide (y.2.1<x.2.1))
def it (t:Tb):Option gz→List gz→Bool|_,[]=>true|none,x::r=>nE t x&&it t (some x) r|some y,x::r=>nE t x&&Hx y x&&it t (some x) r
def yL (t:Tb) (h:List gz):Bool:=it t none h
def jD (t:Tb) (x:gz):Int:=if x.2.2.1=3 then x.2.2.2 else(iA t x.1 x.2.1 x.2.2.1).1
def pd (h:List LI) (r b:Nat) (v:Int):List LI:=h.set r ((h.getD r []).set b v)
def dm (t:Tb):List gz→List LI→List LI|[],h=>h|x::r,h=>dm t r (pd h x.1.toNat x.2.1.toNat (jD t x))
def iK (t:Tb) (h:List gz):Tb:=⟨t.boats,dm t h t.pts,t.cds⟩
theorem Hc {b i u h:Nat}{v:Value}(w:World)(B:u≤b)(F:b<h):aK u h w (w.setCell ⟨b,i,none⟩ v):=aQ (g:=b) [v] i (aK.refl _ _ _) B F
theorem ap.setU {w:World}{h eo ei n c b i:Nat}{A:OA}{F:List Value}{B:List LI}{v:Value}(u:ap w h eo ei A n c F B)(G:b<h):ap (w.setCell ⟨b,i,none⟩ v) h eo ei A n c F B:=u.chg (Hc w (qA b) (qj b)) u.in_ (.inr G)
theorem ds.setU {w:World}{u n c m d b i:Nat}{P C:OA}{G F:List Value}{t:Tb}{v:Value}(h:ds w u P n c G C m d F t)(B:b<u):ds (w.setCell ⟨b,i,none⟩ v) u P n c G C m d F t:=⟨h.pts.setU B,h.cds.setU B,h.apO,h.apR⟩
structure mY (S : Nat → Prop) (w w' : World) : Prop where
 os : w'.os = w.os
 tape : w'.tape = w.tape
 output : w'.output = w.output
 size : w.heap.size ≤ w'.heap.size
 block : ∀k, k < w.heap.size → ¬S k → w'.heap[k]? = w.heap[k]?
theorem mY.refl (S:Nat→Prop)(w:World):mY S w w:=⟨rfl,rfl,rfl,qA _,λ_ _ _=>rfl⟩
theorem mY.trans {S:Nat→Prop}{a b c:World}(h:mY S a b)(k:mY S b c):mY S a c:=⟨k.os.trans h.os,k.tape.trans h.tape,k.output.trans h.output,qM h.size k.size,λi u B=>(k.block i (qe u h.size) B).trans (h.block i u B)⟩
theorem mY.mono {S u:Nat→Prop}{a b:World}(h:mY S a b)(k:∀i,S i→u i):mY u a b:=⟨h.os,h.tape,h.output,h.size,λi B F=>h.block i B (λG=>F (k i G))⟩
theorem mY.of_grown {S:Nat→Prop}{w B:World}{u:Option Nat}(h:w.grownBy B u)(H:∀k,u=some k→S k):mY S w B:=⟨h.os,h.tape,h.output,h.size,λk F G=>h.block k F (λe=>G (H k e.symm))⟩
theorem mY.of_below {S:Nat→Prop}{w u:World}(h:BL w u):mY S w u:=⟨h.os,h.tape,h.output,h.size,λk B _=>h.block k B⟩
theorem mY.chg {S:Nat→Prop}{B u:Nat}{w F:World}(h:mY S w F)(k:∀i,S i→B≤i∧i<u):aK B u w F:=⟨h.os,h.tape,h.output,h.size,λi G I=>h.block i G (λH=>by have:=k i H;omega)⟩
theorem DV:(prog.info? 4).map (λi=>(i.zero,i.size,i.bytes))=some (some (.bool false),1,1):=by kernel_rfl
theorem uc (n:Nat)(H:n≤1048576)(w:World):(Instr.makeSlice 282 (.int .i64 (n:Int)) (.int .i64 (n:Int))).run prog w=.ok (.slice (some ⟨w.heap.size,0,none⟩) n n) (w.alloc (.cells (madeCells #[.bool false] n) 4)):=by{
 obtain⟨i,B,G,F,u⟩:=info_parts DV;have h:=run_make (P:=prog) w 282 4 i (.bool false) underlying282 B G .i64 .i64 n n (by omega) (by omega) (by rw[u];omega) (by omega);rw[F,Nat.mul_one,qP] at h;exact h}
theorem xH {w:World}{h:Addr}{v:Value}(hc:w.cell? h=some v):∀(j:Nat) (u:Value),[v][j]?=some u→w.cell? (h.add j)=some u:=by{
 intro j u B;have G:j=0:=by{
 rcases j with _|j
 {rfl}
 {simp at B}}
 subst G;have F:h.add 0=h:=by simp[Addr.add]
 rw[F,hc];simpa using B}
theorem Gk (k:IntKind)(B:LI):∀u∈ints B,u.oneCell'=true:=by{
 intro u h;unfold ints at h;obtain⟨y,_,rfl⟩:=List.mem_map.1 h;rfl}
theorem uA {w:World}{b o m:Nat}{F:LI}(u:Rd w 1 (some ⟨b,o,none⟩) m (ints F)):∀(j:Nat) (h:Value),(ints F)[j]?=some h→w.cell? ((⟨b,o,none⟩:Addr).add j)=some h:=by{
 intro j h B;have M:=u.len;have L:=(List.getElem?_eq_some_iff.1 B).1;obtain⟨_,_,e,J⟩:=u.pos (by omega);injection e with e;injection e with G H;subst G H;have I:(⟨b,o,none⟩:Addr).add j=⟨b,o+j,none⟩:=by unfold Addr.add;split<;>simp_all
 rw[I];exact J j h B}
theorem Eg (w:World)(J:TypeId)(F:Addr){b f m d:Nat}{h:LI}(H:Rd w 1 (some ⟨b,f,none⟩) m (ints h))(T:0<m)(U:m≤1099511627776):∃B w',(Builtin.append_ #[44,44] J #[.slice (some F) 0 0,.slice (some ⟨b,f,none⟩) m d]).run prog w=.ok (.slice (some ⟨w.heap.size,0,none⟩) m B) w'∧w'.ownsRow w.heap.size 2 1 (.slice (some ⟨w.heap.size,0,none⟩) m B) m (ints h)∧BL w w'∧w.heap.size<w'.heap.size:=by{
 obtain⟨i,M,R,O,L⟩:=info_parts kh;have u:=H.len;have N:(ints h).length=m*i.size:=by rw[O,u]
 have I:=run_append_grow (P:=prog) w 44 J 2 i (.int .i64 0) underlying44 M R F 0 0 [] (by simp) (λj v G=>by simp at G) ⟨b,f,none⟩ m d (ints h) N (uA H) (by omega) (by omega) (growslice_fits (by omega) (by rw[L];omega));rw[Nat.zero_add] at I;refine⟨_,_,I,⟨u,.inr ⟨w.heap.size,_,_,rfl,qA _,heap_alloc_new _ _,grownCap_ge _ _ _ _,grownCap_le_maxLen _ _ _ _ (by unfold maxLen;omega),?_,?_⟩⟩,(ac _ w 1).alloc (qA _) _,by simp⟩
 {
 have G:=grownCap_ge w m 0 2;simp[Builtin.zeroCells,Value.cells,u];omega}
 {
 have G:(ints h).length=m:=by rw[u,Nat.mul_one]
 rw[Nat.mul_one,Array.toList_append,Array.toList_append,qb];have e:([]:List Value).toArray.toList=[]:=rfl;rw[e,List.nil_append,List.take_append_of_le_length (by rw[List.toList_toArray,G];exact qA _),List.toList_toArray,qI (by rw[G];exact qA _)]}}
section
variable {ops : Array Oper} {rest : List Oper} {o : Oper} {a : Act} {K : Act → World → Prop} {Q : Exit → Act → World → Prop} {E : Prop}
theorem bm (w:World)(J:o.guard=none)(s x:Operand)(M:o.op=.call { callee:=.builtin .append,args:=#[s,x],argTypes:=#[74,74] }){base n c:Nat}{A:OA}{vs:List Value}(O:a.eval s=.slice A n c)(N:w.ownsRow base 44 1 (.slice A n c) n vs){u:Addr}{h:OA}{m d:Nat}(T:a.eval x=.slice (some u) 1 1)(hc:w.cell? u=some (.slice h m d))(V:n≤1099511627776)(I:base≤w.heap.size)(G:∀g B w',w'.ownsRow base 44 1 (.slice (some ⟨g,0,none⟩) (n+1) B) (n+1) (vs++[.slice h m d])→w.grownBy w' (Value.slice A n c).ownBlock→((Value.slice A n c).ownBlock=some g∨g=w.heap.size)→g<w'.heap.size→K (a.put o.dst (.slice (some ⟨g,0,none⟩) (n+1) B)) w'):if Region.wanted o (yielded ops a.tmps)=true then Oper.wp prog o a w K Q else E:=by{
 obtain⟨i,L,U,R,H⟩:=info_parts DD;exact step_append_lies w J s x 74 M base 44 i (.slice none 0 0) 1 24 underlying74 L U R H rfl (by decide) (.slice A n c) n vs O N u 1 1 [.slice h m d] T rfl (xH hc) (by intro W F;simp at F;subst F;rfl) (by decide) (by unfold maxLen;omega) (by omega) I _ rfl G}
theorem yv (w:World)(L:o.guard=none)(s x:Operand)(O:o.op=.call { callee:=.builtin .append,args:=#[s,x],argTypes:=#[44,44] }){base n c:Nat}{A:OA}{xs:LI}(T:a.eval s=.slice A n c)(R:w.ownsRow base 2 1 (.slice A n c) n (ints xs)){b f m d:Nat}{u:LI}(V:a.eval x=.slice (some ⟨b,f,none⟩) m d)(F:Rd w 1 (some ⟨b,f,none⟩) m (ints u))(N:0<m)(Y:n+m≤1099511627776)(J:base≤w.heap.size)(h:Nat)(H:n+m=h)(G:∀g B w',w'.ownsRow base 2 1 (.slice (some ⟨g,0,none⟩) h B) h (ints (xs++u))→w.grownBy w' (Value.slice A n c).ownBlock→((Value.slice A n c).ownBlock=some g∨g=w.heap.size)→g<w'.heap.size→wpList prog ops Q rest (a.put o.dst (.slice (some ⟨g,0,none⟩) h B)) w'):wpList prog ops Q (o::rest) a w:=by{
 subst H;obtain⟨i,M,W,U,I⟩:=info_parts kh;exact wpList_append_lies w L s x 44 O base 2 i (.int .i64 0) 1 8 underlying44 M W U I rfl (by decide) (.slice A n c) n (ints xs) T R ⟨b,f,none⟩ m d (ints u) V (by have:=F.len;omega) (uA F) (Gk .i64 u) N (by unfold maxLen;omega) (by omega) J _ rfl (by rw[←jx];exact G)}
theorem eS (w:World)(L:o.guard=none)(s x:Operand)(O:o.op=.call { callee:=.builtin .append,args:=#[s,x],argTypes:=#[44,44] }){u:Addr}(U:a.eval s=.slice (some u) 0 0){b f m d:Nat}{B:LI}(W:a.eval x=.slice (some ⟨b,f,none⟩) m d)(R:Rd w 1 (some ⟨b,f,none⟩) m (ints B))(M:0<m)(N:m≤1099511627776)(G:∀h w',w'.ownsRow w.heap.size 2 1 (.slice (some ⟨w.heap.size,0,none⟩) m h) m (ints B)→BL w w'→w.heap.size<w'.heap.size→K (a.put o.dst (.slice (some ⟨w.heap.size,0,none⟩) m h)) w'):if Region.wanted o (yielded ops a.tmps)=true then Oper.wp prog o a w K Q else E:=by{
 have V:Region.wanted o (yielded ops a.tmps)=true:=by simp[Region.wanted,L]
 rw[if_pos V];obtain⟨F,w',T,H,I,J⟩:=Eg w o.type u (d:=d) R M N;unfold Oper.wp execOp;simp only[O,resolve,invoke,builtin,Sem.run_bind,Sem.run_pure,Result.andThen_ok,List.map_toArray,List.map_cons,List.map_nil,U,W,T];exact G F w' H I J}
end
def Iw (w:World) (h:LI) (e:Ending) (w':World):Prop:=∃g c,e=.returned (.slice (some ⟨g,0,none⟩) h.length c)∧w'.ownsRow w.heap.size 2 1 (.slice (some ⟨g,0,none⟩) h.length c) h.length (ints h)∧w.heap.size≤g∧BL w w'
theorem uJ (b f c:Nat)(h:LI)(w:World)(B:Rd w 1 (some ⟨b,f,none⟩) h.length (ints h))(O:0<h.length)(T:h.length≤1048576):Calls prog 182 #[.slice (some ⟨b,f,none⟩) h.length c] w (Iw w h):=by{
 have L:=hI (df w w.heap.size 2 (qA _));have M:=hI (B.below ((qB _ _).alloc (qA _) (.cells #[] 2)));have U:∀u,(binOp .eql 44 (.slice (some ⟨b,f,none⟩) h.length c) (.slice none 0 0)).run prog u=.ok (.bool false) u:=λu=>Lib.run_eql_slice_some_nil u _ _ _ underlying44
 clear B;go_enter func182,ntmps182;go_wp2_with(at_builtin;refine yv _ rfl _ _ rfl (xs:=[]) rfl L rfl M O (by omega) (by simp) h.length (by omega) ?_;intro F N J H G I B)
 have B:=hI H;have J:=hI G;have R:=hI I;clear H G I;go_wp2_with fail
 go_ret;refine⟨F,N,rfl,by simpa using B.out,(B.lt F rfl).1,?_⟩;exact(za _ _).grown J (by simp) (λk G=>by simp[Value.ownBlock] at G;omega)}
theorem ap.grown {w w':World}{u eo ei n c:Nat}{A:OA}{F:List Value}{J:List LI}{r:Option Nat}(B:ap w u eo ei A n c F J)(T:w.grownBy w' r)(O:∀b,(Value.slice A n c).ownBlock=some b→r≠some b)(R:∀v∈F,∀b,v.ownBlock=some b→r≠some b):ap w' u eo ei A n c F J:=by{
 have I:∀(h:Value) (e m:Nat) (G:List Value),w.ownsRow u e 1 h m G→(∀b,h.ownBlock=some b→r≠some b)→w'.ownsRow u e 1 h m G:=by{
 intro h e m G N M;refine N.kept T ?_;rcases H:h.ownBlock with _|b
 {exact .inl rfl}
 {exact .inr (λL=>M b H L.symm)}}
 exact⟨I _ _ _ _ B.outer O,B.len,λi v V H N=>by{
 obtain⟨L,M,e,U⟩:=B.row i v V H N;exact⟨L,M,e,I _ _ _ _ U (R v (qF H))⟩},B.apart⟩}
theorem ap.row_ty {w:World}{h eo ei n c:Nat}{A:OA}{G:List Value}{L:List LI}(u:ap w h eo ei A n c G L){v:Value}(J:v∈G):∃m N,w.ownsRow h ei 1 v m N:=by{
 obtain⟨k,F⟩:=List.mem_iff_getElem?.1 J;have H:k<n:=by have:=(List.getElem?_eq_some_iff.1 F).1;rw[u.vlen] at this;exact this
 obtain⟨M,_,_,_,B,_,_,e,I⟩:=u.get H;obtain rfl:v=M:=by rw[F] at B;injection B
 exact⟨_,_,by rw[e];exact I⟩}
structure lN (wr w' : World) (base : Nat) (A : OA) (n c : Nat) (vs : List Value) (rows : List LI) (ga ca g1 c1 : Nat) (p : LI) : Prop where
 own : ap w' base 44 2 (some ⟨ga, 0, none⟩) (n + 1) ca (vs ++ [.slice (some ⟨g1, 0, none⟩) p.length c1]) (rows ++ [p])
 lies : (Value.slice A n c).ownBlock = some ga ∨ wr.heap.size ≤ ga
 new : wr.heap.size ≤ g1 ∧ g1 < w'.heap.size
 ltA : ga < w'.heap.size
 size : wr.heap.size ≤ w'.heap.size
 keep : ∀b, b < wr.heap.size → (Value.slice A n c).ownBlock ≠ some b → w'.heap[b]? = wr.heap[b]?
 frame : w'.os = wr.os ∧ w'.tape = wr.tape ∧ w'.output = wr.output
theorem yT {wr I N:World}{F O n c G R h L:Nat}{A:OA}{M:List Value}{Y:List LI}{p:LI}{J:Obj}(T:ap wr F 44 2 A n c M Y)(a':F≤wr.heap.size)(u:BL wr I)(W:I.ownsRow O 2 1 (.slice (some ⟨h,0,none⟩) p.length L) p.length (ints p))(av:wr.heap.size≤h)(ad:F≤O)(B:(I.alloc J).grownBy N (Value.slice A n c).ownBlock)(V:N.ownsRow F 44 1 (.slice (some ⟨G,0,none⟩) (n+1) R) (n+1) (M++[.slice (some ⟨h,0,none⟩) p.length L]))(H:(Value.slice A n c).ownBlock=some G∨G=(I.alloc J).heap.size):lN wr N F A n c M Y G R h L p:=by{
 have a1:=T.in_;have hs:=u.size;have a6:=B.size;simp only[World.size_alloc] at a6;have ba:=(W.lt h rfl).2;refine⟨ap.append (T.below u) (by decide) (an W ad) (λa8 hu b U a7=>?_) J B V,?_,⟨av,by omega⟩,(V.lt G rfl).2,by omega,λb ar a2=>?_,⟨B.os.trans u.os,B.tape.trans u.tape,B.output.trans u.output⟩⟩
 {
 have e:b=h:=by simp[Value.ownBlock] at U;exact U.symm
 have:=a1.2 a8 hu b a7;omega}
 {
 rcases H with H|H
 {exact .inl H}
 {right;rw[H];simp;omega}}
 {
 have Z:=B.block b (by simp;omega) (λe=>a2 e.symm);rw[Z,((qB _ I).alloc (qA _) J).block b (by omega)];exact u.block b ar}}
theorem bS {wr T Y:World}{J b1 n c N ca H L:Nat}{A:OA}{R:List Value}{a2:List LI}{p:LI}(h:ap wr J 44 2 A n c R a2)(bk:J≤wr.heap.size)(u:BL wr T)(og:T.ownsRow b1 2 1 (.slice (some ⟨H,0,none⟩) p.length L) p.length (ints p))(a8:wr.heap.size≤H)(a6:J≤b1)(M:T.grownBy Y (Value.slice A n c).ownBlock)(ho:Y.ownsRow J 44 1 (.slice (some ⟨N,0,none⟩) (n+1) ca) (n+1) (R++[.slice (some ⟨H,0,none⟩) p.length L]))(W:(Value.slice A n c).ownBlock=some N∨N=T.heap.size):lN wr Y J A n c R a2 N ca H L p:=by{
 have ar:=h.in_;have hs:=u.size;have bo:=M.size;have bn:=(og.lt H rfl).2;have hW:=h.below u;have bb:=an og a6;refine⟨⟨ho,by simp[h.len],?_,?_⟩,?_,⟨a8,by omega⟩,(ho.lt N rfl).2,by omega,λb a7 ba=>?_,⟨M.os.trans u.os,M.tape.trans u.tape,M.output.trans u.output⟩⟩
 {
 have a1:∀(G:Value) (m:Nat) (U:List Value),T.ownsRow J 2 1 G m U→Y.ownsRow J 2 1 G m U:=by{
 intro G m U O;refine O.kept M ?_;rcases u:G.ownBlock with _|b
 {exact .inl rfl}
 {exact .inr (λB=>aJ hW.outer O (by decide) b B.symm u)}}
 intro i G U B F;by_cases V:i<n
 {
 rw[qU (by rw[h.vlen];exact V)] at B;rw[qU (by rw[h.len];exact V)] at F;obtain⟨I,Z,e,hr⟩:=hW.row i G U B F;exact⟨I,Z,e,a1 _ _ _ hr⟩}
 {
 rw[qR (by rw[h.vlen];omega),h.vlen] at B;rw[qR (by rw[h.len];omega),h.len] at F;have Z:i-n=0:=by{
 rcases Nat.eq_zero_or_pos (i-n) with h|h
 {exact h}
 {rw[qY (by simp;omega)] at B;cases B}}
 rw[Z] at B F;simp at B F;subst B;subst F;exact⟨_,L,rfl,a1 _ _ _ bb⟩}}
 {
 intro i j G v a' B F b u ad;have split:∀(q:Nat) (x:Value),(R++[Value.slice (some ⟨H,0,none⟩) p.length L])[q]?=some x→(q<n∧R[q]?=some x)∨(q=n∧x=.slice (some ⟨H,0,none⟩) p.length L):=by{
 intro q x I;by_cases hq:q<n
 {rw[qU (by rw[h.vlen];exact hq)] at I;exact .inl ⟨hq,I⟩}
 {
 rw[qR (by rw[h.vlen];omega),h.vlen] at I;have Z:q-n=0:=by{
 rcases Nat.eq_zero_or_pos (q-n) with h|h
 {exact h}
 {rw[qY (by simp;omega)] at I;cases I}}
 rw[Z] at I;simp at I;exact .inr ⟨by omega,I.symm⟩}}
 have av:∀b,(Value.slice (some ⟨H,0,none⟩) p.length L).ownBlock=some b→b=H:=λb e=>by simp[Value.ownBlock] at e;exact e.symm
 rcases split i G B with⟨V,O⟩|⟨V,rfl⟩<;>rcases split j v F with⟨hj,I⟩|⟨hj,rfl⟩
 {exact h.apart i j G v a' O I b u ad}
 {have:=(ar.2 G (qF O) b u).2;have:=av b ad;omega}
 {have:=(ar.2 v (qF I) b ad).2;have:=av b u;omega}
 {omega}}
 {
 rcases W with W|W
 {exact .inl W}
 {right;omega}}
 {
 have F:=M.block b (by omega) (λe=>ba e.symm);rw[F];exact u.block b a7}}
theorem jX {wr L w9:World}{H n c d I ca U cb V c1 W c2:Nat}{A C:OA}{vs T:List Value}{ad M:List LI}{ar:Int}{p q:LI}(G:ds wr H A n c vs C n d T ⟨ar,ad,M⟩)(a':H≤wr.heap.size)(h:lN wr L H A n c vs ad I ca V c1 p)(F:ap L H 44 2 C n d T M→lN L w9 H C n d T M U cb W c2 q):ds w9 H (some ⟨I,0,none⟩) (n+1) ca (vs++[.slice (some ⟨V,0,none⟩) p.length c1]) (some ⟨U,0,none⟩) (n+1) cb (T++[.slice (some ⟨W,0,none⟩) q.length c2]) ⟨ar,ad++[p],M++[q]⟩:=by{
 have bb:=G.pts.in_;have a1:=G.cds.in_;have a7:wr.grownBy L (Value.slice A n c).ownBlock:=⟨h.frame.1,h.frame.2.1,h.frame.2.2,h.size,λk Y Z=>h.keep k Y (λe=>Z e.symm)⟩;have av:ap L H 44 2 C n d T M:=G.cds.grown a7 (λb u e=>G.apO b e u) (λv B b u e=>by{
 obtain⟨m,zs,R⟩:=G.cds.row_ty B;exact aJ G.pts.outer R (by decide) b e u})
 have F:=F av;have a8:L.grownBy w9 (Value.slice C n d).ownBlock:=⟨F.frame.1,F.frame.2.1,F.frame.2.2,F.size,λk Y Z=>F.keep k Y (λe=>Z e.symm)⟩;have a2:∀b,(Value.slice C n d).ownBlock=some b→I≠b:=by{
 rintro b u rfl;rcases h.lies with e|e
 {exact G.apO I e u}
 {have:=(a1.1 I u).2;omega}}
 refine⟨h.own.grown a8 (λb u e=>?_) (λv B b u e=>?_),F.own,?_,?_⟩
 {
 have e2:I=b:=by simp[Value.ownBlock] at u;exact u
 exact a2 b e e2}
 {
 obtain⟨m,zs,R⟩:=h.own.row_ty B;exact aJ av.outer R (by decide) b e u}
 {
 intro g N O;have e1:I=g:=by simpa[Value.ownBlock] using N
 have e2:U=g:=by simpa[Value.ownBlock] using O
 rcases F.lies with e|e
 {exact a2 U e (by omega)}
 {have:=h.ltA;omega}}
 {
 intro v B a6 J g N O;have ba:g<L.heap.size:=by{
 obtain⟨m,zs,R⟩:=h.own.row_ty B;exact(R.lt g N).2}
 rcases List.mem_append.1 J with J|J
 {
 rcases List.mem_append.1 B with B|B
 {exact G.apR v B a6 J g N O}
 {
 simp at B;subst B;have e1:V=g:=by simpa[Value.ownBlock] using N
 have:=(a1.2 a6 J g O).2;have:=h.new.1;omega}}
 {
 simp at J;subst J;have e1:W=g:=by simpa[Value.ownBlock] using O
 have:=F.new.1;omega}}}
theorem lN.below {wr w':World}{u n c J H I G:Nat}{A:OA}{F:List Value}{B:List LI}{p:LI}(h:lN wr w' u A n c F B J H I G p)(L:ap wr u 44 2 A n c F B)(M:u≤wr.heap.size):Below u wr w':=⟨h.frame.1,h.frame.2.1,h.frame.2.2,h.size,λk N=>h.keep k (by omega) (λe=>by have:=(L.in_.1 k e).1;omega)⟩
structure rQ (wr w' : World) (base : Nat) (A : OA) (n c : Nat) (vs : List Value) (rows : List LI) (ga ca g1 c1 : Nat) (p : LI) : Prop where
 own : ap w' base 44 2 (some ⟨ga, 0, none⟩) (n + 1) ca (vs ++ [.slice (some ⟨g1, 0, none⟩) p.length c1]) (rows ++ [p])
 lies : (Value.slice A n c).ownBlock = some ga ∨ wr.heap.size ≤ ga
 ltA : ga < w'.heap.size
 size : wr.heap.size ≤ w'.heap.size
 keep : ∀b, b < wr.heap.size → (Value.slice A n c).ownBlock ≠ some b → w'.heap[b]? = wr.heap[b]?
 frame : w'.os = wr.os ∧ w'.tape = wr.tape ∧ w'.output = wr.output
theorem fP {wr T Y:World}{J b1 n c O ca H L:Nat}{A:OA}{N:List Value}{a2:List LI}{p:LI}(h:ap wr J 44 2 A n c N a2)(bb:J≤wr.heap.size)(u:BL wr T)(og:T.ownsRow b1 2 1 (.slice (some ⟨H,0,none⟩) p.length L) p.length (ints p))(ar:∀B∈N,∀b,B.ownBlock=some b→b≠H)(a6:J≤b1)(M:T.grownBy Y (Value.slice A n c).ownBlock)(ho:Y.ownsRow J 44 1 (.slice (some ⟨O,0,none⟩) (n+1) ca) (n+1) (N++[.slice (some ⟨H,0,none⟩) p.length L]))(W:(Value.slice A n c).ownBlock=some O∨O=T.heap.size):rQ wr Y J A n c N a2 O ca H L p:=by{
 have bk:=h.in_;have hs:=u.size;have bo:=M.size;have bn:=(og.lt H rfl).2;have hW:=h.below u;have ba:=an og a6;refine⟨⟨ho,by simp[h.len],?_,?_⟩,?_,(ho.lt O rfl).2,by omega,λb a7 a'=>?_,⟨M.os.trans u.os,M.tape.trans u.tape,M.output.trans u.output⟩⟩
 {
 have a1:∀(B:Value) (m:Nat) (U:List Value),T.ownsRow J 2 1 B m U→Y.ownsRow J 2 1 B m U:=by{
 intro B m U R;refine R.kept M ?_;rcases u:B.ownBlock with _|b
 {exact .inl rfl}
 {exact .inr (λF=>aJ hW.outer R (by decide) b F.symm u)}}
 intro i B U F G;by_cases V:i<n
 {
 rw[qU (by rw[h.vlen];exact V)] at F;rw[qU (by rw[h.len];exact V)] at G;obtain⟨I,Z,e,hr⟩:=hW.row i B U F G;exact⟨I,Z,e,a1 _ _ _ hr⟩}
 {
 rw[qR (by rw[h.vlen];omega),h.vlen] at F;rw[qR (by rw[h.len];omega),h.len] at G;have Z:i-n=0:=by{
 rcases Nat.eq_zero_or_pos (i-n) with h|h
 {exact h}
 {rw[qY (by simp;omega)] at F;cases F}}
 rw[Z] at F G;simp at F G;subst F;subst G;exact⟨_,L,rfl,a1 _ _ _ ba⟩}}
 {
 intro i j B v a8 F G b u ad;have split:∀(q:Nat) (x:Value),(N++[Value.slice (some ⟨H,0,none⟩) p.length L])[q]?=some x→(q<n∧N[q]?=some x)∨(q=n∧x=.slice (some ⟨H,0,none⟩) p.length L):=by{
 intro q x I;by_cases hq:q<n
 {rw[qU (by rw[h.vlen];exact hq)] at I;exact .inl ⟨hq,I⟩}
 {
 rw[qR (by rw[h.vlen];omega),h.vlen] at I;have Z:q-n=0:=by{
 rcases Nat.eq_zero_or_pos (q-n) with h|h
 {exact h}
 {rw[qY (by simp;omega)] at I;cases I}}
 rw[Z] at I;simp at I;exact .inr ⟨by omega,I.symm⟩}}
 have av:∀b,(Value.slice (some ⟨H,0,none⟩) p.length L).ownBlock=some b→b=H:=λb e=>by simp[Value.ownBlock] at e;exact e.symm
 rcases split i B F with⟨V,R⟩|⟨V,rfl⟩<;>rcases split j v G with⟨hj,I⟩|⟨hj,rfl⟩
 {exact h.apart i j B v a8 R I b u ad}
 {exact absurd (av b ad) (ar B (qF R) b u)}
 {exact absurd (av b u) (ar v (qF I) b ad)}
 {omega}}
 {
 rcases W with W|W
 {exact .inl W}
 {right;omega}}
 {
 have G:=M.block b (by omega) (λe=>a' e.symm);rw[G];exact u.block b a7}}
theorem fM {wr M w9:World}{H n c d I ca V cb O c1 R c2:Nat}{A C:OA}{vs U:List Value}{ad N:List LI}{ar:Int}{p q:LI}(G:ds wr H A n c vs C n d U ⟨ar,ad,N⟩)(ba:H≤wr.heap.size)(B:lN wr M H A n c vs ad I ca O c1 p)(F:ap M H 44 2 C n d U N→rQ M w9 H C n d U N V cb R c2 q)(bk:wr.heap.size≤R)(bb:O≠R):ds w9 H (some ⟨I,0,none⟩) (n+1) ca (vs++[.slice (some ⟨O,0,none⟩) p.length c1]) (some ⟨V,0,none⟩) (n+1) cb (U++[.slice (some ⟨R,0,none⟩) q.length c2]) ⟨ar,ad++[p],N++[q]⟩:=by{
 have a':=G.pts.in_;have a1:=G.cds.in_;have a7:wr.grownBy M (Value.slice A n c).ownBlock:=⟨B.frame.1,B.frame.2.1,B.frame.2.2,B.size,λk Y Z=>B.keep k Y (λe=>Z e.symm)⟩;have av:ap M H 44 2 C n d U N:=G.cds.grown a7 (λb u e=>G.apO b e u) (λv h b u e=>by{
 obtain⟨m,zs,ho⟩:=G.cds.row_ty h;exact aJ G.pts.outer ho (by decide) b e u})
 have F:=F av;have a8:M.grownBy w9 (Value.slice C n d).ownBlock:=⟨F.frame.1,F.frame.2.1,F.frame.2.2,F.size,λk Y Z=>F.keep k Y (λe=>Z e.symm)⟩;have a2:∀b,(Value.slice C n d).ownBlock=some b→I≠b:=by{
 rintro b u rfl;rcases B.lies with e|e
 {exact G.apO I e u}
 {have:=(a1.1 I u).2;omega}}
 refine⟨B.own.grown a8 (λb u e=>?_) (λv h b u e=>?_),F.own,?_,?_⟩
 {
 have W:I=b:=by simp[Value.ownBlock] at u;exact u
 exact a2 b e W}
 {
 obtain⟨m,zs,ho⟩:=B.own.row_ty h;exact aJ av.outer ho (by decide) b e u}
 {
 intro g L T;have e1:I=g:=by simpa[Value.ownBlock] using L
 have W:V=g:=by simpa[Value.ownBlock] using T
 rcases F.lies with e|e
 {exact a2 V e (by omega)}
 {have:=B.ltA;omega}}
 {
 intro v h a6 J g L T;rcases List.mem_append.1 J with J|J
 {
 rcases List.mem_append.1 h with h|h
 {exact G.apR v h a6 J g L T}
 {
 simp at h;subst h;have e1:O=g:=by simpa[Value.ownBlock] using L
 have:=(a1.2 a6 J g T).2;have:=B.new.1;omega}}
 {
 simp at J;subst J;have e1:R=g:=by simpa[Value.ownBlock] using T
 rcases List.mem_append.1 h with h|h
 {
 have:=(a'.2 v h g L).2;omega}
 {
 simp at h;subst h;have W:O=g:=by simpa[Value.ownBlock] using L
 omega}}}}
theorem rQ.below {wr w':World}{u n c J H I G:Nat}{A:OA}{F:List Value}{B:List LI}{p:LI}(h:rQ wr w' u A n c F B J H I G p)(L:ap wr u 44 2 A n c F B)(M:u≤wr.heap.size):Below u wr w':=⟨h.frame.1,h.frame.2.1,h.frame.2.2,h.size,λk N=>h.keep k (by omega) (λe=>by have:=(L.in_.1 k e).1;omega)⟩
abbrev lV:=Int×Int×Int×Int
def Jc (p:lV):List Value:=[.int .i64 p.1,.int .i64 p.2.1,.int .i64 p.2.2.1,.int .i64 p.2.2.2]
theorem yf (p:lV):(Jc p).length=4:=rfl
def rH (h:List lV):List Value:=h.flatMap Jc
theorem Rd.red {w:World}{A:OA}{n k:Nat}{H:List lV}(I:Rd w 4 A n (rH H))(M:k<n):∃b o h u B F,A=some ⟨b,o,none⟩∧H[k]?=some (h,u,B,F)∧H.drop k=(h,u,B,F)::H.drop (k+1)∧w.cell? ⟨b,o+k*4,none⟩=some (.int .i64 h)∧w.cell? ⟨b,o+k*4+1,none⟩=some (.int .i64 u)∧w.cell? ⟨b,o+k*4+2,none⟩=some (.int .i64 B)∧w.cell? ⟨b,o+k*4+3,none⟩=some (.int .i64 F):=by{
 obtain⟨b,o,⟨h,u,B,F⟩,e,J,L,G⟩:=Rd.flat yf (by decide) I M;exact⟨b,o,h,u,B,F,e,J,L,G 0 _ rfl,G 1 _ rfl,G 2 _ rfl,G 3 _ rfl⟩}
theorem Rd.len_red {w:World}{A:OA}{n:Nat}{h:List lV}(u:Rd w 4 A n (rH h)):h.length=n:=Rd.len_flat yf (by decide) u
theorem Eu:(prog.info? 114).map (λi=>(i.zero,i.size,i.bytes))=some (some (.agg #[(0:Int),(0:Int),(0:Int),(0:Int)]),4,32):=by kernel_rfl
end Go.Proofs.YtnpldahkhaacnaaGreatDoor

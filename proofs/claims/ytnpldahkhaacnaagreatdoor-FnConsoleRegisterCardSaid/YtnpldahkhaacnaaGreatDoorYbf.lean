/- Texts of the walk: Ne Nt. -/
import Derived.Test.YtnpldahkhaacnaaGreatDoorYbe
set_option linter.unusedVariables false
set_option linter.unusedSimpArgs false
set_option maxRecDepth 100000
set_option maxHeartbeats 32000000
namespace Go.Proofs.YtnpldahkhaacnaaGreatDoor
open Go.RowKit Go.Sort Go.Proofs.Tryz
theorem GC:(prog.info? 197).map (λi=>(i.zero,i.size,i.bytes))=some (some (.agg #[(0:Int),(0:Int)]),2,16):=by kernel_rfl
theorem oe {I:Array Oper}{rest:List Oper}{o:Oper}{a:Act}{Q:Exit→Act→World→Prop}(w:World)(N:o.guard=none)(s x:Operand)(R:o.op=.call { callee:=.builtin .append,args:=#[s,x],argTypes:=#[145,145] }){h n c:Nat}{A:OA}{B:List du}(U:a.eval s=.slice A n c)(T:w.ownsRow h 197 2 (.slice A n c) n (winds B)){b:Nat}{x0 x1:Int}(W:a.eval x=.slice (some ⟨b,0,none⟩) 1 1)(hc:w.heap[b]?=some (.cells #[x0,x1] 197 (0,0)))(Z:n≤1099511627776)(M:h≤w.heap.size)(J:∀g G u,u.ownsRow h 197 2 (.slice (some ⟨g,0,none⟩) (n+1) G) (n+1) (winds (B++[(x0,x1)]))→w.grownBy u (Value.slice A n c).ownBlock→((Value.slice A n c).ownBlock=some g∨g=w.heap.size)→g<u.heap.size→wpList prog I Q rest (a.put o.dst (.slice (some ⟨g,0,none⟩) (n+1) G)) u):wpList prog I Q (o::rest) a w:=by{
 obtain⟨i,O,Y,V,L⟩:=info_parts GC;have e:∀(F:List du),winds F++[.int .i64 x0,.int .i64 x1]=winds (F++[(x0,x1)]):=λF=>by unfold winds;rw[List.flatMap_append];rfl
 exact wpList_append_lies w N s x 145 R h 197 i (.agg #[(0:Int),(0:Int)]) 2 16 underlying145 O Y V L rfl (by decide) (.slice A n c) n (winds B) U T ⟨b,0,none⟩ 1 1 [.int .i64 x0,.int .i64 x1] W rfl (World.news_of_block (cs:=#[x0,x1]) hc) (by intro ad H;simp at H;rcases H with rfl|rfl<;>rfl) (by decide) (by unfold maxLen;omega) (by omega) M _ rfl (by rw[e];exact J)}
theorem tC (k:Int)(h:1≤k∧k≤8)(w:World):Calls prog 212 #[k] w λe B=>e=.returned (.string (ag (cU k)))∧BL w B:=by{
 have u:=hI (λo=>(qB w.heap.size w).alloc (qA _) o);rcases cX h with rfl|rfl|rfl|rfl|rfl|rfl|rfl|rfl
 all_goals{
 clear h;go_enter func212,ntmps212;go_wp2_with fail
 go_ret;exact⟨rfl,u _⟩}}
theorem rl (k:Int)(h:1≤k∧k≤8)(w:World):Calls prog 174 #[k] w λe B=>e=.returned (.string (ag (cU k)))∧BL w B:=by{
 have u:=hI (λo=>(qB w.heap.size w).alloc (qA _) o);rcases cX h with rfl|rfl|rfl|rfl|rfl|rfl|rfl|rfl
 all_goals{
 clear h;go_enter func174,ntmps174;go_wp2_with fail
 go_ret;exact⟨rfl,u _⟩}}
theorem zE {x y:Int}(h:1≤x∧x≤8)(u:0≤y∧y≤1000000000):(gw (x,y)).length≤19:=by{
 unfold gw;have:=xm h;have:=bd 9 y.toNat (by omega);simp only[qJ,qO];omega}
theorem Fh (x y:Int)(t:LB):ag t++ag (cU x)++ag [64]++ag (aP y.toNat)=ag (t++gw (x,y)):=by{
 rw[aA,aA,aA];unfold gw;simp}
theorem qz (A:OA)(n c:Nat)(h:List du)(w:World)(F:Rd w 2 A n (winds h)):Calls prog 115 #[.slice A n c] w λe G=>e=.returned (.string (ag (eY h)))∧BL w G:=by{
 have Z:=hI F.len_wind;have hm:=F.le;have R:=hI F;have T:=hI (λG (F:Rd G 2 A n (winds h))=>nR A n c h G F)
 cases u:ed h with
 | false=>{
 have O:=hI (show eY h=[] from by unfold eY;rw[u];rfl);rw[u] at T;clear F u;by_cases I:n=0
 {
 subst I;go_enter func115,ntmps115;go_wp2_with fail
 go_loopw [3,4] (λt i wr=>t=.string (ag [])∧i=.int .i64 0∧Hid (BL w wr)) (λ_ i _=>0)
 case atStart=>exact⟨rfl,rfl,hI (qB _ _)⟩
 case round=>(
 obtain⟨rfl,rfl,B⟩:=hrel;go_wp2_with fail
 go_ret;exact⟨by rw[O.out];rfl,B⟩)}
 {
 have bt:decide (0<n)=true:=by simp;omega
 have L:0<n:=by omega
 go_enter func115,ntmps115;go_wp2_with fail
 go_loopw [3,4] (λt i wr=>t=.string (ag [])∧i=.int .i64 0∧Hid (BL w wr)) (λ_ i _=>0)
 case atStart=>exact⟨rfl,rfl,hI (qB _ _)⟩
 case round=>(
 obtain⟨rfl,rfl,B⟩:=hrel;go_wp2_with fail
 refine(T _ (R.below B)).mono ?_;rintro e M⟨rfl,J⟩;have H:=zb B J;clear J;go_wp2_with fail
 go_ret;exact⟨by rw[O.out];rfl,H⟩)}}
 | true=>{
 have O:=hI (show eY h=bJ (h.map gw) from by unfold eY;rw[u];rfl);have HM:=hI (fJ u);have b3:n≤40:=by{
 have:=Z.out;unfold ed at u;rw[Bool.and_eq_true,decide_eq_true_eq] at u;omega}
 rw[u] at T;clear F u;have F:=hI (show bJ ((h.take 0).map gw)=[] from rfl);go_enter func115,ntmps115;go_wp2_with fail
 go_loopw [3,4] (λt i wr=>∃(k:Nat) (u:LB),k≤n∧t=.string (ag u)∧i=.int .i64 k∧Hid (bJ ((h.take k).map gw)=u)∧u.length≤20*k∧Hid (BL w wr)) (λ_ i _=>n-(intOf i).toNat)
 case atStart=>exact⟨0,[],qH _,rfl,rfl,F,qH _,hI (qB _ _)⟩
 case round=>(
 clear F;obtain⟨k,u,_,rfl,rfl,HU,bO,B⟩:=hrel;obtain⟨wo,bR⟩:∃wo:World,wo=wr:=⟨_,rfl⟩;subst bR;by_cases a1:k<n
 {
 have bt:decide ((k:Int)<(n:Int))=true:=by simpa using a1
 obtain⟨b,o,x,y,hA,W,hd,-,-⟩:=(R.below B).wind a1;have bv:=hI hA;clear hA;have F:=cV.1 (HM (x,y) (qF W));have V:=hI (λG=>rl x F.1 G);have I:=hI (λG=>cu y.toNat y.toNat (qA _) (by have:=F.2.2;simp at this ⊢;omega) G);rw[Int.toNat_of_nonneg F.2.1] at I;have b5:(ag (cU x)).size≤8:=by rw[aj];exact xm F.1
 have b6:(ag (aP y.toNat)).size≤10:=by rw[aj];exact bd 9 y.toNat (by have:=F.2.2;simp at this;omega)
 have bb:=hI (zE F.1 F.2);have bk:=hI (λt=>Fh x y t);have bn:=hI (show bJ ((h.take (k+1)).map gw)=if (h.take k).map gw=[] then gw (x,y) else bJ ((h.take k).map gw)++32::gw (x,y) from by rw[List.take_add_one,W,Option.toList_some,qf];exact pz _ _);have bp:=hI W;generalize gw (x,y)=P at *;generalize ag (cU x)=z1 at *;generalize ag (aP y.toNat)=z2 at *;clear hd F W;go_wp2_with fail
 refine(T _ (R.below B)).mono ?_;rintro e M⟨rfl,J⟩;have H:=zb B J;clear J B;obtain⟨_,_,_,_,bq,Y,-,ar,av⟩:=(R.below H).wind a1;rw[bp.out] at Y;injection Y with Y;injection Y with bW b0;subst bW b0;have ba:=hI bq;clear bq bv bp;have b7:(ag u).size≤20*k:=by rw[aj];exact bO
 rcases Nat.eq_zero_or_pos k with bs|bs
 {
 subst bs;simp only[Nat.zero_mul,qW] at ar av;have b4:(ag ([]:LB)).size=0:=rfl;obtain rfl:u=[]:=List.eq_nil_of_length_eq_zero (by omega);have U:=hI (show bJ ((h.take (0+1)).map gw)=P from by rw[bn.out];rfl);have J:=hI (show ag []++z1++ag [64]++z2=ag P from by rw[bk.out];rfl);have bN:=bb.out;go_wp2_with fail
 have ad:=ba.out;subst ad;have a7:=cell_regrown (ar);have a8:=cell_regrown (av);refine wp_region_quiet_below (by kernel_rfl) (by kernel_rfl) ?_;repeat (first|go_big_quiet_step ((first|(go_at_call 174;(with_reducible exact Calls.regrown_of (V.out _)))|(go_at_call 36;(with_reducible exact Calls.regrown_of (I.out _)))))|quiet_step ((first|(go_at_call 174;(with_reducible exact Calls.regrown_of (V.out _)))|(go_at_call 36;(with_reducible exact Calls.regrown_of (I.out _))))))
 refine wpQuiet_nil ?_;intro _ a2;obtain⟨⟨dq,a'⟩,a6⟩:=a2;subst a6;obtain⟨wq,L,hq⟩:∃N,N=grow (redrawn M dq) a'∧BL M N:=⟨_,rfl,below_regrown _ _ _⟩;rw[←L];clear L a7 a8;go_wp2_with fail
 go_roundw
 case rel=>exact⟨1,P,by omega,by first|(rw[←J.out];rfl)|(simp;exact J),by go_num,U,by omega,zb H hq⟩
 case measure=>simp[intOf]<;>omega}
 {
 have b1:decide (0<(k:Int))=true:=by simp;omega
 have b2:decide (0<k)=true:=by simp;omega
 have U:=hI (show bJ ((h.take (k+1)).map gw)=u++32::P from by{
 rw[bn.out,if_neg,HU.out];intro he;have:=congrArg List.length he;rw[qV,qS,Z.out] at this;simp at this;omega})
 have bo:=hI (show ag u++ag [32]=ag (u++[32]) from aA _ _);have b9:(ag u++ag [32]).size≤20*k+1:=by rw[bo.out,aj,qJ,List.length_singleton];omega
 have J:=hI (show ag u++ag [32]++z1++ag [64]++z2=ag (u++32::P) from by rw[bo.out,bk.out];simp);have bN:=bb.out;have bP:=U.out;clear bP;go_wp2_with fail
 have ad:=ba.out;subst ad;have a7:=cell_regrown (ar);have a8:=cell_regrown (av);refine wp_region_quiet_below (by kernel_rfl) (by kernel_rfl) ?_;repeat (first|go_big_quiet_step ((first|(go_at_call 174;(with_reducible exact Calls.regrown_of (V.out _)))|(go_at_call 36;(with_reducible exact Calls.regrown_of (I.out _)))))|quiet_step ((first|(go_at_call 174;(with_reducible exact Calls.regrown_of (V.out _)))|(go_at_call 36;(with_reducible exact Calls.regrown_of (I.out _))))))
 refine wpQuiet_nil ?_;intro _ a2;obtain⟨⟨dq,a'⟩,a6⟩:=a2;subst a6;obtain⟨wq,L,hq⟩:∃N,N=grow (redrawn M dq) a'∧BL M N:=⟨_,rfl,below_regrown _ _ _⟩;rw[←L];clear L a7 a8;go_wp2_with fail
 go_roundw
 case rel=>exact⟨k+1,u++32::P,by omega,by first|(rw[←J.out];rfl)|(simp;exact J),by go_num,U,by simp only[qJ,qO];omega,zb H hq⟩
 case measure=>simp[intOf]<;>omega}}
 {
 obtain rfl:k=n:=by omega
 have bt:decide ((k:Int)<(k:Int))=false:=by simp
 have HE:=hI (show u=eY h from by rw[O.out,←HU.out,qI (by rw[Z.out];exact qA _)]);go_wp2_with fail
 go_ret;exact⟨by rw[HE.out];rfl,B⟩})}}
end Go.Proofs.YtnpldahkhaacnaaGreatDoor

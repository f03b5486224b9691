/- Texts of the walk: Oh Oj. -/
import Derived.Test.YtnpldahkhaacnaaGreatDoorYbq
set_option linter.unusedVariables false
set_option linter.unusedSimpArgs false
set_option maxRecDepth 100000
set_option maxHeartbeats 32000000
namespace Go.Proofs.YtnpldahkhaacnaaGreatDoor
open Go.RowKit Go.Sort Go.Proofs.Tryz
def Ij (w:World) (A:OA) (n c:Nat) (N:List EntryT) (I:OA) (L J:Nat) (M:LI) (r:Dk×LB) (e:Ending) (H:World):Prop:=∃u h F B m G,e=.returned (.tuple #[.agg (be r.1.op r.1.b r.1.s u h F B m G),.string (ag r.2)])∧((u=A∧h=n∧F=c∧r.1.xs=N)∨H.ownsRow w.heap.size 25 7 (.slice u h F) h (ents r.1.xs))∧((B=I∧m=L∧G=J∧r.1.rule=M)∨H.ownsRow w.heap.size 2 1 (.slice B m G) m (ints r.1.rule))∧BL w H
theorem FC {d:Dk}{kd:Int}{ws:List LB}(h:(GR d kd ws).2.2=false):kd≠0∧kd≠1:=by{
 unfold GR at h;refine⟨λu=>?_,λB=>?_⟩
 {
 rw[if_pos u] at h;unfold kz at h;split at h<;>cases h}
 {
 rw[if_neg (by omega),if_pos B] at h;unfold ji at h;split at h
 {split at h<;>cases h}
 {cases h}}}
theorem Gm {k:Nat}(u:2≤k∧k≤8):0≤(cF.getD k 0:Int):=by{
 have h:k=2∨k=3∨k=4∨k=5∨k=6∨k=7∨k=8:=by omega
 rcases h with rfl|rfl|rfl|rfl|rfl|rfl|rfl<;>decide}
theorem EH (b s:Int)(B:List EntryT)(R:cE b s B)(u:LI)(T:bC u=true)(A:OA)(n c:Nat)(G:OA)(H L:Nat)(w:World)(O:bA w A n c B)(M:Rd w 1 G H (ints u))(F:OA)(I J:Nat)(nums:LI)(N:Rd w 1 F I (ints nums))(h:Nat)(V:2≤h∧h≤8)(W:(nums.length:Int)=cF.getD h 0):Calls prog 114 #[.agg (be true b s A n c G H L),(h:Int),.slice F I J] w (oD w (dH ⟨true,b,s,B,u⟩ (h:Int) nums)):=by{
 have U:h=2∨h=3∨h=4∨h=5∨h=6∨h=7∨h=8:=by omega
 rcases U with rfl|rfl|rfl|rfl|rfl|rfl|rfl
 {exact pp b s B R u T A n c G H L w O M F I J nums N}
 {exact tY b s B R u T A n c G H L w O M F I J nums N}
 {exact zi b s B R u T A n c G H L w O M F I J nums N (by have:(cF.getD 4 0:Int)=1:=rfl;omega)}
 {exact tk b s B R u T A n c G H L w O M F I J nums N (by have:(cF.getD 5 0:Int)=1:=rfl;omega)}
 {exact wk b s B R u T A n c G H L w O M F I J nums N (by have:(cF.getD 6 0:Int)=1:=rfl;omega)}
 {exact rB b s B R u T A n c G H L w O M F I J nums N (by have:(cF.getD 7 0:Int)=2:=rfl;omega)}
 {exact vH b s B R u T A n c G H L w O M F I J nums N}}
theorem AT (L:Bool)(b s:Int)(T:List EntryT)(A:OA)(n c:Nat)(G:OA)(H I:Nat)(R:LI)(Y:lh ⟨L,b,s,T,R⟩)(w:World)(hr:bA w A n c T)(Z:Rd w 1 G H (ints R))(N:LB)(hL:N.length≤2097152):Calls prog 72 #[.agg (be L b s A n c G H I),.string (ag N)] w (Ij w A n c T G H I R (aZ ⟨L,b,s,T,R⟩ N)):=by{
 unfold be;obtain⟨w1,d2,V,h,d0⟩:=ae w #[.bool L,b,s,.slice A n c,.slice G H I] 65;obtain⟨w2,d3,W,B,eH⟩:=ae w1 #[.bool false,(0:Int),(0:Int),.slice none 0 0,.slice none 0 0] 65;have O:=hI (V.below B);have J:=hI W;have d4:=hI (h.trans (B.mono h.size));have M:=hI (show w2=(w.alloc (.cells #[.bool L,b,s,.slice A n c,.slice G H I] 65)).alloc (.cells #[.bool false,(0:Int),(0:Int),.slice none 0 0,.slice none 0 0] 65) from by rw[d3,d2]);rw[d0] at J;have cR:=hI hr;have cL:=hI Z;have cx:=hI Y;have F:=hI (xX (ag N) (by rw[aj];exact hL) w2);rw[aw] at F;have u:=hI (λA n cp w' U=>yj N hL A n cp w' U);unfold Il at u;have e3:(wordsL N).length≤2097153:=by rw[ev];have h1:N.count 32≤N.length:=List.count_le_length;omega
 have eP:0<(wordsL N).length:=List.length_pos_iff.2 (bY N);have cd:=hI (λx hx=>qM (eJ N x hx) hL);clear V W h B d2 d3 d0 eH hr Z Y;go_enter func72,ntmps72;go_wp2_with fail
 rw[←M.out];clear M;refine F.mono ?_;rintro e w3⟨Aw,nw,cw,rfl,M,h,co⟩;have Y:=M.len_str;have cn:1≤nw:=by omega
 have e4:nw≤2097153:=by omega
 have B:=hI M;have d5:=zb d4 h;have V:=hI (O.below h);have W:=hI (J.below h);have eT:=hI Y;clear M h O J F Y eP;go_wp2_with fail
 refine(u _ _ _ _ B).mono ?_;rintro e w4⟨ft,fc,fr,rfl,eE,cm,cl,h⟩;have b7:=zb d5 h;have b1:=hI (V.below h);have bo:=hI (W.below h);have cb:=hI (B.below h);clear h V W B u
 cases fr with
 | true=>{
 obtain⟨u,h⟩:=cm rfl;have bW:=hI (show aZ ⟨L,b,s,T,R⟩ N=(⟨L,b,s,T,R⟩,dG ft (fc:Int)) from by rw[uK u,h]);clear u h cm cl;by_cases h:fc=0
 {
 subst h;have ar:=hI (show aZ ⟨L,b,s,T,R⟩ N=(⟨L,b,s,T,R⟩,ft) from bW);have B:=b1.f5;have Z:=bo.f5;go_wp2_with fail
 obtain⟨J,u⟩:∃J:World,J=(((((w4).setCell ⟨w.heap.size+1,0,none⟩ (.bool L)).setCell ⟨w.heap.size+1,1,none⟩ (.int .i64 b)).setCell ⟨w.heap.size+1,2,none⟩ (.int .i64 s)).setCell ⟨w.heap.size+1,3,none⟩ (.slice A n c)).setCell ⟨w.heap.size+1,4,none⟩ (.slice G H I):=⟨_,rfl⟩;have V:aO J (w.heap.size+1) #[.bool L,b,s,.slice A n c,.slice G H I] 65:=by rw[u];have:=(((((bo).set 0 (.bool L)).set 1 (.int .i64 b)).set 2 (.int .i64 s)).set 3 (.slice A n c)).set 4 (.slice G H I);simpa using this
 have av:BL w J:=by rw[u];exact(((((b7).setCell (p:=⟨w.heap.size+1,0,none⟩) (by show w.heap.size≤w.heap.size+1;omega) _).setCell (p:=⟨w.heap.size+1,1,none⟩) (by show w.heap.size≤w.heap.size+1;omega) _).setCell (p:=⟨w.heap.size+1,2,none⟩) (by show w.heap.size≤w.heap.size+1;omega) _).setCell (p:=⟨w.heap.size+1,3,none⟩) (by show w.heap.size≤w.heap.size+1;omega) _).setCell (p:=⟨w.heap.size+1,4,none⟩) (by show w.heap.size≤w.heap.size+1;omega) _
 have a6:=hI u;have FG:=V.f5;rw[←u];clear u V;refine bodyPost_ret (v:=.tuple #[.agg #[.bool L,b,s,.slice A n c,.slice G H I],.string (ag ft)]) (by simp[results,results72,go_sem,FG]) rfl ?_;exact by rw[ar.out];exact⟨A,n,c,G,H,I,rfl,.inl ⟨rfl,rfl,rfl,rfl⟩,.inl ⟨rfl,rfl,rfl,rfl⟩,av⟩}
 {
 have eD:((fc:Int) !=0)=true:=by simp[h]
 have ar:=hI (show aZ ⟨L,b,s,T,R⟩ N=(⟨L,b,s,T,R⟩,bL (fc:Int)) from by rw[bW.out];unfold dG;rw[if_neg (by omega)]);clear h;go_wp2_with fail
 have B:=b1.f5;refine zR 5 (λj=>decide (3≤j)) (λw9 O=>zA (ab B.1 O) (zA (ab B.2.1 O) (zA (ab B.2.2.1 O) (zA (ab B.2.2.2.1 O) (ab B.2.2.2.2.1 O))))) λS ad Y b6 M wd h W=>?_
 refine zS M ad 0 W ?_;go_simp;refine zS M ad 1 W ?_;go_simp;refine zo M 2 λK' F=>?_
 go_simp;go_at_call 112;refine(gT fc (by omega) _).mono ?_;rintro e wq⟨rfl,a'⟩;have h:=h.trans (a'.mono h.size);refine F _ _ (.inr (Y _ h)) ?_;clear F;have W:=Y _ h;go_simp;have Z:=(bo.below h).f5;refine zo M 3 λK' F=>?_
 go_simp;refine F _ _ (.inl (by decide)) ?_;clear F;go_simp;refine zo M 4 λK' F=>?_
 go_simp;refine F _ _ (.inl (by decide)) ?_;clear F;go_simp;refine zd M ?_;have a2:=zb b7 h;have a8:=hI (bo.below h);clear h W M ad Y B Z;go_wp2_with fail
 obtain⟨J,u⟩:∃J:World,J=(((((wq).setCell ⟨w.heap.size+1,0,none⟩ (.bool L)).setCell ⟨w.heap.size+1,1,none⟩ (.int .i64 b)).setCell ⟨w.heap.size+1,2,none⟩ (.int .i64 s)).setCell ⟨w.heap.size+1,3,none⟩ (.slice A n c)).setCell ⟨w.heap.size+1,4,none⟩ (.slice G H I):=⟨_,rfl⟩;have V:aO J (w.heap.size+1) #[.bool L,b,s,.slice A n c,.slice G H I] 65:=by rw[u];have:=(((((a8).set 0 (.bool L)).set 1 (.int .i64 b)).set 2 (.int .i64 s)).set 3 (.slice A n c)).set 4 (.slice G H I);simpa using this
 have av:BL w J:=by rw[u];exact(((((a2).setCell (p:=⟨w.heap.size+1,0,none⟩) (by show w.heap.size≤w.heap.size+1;omega) _).setCell (p:=⟨w.heap.size+1,1,none⟩) (by show w.heap.size≤w.heap.size+1;omega) _).setCell (p:=⟨w.heap.size+1,2,none⟩) (by show w.heap.size≤w.heap.size+1;omega) _).setCell (p:=⟨w.heap.size+1,3,none⟩) (by show w.heap.size≤w.heap.size+1;omega) _).setCell (p:=⟨w.heap.size+1,4,none⟩) (by show w.heap.size≤w.heap.size+1;omega) _
 have a6:=hI u;have FG:=V.f5;rw[←u];clear u V;refine bodyPost_ret (v:=.tuple #[.agg #[.bool L,b,s,.slice A n c,.slice G H I],.string (ag (bL (fc:Int)))]) (by simp[results,results72,go_sem,FG]) rfl ?_;exact by rw[ar.out];exact⟨A,n,c,G,H,I,rfl,.inl ⟨rfl,rfl,rfl,rfl⟩,.inl ⟨rfl,rfl,rfl,rfl⟩,av⟩}}
 | false=>{
 have bn:=hI (CM (d:=⟨L,b,s,T,R⟩) (cl rfl));clear cm cl eE;have b':=hI (λw' (U:Rd w' 1 Aw nw (strs (wordsL N)))=>zu Aw nw cw (wordsL N) co cn (by omega) cd w' U);obtain⟨kd,bO⟩:∃k,k=dh (wordsL N):=⟨_,rfl⟩;have cC:=hI bO.symm;have dA:=Cy (wordsL N);rw[←bO] at bn b' dA;clear bO;have bR:=hI (λw' (O:BL w w') (U:Rd w' 1 Aw nw (strs (wordsL N)))=>ut L b s T A n c G H I R w' (cR.below O) (cL.below O) Aw nw cw (wordsL N) co cn (by omega) cd U kd cC);unfold ya be at bR;obtain⟨cN,dq,eC⟩:=EQ ⟨L,b,s,T,R⟩ kd (wordsL N);have d6:=hI (λU=>FC (d:=⟨L,b,s,T,R⟩) (kd:=kd) (ws:=wordsL N) U);generalize GR ⟨L,b,s,T,R⟩ kd (wordsL N)=r at *;obtain⟨d',_,er⟩:=r;simp only at dq bR;subst dq;go_wp2_with fail
 refine(b' _ cb).mono ?_;rintro e w5⟨rfl,bN⟩;have bP:=zb b7 bN;have c3:=hI (b1.below bN);have c7:=hI (bo.below bN);have c0:=hI (cb.below bN);have B:=c3.f5;clear bN b1 bo cb b';go_wp2_with fail
 refine(bR _ bP c0).mono ?_;rintro e w6⟨A6,n6,c6,bk,bq,bp,rfl,c9,c',cf⟩;obtain⟨w7,cq,X7,b3,_⟩:=ae w6 #[.bool d'.op,d'.b,d'.s,.slice A6 n6 c6,.slice bk bq bp] 65;have bs:=cf.trans (b3.mono cf.size);have bt:=zb bP bs;have bv:=hI (c3.below bs);have a7:=hI (c7.below bs);have c1:=hI (c0.below bs);have e0:=hI X7;have a1:=hI cq;have e1:=c7.lt;clear B;have B:=bv.f5;have Z:=a7.f5;have F7:=X7.f5;rw[cq] at B Z F7;have d9:=hI (c9.imp id (λU=>aa U b3));have ee:=hI (c'.imp id (λU=>aa U b3));clear X7 cq bs cf bR b3 c9 c'
 cases er with
 | true=>{
 by_cases ck:cN=0
 {
 subst ck;have ar:=hI (show aZ ⟨L,b,s,T,R⟩ N=(d',uT) from bn);go_wp2_with fail
 rw[←a1.out];clear a1;obtain⟨J,u⟩:∃J:World,J=(((((w7).setCell ⟨w.heap.size+1,0,none⟩ (.bool d'.op)).setCell ⟨w.heap.size+1,1,none⟩ (.int .i64 d'.b)).setCell ⟨w.heap.size+1,2,none⟩ (.int .i64 d'.s)).setCell ⟨w.heap.size+1,3,none⟩ (.slice A6 n6 c6)).setCell ⟨w.heap.size+1,4,none⟩ (.slice bk bq bp):=⟨_,rfl⟩;have V:aO J (w.heap.size+1) #[.bool d'.op,d'.b,d'.s,.slice A6 n6 c6,.slice bk bq bp] 65:=by rw[u];have:=(((((a7).set 0 (.bool d'.op)).set 1 (.int .i64 d'.b)).set 2 (.int .i64 d'.s)).set 3 (.slice A6 n6 c6)).set 4 (.slice bk bq bp);simpa using this
 have av:BL w J:=by rw[u];exact(((((bt).setCell (p:=⟨w.heap.size+1,0,none⟩) (by show w.heap.size≤w.heap.size+1;omega) _).setCell (p:=⟨w.heap.size+1,1,none⟩) (by show w.heap.size≤w.heap.size+1;omega) _).setCell (p:=⟨w.heap.size+1,2,none⟩) (by show w.heap.size≤w.heap.size+1;omega) _).setCell (p:=⟨w.heap.size+1,3,none⟩) (by show w.heap.size≤w.heap.size+1;omega) _).setCell (p:=⟨w.heap.size+1,4,none⟩) (by show w.heap.size≤w.heap.size+1;omega) _
 have a6:=hI u;have FG:=V.f5;rw[←u];clear u V;refine bodyPost_ret (v:=.tuple #[.agg #[.bool d'.op,d'.b,d'.s,.slice A6 n6 c6,.slice bk bq bp],.string (⟨#[111,107]⟩)]) (by simp[results,results72,go_sem,FG]) rfl ?_;exact by{
 rw[ar.out];refine⟨A6,n6,c6,bk,bq,bp,rfl,?_,?_,av⟩
 {
 rcases d9.out with U|U
 {exact .inl U}
 {exact .inr (an (aE U (lo:=w.heap.size+1) (hi:=w.heap.size+2) (show aK (w.heap.size+1) (w.heap.size+2) w7 J from by rw[a6.out];(repeat refine bD ?_ (qA _) (by omega) _);exact aK.refl _ _ _) (λq hq=>.inr (by have:=(U.lt q hq).1;omega))) (by have:=bP.size;omega))}}
 {
 rcases ee.out with U|U
 {exact .inl U}
 {exact .inr (an (aE U (lo:=w.heap.size+1) (hi:=w.heap.size+2) (show aK (w.heap.size+1) (w.heap.size+2) w7 J from by rw[a6.out];(repeat refine bD ?_ (qA _) (by omega) _);exact aK.refl _ _ _) (λq hq=>.inr (by have:=(U.lt q hq).1;omega))) (by have:=bP.size;omega))}}}}
 {
 have eD:((cN:Int)==0)=false:=by simp[ck]
 have ar:=hI (show aZ ⟨L,b,s,T,R⟩ N=(⟨L,b,s,T,R⟩,bL (cN:Int)) from by rw[bn.out];unfold iZ;rw[if_pos rfl,if_neg (by show ¬(cN:Int)=0;omega)]);clear ck;go_wp2_with fail
 rw[←a1.out];clear a1 B Z;have B:=bv.f5;refine zR 5 (λj=>decide (3≤j)) (λw9 O=>zA (ab B.1 O) (zA (ab B.2.1 O) (zA (ab B.2.2.1 O) (zA (ab B.2.2.2.1 O) (ab B.2.2.2.2.1 O))))) λS ad Y b6 M wd h W=>?_
 refine zS M ad 0 W ?_;go_simp;refine zS M ad 1 W ?_;go_simp;refine zo M 2 λK' F=>?_
 go_simp;go_at_call 112;refine(gT cN (by omega) _).mono ?_;rintro e wq⟨rfl,a'⟩;have h:=h.trans (a'.mono h.size);refine F _ _ (.inr (Y _ h)) ?_;clear F;have W:=Y _ h;go_simp;have Z:=(a7.below h).f5;refine zo M 3 λK' F=>?_
 go_simp;refine F _ _ (.inl (by decide)) ?_;clear F;go_simp;refine zo M 4 λK' F=>?_
 go_simp;refine F _ _ (.inl (by decide)) ?_;clear F;go_simp;refine zd M ?_;have a2:=zb bt h;have a8:=hI (a7.below h);clear h W M ad Y B Z;go_wp2_with fail
 obtain⟨J,u⟩:∃J:World,J=(((((wq).setCell ⟨w.heap.size+1,0,none⟩ (.bool L)).setCell ⟨w.heap.size+1,1,none⟩ (.int .i64 b)).setCell ⟨w.heap.size+1,2,none⟩ (.int .i64 s)).setCell ⟨w.heap.size+1,3,none⟩ (.slice A n c)).setCell ⟨w.heap.size+1,4,none⟩ (.slice G H I):=⟨_,rfl⟩;have V:aO J (w.heap.size+1) #[.bool L,b,s,.slice A n c,.slice G H I] 65:=by rw[u];have:=(((((a8).set 0 (.bool L)).set 1 (.int .i64 b)).set 2 (.int .i64 s)).set 3 (.slice A n c)).set 4 (.slice G H I);simpa using this
 have av:BL w J:=by rw[u];exact(((((a2).setCell (p:=⟨w.heap.size+1,0,none⟩) (by show w.heap.size≤w.heap.size+1;omega) _).setCell (p:=⟨w.heap.size+1,1,none⟩) (by show w.heap.size≤w.heap.size+1;omega) _).setCell (p:=⟨w.heap.size+1,2,none⟩) (by show w.heap.size≤w.heap.size+1;omega) _).setCell (p:=⟨w.heap.size+1,3,none⟩) (by show w.heap.size≤w.heap.size+1;omega) _).setCell (p:=⟨w.heap.size+1,4,none⟩) (by show w.heap.size≤w.heap.size+1;omega) _
 have a6:=hI u;have FG:=V.f5;rw[←u];clear u V;refine bodyPost_ret (v:=.tuple #[.agg #[.bool L,b,s,.slice A n c,.slice G H I],.string (ag (bL (cN:Int)))]) (by simp[results,results72,go_sem,FG]) rfl ?_;exact by rw[ar.out];exact⟨A,n,c,G,H,I,rfl,.inl ⟨rfl,rfl,rfl,rfl⟩,.inl ⟨rfl,rfl,rfl,rfl⟩,av⟩}}
 | false=>{
 clear F7;by_cases ba:kd<0
 {
 have bO:decide (kd<0)=true:=by simpa using ba
 have ar:=hI (show aZ ⟨L,b,s,T,R⟩ N=(⟨L,b,s,T,R⟩,bL ((6:Nat):Int)) from by rw[bn.out];unfold iZ;rw[if_neg (λU=>by cases U),if_pos ba];rfl);clear ba;go_wp2_with fail
 rw[←a1.out];clear a1 B Z;have B:=bv.f5;refine zR 4 (λj=>decide (2≤j)) (λw9 O=>zA (ab B.1 O) (zA (ab B.2.1 O) (zA (ab B.2.2.1 O) (zA (ab B.2.2.2.1 O) (ab B.2.2.2.2.1 O))))) λS ad Y b6 M wd h W=>?_
 refine zS M ad 0 W ?_;go_simp;refine zo M 1 λK' F=>?_
 go_simp;go_at_call 112;refine(gT 6 (by omega) _).mono ?_;rintro e wq⟨rfl,a'⟩;have h:=h.trans (a'.mono h.size);refine F _ _ (.inr (Y _ h)) ?_;clear F;have W:=Y _ h;go_simp;have Z:=(a7.below h).f5;refine zo M 2 λK' F=>?_
 go_simp;refine F _ _ (.inl (by decide)) ?_;clear F;go_simp;refine zo M 3 λK' F=>?_
 go_simp;refine F _ _ (.inl (by decide)) ?_;clear F;go_simp;refine zd M ?_;have a2:=zb bt h;have a8:=hI (a7.below h);clear h W M ad Y B Z;go_wp2_with fail
 obtain⟨J,u⟩:∃J:World,J=(((((wq).setCell ⟨w.heap.size+1,0,none⟩ (.bool L)).setCell ⟨w.heap.size+1,1,none⟩ (.int .i64 b)).setCell ⟨w.heap.size+1,2,none⟩ (.int .i64 s)).setCell ⟨w.heap.size+1,3,none⟩ (.slice A n c)).setCell ⟨w.heap.size+1,4,none⟩ (.slice G H I):=⟨_,rfl⟩;have V:aO J (w.heap.size+1) #[.bool L,b,s,.slice A n c,.slice G H I] 65:=by rw[u];have:=(((((a8).set 0 (.bool L)).set 1 (.int .i64 b)).set 2 (.int .i64 s)).set 3 (.slice A n c)).set 4 (.slice G H I);simpa using this
 have av:BL w J:=by rw[u];exact(((((a2).setCell (p:=⟨w.heap.size+1,0,none⟩) (by show w.heap.size≤w.heap.size+1;omega) _).setCell (p:=⟨w.heap.size+1,1,none⟩) (by show w.heap.size≤w.heap.size+1;omega) _).setCell (p:=⟨w.heap.size+1,2,none⟩) (by show w.heap.size≤w.heap.size+1;omega) _).setCell (p:=⟨w.heap.size+1,3,none⟩) (by show w.heap.size≤w.heap.size+1;omega) _).setCell (p:=⟨w.heap.size+1,4,none⟩) (by show w.heap.size≤w.heap.size+1;omega) _
 have a6:=hI u;have FG:=V.f5;rw[←u];clear u V;refine bodyPost_ret (v:=.tuple #[.agg #[.bool L,b,s,.slice A n c,.slice G H I],.string (ag (bL (6:Int)))]) (by simp[results,results72,go_sem,FG]) rfl ?_;exact by rw[ar.out];exact⟨A,n,c,G,H,I,rfl,.inl ⟨rfl,rfl,rfl,rfl⟩,.inl ⟨rfl,rfl,rfl,rfl⟩,av⟩}
 have bO:decide (kd<0)=false:=by simpa using ba
 cases L with
 | false=>{
 have ar:=hI (show aZ ⟨false,b,s,T,R⟩ N=(⟨false,b,s,T,R⟩,bL ((5:Nat):Int)) from by rw[bn.out];unfold iZ;rw[if_neg (λU=>by cases U),if_neg ba,if_neg (λU=>by cases U)];rfl);clear ba;go_wp2_with fail
 rw[←a1.out];clear a1 B Z;have B:=bv.f5;refine zR 4 (λj=>decide (2≤j)) (λw9 O=>zA (ab B.1 O) (zA (ab B.2.1 O) (zA (ab B.2.2.1 O) (zA (ab B.2.2.2.1 O) (ab B.2.2.2.2.1 O))))) λS ad Y b6 M wd h W=>?_
 refine zS M ad 0 W ?_;go_simp;refine zo M 1 λK' F=>?_
 go_simp;go_at_call 112;refine(gT 5 (by omega) _).mono ?_;rintro e wq⟨rfl,a'⟩;have h:=h.trans (a'.mono h.size);refine F _ _ (.inr (Y _ h)) ?_;clear F;have W:=Y _ h;go_simp;have Z:=(a7.below h).f5;refine zo M 2 λK' F=>?_
 go_simp;refine F _ _ (.inl (by decide)) ?_;clear F;go_simp;refine zo M 3 λK' F=>?_
 go_simp;refine F _ _ (.inl (by decide)) ?_;clear F;go_simp;refine zd M ?_;have a2:=zb bt h;have a8:=hI (a7.below h);clear h W M ad Y B Z;go_wp2_with fail
 obtain⟨J,u⟩:∃J:World,J=(((((wq).setCell ⟨w.heap.size+1,0,none⟩ (.bool false)).setCell ⟨w.heap.size+1,1,none⟩ (.int .i64 b)).setCell ⟨w.heap.size+1,2,none⟩ (.int .i64 s)).setCell ⟨w.heap.size+1,3,none⟩ (.slice A n c)).setCell ⟨w.heap.size+1,4,none⟩ (.slice G H I):=⟨_,rfl⟩;have V:aO J (w.heap.size+1) #[.bool false,b,s,.slice A n c,.slice G H I] 65:=by rw[u];have:=(((((a8).set 0 (.bool false)).set 1 (.int .i64 b)).set 2 (.int .i64 s)).set 3 (.slice A n c)).set 4 (.slice G H I);simpa using this
 have av:BL w J:=by rw[u];exact(((((a2).setCell (p:=⟨w.heap.size+1,0,none⟩) (by show w.heap.size≤w.heap.size+1;omega) _).setCell (p:=⟨w.heap.size+1,1,none⟩) (by show w.heap.size≤w.heap.size+1;omega) _).setCell (p:=⟨w.heap.size+1,2,none⟩) (by show w.heap.size≤w.heap.size+1;omega) _).setCell (p:=⟨w.heap.size+1,3,none⟩) (by show w.heap.size≤w.heap.size+1;omega) _).setCell (p:=⟨w.heap.size+1,4,none⟩) (by show w.heap.size≤w.heap.size+1;omega) _
 have a6:=hI u;have FG:=V.f5;rw[←u];clear u V;refine bodyPost_ret (v:=.tuple #[.agg #[.bool false,b,s,.slice A n c,.slice G H I],.string (ag (bL (5:Int)))]) (by simp[results,results72,go_sem,FG]) rfl ?_;exact by rw[ar.out];exact⟨A,n,c,G,H,I,rfl,.inl ⟨rfl,rfl,rfl,rfl⟩,.inl ⟨rfl,rfl,rfl,rfl⟩,av⟩}
 | true=>{
 obtain⟨k0,k1⟩:=d6 rfl;obtain⟨kN,rfl⟩:=aC kd (by omega);have cB:=hI (show 2≤kN∧kN≤8 from by omega);obtain⟨d1,eK⟩:=pq cC;have c2:=hI d1;have d8:=hI (show((bu (wordsL N)).length:Int)=cF.getD kN 0 from by{
 have h1:=Gm cB;unfold bu;rw[qV,qX];omega})
 have bW:=hI (show aZ ⟨true,b,s,T,R⟩ N=(⟨true,b,s,T,R⟩,dH ⟨true,b,s,T,R⟩ (kN:Int) (bu (wordsL N))) from by rw[bn.out];unfold iZ;rw[if_neg (λU=>by cases U),if_neg ba,if_pos rfl]);have eg:=hI (cx.reg rfl);have ek:=hI (cx.rul rfl);clear ba k0 k1 d1 eK dA eC;obtain⟨bb,oo,rfl,-⟩:=c1.pos (by omega);obtain⟨At,eA⟩:∃A',(if cw=1 then(some ⟨bb,oo,none⟩:OA) else some ⟨bb,oo+1,none⟩)=A':=⟨_,rfl⟩;have em:=hI (gW c1 co cn eA);have b0:=hI (jB At (nw-1) (cw-1) ((wordsL N).drop 1) w7 em (by omega) (λx hx=>cd x (qc hx)));unfold xI at b0;rw[dz,c2.out,show(((wordsL N).drop 1).map λw=>(cg w).1)=bu (wordsL N) from iS c2.out] at b0;go_wp2_with fail
 rw[←a1.out];clear a1 B Z;refine b0.mono ?_;rintro e w8⟨A8,n8,c8,rfl,hv,b4⟩;have d7:=hI (az (hv trivial));have b9:=zb bt b4;have c4:=hI (bv.below b4);have en:=hI (a7.below b4);have cs:=hI (EH b s T eg R ek A n c G H I w8 (cR.below b9) (cL.below b9) A8 n8 c8 (bu (wordsL N)) d7 kN cB d8);unfold oD be at cs;have B:=c4.f5;clear hv b4 b0;go_wp2_with fail
 refine cs.mono ?_;rintro e eR⟨ta,ca,rfl,_,dc,b5⟩;have cv:=zb b9 b5;have c5:=hI (c4.below b5);have b2:=hI (en.below b5);have cy:=hI (show aZ ⟨true,b,s,T,R⟩ N=(⟨true,b,s,T,R⟩,dG ta (ca:Int)) from by rw[bW.out,dc]);clear b5 dc B;by_cases ch:ca=0
 {
 subst ch;have ar:=hI (show aZ ⟨true,b,s,T,R⟩ N=(⟨true,b,s,T,R⟩,ta) from cy);have B:=c5.f5;have Z:=b2.f5;go_wp2_with fail
 obtain⟨J,u⟩:∃J:World,J=(((((eR).setCell ⟨w.heap.size+1,0,none⟩ (.bool true)).setCell ⟨w.heap.size+1,1,none⟩ (.int .i64 b)).setCell ⟨w.heap.size+1,2,none⟩ (.int .i64 s)).setCell ⟨w.heap.size+1,3,none⟩ (.slice A n c)).setCell ⟨w.heap.size+1,4,none⟩ (.slice G H I):=⟨_,rfl⟩;have V:aO J (w.heap.size+1) #[.bool true,b,s,.slice A n c,.slice G H I] 65:=by rw[u];have:=(((((b2).set 0 (.bool true)).set 1 (.int .i64 b)).set 2 (.int .i64 s)).set 3 (.slice A n c)).set 4 (.slice G H I);simpa using this
 have av:BL w J:=by rw[u];exact(((((cv).setCell (p:=⟨w.heap.size+1,0,none⟩) (by show w.heap.size≤w.heap.size+1;omega) _).setCell (p:=⟨w.heap.size+1,1,none⟩) (by show w.heap.size≤w.heap.size+1;omega) _).setCell (p:=⟨w.heap.size+1,2,none⟩) (by show w.heap.size≤w.heap.size+1;omega) _).setCell (p:=⟨w.heap.size+1,3,none⟩) (by show w.heap.size≤w.heap.size+1;omega) _).setCell (p:=⟨w.heap.size+1,4,none⟩) (by show w.heap.size≤w.heap.size+1;omega) _
 have a6:=hI u;have FG:=V.f5;rw[←u];clear u V;refine bodyPost_ret (v:=.tuple #[.agg #[.bool true,b,s,.slice A n c,.slice G H I],.string (ag ta)]) (by simp[results,results72,go_sem,FG]) rfl ?_;exact by rw[ar.out];exact⟨A,n,c,G,H,I,rfl,.inl ⟨rfl,rfl,rfl,rfl⟩,.inl ⟨rfl,rfl,rfl,rfl⟩,av⟩}
 {
 have e2:((ca:Int) !=0)=true:=by simp[ch]
 have ar:=hI (show aZ ⟨true,b,s,T,R⟩ N=(⟨true,b,s,T,R⟩,bL (ca:Int)) from by rw[cy.out];unfold dG;rw[if_neg (by omega)]);clear ch;go_wp2_with fail
 have B:=c5.f5;refine zR 5 (λj=>decide (3≤j)) (λw9 O=>zA (ab B.1 O) (zA (ab B.2.1 O) (zA (ab B.2.2.1 O) (zA (ab B.2.2.2.1 O) (ab B.2.2.2.2.1 O))))) λS ad Y b6 M wd h W=>?_
 refine zS M ad 0 W ?_;go_simp;refine zS M ad 1 W ?_;go_simp;refine zo M 2 λK' F=>?_
 go_simp;go_at_call 112;refine(gT ca (by omega) _).mono ?_;rintro e wq⟨rfl,a'⟩;have h:=h.trans (a'.mono h.size);refine F _ _ (.inr (Y _ h)) ?_;clear F;have W:=Y _ h;go_simp;have Z:=(b2.below h).f5;refine zo M 3 λK' F=>?_
 go_simp;refine F _ _ (.inl (by decide)) ?_;clear F;go_simp;refine zo M 4 λK' F=>?_
 go_simp;refine F _ _ (.inl (by decide)) ?_;clear F;go_simp;refine zd M ?_;have a2:=zb cv h;have a8:=hI (b2.below h);clear h W M ad Y B Z;go_wp2_with fail
 obtain⟨J,u⟩:∃J:World,J=(((((wq).setCell ⟨w.heap.size+1,0,none⟩ (.bool true)).setCell ⟨w.heap.size+1,1,none⟩ (.int .i64 b)).setCell ⟨w.heap.size+1,2,none⟩ (.int .i64 s)).setCell ⟨w.heap.size+1,3,none⟩ (.slice A n c)).setCell ⟨w.heap.size+1,4,none⟩ (.slice G H I):=⟨_,rfl⟩;have V:aO J (w.heap.size+1) #[.bool true,b,s,.slice A n c,.slice G H I] 65:=by rw[u];have:=(((((a8).set 0 (.bool true)).set 1 (.int .i64 b)).set 2 (.int .i64 s)).set 3 (.slice A n c)).set 4 (.slice G H I);simpa using this
 have av:BL w J:=by rw[u];exact(((((a2).setCell (p:=⟨w.heap.size+1,0,none⟩) (by show w.heap.size≤w.heap.size+1;omega) _).setCell (p:=⟨w.heap.size+1,1,none⟩) (by show w.heap.size≤w.heap.size+1;omega) _).setCell (p:=⟨w.heap.size+1,2,none⟩) (by show w.heap.size≤w.heap.size+1;omega) _).setCell (p:=⟨w.heap.size+1,3,none⟩) (by show w.heap.size≤w.heap.size+1;omega) _).setCell (p:=⟨w.heap.size+1,4,none⟩) (by show w.heap.size≤w.heap.size+1;omega) _
 have a6:=hI u;have FG:=V.f5;rw[←u];clear u V;refine bodyPost_ret (v:=.tuple #[.agg #[.bool true,b,s,.slice A n c,.slice G H I],.string (ag (bL (ca:Int)))]) (by simp[results,results72,go_sem,FG]) rfl ?_;exact by rw[ar.out];exact⟨A,n,c,G,H,I,rfl,.inl ⟨rfl,rfl,rfl,rfl⟩,.inl ⟨rfl,rfl,rfl,rfl⟩,av⟩}}}}}
def nB (w:World) (r:Dk×List LB) (e:Ending) (u:World):Prop:=∃A n c G m H B h F,e=.returned (.tuple #[.agg (be r.1.op r.1.b r.1.s A n c G m H),.slice B h F])∧u.ownsRow w.heap.size 25 7 (.slice A n c) n (ents r.1.xs)∧u.ownsRow w.heap.size 9 1 (.slice B h F) h (strs r.2)∧BL w u
theorem xE (d:Dk)(h:List LB)(l:LB):di d (h++[l])=((aZ (di d h).1 l).1,(di d h).2++[(aZ (di d h).1 l).2]):=by{rw[Cl];rfl}
theorem x_ {d:Dk}{h:List LB}{k:Nat}{l:LB}(u:h[k]?=some l):di d (h.take (k+1))=((aZ (di d (h.take k)).1 l).1,(di d (h.take k)).2++[(aZ (di d (h.take k)).1 l).2]):=by{
 rw[List.take_add_one,u];exact xE d _ l}
theorem nB.of {w h:World}{r:Dk×List LB}{e:Ending}(I:nB w r e h):∃A n c G m H B u F,e=.returned (.tuple #[.agg (be r.1.op r.1.b r.1.s A n c G m H),.slice B u F])∧h.ownsRow w.heap.size 25 7 (.slice A n c) n (ents r.1.xs)∧h.ownsRow w.heap.size 9 1 (.slice B u F) u (strs r.2)∧BL w h:=I
theorem ox {H J L:World}{N e R I O u F:Nat}{M B:OA}{Y T:List Value}(U:H.ownsRow N e R (.slice M I O) I Y)(V:BL H J)(W:BL J L)(h:(B=M∧u=I∧F=O∧T=Y)∨L.ownsRow J.heap.size e R (.slice B u F) u T)(ad:N≤H.heap.size):L.ownsRow N e R (.slice B u F) u T∧(∀q,q<H.heap.size→(Value.slice M I O).ownBlock≠some q→(Value.slice B u F).ownBlock≠some q)∧(∀q,(Value.slice B u F).ownBlock=some q→q<L.heap.size∧(q<H.heap.size∨J.heap.size≤q)):=by{
 have h1:=V.size;have h2:=W.size;rcases h with⟨rfl,rfl,rfl,rfl⟩|h
 {exact⟨aa (aa U V) W,λq _ h=>h,λq G=>by have:=(U.lt q G).2;exact⟨by omega,.inl this⟩⟩}
 {exact⟨an h (by omega),λq G _ Z=>by have:=(h.lt q Z).1;omega,λq G=>⟨(h.lt q G).2,.inr (h.lt q G).1⟩⟩}}
theorem lC (w:World)(o:Obj):(w.alloc o).heap.size=w.heap.size+1:=by simp
theorem Ix (h:List LB):lh (di Dk.zero h).1:=IH h lh.zero
theorem nJ (A:OA)(n c:Nat)(ls:List LB)(h:∀x∈ls,x.length≤2097152)(hn:n≤1000)(w:World)(B:Rd w 1 A n (strs ls)):Calls prog 42 #[.slice A n c] w (nB w (di Dk.zero ls)):=by{
 have HR:=hI B;have HN:=hI B.len_str;have d6:=hI h;clear B h;obtain⟨w1,T,N,h,R⟩:=ae w #[.bool false,(0:Int),(0:Int),.slice none 0 0,.slice none 0 0] 65;obtain⟨w2,U,H,u,V⟩:=ae w1 #[.bool false,(0:Int),(0:Int),.slice none 0 0,.slice none 0 0] 65;obtain⟨w3,I,F,W⟩:∃w3,w3=w2.alloc (.cells #[] 9)∧BL w2 w3∧w3.heap.size=w2.heap.size+1:=⟨_,rfl,(qB _ _).alloc (qA _) _,by simp⟩;have G:=bg w2 w2.heap.size 9 1 (qA _);rw[←I] at G;have O:w2.heap.size=w.heap.size+2:=by omega
 rw[O] at G;rw[R] at H;have Y:=hI G;have bo:=hI ((N.below u).below F);have bp:=hI (H.below F);have J:=hI ((h.trans (u.mono h.size)).trans (F.mono (h.trans (u.mono h.size)).size));have L:=hI (show w3=((w.alloc (.cells #[.bool false,(0:Int),(0:Int),.slice none 0 0,.slice none 0 0] 65)).alloc (.cells #[.bool false,(0:Int),(0:Int),.slice none 0 0,.slice none 0 0] 65)).alloc (.cells #[] 9) from by rw[I,U,T]);have M:=hI (show w.heap.size+3≤w3.heap.size from by omega);clear G N H h u F T U I R V W O;go_enter func42,ntmps42;go_wp2_with fail
 rw[←L.out];clear L;go_loopw [5,6] (λl i wr=>∃(k cc:Nat) (bq:OA) (op:Bool) (b s:Int) (A1:OA) (n1 c1:Nat) (A2:OA) (m2 c2:Nat) (xs:List EntryT) (b4:LI),k≤n∧l=.slice bq k cc∧i=.int .i64 k∧Hid ((⟨op,b,s,xs,b4⟩:Dk)=(di Dk.zero (ls.take k)).1)∧Hid (wr.ownsRow (w.heap.size+2) 9 1 (.slice bq k cc) k (strs (di Dk.zero (ls.take k)).2))∧Hid (aO wr w.heap.size #[.bool false,(0:Int),(0:Int),.slice none 0 0,.slice none 0 0] 65)∧Hid (aO wr (w.heap.size+1) #[.bool op,b,s,.slice A1 n1 c1,.slice A2 m2 c2] 65)∧Hid (wr.ownsRow (w.heap.size+2) 25 7 (.slice A1 n1 c1) n1 (ents xs))∧Hid (wr.ownsRow (w.heap.size+2) 2 1 (.slice A2 m2 c2) m2 (ints b4))∧Hid (∀q,(Value.slice bq k cc).ownBlock=some q→(Value.slice A1 n1 c1).ownBlock≠some q∧(Value.slice A2 m2 c2).ownBlock≠some q)∧Hid (BL w wr)∧Hid (w.heap.size+3≤wr.heap.size)) (λ_ i _=>n-(intOf i).toNat)
 case atStart=>exact⟨0,0,_,false,0,0,none,0,0,none,0,0,[],[],qH _,rfl,rfl,hI rfl,Y,bo,bp,hI (World.ownsRow_nil _ _ _ _),hI (World.ownsRow_nil _ _ _ _),hI (λq _=>⟨by simp[Value.ownBlock],by simp[Value.ownBlock]⟩),J,M⟩
 case round=>(
 clear bo bp J Y M;obtain⟨k,cc,bq,op,b,s,A1,n1,c1,A2,m2,c2,xs,b4,_,rfl,rfl,b5,Y,bo,bp,bs,cb,b2,HB,HZ⟩:=hrel;obtain⟨wo,em⟩:∃wo:World,wo=wr:=⟨_,rfl⟩;subst em;by_cases d0:k<n
 {
 have d9:decide ((k:Int)<(n:Int))=true:=by simpa using d0
 obtain⟨_,_,c5,rfl,hx,-,d7⟩:=(HR.below HB).str d0;have dA:lh ⟨op,b,s,xs,b4⟩:=by rw[b5.out];exact Ix _
 have cn:=x_ (d:=Dk.zero) hx;rw[←b5.out] at cn;have ch:=hI (λh (hb:BL wo h)=>AT op b s xs A1 n1 c1 A2 m2 c2 b4 dA h ⟨az (aa bs hb),iP bs⟩ (az (aa cb hb)) c5 (d6 c5 (qF hx)));unfold Ij be at ch;obtain⟨r,hr⟩:∃r,r=aZ ⟨op,b,s,xs,b4⟩ c5:=⟨_,rfl⟩;rw[←hr] at ch cn;obtain⟨h,J⟩:=r;simp only at ch cn;have cq:=hI cn;have FX:=bp.f5;have en:=HZ.out;clear hx dA cn hr;go_wp2_with fail
 refine zR 12 (λ_=>false) (λw9 hb=>zA (ab FX.1 hb) (zA (ab FX.2.1 hb) (zA (ab FX.2.2.1 hb) (zA (ab FX.2.2.2.1 hb) (zA (ab FX.2.2.2.2.1 hb) (ab d7 hb)))))) λS ad a1 eC I H ba R=>?_
 refine zS I ad 0 R ?_;go_simp;refine zS I ad 1 R ?_;go_simp;refine zS I ad 2 R ?_;go_simp;refine zS I ad 3 R ?_;go_simp;refine zS I ad 4 R ?_;go_simp;have a6:=hI ba;clear ba;refine zt I 5 9 ?_ ?_
 {
 skip;intro K' W;go_simp;go_at_call 72;refine(ch _ a6).mono ?_;rintro e G⟨L,U,N,M,T,O,rfl,hE,hR,bk⟩;obtain⟨oE,jE,kE⟩:=ox bs a6 bk (hE.imp (λB=>⟨B.1,B.2.1,B.2.2.1,by rw[B.2.2.2]⟩) id) (by omega);obtain⟨oR,jR,kR⟩:=ox cb a6 bk (hR.imp (λB=>⟨B.1,B.2.1,B.2.2.1,by rw[B.2.2.2]⟩) id) (by omega);have b':=hI oE;have cd:=hI oR;have bO:=hI (show ∀q,(Value.slice bq k cc).ownBlock=some q→(Value.slice L U N).ownBlock≠some q∧(Value.slice M T O).ownBlock≠some q from λq u=>⟨jE q (Y.lt q u).2 (b2 q u).1,jR q (Y.lt q u).2 (b2 q u).2⟩);have b6:=hI kE;have b7:=hI kR;clear hE hR oE oR jE jR kE kR;have ba:=a6.trans (bk.mono a6.size);clear bk;refine W _ _ (.inr (a1 _ ba)) ?_;clear W;have R:=a1 _ ba;go_simp;refine zS I ad 6 R ?_;go_simp;refine zS I ad 7 R ?_;go_simp;refine zS I ad 8 R ?_;go_simp;refine zo I 9 λK' W=>?_
 go_simp;refine W _ _ (.inr (a1 _ (ba.alloc ba.size _))) ?_;clear W;obtain⟨wa,co,XZ,cm,ek⟩:=ae G #[.bool false,(0:Int),(0:Int),.slice none 0 0,.slice none 0 0] 65;rw[←co];clear co;have a':=ba.trans (cm.mono ba.size);have R:=a1 _ a';go_simp;have FZ:=XZ.f5;have F:wo.heap.size≤G.heap.size:=ba.size;refine zo I 10 λK' W=>?_
 go_simp;refine W _ _ (.inr (a1 _ ((((((a').setCell (p:=⟨G.heap.size,0,none⟩) (F) _).setCell (p:=⟨G.heap.size,1,none⟩) (F) _).setCell (p:=⟨G.heap.size,2,none⟩) (F) _).setCell (p:=⟨G.heap.size,3,none⟩) (F) _).setCell (p:=⟨G.heap.size,4,none⟩) (F) _))) ?_;clear W;have R:=a1 _ ((((((a').setCell (p:=⟨G.heap.size,0,none⟩) (F) (.bool h.op)).setCell (p:=⟨G.heap.size,1,none⟩) (F) (.int .i64 h.b)).setCell (p:=⟨G.heap.size,2,none⟩) (F) (.int .i64 h.s)).setCell (p:=⟨G.heap.size,3,none⟩) (F) (.slice L U N)).setCell (p:=⟨G.heap.size,4,none⟩) (F) (.slice M T O));go_simp;refine zS I ad 11 R ?_;go_simp;refine zd I ?_;obtain⟨V,a7⟩:∃V:World,V=(((((wa).setCell ⟨G.heap.size,0,none⟩ (.bool h.op)).setCell ⟨G.heap.size,1,none⟩ (.int .i64 h.b)).setCell ⟨G.heap.size,2,none⟩ (.int .i64 h.s)).setCell ⟨G.heap.size,3,none⟩ (.slice L U N)).setCell ⟨G.heap.size,4,none⟩ (.slice M T O):=⟨_,rfl⟩;have a2:BL wo V:=by rw[a7];exact(((((a').setCell (p:=⟨G.heap.size,0,none⟩) (F) _).setCell (p:=⟨G.heap.size,1,none⟩) (F) _).setCell (p:=⟨G.heap.size,2,none⟩) (F) _).setCell (p:=⟨G.heap.size,3,none⟩) (F) _).setCell (p:=⟨G.heap.size,4,none⟩) (F) _
 have XN:aO V (G.heap.size) #[.bool h.op,h.b,h.s,.slice L U N,.slice M T O] 65:=by rw[a7];have:=(((((XZ).set 0 (.bool h.op)).set 1 (.int .i64 h.b)).set 2 (.int .i64 h.s)).set 3 (.slice L U N)).set 4 (.slice M T O);simpa using this
 have bN:=hI (show aK (G.heap.size) (G.heap.size+1) wa V from by rw[a7];(repeat refine bD ?_ (qA _) (by omega) _);exact aK.refl _ _ _);have bP:=hI (aE (aa b' cm) bN (λq u=>(by have:=(b6 q u).1;exact .inl (by omega))));have bW:=hI (aE (aa cd cm) bN (λq u=>(by have:=(b7 q u).1;exact .inl (by omega))));rw[←a7];clear a7 R FZ XZ I ad a1 FX bN b' cd b6 b7;have ck:=hI (bo.below a2);have b0:=hI (bp.below a2);have bR:=hI (aa Y a2);have bt:=zb HB a2;have F5:=XN.f5;have F1:=b0.f5;have ee:G.heap.size≠w.heap.size:=by omega
 have eg:G.heap.size≠w.heap.size+1:=by omega
 have er:=a2.size;have d5:=hI (λq u=>(Y.lt q u).2);clear XN a2 bo bp Y bs cb b2;obtain⟨Z,a8⟩:∃Z:World,Z=(((((V).setCell ⟨w.heap.size+1,0,none⟩ (.bool h.op)).setCell ⟨w.heap.size+1,1,none⟩ (.int .i64 h.b)).setCell ⟨w.heap.size+1,2,none⟩ (.int .i64 h.s)).setCell ⟨w.heap.size+1,3,none⟩ (.slice L U N)).setCell ⟨w.heap.size+1,4,none⟩ (.slice M T O):=⟨_,rfl⟩;have ar:aK (w.heap.size+1) (w.heap.size+2) V Z:=by rw[a8];(repeat refine bD ?_ (qA _) (by omega) _);exact aK.refl _ _ _
 have cl:=hI (show aO Z (w.heap.size+1) #[.bool h.op,h.b,h.s,.slice L U N,.slice M T O] 65 from by rw[a8];have:=(((((b0).set 0 (.bool h.op)).set 1 (.int .i64 h.b)).set 2 (.int .i64 h.s)).set 3 (.slice L U N)).set 4 (.slice M T O);simpa using this);have c0:=hI (ck.chg ar (.inl (by omega)));have bn:=hI (aE bR ar (λq u=>.inr (by have:=(bR.lt q u).1;omega)));have ca:=hI (aE bP ar (λq u=>.inr (by have:=(bP.lt q u).1;omega)));have cf:=hI (aE bW ar (λq u=>.inr (by have:=(bW.lt q u).1;omega)));have bv:=hI (ao bt ar (by omega) bt.size);have eA:=ar.size;have dc:Z.heap.size=V.heap.size:=by rw[a8];simp
 have cC:=hI (show(Z.alloc (.cells #[.string (ag J)] 9)).heap[V.heap.size]?=some (.cells #[.string (ag J)] 9 (0,0)) from by rw[←dc];exact heap_alloc_new _ _);have c4:=hI (show w.heap.size+2≤(Z.alloc (.cells #[.string (ag J)] 9)).heap.size from by have h9:=lC Z (.cells #[.string (ag J)] 9);omega);have cR:=hI a8;clear a8 ar ck b0 bR bP bW bt;go_wp2_with(at_builtin;rw[←cR.out];refine fy (l:=J) _ rfl _ _ rfl rfl rfl (aa bn (za _ _)) rfl cC (by omega) ?cB0 ?_;rotate_left;intro g9 c9 w9 b1 av cp d8)
 {
 have XA:=(cl.below ((qB _ _).alloc (qA _) (.cells #[.string (ag J)] 9)));have cv:=hI ((bv.alloc bv.size (.cells #[.string (ag J)] 9)).grown av (by simp;have:=bv.size;omega) (λq u=>by have:=(bn.lt q u).1;omega));have cB:=hI ((cl.below ((qB _ _).alloc (qA _) (.cells #[.string (ag J)] 9))).grown av (λe=>by have:=(bn.lt _ e).1;omega));have cy:=hI ((c0.below ((qB _ _).alloc (qA _) (.cells #[.string (ag J)] 9))).grown av (λe=>by have:=(bn.lt _ e).1;omega));have cL:=hI (gL (aa ca ((qB _ _).alloc (qA _) (.cells #[.string (ag J)] 9))) av (λq u=>(bO q u).1));have cN:=hI (gL (aa cf ((qB _ _).alloc (qA _) (.cells #[.string (ag J)] 9))) av (λq u=>(bO q u).2));have cx:=hI (show ∀q,(Value.slice (some ⟨g9,0,none⟩) (k+1) c9).ownBlock=some q→(Value.slice L U N).ownBlock≠some q∧(Value.slice M T O).ownBlock≠some q from by{
 intro q u;have c':g9=q:=by simpa[Value.ownBlock] using u
 subst c';rcases cp with B|B
 {exact bO _ B}
 {
 refine⟨λhe=>?_,λhe=>?_⟩
 {
 have:=(ca.lt _ he).2;simp at B;omega}
 {
 have:=(cf.lt _ he).2;simp at B;omega}}})
 have c3:=hI (show w.heap.size+3≤w9.heap.size from by have:=av.size;simp at this;omega);have b9:=hI b1;have cw:=hI (show(⟨h.op,h.b,h.s,h.xs,h.rule⟩:Dk)=(di Dk.zero (ls.take (k+1))).1 from by rw[cq.out]);have b9:=hI (show w9.ownsRow (w.heap.size+2) 9 1 (.slice (some ⟨g9,0,none⟩) (k+1) c9) (k+1) (strs (di Dk.zero (ls.take (k+1))).2) from by rw[cq.out];exact b1);clear b1 av cp XA;go_roundw
 case rel=>exact⟨k+1,c9,some ⟨g9,0,none⟩,h.op,h.b,h.s,L,U,N,M,T,O,h.xs,h.rule,by omega,rfl,by go_num,cw,b9,cy,cB,cL,cN,cx,cv,c3⟩
 case measure=>simp[intOf]<;>omega}
 {exact c4}}
 {
 skip;intro K' W;go_simp;refine W _ _ (.inr (a1 _ (a6.alloc a6.size _))) ?_;clear W;obtain⟨wa,co,dq,cm,ek⟩:=ae H #[.bool false,(0:Int),(0:Int),.slice none 0 0,.slice none 0 0] 65;rw[←co];clear co;have b3:=a6.trans (cm.mono a6.size);have R:=a1 _ b3;go_simp;refine zo I 5 λK' W=>?_
 go_simp;go_at_call 72;refine(ch _ b3).mono ?_;rintro e G⟨L,U,N,M,T,O,rfl,hE,hR,bk⟩;obtain⟨oE,jE,kE⟩:=ox bs b3 bk (hE.imp (λB=>⟨B.1,B.2.1,B.2.2.1,by rw[B.2.2.2]⟩) id) (by omega);obtain⟨oR,jR,kR⟩:=ox cb b3 bk (hR.imp (λB=>⟨B.1,B.2.1,B.2.2.1,by rw[B.2.2.2]⟩) id) (by omega);have b':=hI oE;have cd:=hI oR;have bO:=hI (show ∀q,(Value.slice bq k cc).ownBlock=some q→(Value.slice L U N).ownBlock≠some q∧(Value.slice M T O).ownBlock≠some q from λq u=>⟨jE q (Y.lt q u).2 (b2 q u).1,jR q (Y.lt q u).2 (b2 q u).2⟩);have b6:=hI kE;have b7:=hI kR;clear hE hR oE oR jE jR kE kR;have XZ:=dq.below bk;have a':=b3.trans (bk.mono b3.size);clear bk dq;refine W _ _ (.inr (a1 _ a')) ?_;clear W;have R:=a1 _ a';go_simp;refine zS I ad 6 R ?_;go_simp;refine zS I ad 7 R ?_;go_simp;refine zS I ad 8 R ?_;go_simp;have FZ:=XZ.f5;have F:wo.heap.size≤H.heap.size:=a6.size;refine zo I 10 λK' W=>?_
 go_simp;refine W _ _ (.inr (a1 _ ((((((a').setCell (p:=⟨H.heap.size,0,none⟩) (F) _).setCell (p:=⟨H.heap.size,1,none⟩) (F) _).setCell (p:=⟨H.heap.size,2,none⟩) (F) _).setCell (p:=⟨H.heap.size,3,none⟩) (F) _).setCell (p:=⟨H.heap.size,4,none⟩) (F) _))) ?_;clear W;have R:=a1 _ ((((((a').setCell (p:=⟨H.heap.size,0,none⟩) (F) (.bool h.op)).setCell (p:=⟨H.heap.size,1,none⟩) (F) (.int .i64 h.b)).setCell (p:=⟨H.heap.size,2,none⟩) (F) (.int .i64 h.s)).setCell (p:=⟨H.heap.size,3,none⟩) (F) (.slice L U N)).setCell (p:=⟨H.heap.size,4,none⟩) (F) (.slice M T O));go_simp;refine zS I ad 11 R ?_;go_simp;refine zd I ?_;obtain⟨V,a7⟩:∃V:World,V=(((((G).setCell ⟨H.heap.size,0,none⟩ (.bool h.op)).setCell ⟨H.heap.size,1,none⟩ (.int .i64 h.b)).setCell ⟨H.heap.size,2,none⟩ (.int .i64 h.s)).setCell ⟨H.heap.size,3,none⟩ (.slice L U N)).setCell ⟨H.heap.size,4,none⟩ (.slice M T O):=⟨_,rfl⟩;have a2:BL wo V:=by rw[a7];exact(((((a').setCell (p:=⟨H.heap.size,0,none⟩) (F) _).setCell (p:=⟨H.heap.size,1,none⟩) (F) _).setCell (p:=⟨H.heap.size,2,none⟩) (F) _).setCell (p:=⟨H.heap.size,3,none⟩) (F) _).setCell (p:=⟨H.heap.size,4,none⟩) (F) _
 have XN:aO V (H.heap.size) #[.bool h.op,h.b,h.s,.slice L U N,.slice M T O] 65:=by rw[a7];have:=(((((XZ).set 0 (.bool h.op)).set 1 (.int .i64 h.b)).set 2 (.int .i64 h.s)).set 3 (.slice L U N)).set 4 (.slice M T O);simpa using this
 have bN:=hI (show aK (H.heap.size) (H.heap.size+1) G V from by rw[a7];(repeat refine bD ?_ (qA _) (by omega) _);exact aK.refl _ _ _);have bP:=hI (aE (b') bN (λq u=>(by have:=b6 q u;rcases this.2 with B|B<;>first|exact .inl (by have:=a6.size;omega)|exact .inr (by omega))));have bW:=hI (aE (cd) bN (λq u=>(by have:=b7 q u;rcases this.2 with B|B<;>first|exact .inl (by have:=a6.size;omega)|exact .inr (by omega))));rw[←a7];clear a7 R FZ XZ I ad a1 FX bN b' cd b6 b7;have ck:=hI (bo.below a2);have b0:=hI (bp.below a2);have bR:=hI (aa Y a2);have bt:=zb HB a2;have F5:=XN.f5;have F1:=b0.f5;have ee:H.heap.size≠w.heap.size:=by omega
 have eg:H.heap.size≠w.heap.size+1:=by omega
 have er:=a2.size;have d5:=hI (λq u=>(Y.lt q u).2);clear XN a2 bo bp Y bs cb b2;obtain⟨Z,a8⟩:∃Z:World,Z=(((((V).setCell ⟨w.heap.size+1,0,none⟩ (.bool h.op)).setCell ⟨w.heap.size+1,1,none⟩ (.int .i64 h.b)).setCell ⟨w.heap.size+1,2,none⟩ (.int .i64 h.s)).setCell ⟨w.heap.size+1,3,none⟩ (.slice L U N)).setCell ⟨w.heap.size+1,4,none⟩ (.slice M T O):=⟨_,rfl⟩;have ar:aK (w.heap.size+1) (w.heap.size+2) V Z:=by rw[a8];(repeat refine bD ?_ (qA _) (by omega) _);exact aK.refl _ _ _
 have cl:=hI (show aO Z (w.heap.size+1) #[.bool h.op,h.b,h.s,.slice L U N,.slice M T O] 65 from by rw[a8];have:=(((((b0).set 0 (.bool h.op)).set 1 (.int .i64 h.b)).set 2 (.int .i64 h.s)).set 3 (.slice L U N)).set 4 (.slice M T O);simpa using this);have c0:=hI (ck.chg ar (.inl (by omega)));have bn:=hI (aE bR ar (λq u=>.inr (by have:=(bR.lt q u).1;omega)));have ca:=hI (aE bP ar (λq u=>.inr (by have:=(bP.lt q u).1;omega)));have cf:=hI (aE bW ar (λq u=>.inr (by have:=(bW.lt q u).1;omega)));have bv:=hI (ao bt ar (by omega) bt.size);have eA:=ar.size;have dc:Z.heap.size=V.heap.size:=by rw[a8];simp
 have cC:=hI (show(Z.alloc (.cells #[.string (ag J)] 9)).heap[V.heap.size]?=some (.cells #[.string (ag J)] 9 (0,0)) from by rw[←dc];exact heap_alloc_new _ _);have c4:=hI (show w.heap.size+2≤(Z.alloc (.cells #[.string (ag J)] 9)).heap.size from by have h9:=lC Z (.cells #[.string (ag J)] 9);omega);have cR:=hI a8;clear a8 ar ck b0 bR bP bW bt;go_wp2_with(at_builtin;rw[←cR.out];refine fy (l:=J) _ rfl _ _ rfl rfl rfl (aa bn (za _ _)) rfl cC (by omega) ?cB1 ?_;rotate_left;intro g9 c9 w9 b1 av cp d8)
 {
 have XA:=(cl.below ((qB _ _).alloc (qA _) (.cells #[.string (ag J)] 9)));have cv:=hI ((bv.alloc bv.size (.cells #[.string (ag J)] 9)).grown av (by simp;have:=bv.size;omega) (λq u=>by have:=(bn.lt q u).1;omega));have cB:=hI ((cl.below ((qB _ _).alloc (qA _) (.cells #[.string (ag J)] 9))).grown av (λe=>by have:=(bn.lt _ e).1;omega));have cy:=hI ((c0.below ((qB _ _).alloc (qA _) (.cells #[.string (ag J)] 9))).grown av (λe=>by have:=(bn.lt _ e).1;omega));have cL:=hI (gL (aa ca ((qB _ _).alloc (qA _) (.cells #[.string (ag J)] 9))) av (λq u=>(bO q u).1));have cN:=hI (gL (aa cf ((qB _ _).alloc (qA _) (.cells #[.string (ag J)] 9))) av (λq u=>(bO q u).2));have cx:=hI (show ∀q,(Value.slice (some ⟨g9,0,none⟩) (k+1) c9).ownBlock=some q→(Value.slice L U N).ownBlock≠some q∧(Value.slice M T O).ownBlock≠some q from by{
 intro q u;have c':g9=q:=by simpa[Value.ownBlock] using u
 subst c';rcases cp with B|B
 {exact bO _ B}
 {
 refine⟨λhe=>?_,λhe=>?_⟩
 {
 have:=(ca.lt _ he).2;simp at B;omega}
 {
 have:=(cf.lt _ he).2;simp at B;omega}}})
 have c3:=hI (show w.heap.size+3≤w9.heap.size from by have:=av.size;simp at this;omega);have b9:=hI b1;have cw:=hI (show(⟨h.op,h.b,h.s,h.xs,h.rule⟩:Dk)=(di Dk.zero (ls.take (k+1))).1 from by rw[cq.out]);have b9:=hI (show w9.ownsRow (w.heap.size+2) 9 1 (.slice (some ⟨g9,0,none⟩) (k+1) c9) (k+1) (strs (di Dk.zero (ls.take (k+1))).2) from by rw[cq.out];exact b1);clear b1 av cp XA;go_roundw
 case rel=>exact⟨k+1,c9,some ⟨g9,0,none⟩,h.op,h.b,h.s,L,U,N,M,T,O,h.xs,h.rule,by omega,rfl,by go_num,cw,b9,cy,cB,cL,cN,cx,cv,c3⟩
 case measure=>simp[intOf]<;>omega}
 {exact c4}}}
 {
 obtain rfl:k=n:=by omega
 have d9:decide ((k:Int)<(k:Int))=false:=by simp
 have F0:=bo.f5;have F1:=bp.f5;have en:=HZ.out;have d1:ls.take k=ls:=qI (by rw[HN.out];omega);have c8:=b5.out;have ho:=Y.out;rw[d1] at c8 ho;have b5:=hI c8;have Y:=hI ho;clear c8 ho d1;go_wp2_with fail
 obtain⟨wG,cs⟩:∃wG:World,wG=(((((wo).setCell ⟨w.heap.size,0,none⟩ (.bool op)).setCell ⟨w.heap.size,1,none⟩ (.int .i64 b)).setCell ⟨w.heap.size,2,none⟩ (.int .i64 s)).setCell ⟨w.heap.size,3,none⟩ (.slice A1 n1 c1)).setCell ⟨w.heap.size,4,none⟩ (.slice A2 m2 c2):=⟨_,rfl⟩;have XG:aO wG w.heap.size #[.bool op,b,s,.slice A1 n1 c1,.slice A2 m2 c2] 65:=by rw[cs];have:=(((((bo).set 0 (.bool op)).set 1 (.int .i64 b)).set 2 (.int .i64 s)).set 3 (.slice A1 n1 c1)).set 4 (.slice A2 m2 c2);simpa using this
 have cr:aK w.heap.size (w.heap.size+1) wo wG:=by rw[cs];(repeat refine bD ?_ (qA _) (by omega) _);exact aK.refl _ _ _
 have d2:=hI (ao HB cr (qA _) HB.size);have d4:=hI (an (aE Y cr (λq u=>.inr (by have:=(Y.lt q u).1;omega))) (base':=w.heap.size) (by omega));have d3:=hI (an (aE bs cr (λq u=>.inr (by have:=(bs.lt q u).1;omega))) (base':=w.heap.size) (by omega));have FG:=XG.f5;rw[←cs];clear cs XG cr;refine bodyPost_ret (v:=.tuple #[.agg #[.bool op,b,s,.slice A1 n1 c1,.slice A2 m2 c2],.slice bq k cc]) (by simp[results,results42,go_sem,FG]) rfl ?_;unfold nB;rw[←b5.out];exact⟨A1,n1,c1,A2,m2,c2,bq,k,cc,rfl,d3,d4,d2⟩})}
end Go.Proofs.YtnpldahkhaacnaaGreatDoor

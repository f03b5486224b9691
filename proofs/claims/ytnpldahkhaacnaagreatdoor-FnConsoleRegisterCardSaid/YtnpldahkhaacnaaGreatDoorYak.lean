/- Texts of the walk: Qz Qza. -/
import Derived.Test.YtnpldahkhaacnaaGreatDoorYai
set_option linter.unusedVariables false
set_option linter.unusedSimpArgs false
set_option maxRecDepth 100000
set_option maxHeartbeats 32000000
namespace Go.Proofs.YtnpldahkhaacnaaGreatDoor
open Go.RowKit Go.Sort Go.Proofs.Tryz
theorem aO.z7 {w:World}{b:Nat}{u:Array Value}{t:TypeId}(h:aO w b u t):w.frozen? ⟨b,0,none⟩=false∧w.frozen? ⟨b,1,none⟩=false∧w.frozen? ⟨b,2,none⟩=false∧w.frozen? ⟨b,3,none⟩=false∧w.frozen? ⟨b,4,none⟩=false∧w.frozen? ⟨b,5,none⟩=false∧w.frozen? ⟨b,6,none⟩=false:=⟨h.fz,h.fz,h.fz,h.fz,h.fz,h.fz,h.fz⟩
theorem dk {n b:Nat}{w F:World}(G:Below n w F)(h:n≤b)(v0 u v2 v3 v4 v5 B:Value):Below n w (((((((F.setCell ⟨b,0,none⟩ v0).setCell ⟨b,1,none⟩ u).setCell ⟨b,2,none⟩ v2).setCell ⟨b,3,none⟩ v3).setCell ⟨b,4,none⟩ v4).setCell ⟨b,5,none⟩ v5).setCell ⟨b,6,none⟩ B):=((((((G.setCell (p:=⟨b,0,none⟩) h v0).setCell (p:=⟨b,1,none⟩) h u).setCell (p:=⟨b,2,none⟩) h v2).setCell (p:=⟨b,3,none⟩) h v3).setCell (p:=⟨b,4,none⟩) h v4).setCell (p:=⟨b,5,none⟩) h v5).setCell (p:=⟨b,6,none⟩) h B
theorem pK {tl:List LB}(h:2≤tl.length):aT (tl.take 2)=((aB (tl.getD 0 [])).2&&(aB (tl.getD 1 [])).2)∧((tl.take 2).map λw=>(aB w).1)=[(aB (tl.getD 0 [])).1,(aB (tl.getD 1 [])).1]:=by{
 match tl,h with
 | a::b::r,_=>exact⟨by simp[aT],rfl⟩}
theorem wB {p q:Int×Bool}(h:(p.2&&q.2)=true):p=(p.1,true)∧q=(q.1,true):=by{
 obtain⟨_,_⟩:=p;obtain⟨_,_⟩:=q;simp only[Bool.and_eq_true] at h;simp[h.1,h.2]}
def In (w:World) (u:List LB) (e:Ending) (B:World):Prop:=∃r b c t h,e=.returned (.tuple #[.agg #[.int .i64 r,.int .i64 b,(0:Int),.int .i64 c,.int .i64 t,(0:Int),(0:Int)],.bool h])∧XP u r b c t h∧BL w B
theorem oH (A:OA)(n cp:Nat)(F:List LB)(w:World)(h:Rd w 1 A n (strs F))(hn:n≤4194304)(cC:n≤cp)(N:∀x∈F,x.length≤2097152)(M:∀W,BL w W→gu W):Calls prog 39 #[.slice A n cp] w (In w F):=by{
 have V:=h.len_str;obtain⟨wa,Z,R,I,a8⟩:=ae w #[(0:Int),(0:Int),(0:Int),(0:Int),(0:Int),(0:Int),(0:Int)] 25;have J:=hI Z;have L:=hI R;have O:=hI I;have ca:=hI M;have cf:=hI N;have av:=hI V;have cn:n<3∨4<n∨(3≤n∧n≤4):=by omega
 rcases cn with T|T|⟨T,h4⟩
 {
 have Y:decide ((n:Int)<3)=true:=by simp;omega
 have H:=hI (Fl (tl:=F) (.inl (by omega)) 0 0 0 0);have G:=L.f7;have U:=L.z7;clear h R I a8 Z M N V;go_enter func39,ntmps39;go_wp2_with fail
 rw[←J.out];clear J;go_wp2_with fail
 refine bodyPost_ret (v:=.tuple #[.agg #[(0:Int),(0:Int),(0:Int),(0:Int),(0:Int),(0:Int),(0:Int)],.bool false]) (by simp[results,results39,go_sem,G]) rfl ?_;exact⟨0,0,0,0,false,rfl,H,O⟩}
 {
 have Y:decide ((n:Int)<3)=false:=by simp;omega
 have e2:decide ((4:Int)<(n:Int))=true:=by simp;omega
 have H:=hI (Fl (tl:=F) (.inr (by omega)) 0 0 0 0);have G:=L.f7;have U:=L.z7;clear h R I a8 Z M N V;go_enter func39,ntmps39;go_wp2_with fail
 rw[←J.out];clear J;go_wp2_with fail
 refine bodyPost_ret (v:=.tuple #[.agg #[(0:Int),(0:Int),(0:Int),(0:Int),(0:Int),(0:Int),(0:Int)],.bool false]) (by simp[results,results39,go_sem,G]) rfl ?_;exact⟨0,0,0,0,false,rfl,H,O⟩}
 {
 have Y:decide ((n:Int)<3)=false:=by simp;omega
 have e2:decide ((4:Int)<(n:Int))=false:=by simp;omega
 obtain⟨bb,oo,rfl,-⟩:=h.pos (by omega);have bt:=hI ((h.takeS 2 (by omega)).below I);have bp:=hI (h.below I);have cx:2≤cp:=by omega
 have HS:=hI (BJ (some ⟨bb,oo,none⟩) 2 cp (F.take 2) wa bt (by omega) (λx u=>N x (qi u)) (λW u=>M W (I.trans (u.mono I.size))));clear h R I a8 Z M N V;go_enter func39,ntmps39;go_wp2_with fail
 rw[←J.out];clear J;go_wp2_with fail
 refine HS.mono ?_;rintro e w1⟨_,m,c1,rfl,R,u⟩;have a':=zb O u;have bN:=hI (L.below u);have N:=hI (bp.below u);have bq:=hI R;clear u R L O bp bt HS;obtain⟨_,_,x2,V,I,-,_⟩:=N.str (k:=2) (by omega);injection V with V;injection V with Z V;subst Z;subst V;have L:F.getD 2 []=x2:=by rw[qC,I];rfl
 have J:=hI (pu (ag x2) w1);rw[aw] at J;have cw:=hI L;clear I;generalize M:fe x2=cd at *;obtain⟨I,ck⟩:=cd;have ar:=hI (show fe (F.getD 2 [])=(I,ck) from by rw[L,M]);simp only at J;clear M L;go_wp2_with fail
 refine J.mono ?_;rintro e w2⟨rfl,u⟩;have L:=zb a' u;have M:=hI (bN.below u);have cc:=hI (N.below u);have O:=hI (λh=>(bq h).below u);clear u a' bN N bq J;have ch:2≤F.length:=by have:=av.out;omega
 have N:=hI (pK ch);rw[N.out.2] at O;generalize b1:aT (F.take 2)=sh at *
 cases sh with
 | false=>{
 have H:=hI (yM (tl:=F) 0 0 0 0 (λr b c t h=>by{
 have J:=N.1;rw[h.2.1,h.2.2.1] at J
 cases J}))
 have G:=M.f7;have U:=M.z7;clear b1 N O;go_wp2_with fail
 refine bodyPost_ret (v:=.tuple #[.agg #[(0:Int),(0:Int),(0:Int),(0:Int),(0:Int),(0:Int),(0:Int)],.bool false]) (by simp[results,results39,go_sem,G]) rfl ?_;exact⟨0,0,0,0,false,rfl,H,dk L (qA _) _ _ _ _ _ _ _⟩}
 | true=>{
 have R:=O rfl;obtain⟨q0,Z⟩:=wB N.1.symm;have bk:=hI q0;have bo:=hI Z;generalize (aB (F.getD 0 [])).1=r0 at *;generalize (aB (F.getD 1 [])).1=b0 at *;have co:m=2:=by have:=R.len_int;simpa using this.symm
 subst co;clear b1 N O q0 Z;have cm:(ck=true∧((I=0)↔n=4))∨ck=false∨(ck=true∧¬((I=0)↔n=4)):=by{
 cases ck
 {exact .inr (.inl rfl)}
 {
 by_cases h:(I=0)↔n=4
 {exact .inl ⟨rfl,h⟩}
 {exact .inr (.inr ⟨rfl,h⟩)}}}
 rcases cm with⟨rfl,O⟩|rfl|⟨rfl,O⟩
 rotate_left
 {
 have H:=hI (yM (tl:=F) 0 0 0 0 (λr b c t h=>by{
 have J:=ar.out;rw[h.2.2.2.1] at J
 cases J}))
 have G:=M.f7;have U:=M.z7;clear R;go_wp2_with fail
 refine bodyPost_ret (v:=.tuple #[.agg #[(0:Int),(0:Int),(0:Int),(0:Int),(0:Int),(0:Int),(0:Int)],.bool false]) (by simp[results,results39,go_sem,G]) rfl ?_;exact⟨0,0,0,0,false,rfl,H,dk L (qA _) _ _ _ _ _ _ _⟩}
 {
 have H:=hI (yM (tl:=F) 0 0 0 0 (λr b c t h=>by{
 have J:=ar.out;rw[h.2.2.2.1] at J;injection J with J _;have N:=h.2.2.2.2.1;rw[J] at N;apply O;rw[N];have:=av.out;omega}))
 have G:=M.f7;have U:=M.z7;clear R;have cq:(((I:Int)==0)=true∧((n:Int)==4)=false)∨(((I:Int)==0)=false∧((n:Int)==4)=true):=by{
 by_cases h:I=0
 {
 have:n≠4:=λN=>O ⟨λ_=>N,λ_=>h⟩
 exact .inl ⟨by simp[h],by simp;omega⟩}
 {
 have:n=4:=by{
 by_cases N:n=4
 {exact N}
 {exact absurd ⟨λT=>absurd T h,λT=>absurd T N⟩ O}}
 exact .inr ⟨by simp[h],by simp;omega⟩}}
 clear O;rcases cq with⟨c1,c2⟩|⟨c1,c2⟩
 {
 go_wp2_with fail
 refine bodyPost_ret (v:=.tuple #[.agg #[(0:Int),(0:Int),(0:Int),(0:Int),(0:Int),(0:Int),(0:Int)],.bool false]) (by simp[results,results39,go_sem,G]) rfl ?_;exact⟨0,0,0,0,false,rfl,H,dk L (qA _) _ _ _ _ _ _ _⟩}
 {
 go_wp2_with fail
 refine bodyPost_ret (v:=.tuple #[.agg #[(0:Int),(0:Int),(0:Int),(0:Int),(0:Int),(0:Int),(0:Int)],.bool false]) (by simp[results,results39,go_sem,G]) rfl ?_;exact⟨0,0,0,0,false,rfl,H,dk L (qA _) _ _ _ _ _ _ _⟩}}
 {
 obtain⟨_,_,u0,en,b5,-,a6⟩:=R.int (k:=0) (by omega);obtain⟨_,_,u1,a2,b6,-,cl⟩:=R.int (k:=1) (by omega);subst en;injection a2 with a2;injection a2 with Y e2;subst Y e2;obtain rfl:u0=r0:=by simpa using b5.symm
 obtain rfl:u1=b0:=by simpa using b6.symm
 clear R b5 b6;simp only[qW] at a6;have cB:=au a6;have G:=M.f7;have U:=M.z7;by_cases ad:I=0
 {
 have a7:=O.1 ad;have c1:(I==0)=true:=by simp[ad]
 have c2:((n:Int)==4)=true:=by simp;omega
 subst ad;obtain⟨_,_,x3,q3,R,-,bR⟩:=cc.str (k:=3) (by omega);injection q3 with q3;injection q3 with Z V;subst Z;subst V;have b9:F.getD 3 []=x3:=by rw[qC,R];rfl
 have b4:(ag x3).size≤2097152:=by rw[aj];exact cf x3 (qF R)
 have HT:=hI (λW (u:BL w W)=>jV (ag x3) b4 W (λw2 N=>ca _ (u.trans (N.mono u.size))));rw[aw] at HT;have bP:=hI b9;have cy:=au bR;have cb:=hI a7;have cL:3<n:=by omega
 clear O T h4 Y e2 R b9 b4 a7;go_wp2_with fail
 go_region
 go_wp2_with fail
 obtain⟨w3,b7,XV,R,cr⟩:=ae w2 #[u0,u1,(0:Int),(0:Int),(0:Int),(0:Int),(0:Int)] 25;rw[←b7];have a1:BL w3 w3.drew:=(qB _ _).drew;generalize w3.drew=w4 at *;have ba:=hI (L.trans ((R.trans (a1.mono R.size)).mono L.size));have bO:=hI (M.below (R.trans (a1.mono R.size)));have bv:=hI (XV.below a1);have cN:=G.2.2.2.2.2.2.2;clear G U XV R a1 cr b7 a6 cl bR;refine(HT _ ba).mono ?_;rintro e w5⟨t,R,rfl,bW,u⟩;have bs:=hI bW;have b':=zb ba u;have G:=(bO.below u).f7;have U:=(bO.below u).z7;have FV:=(bv.below u).f7;have cs:=(bv.below u).z7;have H:=hI (show XP F u0 u1 0 t R from by{
 have hl:=av.out;have h4:=cb.out
 cases R with
 | true=>{
 obtain⟨t1,t2,t3⟩:=bs.2 rfl;exact Ev ⟨⟨by omega,by omega⟩,bk,bo,ar,⟨λ_=>by omega,λ_=>rfl⟩,(λ_=>⟨t1,t2,by rw[bP.out];exact t3⟩),(λh=>by omega)⟩}
 | false=>{
 refine yM _ _ _ _ (λr b c t' h=>?_);have h6:=h.2.2.2.2.2.1 (by omega);rw[bP.out] at h6;have h7:=(bs.1 t'.toNat (by omega) h6.2.2).2
 cases h7}})
 clear bW u HT;go_wp2_with fail
 refine bodyPost_ret (v:=.tuple #[.agg #[u0,u1,(0:Int),(0:Int),t,(0:Int),(0:Int)],.bool R]) (by simp[results,results39,go_sem,G]) rfl ?_;exact⟨u0,u1,0,t,R,rfl,H,dk (b'.setCell (p:=⟨w2.heap.size,4,none⟩) L.size _) (qA _) _ _ _ _ _ _ _⟩}
 {
 have a7:n=3:=by have:=O.2;omega
 have c1:(I==0)=false:=by simp[ad]
 have c2:((n:Int)==4)=false:=by simp;omega
 have H:=hI (show jb F u0 u1 I 0 from by{
 have hl:=av.out;exact⟨⟨by omega,by omega⟩,bk,bo,ar,⟨λh=>absurd h ad,λh=>by omega⟩,(λh=>by omega),(λ_=>rfl)⟩})
 clear O T h4 Y e2;go_wp2_with fail
 go_region
 go_wp2_with fail
 refine bodyPost_ret (v:=.tuple #[.agg #[u0,u1,(0:Int),I,(0:Int),(0:Int),(0:Int)],.bool true]) (by simp[results,results39,go_sem,G]) rfl ?_;exact⟨u0,u1,I,0,true,rfl,Ev H,((dk L (qA _) _ _ _ _ _ _ _).alloc (by simp;have:=L.size;omega) _).drew⟩}}}}}
def XW (h:List LB) (r b c t:Int) (u:Bool):Prop:=(u=true→h.getD 0 []=a_∧jb (h.drop 1) r b c t)∧(u=false→h.getD 0 []=a_→∀r b c t,¬jb (h.drop 1) r b c t)
theorem Fd {ws:List LB}(r b c t:Int)(h:ws.getD 0 []=a_→∀r b c t,¬jb (ws.drop 1) r b c t):XW ws r b c t false:=⟨(λh=>by cases h),λ_=>h⟩
theorem IN {u:List LB}{r b c t:Int}(B:u.getD 0 []=a_)(h:jb (u.drop 1) r b c t):XW u r b c t true:=⟨λ_=>⟨B,h⟩,(λh=>by cases h)⟩
theorem nk {h u:List LB}(F:u=h.drop 1)(r b c t:Int)(B:h.getD 0 []=a_→∀r b c t,¬jb u r b c t):XW h r b c t false:=by subst F;exact Fd r b c t B
theorem Cf {h u:List LB}(G:u=h.drop 1){r b c t:Int}(F:h.getD 0 []=a_)(B:jb u r b c t):XW h r b c t true:=by subst G;exact IN F B
theorem Am (h:List LB)(k:Nat):(h.drop 1).getD k []=h.getD (k+1) []:=by{rw[qC,qg,←qC,Nat.add_comm]}
def Ih (w:World) (B:List LB) (e:Ending) (u:World):Prop:=∃r b c t h,e=.returned (.tuple #[.agg #[.int .i64 r,.int .i64 b,(0:Int),.int .i64 c,.int .i64 t,(0:Int),(0:Int)],.bool h])∧XW B r b c t h∧BL w u
theorem Ep (x:LB):((ag x).toList==[101,110,116,101,114])=decide (x=a_):=by{
 rw[ByteArray.toList_eq,aw];by_cases h:x=a_
 {subst h;rfl}
 {
 rw[decide_eq_false h];exact beq_eq_false_iff_ne.2 h}}
theorem tF (A:OA)(n cp:Nat)(R:List LB)(w:World)(h:Rd w 1 A n (strs R))(hn:n≤4194304)(dq:n≤cp)(I:∀x∈R,x.length≤2097152):Calls prog 162 #[.slice A n cp] w (Ih w R):=by{
 have N:=h.len_str;obtain⟨wa,U,M,G,cf⟩:=ae w #[(0:Int),(0:Int),(0:Int),(0:Int),(0:Int),(0:Int),(0:Int)] 25;have ar:=hI U;have HX:=hI M;have a2:=hI G;have cR:=hI I;have ch:=hI N;by_cases u:n≠4∧n≠5
 {
 have e1:((n:Int) !=4)=true:=by simp;omega
 have e2:((n:Int) !=5)=true:=by simp;omega
 have H:=hI (Fd (ws:=R) 0 0 0 0 (λ_ r b c t h=>by{
 have F:=h.1;rw[qX] at F;omega}))
 have B:=HX.f7;have V:=HX.z7;clear h M G cf U I N;go_enter func162,ntmps162;go_wp2_with fail
 rw[←ar.out];clear ar;go_wp2_with fail
 refine bodyPost_ret (v:=.tuple #[.agg #[(0:Int),(0:Int),(0:Int),(0:Int),(0:Int),(0:Int),(0:Int)],.bool false]) (by simp[results,results162,go_sem,B]) rfl ?_;exact⟨0,0,0,0,false,rfl,H,a2⟩}
 have bp:(((n:Int) !=4)=false∧n=4)∨(((n:Int) !=4)=true∧((n:Int) !=5)=false∧n=5):=by{
 by_cases h4:n=4
 {exact .inl ⟨by simp[h4],h4⟩}
 {exact .inr ⟨by simp;omega,by simp;omega,by omega⟩}}
 have h4:4≤n∧n≤5:=by omega
 obtain⟨h4,h5⟩:=h4;clear u;have L:R.drop 1=R.drop 1:=rfl;obtain⟨bb,oo,rfl,-⟩:=h.pos (by omega);have bs:=hI (h.below G);obtain⟨b0,_,x0,q0,u,-,ad⟩:=h.str (k:=0) (by omega);injection q0 with q0;injection q0 with T O;subst T;subst O;have J:R.getD 0 []=x0:=by rw[qC,u];rfl
 have Z:=hI J;have c':=au ad;have W:=hI (Ep x0);clear u L J;by_cases u:x0=a_
 rotate_left
 {
 have H:=hI (Fd (ws:=R) 0 0 0 0 (λh _ _ _ _ _=>u (Z.symm.trans h)));have ba:=W.out;rw[decide_eq_false u] at ba;have cb:((ag x0).toList !=[101,110,116,101,114])=true:=by rw[bne,ba];rfl
 have B:=HX.f7;have V:=HX.z7;clear h M G cf U I N u;simp only[qW] at ad;rcases bp with⟨e1,-⟩|⟨e1,e2,-⟩
 {
 go_enter func162,ntmps162;go_wp2_with fail
 rw[←ar.out];clear ar;refine bodyPost_ret (v:=.tuple #[.agg #[(0:Int),(0:Int),(0:Int),(0:Int),(0:Int),(0:Int),(0:Int)],.bool false]) (by simp[results,results162,go_sem,B]) rfl ?_;exact⟨0,0,0,0,false,rfl,H,a2⟩}
 {
 go_enter func162,ntmps162;go_wp2_with fail
 rw[←ar.out];clear ar;refine bodyPost_ret (v:=.tuple #[.agg #[(0:Int),(0:Int),(0:Int),(0:Int),(0:Int),(0:Int),(0:Int)],.bool false]) (by simp[results,results162,go_sem,B]) rfl ?_;exact⟨0,0,0,0,false,rfl,H,a2⟩}}
 have ba:=W.out;rw[decide_eq_true u] at ba;have cb:((ag x0).toList !=[101,110,116,101,114])=false:=by rw[bne,ba];rfl
 have co:=hI (Z.trans u);obtain⟨J,L⟩:∃J,J=R.drop 1:=⟨_,rfl⟩;have Y:=hI L;have b6:=hI (show ∀k,J.getD k []=R.getD (k+1) [] from λk=>by rw[L,Am]);have cx:Rd wa 1 (some ⟨bb,oo+1,none⟩) 2 (strs (J.take 2)):=by rw[L];exact(bs.dropS 1 (by omega)).takeS 2 (by omega)
 have dc:1≤cp:=by omega
 have b':3≤cp:=by omega
 have HS:=hI (qD (some ⟨bb,oo+1,none⟩) 2 (cp-1) (J.take 2) wa cx (by omega) (λx hx=>I x (by rw[L] at hx;exact qc (qi hx))));clear h M G cf U I N u cx Z W L;simp only[qW] at ad;rcases bp with⟨e1,av⟩|⟨e1,e2,av⟩
 {
 go_enter func162,ntmps162;go_wp2_with fail
 rw[←ar.out];clear ar;go_wp2_with fail
 refine HS.mono ?_;rintro e w1⟨cL,m,c1,rfl,G,u⟩;have bq:=zb a2 u;have bN:=hI (HX.below u);have a7:=hI (bs.below u);rw[dz] at G;have bt:=hI G;clear u G HX a2 bs HS ad ba cb;obtain⟨b2,o2,x2,O,b1,-,c5⟩:=a7.str (k:=3) (by omega);injection O with O;injection O with T O;subst T;subst O;have bk:R.getD 3 []=x2:=by rw[qC,b1];rfl
 have HC:=hI (ka (ag x2) w1);rw[aw] at HC;have c0:=hI bk;clear b1;generalize bO:fe x2=cd at *;obtain⟨I,Z⟩:=cd;have a6:=hI (show fe (J.getD 2 [])=(I,Z) from by rw[b6.out,bk,bO]);simp only at HC;clear bO bk;rw[dz];go_wp2_with fail
 refine HC.mono ?_;rintro e w2⟨rfl,u⟩;have U:=zb bq u;have L:=hI (bN.below u);have cm:=hI (a7.below u);have a8:=hI (λh=>(bt h).below u);clear u bq bN a7 bt HC;have a1:=hI (show J.length=n-1 from by rw[Y.out,qX,ch.out]);have W:=hI (pK (tl:=J) (by rw[a1.out];omega));have bv:=hI (λh=>iS (ws:=J.take 2) h);generalize bP:aT (J.take 2)=sh at *
 cases sh with
 | false=>{
 have H:=hI (nk Y 0 0 0 0 (λ_ r b c t h=>by{
 have F:=W.1;rw[h.2.1,h.2.2.1] at F
 cases F}))
 have B:=L.f7;have V:=L.z7;clear bP W a8;go_wp2_with fail
 refine bodyPost_ret (v:=.tuple #[.agg #[(0:Int),(0:Int),(0:Int),(0:Int),(0:Int),(0:Int),(0:Int)],.bool false]) (by simp[results,results162,go_sem,B]) rfl ?_;exact⟨0,0,0,0,false,rfl,H,dk U (qA _) _ _ _ _ _ _ _⟩}
 | true=>{
 have G:=a8 rfl;rw[bv.out rfl,W.out.2] at G;obtain⟨q0,T⟩:=wB W.1.symm;have b4:=hI q0;have b5:=hI T;generalize (aB (J.getD 0 [])).1=r0 at *;generalize (aB (J.getD 1 [])).1=b0 at *;have cc:m=2:=by have:=G.len_int;simpa using this.symm
 subst cc;clear bP W a8 q0 T bv;have ca:(Z=true∧((I=0)↔n=5))∨Z=false∨(Z=true∧¬((I=0)↔n=5)):=by{
 cases Z
 {exact .inr (.inl rfl)}
 {
 by_cases h:(I=0)↔n=5
 {exact .inl ⟨rfl,h⟩}
 {exact .inr (.inr ⟨rfl,h⟩)}}}
 rcases ca with⟨rfl,N⟩|rfl|⟨rfl,N⟩
 rotate_left
 {
 have H:=hI (nk Y 0 0 0 0 (λ_ r b c t h=>by{
 have F:=a6.out;rw[h.2.2.2.1] at F
 cases F}))
 have B:=L.f7;have V:=L.z7;clear G;go_wp2_with fail
 refine bodyPost_ret (v:=.tuple #[.agg #[(0:Int),(0:Int),(0:Int),(0:Int),(0:Int),(0:Int),(0:Int)],.bool false]) (by simp[results,results162,go_sem,B]) rfl ?_;exact⟨0,0,0,0,false,rfl,H,dk U (qA _) _ _ _ _ _ _ _⟩}
 {
 have H:=hI (nk Y 0 0 0 0 (λ_ r b c t h=>by{
 have F:=a6.out;rw[h.2.2.2.1] at F;injection F with F _;have M:=h.2.2.2.2.1;rw[F,a1.out] at M;apply N;rw[M];omega}))
 have B:=L.f7;have V:=L.z7;clear G;have bp:(((I:Int)==0)=true∧((n:Int)==5)=false)∨(((I:Int)==0)=false∧((n:Int)==5)=true):=by{
 by_cases h:I=0
 {
 have:n≠5:=λM=>N ⟨λ_=>M,λ_=>h⟩
 exact .inl ⟨by simp[h],by simp;omega⟩}
 {
 have:n=5:=by{
 by_cases M:n=5
 {exact M}
 {exact absurd ⟨λh3=>absurd h3 h,λh3=>absurd h3 M⟩ N}}
 exact .inr ⟨by simp[h],by simp;omega⟩}}
 clear N;rcases bp with⟨c1,c2⟩|⟨c1,c2⟩
 {
 clear av;go_wp2_with fail
 refine bodyPost_ret (v:=.tuple #[.agg #[(0:Int),(0:Int),(0:Int),(0:Int),(0:Int),(0:Int),(0:Int)],.bool false]) (by simp[results,results162,go_sem,B]) rfl ?_;exact⟨0,0,0,0,false,rfl,H,dk U (qA _) _ _ _ _ _ _ _⟩}
 {exfalso;rw[av] at c2;simp at c2}}
 {
 obtain⟨bn,on,u0,en,bR,-,bo⟩:=G.int (k:=0) (by omega);obtain⟨c3,c7,u1,a',bW,-,cs⟩:=G.int (k:=1) (by omega);subst en;injection a' with a';injection a' with b7 b9;subst b7 b9;obtain rfl:u0=r0:=by simpa using bR.symm
 obtain rfl:u1=b0:=by simpa using bW.symm
 clear G bR bW;have c4:=au bo;have B:=L.f7;have V:=L.z7;simp only[qW] at bo;have ad:I≠0:=by have:=N.1;intro h;have:=this h;omega
 have c1:(I==0)=false:=by simp[ad]
 have c2:((n:Int)==5)=false:=by simp;omega
 have H:=hI (show jb J u0 u1 I 0 from by{
 have hl:=a1.out;exact⟨⟨by omega,by omega⟩,b4,b5,a6,⟨λh=>absurd h ad,λh=>by omega⟩,(λh=>by omega),(λ_=>rfl)⟩})
 clear N h4 h5 e1 av;go_wp2_with fail
 go_region
 go_wp2_with fail
 refine bodyPost_ret (v:=.tuple #[.agg #[u0,u1,(0:Int),I,(0:Int),(0:Int),(0:Int)],.bool true]) (by simp[results,results162,go_sem,B]) rfl ?_;exact⟨u0,u1,I,0,true,rfl,Cf Y co H,((dk U (qA _) _ _ _ _ _ _ _).alloc (by simp;have:=U.size;omega) _).drew⟩}}}
 {
 go_enter func162,ntmps162;go_wp2_with fail
 rw[←ar.out];clear ar;go_wp2_with fail
 refine HS.mono ?_;rintro e w1⟨cL,m,c1,rfl,G,u⟩;have bq:=zb a2 u;have bN:=hI (HX.below u);have a7:=hI (bs.below u);rw[dz] at G;have bt:=hI G;clear u G HX a2 bs HS ad ba cb;obtain⟨b2,o2,x2,O,b1,-,c5⟩:=a7.str (k:=3) (by omega);injection O with O;injection O with T O;subst T;subst O;have bk:R.getD 3 []=x2:=by rw[qC,b1];rfl
 have HC:=hI (ka (ag x2) w1);rw[aw] at HC;have c0:=hI bk;clear b1;generalize bO:fe x2=cd at *;obtain⟨I,Z⟩:=cd;have a6:=hI (show fe (J.getD 2 [])=(I,Z) from by rw[b6.out,bk,bO]);simp only at HC;clear bO bk;rw[dz];go_wp2_with fail
 refine HC.mono ?_;rintro e w2⟨rfl,u⟩;have U:=zb bq u;have L:=hI (bN.below u);have cm:=hI (a7.below u);have a8:=hI (λh=>(bt h).below u);clear u bq bN a7 bt HC;have a1:=hI (show J.length=n-1 from by rw[Y.out,qX,ch.out]);have W:=hI (pK (tl:=J) (by rw[a1.out];omega));have bv:=hI (λh=>iS (ws:=J.take 2) h);generalize bP:aT (J.take 2)=sh at *
 cases sh with
 | false=>{
 have H:=hI (nk Y 0 0 0 0 (λ_ r b c t h=>by{
 have F:=W.1;rw[h.2.1,h.2.2.1] at F
 cases F}))
 have B:=L.f7;have V:=L.z7;clear bP W a8;go_wp2_with fail
 refine bodyPost_ret (v:=.tuple #[.agg #[(0:Int),(0:Int),(0:Int),(0:Int),(0:Int),(0:Int),(0:Int)],.bool false]) (by simp[results,results162,go_sem,B]) rfl ?_;exact⟨0,0,0,0,false,rfl,H,dk U (qA _) _ _ _ _ _ _ _⟩}
 | true=>{
 have G:=a8 rfl;rw[bv.out rfl,W.out.2] at G;obtain⟨q0,T⟩:=wB W.1.symm;have b4:=hI q0;have b5:=hI T;generalize (aB (J.getD 0 [])).1=r0 at *;generalize (aB (J.getD 1 [])).1=b0 at *;have cc:m=2:=by have:=G.len_int;simpa using this.symm
 subst cc;clear bP W a8 q0 T bv;have ca:(Z=true∧((I=0)↔n=5))∨Z=false∨(Z=true∧¬((I=0)↔n=5)):=by{
 cases Z
 {exact .inr (.inl rfl)}
 {
 by_cases h:(I=0)↔n=5
 {exact .inl ⟨rfl,h⟩}
 {exact .inr (.inr ⟨rfl,h⟩)}}}
 rcases ca with⟨rfl,N⟩|rfl|⟨rfl,N⟩
 rotate_left
 {
 have H:=hI (nk Y 0 0 0 0 (λ_ r b c t h=>by{
 have F:=a6.out;rw[h.2.2.2.1] at F
 cases F}))
 have B:=L.f7;have V:=L.z7;clear G;go_wp2_with fail
 refine bodyPost_ret (v:=.tuple #[.agg #[(0:Int),(0:Int),(0:Int),(0:Int),(0:Int),(0:Int),(0:Int)],.bool false]) (by simp[results,results162,go_sem,B]) rfl ?_;exact⟨0,0,0,0,false,rfl,H,dk U (qA _) _ _ _ _ _ _ _⟩}
 {
 have H:=hI (nk Y 0 0 0 0 (λ_ r b c t h=>by{
 have F:=a6.out;rw[h.2.2.2.1] at F;injection F with F _;have M:=h.2.2.2.2.1;rw[F,a1.out] at M;apply N;rw[M];omega}))
 have B:=L.f7;have V:=L.z7;clear G;have bp:(((I:Int)==0)=true∧((n:Int)==5)=false)∨(((I:Int)==0)=false∧((n:Int)==5)=true):=by{
 by_cases h:I=0
 {
 have:n≠5:=λM=>N ⟨λ_=>M,λ_=>h⟩
 exact .inl ⟨by simp[h],by simp;omega⟩}
 {
 have:n=5:=by{
 by_cases M:n=5
 {exact M}
 {exact absurd ⟨λh3=>absurd h3 h,λh3=>absurd h3 M⟩ N}}
 exact .inr ⟨by simp[h],by simp;omega⟩}}
 clear N;rcases bp with⟨c1,c2⟩|⟨c1,c2⟩
 {exfalso;rw[av] at c2;simp at c2}
 {
 clear av;go_wp2_with fail
 refine bodyPost_ret (v:=.tuple #[.agg #[(0:Int),(0:Int),(0:Int),(0:Int),(0:Int),(0:Int),(0:Int)],.bool false]) (by simp[results,results162,go_sem,B]) rfl ?_;exact⟨0,0,0,0,false,rfl,H,dk U (qA _) _ _ _ _ _ _ _⟩}}
 {
 obtain⟨bn,on,u0,en,bR,-,bo⟩:=G.int (k:=0) (by omega);obtain⟨c3,c7,u1,a',bW,-,cs⟩:=G.int (k:=1) (by omega);subst en;injection a' with a';injection a' with b7 b9;subst b7 b9;obtain rfl:u0=r0:=by simpa using bR.symm
 obtain rfl:u1=b0:=by simpa using bW.symm
 clear G bR bW;have c4:=au bo;have B:=L.f7;have V:=L.z7;simp only[qW] at bo;have ad:I=0:=N.2 av;have c1:(I==0)=true:=by simp[ad]
 have c2:((n:Int)==5)=true:=by simp;omega
 subst ad;obtain⟨_,_,W,q3,G,-,b'⟩:=cm.str (k:=4) (by omega);injection q3 with q3;injection q3 with T O;subst T;subst O;have cC:J.getD 3 []=W:=by rw[b6.out,qC,G];rfl
 have cy:(ag W).size≤2097152:=by rw[aj];exact cR W (qF G)
 have HT:=hI (λw'=>gF (ag W) cy w');rw[aw] at HT;have cr:=hI cC;have c9:=au b';have cl:=hI av;have dA:4<n:=by omega
 clear N h4 h5 e1 e2 G cC cy av;go_wp2_with fail
 go_region
 go_wp2_with fail
 obtain⟨w3,cB,XV,G,c6⟩:=ae w2 #[u0,u1,(0:Int),(0:Int),(0:Int),(0:Int),(0:Int)] 25;rw[←cB];have N:BL w3 w3.drew:=(qB _ _).drew;generalize w3.drew=w4 at *;have cN:=hI (U.trans ((G.trans (N.mono G.size)).mono U.size));have cq:=hI (L.below (G.trans (N.mono G.size)));have cn:=hI (XV.below N);have d0:=B.2.2.2.2.2.2.2;clear B V XV G N c6 cB bo cs b';refine(HT _).mono ?_;rintro e w5⟨t,ok,rfl,cw,u⟩;have N:=hI cw;have G:=zb cN u;have B:=(cq.below u).f7;have V:=(cq.below u).z7;have FV:=(cn.below u).f7;have c8:=(cn.below u).z7;clear cw u HT
 cases ok with
 | true=>{
 have H:=hI (show XW R u0 u1 0 t true from by{
 have hl:=a1.out;have h4:=cl.out;obtain⟨u,t2,t3⟩:=N.2 rfl;exact Cf Y co ⟨⟨by omega,by omega⟩,b4,b5,a6,⟨λ_=>by omega,λ_=>rfl⟩,(λ_=>⟨u,t2,by rw[cr.out];exact t3⟩),(λh=>by omega)⟩})
 go_wp2_with fail
 refine bodyPost_ret (v:=.tuple #[.agg #[u0,u1,(0:Int),(0:Int),t,(0:Int),(0:Int)],.bool true]) (by simp[results,results162,go_sem,B]) rfl ?_;exact⟨u0,u1,0,t,true,rfl,H,dk (G.setCell (p:=⟨w2.heap.size,4,none⟩) U.size _) (qA _) _ _ _ _ _ _ _⟩}
 | false=>{
 have H:=hI (show XW R 0 0 0 0 false from by{
 refine nk Y _ _ _ _ (λ_ r b c t' h=>?_);have hl:=a1.out;have h4:=cl.out;have u:=h.2.2.2.2.2.1 (by omega);rw[cr.out] at u;have h7:=(N.1 t'.toNat (by omega) u.2.2).2
 cases h7})
 go_wp2_with fail
 refine bodyPost_ret (v:=.tuple #[.agg #[(0:Int),(0:Int),(0:Int),(0:Int),(0:Int),(0:Int),(0:Int)],.bool false]) (by simp[results,results162,go_sem,B]) rfl ?_;exact⟨0,0,0,0,false,rfl,H,dk G (qA _) _ _ _ _ _ _ _⟩}}}}}
end Go.Proofs.YtnpldahkhaacnaaGreatDoor

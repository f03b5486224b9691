/- Texts of the walk: Nz Oc. -/
import Derived.Test.YtnpldahkhaacnaaGreatDoorYbk
set_option linter.unusedVariables false
set_option linter.unusedSimpArgs false
set_option maxRecDepth 100000
set_option maxHeartbeats 32000000
namespace Go.Proofs.YtnpldahkhaacnaaGreatDoor
open Go.RowKit Go.Sort Go.Proofs.Tryz
theorem zQ (t:Tb):∀(u:List gz) (h:List LI),(dm t u h).length=h.length:=by{
 intro u
 induction u with
 | nil=>intro h;rfl
 | cons x r B=>intro h;rw[dm,B];unfold pd;simp}
theorem xV (b s:Int)(h:List EntryT):(tabR b s h).pts.length=(ia b h).length:=by{
 unfold tabR iK lk gD;simp only[zQ,qV]}
theorem oC {t:Tb}(u:bl t){i:Nat}{p:LI}(B:t.pts[i]?=some p):(∀x∈p,0≤x∧x≤1000000)∧p.length≤16:=by{
 have G:i<t.pts.length:=(List.getElem?_eq_some_iff.1 B).1;have h:∃c,t.cds[i]?=some c:=⟨_,qG (by rw[←u.same];exact G)⟩;obtain⟨c,h⟩:=h;have F:=(u.row i p c B h).1;have I:=u.b2;exact⟨λx H=>by have:=F.2 x H;omega,by omega⟩}
theorem ul (b s:Int)(I:List EntryT)(bo:cE b s I)(W:LI)(cm:bC W=true)(Z:Nat)(A:OA)(n c:Nat)(Y:OA)(lr cr:Nat)(w:World)(u:aO w Z (be true b s A n c Y lr cr) 61)(B:bA w A n c I)(J:Rd w 1 Y lr (ints W))(An:OA)(nn cn:Nat)(nums:LI)(L:Rd w 1 An nn (ints nums))(M:nums.length=1)(G:∀H,BL w H→gu H):Calls prog 108 #[.pointer (some ⟨Z,0,none⟩),.string (ag bf),.slice An nn cn] w λe H=>e=.returned (.string (ag (dH ⟨true,b,s,I,W⟩ 5 nums)))∧BL w H:=by{
 have av:=dJ bo;have h:=hI (cQ b s A n c I bo w B);unfold oY at h;have a2:=hI G;have HD:=hI u;have b1:=hI B;have bO:=hI J;have bR:=hI L;have g0:((ag bf).toList==[112,111,105,110,116,115])=true:=(al bf [112,111,105,110,116,115]).trans (by decide);have g1:((ag bf).toList==[115,116,97,110,100,105,110,103])=false:=(al bf [115,116,97,110,100,105,110,103]).trans (by decide);have g2:((ag bf).toList==[114,97,110,107,115])=false:=(al bf [114,97,110,107,115]).trans (by decide);have g3:((ag bf).toList==[108,101,97,100])=false:=(al bf [108,101,97,100]).trans (by decide);have g4:((ag bf).toList==[110,101,116])=false:=(al bf [110,101,116]).trans (by decide);have g5:((ag bf).toList==[104,105,115,116,111,114,121])=false:=(al bf [104,105,115,116,111,114,121]).trans (by decide);have U:=hI (show dH ⟨true,b,s,I,W⟩ 5 nums=if af (nums.getD 0 0) 0 (((tabR b s I).pts.length:Int)-1)=true then dy ((tabR b s I).pts.getD (nums.getD 0 0).toNat []) else bL 4 from rfl);obtain⟨t,F⟩:∃t,t=tabR b s I:=⟨_,rfl⟩;have ca:=hI F;rw[←F] at av h U;have FD:=(show aO w Z #[.bool true,b,s,.slice A n c,.slice Y lr cr] 61 from u).f5;have cc:=u.lt;clear u B J L G F;go_enter func108,ntmps108;go_wp2_with fail
 refine h.mono ?_;rintro e w2⟨P,N,cp,_,C,nc,dc,_,rfl,J,-,u⟩;obtain⟨w3,L,G,B,_⟩:=ae w2 #[.int .i64 t.boats,.slice P N cp,.slice C nc dc] 76;have R:=hI (u.trans (B.mono u.size));have a8:=hI (J.rd.below B);have a1:=hI (HD.below R);have b9:=hI (bO.below R);have a6:=hI (bR.below R);have b':=hI (b1.below R);have a':=hI G;have F:=hI L;clear J u B L G h FD;have L:=a'.f3;have FD:=(show aO w3 Z #[.bool true,b,s,.slice A n c,.slice Y lr cr] 61 from a1).f5;go_wp2_with fail
 rw[←F.out];clear F;have ck:1≤nn:=by have:=a6.len_int;omega
 obtain⟨_,_,x0,b3,u,-,V⟩:=a6.int (k:=0) (by omega);subst b3;simp only[qW] at V;have h:nums.getD 0 0=x0:=by rw[qC,u];rfl
 have cf:¬(nn:Int)≤0:=by omega
 have ch:0<nn:=by omega
 have b5:=a8.pts.len;have cl:=av.many;have e1:IntKind.i64.wrap ((N:Int)-1)=(N:Int)-1:=IntWalk.i64_in _ (by omega);rw[h,b5] at U;clear h u M
 cases O:af x0 0 ((N:Int)-1) with
 | false=>{
 have ar:=hI (λH=>fC O H);have HE:=hI (λH hp=>dV 4 (by omega) H hp);have U:=hI (show dH ⟨true,b,s,I,W⟩ 5 nums=bL 4 from by rw[U.out,O];rfl);clear O;refine zR 9 (λ_=>false) (λw9 G=>zA (ab L.1 G) (zA (ab L.2.1 G) (zA (ab L.2.2.1 G) (ab V G)))) λS F J bq u wd B h=>?_
 refine zS u F 0 h ?_;go_simp;refine zS u F 1 h ?_;go_simp;refine zS u F 2 h ?_;go_simp;refine zS u F 3 h ?_;go_simp;refine zS u F 4 h ?_;go_simp;refine zS u F 5 h ?_;go_simp;refine zV u 6 (.int .i64 ((N:Int)-1)) rfl (by kernel_rfl) (λw1 h=>by obtain⟨u0,u1,u2,u3⟩:=F _ h;go_simp;(try rw[e1])) h ?_;go_simp;refine zo u 7 λK' M=>?_
 go_simp;go_at_call 30;refine(ar _).mono ?_;rintro e wq⟨rfl,ad⟩;have B:=B.trans (ad.mono B.size);refine M _ _ (.inr (J _ B)) ?_;clear M;have h:=J _ B;go_simp;refine zS u F 8 h ?_;go_simp;refine zd u ?_;have T:=zb R B;clear B h;go_wp2_with fail
 refine(HE _ (a2 _ T).pow).mono ?_;rintro e w5⟨rfl,ba⟩;have bs:=zb T ba;clear ba;go_wp2_with fail
 go_ret;exact⟨by rw[U.out];rfl,bs⟩}
 | true=>{
 have ar:=hI (λH=>fC O H);have bp:=ai.1 O;obtain⟨i,rfl⟩:=aC x0 bp.1;have b4:i<N:=by omega
 have cd:¬(N:Int)≤(i:Int):=by omega
 have a7:=hI (show dH ⟨true,b,s,I,W⟩ 5 nums=dy (t.pts.getD i []) from by rw[U.out,O,qP];rfl);clear O bp;obtain⟨_,_,A6,c6,p,rfl,hp,-,O,bn⟩:=a8.pts.row b4;obtain⟨bk,b6⟩:=oC av hp;have bb:t.pts.getD i []=p:=by rw[qC,hp];rfl
 rw[bb] at a7;have bW:=hI bn;have bv:=hI O;have bt:=hI (λH (G:BL w H) (b2:Rd H 1 A6 p.length (ints p))=>kp A6 p.length c6 p bk (by omega) H b2 (λw4 h4=>a2 w4 (G.trans (h4.mono G.size))));generalize dy p=cb at *;clear bk b6 bb hp bn O;refine zR 9 (λ_=>false) (λw9 G=>zA (ab L.1 G) (zA (ab L.2.1 G) (zA (ab L.2.2.1 G) (ab V G)))) λS F J bq u wd B h=>?_
 refine zS u F 0 h ?_;go_simp;refine zS u F 1 h ?_;go_simp;refine zS u F 2 h ?_;go_simp;refine zS u F 3 h ?_;go_simp;refine zS u F 4 h ?_;go_simp;refine zS u F 5 h ?_;go_simp;refine zV u 6 (.int .i64 ((N:Int)-1)) rfl (by kernel_rfl) (λw1 h=>by obtain⟨u0,u1,u2,u3⟩:=F _ h;go_simp;(try rw[e1])) h ?_;go_simp;refine zo u 7 λK' M=>?_
 go_simp;go_at_call 30;refine(ar _).mono ?_;rintro e wq⟨rfl,ad⟩;have B:=B.trans (ad.mono B.size);refine M _ _ (.inr (J _ B)) ?_;clear M;have h:=J _ B;go_simp;refine zS u F 8 h ?_;go_simp;refine zd u ?_;have b7:=hI B;have T:=zb R B;have L:=(a'.below B).f3;have FD:=(show aO wq Z #[.bool true,b,s,.slice A n c,.slice Y lr cr] 61 from a1.below B).f5;have V:=ab V B;have O:=ab bv B;have b0:=hI (bW.below B);clear B h u F J;go_wp2_with fail
 refine zR 9 (λ_=>false) (λw9 G=>zA (ab L.2.1 G) (zA (ab V G) (ab O G))) λS F J bq u wd B h=>?_
 refine zS u F 0 h ?_;go_simp;refine zS u F 1 h ?_;go_simp;refine zS u F 2 h ?_;go_simp;refine zS u F 3 h ?_;go_simp;refine zS u F 4 h ?_;go_simp;refine zS u F 5 h ?_;go_simp;refine zS u F 6 h ?_;go_simp;refine zo u 7 λK' M=>?_
 go_simp;go_at_call 149;refine(bt _ (T.trans (B.mono T.size)) (b0.below B)).mono ?_;rintro e wz⟨rfl,ad⟩;have B:=B.trans (ad.mono B.size);refine M _ _ (.inr (J _ B)) ?_;clear M;have h:=J _ B;go_simp;refine zS u F 8 h ?_;go_simp;refine zd u ?_;have M:=zb T B;clear B h;go_wp2_with fail
 go_ret;exact⟨by rw[a7.out];rfl,M⟩}}
theorem yX (b s:Int)(J:List EntryT)(N:cE b s J)(Z:LI)(cC:bC Z=true)(dA:Nat)(A:OA)(n c:Nat)(Ar:OA)(lr cr:Nat)(w:World)(u:aO w dA (be true b s A n c Ar lr cr) 61)(B:bA w A n c J)(I:Rd w 1 Ar lr (ints Z))(An:OA)(nn cn:Nat)(nums:LI)(L:Rd w 1 An nn (ints nums))(R:nums.length=1)(G:∀H,BL w H→gu H):Calls prog 108 #[.pointer (some ⟨dA,0,none⟩),.string (ag cP),.slice An nn cn] w λe H=>e=.returned (.string (ag (dH ⟨true,b,s,J,Z⟩ 6 nums)))∧BL w H:=by{
 have bs:=dJ N;have h:=hI (cQ b s A n c J N w B);unfold oY at h;have a':=hI G;have HD:=hI u;have bb:=hI B;have b4:=hI I;have b5:=hI L;have g0:((ag cP).toList==[112,111,105,110,116,115])=false:=(al cP [112,111,105,110,116,115]).trans (by decide);have g1:((ag cP).toList==[115,116,97,110,100,105,110,103])=false:=(al cP [115,116,97,110,100,105,110,103]).trans (by decide);have g2:((ag cP).toList==[114,97,110,107,115])=false:=(al cP [114,97,110,107,115]).trans (by decide);have g3:((ag cP).toList==[108,101,97,100])=false:=(al cP [108,101,97,100]).trans (by decide);have g4:((ag cP).toList==[110,101,116])=false:=(al cP [110,101,116]).trans (by decide);have g5:((ag cP).toList==[104,105,115,116,111,114,121])=false:=(al cP [104,105,115,116,111,114,121]).trans (by decide);have W:=hI (show dH ⟨true,b,s,J,Z⟩ 6 nums=if af (nums.getD 0 0) 0 (((tabR b s J).pts.length:Int)-1)=true then ew b ((ia b J).getD (nums.getD 0 0).toNat []) else bL 4 from rfl);have a8:=hI (xV b s J);obtain⟨t,F⟩:∃t,t=tabR b s J:=⟨_,rfl⟩;have cq:=hI F;rw[←F] at bs h W a8;have T:=(show aO w dA #[.bool true,b,s,.slice A n c,.slice Ar lr cr] 61 from u).f5;have cs:=u.lt;clear u B I L G F;go_enter func108,ntmps108;go_wp2_with fail
 refine h.mono ?_;rintro e w2⟨P,M,cp,_,C,nc,dc,_,rfl,I,-,u⟩;obtain⟨w3,L,G,B,_⟩:=ae w2 #[.int .i64 t.boats,.slice P M cp,.slice C nc dc] 76;have U:=hI (u.trans (B.mono u.size));have b9:=hI (I.rd.below B);have a7:=hI (HD.below U);have co:=hI (b4.below U);have ba:=hI (b5.below U);have b3:=hI (bb.below U);have bk:=hI G;have F:=hI L;clear I u B L G h T;have O:=bk.f3;have T:=(show aO w3 dA #[.bool true,b,s,.slice A n c,.slice Ar lr cr] 61 from a7).f5;go_wp2_with fail
 rw[←F.out];clear F;have cy:1≤nn:=by have:=ba.len_int;omega
 obtain⟨_,_,x0,cb,u,-,Y⟩:=ba.int (k:=0) (by omega);subst cb;simp only[qW] at Y;have h:nums.getD 0 0=x0:=by rw[qC,u];rfl
 have cw:¬(nn:Int)≤0:=by omega
 have cx:0<nn:=by omega
 have bt:=b9.pts.len;have cB:=bs.many;have e1:IntKind.i64.wrap ((M:Int)-1)=(M:Int)-1:=IntWalk.i64_in _ (by omega);rw[h,bt] at W;clear h u R
 cases R:af x0 0 ((M:Int)-1) with
 | false=>{
 have a1:=hI (λH=>fC R H);have HE:=hI (λH h=>dV 4 (by omega) H h);have W:=hI (show dH ⟨true,b,s,J,Z⟩ 6 nums=bL 4 from by rw[W.out,R];rfl);clear R;refine zR 9 (λ_=>false) (λw9 G=>zA (ab O.1 G) (zA (ab O.2.1 G) (zA (ab O.2.2.1 G) (ab Y G)))) λS F L bP u wd B h=>?_
 refine zS u F 0 h ?_;go_simp;refine zS u F 1 h ?_;go_simp;refine zS u F 2 h ?_;go_simp;refine zS u F 3 h ?_;go_simp;refine zS u F 4 h ?_;go_simp;refine zS u F 5 h ?_;go_simp;refine zV u 6 (.int .i64 ((M:Int)-1)) rfl (by kernel_rfl) (λw1 h=>by obtain⟨u0,u1,u2,u3⟩:=F _ h;go_simp;(try rw[e1])) h ?_;go_simp;refine zo u 7 λK' I=>?_
 go_simp;go_at_call 30;refine(a1 _).mono ?_;rintro e wq⟨rfl,ad⟩;have B:=B.trans (ad.mono B.size);refine I _ _ (.inr (L _ B)) ?_;clear I;have h:=L _ B;go_simp;refine zS u F 8 h ?_;go_simp;refine zd u ?_;have V:=zb U B;clear B h;go_wp2_with fail
 refine(HE _ (a' _ V).pow).mono ?_;rintro e w5⟨rfl,bn⟩;have b0:=zb V bn;clear bn;go_wp2_with fail
 go_ret;exact⟨by rw[W.out];rfl,b0⟩}
 | true=>{
 have a1:=hI (λH=>fC R H);have bO:=ai.1 R;obtain⟨i,rfl⟩:=aC x0 bO.1;have cf:i<M:=by omega
 have cv:¬(M:Int)≤(i:Int):=by omega
 have ar:=hI (show dH ⟨true,b,s,J,Z⟩ 6 nums=ew b ((ia b J).getD i []) from by rw[W.out,R,qP];rfl);clear R bO;refine zR 9 (λ_=>false) (λw9 G=>zA (ab O.1 G) (zA (ab O.2.1 G) (zA (ab O.2.2.1 G) (ab Y G)))) λS F L bP u wd B h=>?_
 refine zS u F 0 h ?_;go_simp;refine zS u F 1 h ?_;go_simp;refine zS u F 2 h ?_;go_simp;refine zS u F 3 h ?_;go_simp;refine zS u F 4 h ?_;go_simp;refine zS u F 5 h ?_;go_simp;refine zV u 6 (.int .i64 ((M:Int)-1)) rfl (by kernel_rfl) (λw1 h=>by obtain⟨u0,u1,u2,u3⟩:=F _ h;go_simp;(try rw[e1])) h ?_;go_simp;refine zo u 7 λK' I=>?_
 go_simp;go_at_call 30;refine(a1 _).mono ?_;rintro e wq⟨rfl,ad⟩;have B:=B.trans (ad.mono B.size);refine I _ _ (.inr (L _ B)) ?_;clear I;have h:=L _ B;go_simp;refine zS u F 8 h ?_;go_simp;refine zd u ?_;have cm:=hI B;have V:=zb U B;have O:=(bk.below B).f3;have T:=(show aO wq dA #[.bool true,b,s,.slice A n c,.slice Ar lr cr] 61 from a7.below B).f5;have Y:=ab Y B;have b6:=hI (b3.below B);clear B h u F L;go_wp2_with fail
 have bq:n≤400:=by have:=bb.1.len_ent;have:=N.len;omega
 have av:=hI (λH (G:BL wq H)=>lF b s A n c J H (b6.below G) bq N.okE N.key N.b1 N.b2);unfold wI at av;have b7:=hI (λA6 c6 R H (G:BL w H) (b':Rd H 3 A6 R.length (fins R))=>pM b A6 R.length c6 R H b' (λw4 h4=>a' w4 (G.trans (h4.mono G.size))));have a6:=a8.out;obtain⟨bW,bv⟩:∃r,r=ia b J:=⟨_,rfl⟩;rw[←bv] at av ar a6;have cl:bW.length=M:=by rw[←a6];exact bt
 clear bv a6 bq N;refine zR 18 (λ_=>false) (λw9 G=>zA (ab T.2.1 G) (zA (ab T.2.2.1 G) (zA (ab T.2.2.2.1 G) (ab Y G)))) λS F L bP u wd B h=>?_
 refine zS u F 0 h ?_;go_simp;refine zS u F 1 h ?_;go_simp;refine zS u F 2 h ?_;go_simp;refine zS u F 3 h ?_;go_simp;refine zS u F 4 h ?_;go_simp;refine zS u F 5 h ?_;go_simp;refine zS u F 6 h ?_;go_simp;refine zS u F 7 h ?_;go_simp;refine zS u F 8 h ?_;go_simp;refine zS u F 11 h ?_;go_simp;refine zS u F 12 h ?_;go_simp;refine zS u F 13 h ?_;go_simp;refine zo u 9 λK' I=>?_
 go_simp;go_at_call 81;refine(av _ B).mono ?_;rintro e wz⟨_,N,c5,_,rfl,a2,-,ad⟩;have B:=B.trans (ad.mono B.size);have ch:N=M:=by rw[←a2.len];exact cl
 subst ch;obtain⟨bR,oR,A6,c6,R,ca,bp,-,_,ck⟩:=a2.rd.row cf;subst ca;have bo:bW.getD i []=R:=by rw[qC,bp];rfl
 rw[bo] at ar;clear a2 bp bo;refine I _ _ (.inr (L _ B)) ?_;clear I;have h:=L _ B;go_simp;have cd:∀w8:World,Sem.run prog (Instr.field 109 (.agg #[b,s,.slice (some ⟨bR,oR,none⟩) N c5]) 2) w8=Result.ok (.slice (some ⟨bR,oR,none⟩) N c5) w8:=λ_=>by kernel_rfl
 refine zV u 10 (.slice (some ⟨bR,oR,none⟩) N c5) rfl (by kernel_rfl) (λw1 h=>by obtain⟨u0,u1,u2,u3⟩:=F _ h;go_simp;(try (rw[cd];rfl))) h ?_;go_simp;refine zS u F 14 h ?_;go_simp;refine zo u 15 λK' I=>?_
 go_simp;refine I _ _ (.inr h) ?_;clear I;go_simp;refine zo u 16 λK' I=>?_
 go_simp;go_at_call 154;refine(b7 _ _ _ _ (V.trans (B.mono V.size)) ck).mono ?_;rintro e wy⟨rfl,cc⟩;have B:=B.trans (cc.mono B.size);refine I _ _ (.inr (L _ B)) ?_;clear I;have h:=L _ B;go_simp;refine zS u F 17 h ?_;go_simp;refine zd u ?_;have I:=zb V B;clear B h;go_wp2_with fail
 go_ret;exact⟨by rw[ar.out];rfl,I⟩}}
theorem mz {n a b:Int}{r:Bool}(h:af n a b=r)(w:World):Calls prog 34 #[n,a,b] w λe u=>e=.returned (.bool r)∧BL w u:=(bi n a b w).mono λ_ _ ⟨a,b⟩=>⟨by rw[a,h],by rw[←b];exact qB _ _⟩
theorem GT {b s:Int}{h:List EntryT}(u:cE b s h):sN b s h=0∧AM b s h=b∧Ag b s h=s∧AD b s h=ia b h:=by{
 have e:sN b s h=0:=by unfold sN;rw[if_pos u.regB]
 unfold AM Ag AD;rw[if_pos e,if_pos e,if_pos e];exact⟨e,rfl,rfl,rfl⟩}
theorem tk (b s:Int)(I:List EntryT)(bn:cE b s I)(U:LI)(cc:bC U=true)(A:OA)(n c:Nat)(Ar:OA)(lr cr:Nat)(w:World)(F:bA w A n c I)(R:Rd w 1 Ar lr (ints U))(An:OA)(Y cn:Nat)(nums:LI)(V:Rd w 1 An Y (ints nums))(W:nums.length=1):Calls prog 114 #[.agg (be true b s A n c Ar lr cr),(5:Int),.slice An Y cn] w (oD w (dH ⟨true,b,s,I,U⟩ 5 nums)):=by{
 unfold be;have a1:=dJ bn;obtain⟨w1,H,B,h,_⟩:=ae w #[.bool true,b,s,.slice A n c,.slice Ar lr cr] 65;have u:=hI (bF b s A n c I w1 (F.below h));rw[fI bn] at u;unfold ke at u;simp only at u;have T:=hI B;have bq:=hI h;have M:=hI H;have N:=hI (F.below h);have J:=hI (R.below h);have L:=hI (V.below h);have Z:=hI (show dH ⟨true,b,s,I,U⟩ 5 nums=if af (nums.getD 0 0) 0 (((tabR b s I).pts.length:Int)-1)=true then dy ((tabR b s I).pts.getD (nums.getD 0 0).toNat []) else bL 4 from rfl);obtain⟨t,G⟩:∃t,t=tabR b s I:=⟨_,rfl⟩;rw[←G] at a1 u Z;have b6:=hI G;have O:=B.f5;rw[H] at O;clear F R V B h H G;go_enter func114,ntmps114;go_wp2_with fail
 rw[←M.out];clear M;refine u.mono ?_;rintro e w2⟨P,M,cp,_,C,nc,dc,_,rfl,V,-,B⟩;obtain⟨_,G,H,F,_⟩:=ae w2 #[.int .i64 t.boats,.slice P M cp,.slice C nc dc] 76;have h:=B.trans (F.mono B.size);have a2:=zb bq h;have a7:=hI (V.rd.below F);have bO:=hI (T.below h);have b4:=hI (J.below h);have a6:=hI (L.below h);have b5:=hI (N.below h);have a8:=hI H;have R:=hI G;clear V B F H u O h T N J L;have H:=a8.f3;have O:=bO.f5;rw[G] at H O;clear G;have ca:1≤Y:=by have:=a6.len_int;omega
 obtain⟨_,_,x0,b0,u,-,T⟩:=a6.int (k:=0) (by omega);subst b0;simp only[qW] at T;have h:nums.getD 0 0=x0:=by rw[qC,u];rfl
 have b9:¬(Y:Int)≤0:=by omega
 have b':0<Y:=by omega
 have b2:=a7.pts.len;have cb:=a1.many;have e1:IntKind.i64.wrap ((M:Int)-1)=(M:Int)-1:=IntWalk.i64_in _ (by omega);rw[h,b2] at Z;have bs:=a2;clear h u W
 cases N:af x0 0 ((M:Int)-1) with
 | false=>{
 have av:=hI (λV=>mz N V);have ad:=hI (show dH ⟨true,b,s,I,U⟩ 5 nums=bL 4 from by rw[Z.out,N];rfl);clear N;go_wp2_with fail
 rw[←R.out];rw[←R.out] at H O;clear R;refine zR 9 (λ_=>false) (λw9 G=>zA (ab H.1 G) (zA (ab H.2.1 G) (zA (ab H.2.2.1 G) (ab T G)))) λS B J bp u wd F h=>?_
 refine zS u B 0 h ?_;go_simp;refine zS u B 1 h ?_;go_simp;refine zS u B 2 h ?_;go_simp;refine zS u B 3 h ?_;go_simp;refine zS u B 4 h ?_;go_simp;refine zS u B 5 h ?_;go_simp;refine zV u 6 (.int .i64 ((M:Int)-1)) rfl (by kernel_rfl) (λw1 h=>by obtain⟨u0,u1,u2,u3⟩:=B _ h;go_simp;(try rw[e1])) h ?_;go_simp;refine zo u 7 λK' L=>?_
 go_simp;go_at_call 34;refine(av _).mono ?_;rintro e wq⟨rfl,W⟩;have F:=F.trans (W.mono F.size);refine L _ _ (.inr (J _ F)) ?_;clear L;have h:=J _ F;go_simp;refine zS u B 8 h ?_;go_simp;refine zd u ?_;have ar:=zb bs F;clear F h;go_wp2_with fail
 refine bodyPost_ret (v:=.tuple #[.string (ag []),(4:Int)]) (by simp[results,results114,go_sem];try rfl) rfl ?_;exact⟨[],4,rfl,by omega,by rw[ad.out];rfl,ar⟩}
 | true=>{
 have av:=hI (λV=>mz N V);have bo:=ai.1 N;obtain⟨i,rfl⟩:=aC x0 bo.1;have b1:i<M:=by omega
 have b7:¬(M:Int)≤(i:Int):=by omega
 have ad:=hI (show dH ⟨true,b,s,I,U⟩ 5 nums=dy (t.pts.getD i []) from by rw[Z.out,N,qP];rfl);clear N bo;obtain⟨_,_,A6,c6,p,rfl,hp,-,N,bk⟩:=a7.pts.row b1;obtain⟨bb,b3⟩:=oC a1 hp;have ba:t.pts.getD i []=p:=by rw[qC,hp];rfl
 rw[ba] at ad;have bR:=hI bk;have bv:=hI N;have bt:=hI (λV (bW:Rd V 1 A6 p.length (ints p))=>lp A6 p.length c6 p bb (by omega) V bW);generalize dy p=a' at *;clear bb b3 ba hp bk N;go_wp2_with fail
 rw[←R.out];rw[←R.out] at H O;clear R;refine zR 9 (λ_=>false) (λw9 G=>zA (ab H.1 G) (zA (ab H.2.1 G) (zA (ab H.2.2.1 G) (ab T G)))) λS B J bp u wd F h=>?_
 refine zS u B 0 h ?_;go_simp;refine zS u B 1 h ?_;go_simp;refine zS u B 2 h ?_;go_simp;refine zS u B 3 h ?_;go_simp;refine zS u B 4 h ?_;go_simp;refine zS u B 5 h ?_;go_simp;refine zV u 6 (.int .i64 ((M:Int)-1)) rfl (by kernel_rfl) (λw1 h=>by obtain⟨u0,u1,u2,u3⟩:=B _ h;go_simp;(try rw[e1])) h ?_;go_simp;refine zo u 7 λK' L=>?_
 go_simp;go_at_call 34;refine(av _).mono ?_;rintro e wq⟨rfl,W⟩;have F:=F.trans (W.mono F.size);refine L _ _ (.inr (J _ F)) ?_;clear L;have h:=J _ F;go_simp;refine zS u B 8 h ?_;go_simp;refine zd u ?_;have ar:=zb a2 F;have H:=(a8.below F).f3;have T:=ab T F;have N:=ab bv F;have R:=hI (bR.below F);clear F h u B J;go_wp2_with fail
 refine zR 10 (λ_=>false) (λw9 G=>zA (ab H.2.1 G) (zA (ab T G) (ab N G))) λS B J bp u wd F h=>?_
 refine zS u B 0 h ?_;go_simp;refine zS u B 1 h ?_;go_simp;refine zS u B 2 h ?_;go_simp;refine zS u B 3 h ?_;go_simp;refine zS u B 4 h ?_;go_simp;refine zS u B 5 h ?_;go_simp;refine zS u B 6 h ?_;go_simp;refine zo u 7 λK' L=>?_
 go_simp;go_at_call 166;refine(bt _ (R.below F)).mono ?_;rintro e wz⟨rfl,W⟩;have F:=F.trans (W.mono F.size);refine L _ _ (.inr (J _ F)) ?_;clear L;have h:=J _ F;go_simp;refine zS u B 8 h ?_;go_simp;refine zS u B 9 h ?_;go_simp;refine zd u ?_;have L:=zb ar F;clear F h;go_wp2_with fail
 go_ret2;exact⟨a',0,rfl,by omega,by rw[ad.out];exact ml a',L⟩}}
theorem wk (b s:Int)(G:List EntryT)(av:cE b s G)(T:LI)(cs:bC T=true)(A:OA)(n c:Nat)(Ar:OA)(lr cr:Nat)(w:World)(I:bA w A n c G)(Z:Rd w 1 Ar lr (ints T))(An:OA)(Y cn:Nat)(nums:LI)(hn:Rd w 1 An Y (ints nums))(b':nums.length=1):Calls prog 114 #[.agg (be true b s A n c Ar lr cr),(6:Int),.slice An Y cn] w (oD w (dH ⟨true,b,s,G,T⟩ 6 nums)):=by{
 unfold be;have ca:=dJ av;obtain⟨w1,M,H,h,_⟩:=ae w #[.bool true,b,s,.slice A n c,.slice Ar lr cr] 65;have u:=hI (bF b s A n c G w1 (I.below h));rw[fI av] at u;unfold ke at u;simp only at u;have W:=hI H;have bt:=hI h;have V:=hI M;have U:=hI (I.below h);have N:=hI (Z.below h);have O:=hI (hn.below h);have R:=hI (show dH ⟨true,b,s,G,T⟩ 6 nums=if af (nums.getD 0 0) 0 (((tabR b s G).pts.length:Int)-1)=true then ew b ((ia b G).getD (nums.getD 0 0).toNat []) else bL 4 from rfl);rw[xV b s G] at R;obtain⟨F,J,bq,bs⟩:=GT av;have B:=hI (λL (hR:bA L A n c G)=>oJ b s A n c G L hR);rw[F,J,bq,bs] at B;unfold Fy at B;clear F J bq bs;obtain⟨t,J⟩:∃t,t=tabR b s G:=⟨_,rfl⟩;rw[←J] at ca u;have ch:=hI J;have F:=H.f5;rw[M] at F;clear I Z hn H h M J;go_enter func114,ntmps114;go_wp2_with fail
 rw[←V.out];clear V;refine u.mono ?_;rintro e w2⟨P,np,cp,_,C,nc,dc,_,rfl,Z,-,H⟩;obtain⟨_,J,V,I,_⟩:=ae w2 #[.int .i64 t.boats,.slice P np cp,.slice C nc dc] 76;have h:=H.trans (I.mono H.size);have bv:=zb bt h;have cf:=hI (Z.rd.below I);have bW:=hI (W.below h);have cd:=hI (N.below h);have a2:=hI (O.below h);have b0:=hI (U.below h);have b3:=hI V;have M:=hI J;clear Z H I V u F h W U N O;have U:=b3.f3;have F:=bW.f5;rw[J] at U F;clear J;have cq:1≤Y:=by have:=a2.len_int;omega
 obtain⟨_,_,x0,b6,H,-,V⟩:=a2.int (k:=0) (by omega);subst b6;simp only[qW] at V;have h:nums.getD 0 0=x0:=by rw[qC,H];rfl
 have cl:¬(Y:Int)≤0:=by omega
 have cm:0<Y:=by omega
 rw[h] at R;obtain⟨bp,u⟩:∃r,r=ia b G:=⟨_,rfl⟩;rw[←u] at R B;clear h H b' u;go_wp2_with fail
 rw[←M.out];clear M;refine(B _ b0).mono ?_;rintro e w4⟨A5,cc,c5,_,rfl,h,-,J⟩;obtain⟨N,bb⟩:∃z,z=cc:=⟨_,rfl⟩;rw[←bb] at h ⊢;have cb:=h.len;obtain⟨_,O,H,M,_⟩:=ae w4 #[b,s,.slice A5 N c5] 109;have u:=J.trans (M.mono J.size);have a1:=zb bv u;have a6:=hI (h.rd.below M);have b4:=hI H;have Z:=hI O;have I:=H.f3;have W:=ab V u;have co:=a6.le;rw[O] at I W;clear h J M H O u bb V U F;have e1:IntKind.i64.wrap ((N:Int)-1)=(N:Int)-1:=IntWalk.i64_in _ (by omega);rw[cb] at R;go_wp2_with fail
 rw[←Z.out] at I W ⊢;clear Z
 cases O:af x0 0 ((N:Int)-1) with
 | false=>{
 have ar:=hI (λL=>mz O L);have Z:=hI (show dH ⟨true,b,s,G,T⟩ 6 nums=bL 4 from by rw[R.out,O];rfl);clear O;refine zR 9 (λ_=>false) (λw9 H=>zA (ab I.1 H) (zA (ab I.2.2.1 H) (ab W H))) λS B J bo u wd F h=>?_
 refine zS u B 0 h ?_;go_simp;refine zS u B 1 h ?_;go_simp;refine zS u B 2 h ?_;go_simp;refine zS u B 3 h ?_;go_simp;refine zS u B 4 h ?_;go_simp;refine zS u B 5 h ?_;go_simp;refine zV u 6 (.int .i64 ((N:Int)-1)) rfl (by kernel_rfl) (λw1 h=>by obtain⟨u0,u1,u2⟩:=B _ h;go_simp;(try rw[e1])) h ?_;go_simp;refine zo u 7 λK' M=>?_
 go_simp;go_at_call 34;refine(ar _).mono ?_;rintro e wq⟨rfl,U⟩;have F:=F.trans (U.mono F.size);refine M _ _ (.inr (J _ F)) ?_;clear M;have h:=J _ F;go_simp;refine zS u B 8 h ?_;go_simp;refine zd u ?_;have ad:=zb a1 F;clear F h;go_wp2_with fail
 refine bodyPost_ret (v:=.tuple #[.string (ag []),(4:Int)]) (by simp[results,results114,go_sem];try rfl) rfl ?_;exact⟨[],4,rfl,by omega,by rw[Z.out];rfl,ad⟩}
 | true=>{
 have ar:=hI (λL=>mz O L);have bn:=ai.1 O;obtain⟨i,rfl⟩:=aC x0 bn.1;have b9:i<N:=by omega
 have ck:¬(N:Int)≤(i:Int):=by omega
 have Z:=hI (show dH ⟨true,b,s,G,T⟩ 6 nums=ew b (bp.getD i []) from by rw[R.out,O,qP];rfl);clear O bn;obtain⟨_,_,A6,c6,O,rfl,ba,-,a8,bk⟩:=a6.row b9;have a':bp.getD i []=O:=by rw[qC,ba];rfl
 rw[a'] at Z;have b1:=hI bk;have bP:=hI a8;have bO:=hI (λL (b5:Rd L 3 A6 O.length (fins O))=>pB b A6 O.length c6 O L b5);generalize ew b O=a7 at *;clear a' ba bk a8;refine zR 9 (λ_=>false) (λw9 H=>zA (ab I.1 H) (zA (ab I.2.2.1 H) (ab W H))) λS B J bo u wd F h=>?_
 refine zS u B 0 h ?_;go_simp;refine zS u B 1 h ?_;go_simp;refine zS u B 2 h ?_;go_simp;refine zS u B 3 h ?_;go_simp;refine zS u B 4 h ?_;go_simp;refine zS u B 5 h ?_;go_simp;refine zV u 6 (.int .i64 ((N:Int)-1)) rfl (by kernel_rfl) (λw1 h=>by obtain⟨u0,u1,u2⟩:=B _ h;go_simp;(try rw[e1])) h ?_;go_simp;refine zo u 7 λK' M=>?_
 go_simp;go_at_call 34;refine(ar _).mono ?_;rintro e wq⟨rfl,U⟩;have F:=F.trans (U.mono F.size);refine M _ _ (.inr (J _ F)) ?_;clear M;have h:=J _ F;go_simp;refine zS u B 8 h ?_;go_simp;refine zd u ?_;have ad:=zb a1 F;have I:=(b4.below F).f3;have V:=ab W F;have b7:=ab bP F;have b2:=hI (b1.below F);clear F h u B J;go_wp2_with fail
 refine zR 12 (λ_=>false) (λw9 H=>zA (ab I.1 H) (zA (ab I.2.2.1 H) (zA (ab V H) (ab b7 H)))) λS B J bo u wd F h=>?_
 refine zS u B 0 h ?_;go_simp;refine zS u B 1 h ?_;go_simp;refine zS u B 2 h ?_;go_simp;refine zS u B 3 h ?_;go_simp;refine zS u B 4 h ?_;go_simp;refine zS u B 5 h ?_;go_simp;refine zS u B 6 h ?_;go_simp;refine zS u B 7 h ?_;go_simp;refine zS u B 8 h ?_;go_simp;refine zo u 9 λK' M=>?_
 go_simp;go_at_call 170;refine(bO _ (b2.below F)).mono ?_;rintro e wz⟨rfl,U⟩;have F:=F.trans (U.mono F.size);refine M _ _ (.inr (J _ F)) ?_;clear M;have h:=J _ F;go_simp;refine zS u B 10 h ?_;go_simp;refine zS u B 11 h ?_;go_simp;refine zd u ?_;have M:=zb ad F;clear F h;go_wp2_with fail
 go_ret2;exact⟨a7,0,rfl,by omega,by rw[Z.out];exact ml a7,M⟩}}
end Go.Proofs.YtnpldahkhaacnaaGreatDoor

/- Texts of the walk: Nl No. -/
import Derived.Test.YtnpldahkhaacnaaGreatDoorYbh
set_option linter.unusedVariables false
set_option linter.unusedSimpArgs false
set_option maxRecDepth 100000
set_option maxHeartbeats 32000000
namespace Go.Proofs.YtnpldahkhaacnaaGreatDoor
open Go.RowKit Go.Sort Go.Proofs.Tryz
theorem vU (P:OA)(n c:Nat)(C:OA)(m d:Nat)(t:Tb)(B:bl t)(A:OA)(l cl:Nat)(h:LI)(L:bC h=true)(w:World)(u:RdT w P n C m t)(H:Rd w 1 A l (ints h)):Calls prog 151 #[.agg #[t.boats,.slice P n c,.slice C m d],.slice A l cl] w λe I=>e=.returned (.tuple #[.int .i64 (eZ t h),.int .i64 (iO t)])∧BL w I:=by{
 obtain⟨w1,V,F,T,_⟩:=ae w #[t.boats,.slice P n c,.slice C m d] 76;have U:=el L;have a2:=hI T;have HX:=hI F;have N:=hI V;have J:=F.f3;have bW:=B.b1;have b0:=B.b2;have a8:=hI (eQ t h);have R:=hI (λ(x:Int) (G:x∈standT t h)=>(kG (t:=t) (rule:=h)).1 G);have a6:=hI (show t.boats≠1→iO t=0 from λu=>by unfold iO;rw[if_neg u]);have a7:=hI (show t.boats=1→iO t=5∧eZ t h=0 from λu=>by unfold iO eZ;rw[if_pos u,if_pos u];exact⟨rfl,rfl⟩);have a':=hI (show t.boats≠1→eZ t h=cz t h ((standT t h).getD 1 0)-cz t h ((standT t h).getD 0 0) from λu=>by unfold eZ;rw[if_neg u]);have ad:=hI (λb=>kw B h b);have H1:=hI (λI (O:BL w I)=>oS P n c C m d t B A l cl h L I (u.below O) (H.below O));have G:=hI (λ(M:Nat) (W:(M:Int)<t.boats) I (O:BL w I)=>jm P n c C m d t B A l cl h U M W I (u.below O) (H.below O));generalize standT t h=M at *;clear u H T F V B U L;go_enter func151,ntmps151;go_wp2_with fail
 rw[←N.out];clear N;refine(H1 _ a2).mono ?_;rintro e w2⟨_,H,_,rfl,B,u⟩;have L:=zb a2 u;have ar:=hI (az B);have b4:=ar.len_int;have b5:=a8.out;clear J;have J:=(HX.below u).f3;clear u B;by_cases u:t.boats=1
 {
 obtain rfl:H=1:=by omega
 obtain⟨T,U⟩:=a7 u;have E1:=hI T;have E2:=hI U;clear T U u J;go_wp2_with fail
 go_ret2;exact⟨by rw[E1.out,E2.out];rfl,L⟩}
 have ca:2≤H:=by omega
 have cb:decide ((H:Int)<2)=false:=by simp;omega
 have cc:decide (H<2)=false:=by simp;omega
 have N:=hI (a' u);have bs:=hI (a6 u);have B:∃x,M[0]?=some x∧M.getD 0 0=x:=⟨M[0]'(by omega),qG _,by rw[qC,qG (by omega)];rfl⟩;have F:∃x,M[1]?=some x∧M.getD 1 0=x:=⟨M[1]'(by omega),qG _,by rw[qC,qG (by omega)];rfl⟩;obtain⟨xa,B,bn⟩:=B;obtain⟨xb,F,bo⟩:=F;have bp:=R xa (qF B);have bq:=R xb (qF F);obtain⟨Y,rfl⟩:=aC xa bp.1;obtain⟨Z,rfl⟩:=aC xb bq.1;obtain⟨_,_,_,rfl,V,-,bk⟩:=ar.int (k:=0) (by omega);obtain⟨_,_,_,hA,W,-,b3⟩:=ar.int (k:=1) (by omega);injection hA with hA;injection hA with T U;subst T U;rw[B] at V;rw[F] at W;injection V with V;injection W with W;subst V;subst W;have bv:=hI (G Y (by omega));have bN:=hI (G Z (by omega));rw[bn,bo] at N;have bP:=ad (Y:Int);have bR:=ad (Z:Int);have ba:=hI (show IntKind.i64.wrap (cz t h (Z:Int)-cz t h (Y:Int))=eZ t h from by rw[N.out];exact IntWalk.i64_in _ (by omega));generalize cz t h (Y:Int)=va at *;generalize cz t h (Z:Int)=vb at *;obtain⟨av,hV⟩:∃av,av=eZ t h:=⟨_,rfl⟩;have bO:=hI hV;rw[←hV] at ba;clear hV;simp only[qW] at bk;have b7:1<H:=by omega
 have b6:0<H:=by omega
 have b9:¬(H:Int)≤1:=by omega
 have b':¬(H:Int)≤0:=by omega
 clear B F bn bo bp bq bP bR R a8 ad a' a6 a7 b4 b5 N u bW b0 H1 G;go_wp2_with fail
 refine zR 15 (λ_=>false) (λB u=>zA (ab J.1 u) (zA (ab J.2.1 u) (zA (ab J.2.2.1 u) (zA (ab bk u) (ab b3 u))))) λS G R cd B wd F u=>?_
 refine zS B G 0 u ?_;go_simp;refine zS B G 1 u ?_;go_simp;refine zS B G 2 u ?_;go_simp;refine zS B G 3 u ?_;go_simp;refine zS B G 4 u ?_;go_simp;refine zS B G 6 u ?_;go_simp;refine zS B G 7 u ?_;go_simp;refine zS B G 8 u ?_;go_simp;refine zS B G 9 u ?_;go_simp;refine zS B G 10 u ?_;go_simp;refine zo B 5 λK' N=>?_
 go_simp;go_at_call 121;refine(bN _ (L.trans (F.mono L.size))).mono ?_;rintro e wq⟨rfl,a1⟩;have F:=F.trans (a1.mono F.size);refine N _ _ (.inr (R _ F)) ?_;clear N;have u:=R _ F;go_simp;refine zo B 11 λK' N=>?_
 go_simp;go_at_call 121;refine(bv _ (L.trans (F.mono L.size))).mono ?_;rintro e wq⟨rfl,a1⟩;have F:=F.trans (a1.mono F.size);refine N _ _ (.inr (R _ F)) ?_;clear N;have u:=R _ F;go_simp;refine zV B 12 (.int .i64 av) rfl (by kernel_rfl) (λw1 u=>by obtain⟨u0,u1,u2,u3,u4⟩:=G _ u;go_simp;rw[ba.out]) u ?_;go_simp;refine zS B G 13 u ?_;go_simp;refine zS B G 14 u ?_;go_simp;refine zd B ?_;have N:=zb L F;clear F u;go_wp2_with fail
 go_ret2;exact⟨by rw[bs.out,←bO.out];rfl,N⟩}
theorem wE (P:OA)(n c:Nat)(C:OA)(m d:Nat)(t:Tb)(B:bl t)(A:OA)(l W:Nat)(h:LI)(R:bC h=true)(w:World)(u:RdT w P n C m t)(I:Rd w 1 A l (ints h)):Calls prog 172 #[.agg #[t.boats,.slice P n c,.slice C m d],.slice A l W] w λe H=>e=.returned (.tuple #[.int .i64 (eZ t h),.int .i64 (iO t)])∧BL w H:=by{
 obtain⟨w1,Y,N,U,_⟩:=ae w #[t.boats,.slice P n c,.slice C m d] 76;have T:=el R;have V:=hI U;have HX:=hI N;have G:=hI Y;have J:=N.f3;have cd:=B.b1;have cf:=B.b2;have bk:=hI (eQ t h);have av:=hI (λ(x:Int) (hx:x∈standT t h)=>(kG (t:=t) (rule:=h)).1 hx);have a':=hI (show t.boats≠1→iO t=0 from λu=>by unfold iO;rw[if_neg u]);have ba:=hI (show t.boats=1→iO t=5∧eZ t h=0 from λu=>by unfold iO eZ;rw[if_pos u,if_pos u];exact⟨rfl,rfl⟩);have bn:=hI (show t.boats≠1→eZ t h=cz t h ((standT t h).getD 1 0)-cz t h ((standT t h).getD 0 0) from λu=>by unfold eZ;rw[if_neg u]);have a1:=hI (λb=>kw B h b);have F:=hI (λH (M:BL w H)=>ko P n c C m d t A l W h 0 H (u.below M) (I.below M));rw[pj B R] at F;have H2:=hI (λH (M:BL w H)=>jY P n c C m d t B A l W h T H (u.below M) (I.below M));have L:=hI (λ(O:Nat) (Z:(O:Int)<t.boats) H (M:BL w H)=>fB P n c C m d t B A l W h T O Z H (u.below M) (I.below M));have H4:=hI (λ(b:Int) (A:OA) (n c:Nat) H (u:Rd H 1 A n (ints (cntT t h b)))=>ju A n c (cntT t h b) (λ_ hx=>gS B hx) (by have:=u.len_int;have:=cT B h b;omega) H u);have bo:=hI (λb=>show de (cntT t h b)=cz t h b from rfl);generalize standT t h=O at *;clear u I U N Y B T R;go_enter func172,ntmps172;by_cases B:t.boats=1
 {
 obtain⟨Y,Z⟩:=ba B;have I:=hI Y;have R:=hI Z;rw[B] at G HX J F;clear Y Z;go_wp2_with fail
 rw[←G.out];clear G;refine(F _ V).mono ?_;rintro e w2⟨rfl,u⟩;have N:=zb V u;clear J;have J:=(HX.below u).f3;clear u;go_wp2_with fail
 go_ret2;exact⟨by rw[I.out,R.out];rfl,N⟩}
 have ca:(t.boats==1)=false:=by simp[B]
 go_wp2_with fail
 rw[←G.out];clear G;refine(F _ V).mono ?_;rintro e w0⟨rfl,u⟩;have a8:=zb V u;have bv:=hI (HX.below u);clear J;have J:=bv.f3;clear u;go_wp2_with fail
 refine(H2 _ a8).mono ?_;rintro e w2⟨_,U,_,rfl,G,-,u⟩;have N:=zb a8 u;have a2:=hI (az G);have ck:=a2.len_int;have cm:=bk.out;clear J;have J:=(bv.below u).f3;clear u G;have cr:2≤U:=by omega
 have I:=hI (bn B);have b6:=hI (a' B);have u:∃x,O[0]?=some x∧O.getD 0 0=x:=⟨O[0]'(by omega),qG _,by rw[qC,qG (by omega)];rfl⟩;have G:∃x,O[1]?=some x∧O.getD 1 0=x:=⟨O[1]'(by omega),qG _,by rw[qC,qG (by omega)];rfl⟩;obtain⟨xa,u,bO⟩:=u;obtain⟨xb,G,bP⟩:=G;have bR:=av xa (qF u);have bW:=av xb (qF G);obtain⟨R,rfl⟩:=aC xa bR.1;obtain⟨T,rfl⟩:=aC xb bW.1;obtain⟨_,_,_,rfl,ad,-,bN⟩:=a2.int (k:=0) (by omega);obtain⟨_,_,_,hA,ar,-,ch⟩:=a2.int (k:=1) (by omega);injection hA with hA;injection hA with Y Z;subst Y Z;rw[u] at ad;rw[G] at ar;injection ad with ad;injection ar with ar;subst ad;subst ar;have b7:=hI (L R (by omega));have b9:=hI (L T (by omega));have bp:=hI (H4 (R:Int));have bq:=hI (H4 (T:Int));rw[bo.out] at bp bq;rw[bO,bP] at I;have cb:=a1 (R:Int);have cc:=a1 (T:Int);have bs:=hI (show IntKind.i64.wrap (cz t h (T:Int)-cz t h (R:Int))=eZ t h from by rw[I.out];exact IntWalk.i64_in _ (by omega));generalize cz t h (R:Int)=va at *;generalize cz t h (T:Int)=vb at *;generalize cntT t h (R:Int)=La at *;generalize cntT t h (T:Int)=Lb at *;obtain⟨a6,hV⟩:∃a6,a6=eZ t h:=⟨_,rfl⟩;have b':=hI hV;rw[←hV] at bs;clear hV;simp only[qW] at bN;have co:1<U:=by omega
 have cn:0<U:=by omega
 have cp:¬(U:Int)≤1:=by omega
 have cq:¬(U:Int)≤0:=by omega
 clear u G bO bP bR bW cb cc av bk a1 bn a' ba ck cm I B ca cd cf F H2 L H4 bo;go_wp2_with fail
 refine zR 17 (λ_=>false) (λB u=>zA (ab J.1 u) (zA (ab J.2.1 u) (zA (ab J.2.2.1 u) (zA (ab bN u) (ab ch u))))) λS G L cs B wd F u=>?_
 refine zS B G 0 u ?_;go_simp;refine zS B G 1 u ?_;go_simp;refine zS B G 2 u ?_;go_simp;refine zS B G 3 u ?_;go_simp;refine zS B G 4 u ?_;go_simp;refine zS B G 7 u ?_;go_simp;refine zS B G 8 u ?_;go_simp;refine zS B G 9 u ?_;go_simp;refine zS B G 10 u ?_;go_simp;refine zS B G 11 u ?_;go_simp;refine zo B 5 λK' I=>?_
 go_simp;go_at_call 242;refine(b9 _ (N.trans (F.mono N.size))).mono ?_;rintro e wq⟨_,_,_,rfl,b3,-,a7⟩;have F:=F.trans (a7.mono F.size);have b5:=az b3;clear b3;refine I _ _ (.inr (L _ F)) ?_;clear I;have u:=L _ F;go_simp;refine zo B 6 λK' I=>?_
 go_simp;go_at_call 241;refine(bq _ _ _ _ b5).mono ?_;rintro e wq⟨rfl,rfl⟩;clear b5;refine I _ _ (.inr (L _ F)) ?_;clear I;have u:=L _ F;go_simp;refine zo B 12 λK' I=>?_
 go_simp;go_at_call 242;refine(b7 _ (N.trans (F.mono N.size))).mono ?_;rintro e wq⟨_,_,_,rfl,b0,-,a7⟩;have F:=F.trans (a7.mono F.size);have b4:=az b0;clear b0;refine I _ _ (.inr (L _ F)) ?_;clear I;have u:=L _ F;go_simp;refine zo B 13 λK' I=>?_
 go_simp;go_at_call 241;refine(bp _ _ _ _ b4).mono ?_;rintro e wq⟨rfl,rfl⟩;clear b4;refine I _ _ (.inr (L _ F)) ?_;clear I;have u:=L _ F;go_simp;refine zV B 14 (.int .i64 a6) rfl (by kernel_rfl) (λw1 u=>by obtain⟨u0,u1,u2,u3,u4⟩:=G _ u;go_simp;rw[bs.out]) u ?_;go_simp;refine zS B G 15 u ?_;go_simp;refine zS B G 16 u ?_;go_simp;refine zd B ?_;have I:=zb N F;clear F u;go_wp2_with fail
 go_ret2;exact⟨by rw[b6.out,←b'.out];rfl,I⟩}
theorem tW (b s:Int)(d:Nat)(x0 x1 x2 x3 x4:Value)(A:OA)(n c:Nat)(w:World)(u:aO w d #[x0,x1,x2,x3,x4] 61)(h:Rd w 1 A n (ints [b,s]))(O:∀B,BL w B→Pow B):Calls prog 107 #[.pointer (some ⟨d,0,none⟩),.slice A n c] w λe B=>(dC b s []=true→e=.returned (.string (ag uT))∧aO B d (Iq true b s none 0 0) 61∧aK d (d+1) w B)∧(dC b s []=false→e=.returned (.string (ag (bL 2)))∧BL w B):=by{
 have hn:n=2:=by have:=h.len;simp[ints] at this;omega
 subst hn;obtain⟨bb,oo,G,rfl,L,-,F⟩:=h.int (k:=0) (by omega);obtain⟨_,_,H,U,N,-,J⟩:=h.int (k:=1) (by omega);injection U with U;injection U with e1 e2;subst e1 e2;obtain rfl:G=b:=by simpa using L.symm
 obtain rfl:H=s:=by simpa using N.symm
 have a7:=u.lt;have HD:=hI u;have av:=hI (show w.cell? ⟨bb,oo,none⟩=some (.int .i64 G) from by simpa using F);have a1:=hI J;have M:=hI (λB=>cJ G H none 0 0 [] B ⟨⟨rfl,by omega,λI=>by omega⟩,qA _⟩);have O:=hI O;clear u h F J L N;go_enter func107,ntmps107;go_wp2_with fail
 refine zR 9 (λj=>decide (8≤j)) (λu h=>zA (ab av h) (ab a1 h)) λS Y a2 a8 h F J u=>?_
 refine zN h 0 u ?_;go_simp;refine zN h 1 u ?_;go_simp;refine zS h Y 2 u ?_;go_simp;refine zN h 3 u ?_;go_simp;refine zN h 4 u ?_;go_simp;refine zS h Y 5 u ?_;go_simp;refine zN h 6 u ?_;go_simp;refine zo h 7 λK' L=>?_
 go_simp;refine L _ _ (.inr (a2 _ (J.alloc J.size _))) ?_;clear L;obtain⟨wa,N,T,W,_⟩:=ae F #[(0:Int),(0:Int),.slice none 0 0] 32;rw[←N];clear N;have N:=T.f3;go_simp;refine zo h 8 λK' L=>?_
 go_simp;refine L _ _ (.inl (by decide)) ?_;clear L;go_simp;refine zd h ?_;clear N;obtain⟨N,L⟩:∃N:World,N=((wa.setCell ⟨F.heap.size,0,none⟩ (.int .i64 G)).setCell ⟨F.heap.size,1,none⟩ (.int .i64 H)).setCell ⟨F.heap.size,2,none⟩ (.slice none 0 0):=⟨_,rfl⟩;have ad:=J.trans (W.mono J.size);have V:=J.size;have Z:BL w N:=by rw[L];exact((ad.setCell (p:=⟨F.heap.size,0,none⟩) V _).setCell (p:=⟨F.heap.size,1,none⟩) V _).setCell (p:=⟨F.heap.size,2,none⟩) V _
 have R:aO N F.heap.size #[G,H,.slice none 0 0] 32:=by rw[L];have:=((T.set 0 (.int .i64 G)).set 1 (.int .i64 H)).set 2 (.slice none 0 0);simpa using this
 rw[←L];clear L T W ad u J;have a6:=hI R;have W:=hI Z;have T:=R.f3;clear R Z
 cases J:dC G H [] with
 | false=>{
 rw[J] at M;have R:=hI J;clear J;go_wp2_with fail
 clear T;refine(M _).mono ?_;rintro e w3⟨rfl,u⟩;have L:=zb W u;have HE:=hI (dV 2 (by omega) w3 (O _ L));clear u;go_wp2_with fail
 refine HE.mono ?_;rintro e w4⟨rfl,Z⟩;have ar:=zb L Z;clear Z;go_wp2_with fail
 go_ret;exact⟨(λI=>by rw[R.out] at I;cases I),λ_=>⟨rfl,ar⟩⟩}
 | true=>{
 rw[J] at M;have R:=hI J;clear J;go_wp2_with fail
 clear T;refine(M _).mono ?_;rintro e w3⟨rfl,u⟩;have L:=zb W u;have T:=(a6.below u).f3;have J:=hI (HD.below L);have Z:=J.f5;clear u;go_wp2_with fail
 have u:=J.lt;go_ret;refine⟨λ_=>⟨rfl,?_,?_⟩,(λI=>by rw[R.out] at I;cases I)⟩
 {
 have:=((((J.set 0 (.bool true)).set 1 (.int .i64 G)).set 2 (.int .i64 H)).set 3 (.slice none 0 0)).set 4 (.slice none 0 0);simpa[Iq] using this}
 {(repeat refine bD ?_ (qA _) (by omega) _);exact aK.of_below L}}}
end Go.Proofs.YtnpldahkhaacnaaGreatDoor

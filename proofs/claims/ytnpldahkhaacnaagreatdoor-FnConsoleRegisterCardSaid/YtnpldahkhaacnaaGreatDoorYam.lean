/- Texts of the walk: Jb Zmf. -/
import Derived.Test.YtnpldahkhaacnaaGreatDoorYah
set_option linter.unusedVariables false
set_option linter.unusedSimpArgs false
set_option maxRecDepth 100000
set_option maxHeartbeats 32000000
namespace Go.Proofs.YtnpldahkhaacnaaGreatDoor
open Go.RowKit Go.Sort Go.Proofs.Tryz
theorem Rd.dropE {w:World}{b o n:Nat}{h:List EntryT}(u:Rd w 7 (some ⟨b,o,none⟩) n (ents h))(k:Nat)(N:k≤n):Rd w 7 (some ⟨b,o+k*7,none⟩) (n-k) (ents (h.drop k)):=by{
 have I:=u.len_ent;have O:=u.le;have H:ents h=ents (h.take k)++ents (h.drop k):=by unfold ents;rw[←List.flatMap_append,List.take_append_drop]
 have J:(ents (h.take k)).length=k*7:=by unfold ents;rw[fp bw,qS,Nat.min_eq_left (by omega)]
 refine⟨by unfold ents;rw[fp bw,qX,I],by omega,λR=>⟨b,o+k*7,rfl,λi M L=>?_⟩⟩;obtain⟨_,_,e,G⟩:=u.pos (by omega);injection e with e;injection e with B F;subst B F;have:=G (k*7+i) M (by rw[H,qR (by omega),J,Nat.add_sub_cancel_left];exact L);rwa [←Nat.add_assoc] at this}
theorem xy (w:World)(A:OA)(u:List EntryT)(h:u=[]):Rd w 7 A 0 (ents u):=by{
 subst h;exact⟨rfl,by omega,λh=>by omega⟩}
theorem ip (b s race boat:Int)(A:OA)(n c:Nat)(xs:List EntryT)(w:World)(hr:bA w A n c xs)(c9:n≤400)(G:∀x∈xs,rL x)(F:xs.Pairwise λx y=>bK x y=false):Calls prog 235 #[.agg #[b,s,.slice A n c],race,boat] w (kc w (ex xs race boat)):=by{
 obtain⟨h,_⟩:=hr;have HN:=hI h.len_ent;obtain⟨M,H,B,u,cR⟩:=ae w #[b,s,.slice A n c] 32;have cc:=hI u;have cq:=hI B;have cy:=hI (λJ (I:BL M J)=>(h.below u).below I);have c7:=hI G;have bR:=hI F;clear h u B G F;have I:(M.alloc (.cells #[] 25)).ownsRow M.heap.size 25 7 (.slice (some ⟨M.heap.size,0,none⟩) 0 0) 0 (ents []):=cG M M.heap.size 25 7 (qA _);have N:BL M (M.alloc (.cells #[] 25)):=(qB _ _).alloc (qA _) _;go_enter func235,ntmps235;have F:=cq.f3;go_wp2_with fail
 rw[←H];clear H;go_wp2_with fail
 go_loopw [7,8] (λs i wr=>∃(k m Y g:Nat) (R:List EntryT),k≤n∧m≤k∧i=.int .i64 k∧s=.slice (some ⟨g,0,none⟩) m Y∧Hid (BH xs race boat k R)∧Hid (wr.ownsRow M.heap.size 25 7 (.slice (some ⟨g,0,none⟩) m Y) m (ents R))∧Hid (BL M wr)) (λ_ i _=>n-(intOf i).toNat)
 case atStart=>exact⟨0,0,_,_,[],qH _,qH _,rfl,rfl,hI (BH.zero _ _ _),hI (by simpa only[cR] using I),hI N⟩
 case round=>(
 clear I N F;obtain⟨k,m,Y,g,R,u,_,rfl,rfl,HI,HO,HB⟩:=hrel;obtain⟨wo,c1⟩:∃wo:World,wo=wr:=⟨_,rfl⟩;subst c1;have F:=(cq.below HB).f3;have cm:=HB.size;have bn:=hI (aN bw (by decide) HO);have dc:=iP HO;by_cases cN:k<n
 {
 obtain⟨_,_,y0,y1,y2,y3,y4,y5,y6,rfl,h,B,H,J,L,O,T,U,V⟩:=(cy _ HB).ent cN;have HX:=hI h;clear h B;by_cases h:y0=race
 rotate_left
 {
 have h0:(y0 !=race)=true:=by simp[h]
 have cd:=hI (HI.skip HX (by simp[E.race,E.boat,h]));go_wp2_with fail
 go_roundw
 case rel=>exact⟨k+1,m,_,_,R,by omega,by omega,by go_num,rfl,cd,hI (aa HO (za _ _)),hI (HB.alloc cm _)⟩
 case measure=>simp[intOf]<;>omega}
 {
 have h0:(y0 !=race)=false:=by simp[h]
 by_cases B:y1=boat
 rotate_left
 {
 have h1:(y1 !=boat)=true:=by simp[B]
 have cd:=hI (HI.skip HX (by simp[E.race,E.boat,B]));go_wp2_with fail
 go_roundw
 case rel=>exact⟨k+1,m,_,_,R,by omega,by omega,by go_num,rfl,cd,hI (aa HO (za _ _)),hI (HB.alloc cm _)⟩
 case measure=>simp[intOf]<;>omega}
 {
 have h1:(y1 !=boat)=false:=by simp[B]
 have b':=hI h;have ca:=hI B;clear h B;obtain⟨wa,G,B,h,b3⟩:=ae wo #[y0,y1,y2,y3,y4,y5,y6] 25;have b9:=hI (HB.trans (h.mono cm));have cx:=hI (aa HO h);have cB:=hI B;have a7:=hI (show M.heap.size≤wa.heap.size∧wo.heap.size<wa.heap.size from by omega);clear h B;go_wp2_with fail
 rw[←G];clear G F H J L O T U V b3;go_loopw [10] (λi wr=>∃t:Nat,t≤m∧i=.int .i64 t∧Hid (∀z∈R.drop t,y2<E.rev z)∧Hid (BL wa wr)) (λi _=>(intOf i).toNat)
 case atStart=>exact⟨m,qA _,rfl,hI (by rw[qK (by rw[bn.out];exact qA _)];intro z hz;cases hz),hI (qB _ _)⟩
 case round=>(
 obtain⟨t,ht,rfl,HG,bP⟩:=hrel;obtain⟨wi,c0⟩:∃wi:World,wi=wr:=⟨_,rfl⟩;subst c0;have a6:=hI (cB.below bP);have bp:=hI (aa cx bP);go_wp2_with fail
 by_cases cn:t=0
 {
 have bW:=hI (show ∀y,0<t→R[t-1]?=some y→E.rev y≤y2 from λy h0=>absurd h0 (by omega));have dA:decide (0<t)=false:=by simp[cn]
 have c8:=hI cn;clear cn;have b6:=cell_regrown (a6.cell (i:=2) rfl);refine wp_region_quiet_below (by kernel_rfl) (by kernel_rfl) ?_;repeat (first|go_big_quiet_step ((fail))|quiet_step ((fail)))
 refine wpQuiet_nil ?_;intro _ b4;obtain⟨⟨dq,b7⟩,b5⟩:=b4;subst b5;obtain⟨h,a8,O⟩:∃a',a'=grow (redrawn wi dq) b7∧BL wi a':=⟨_,rfl,below_regrown _ _ _⟩;rw[←a8];clear a8 b6;have U:=zb bP O;have a1:=hI (a6.below O);have bO:=hI (aa bp O);clear O a6 bp;by_cases cf:Y=t
 {
 have b0:=hI (show m=t by omega);have a2:=hI (az bO);have bk:=hI (HI.put bR HX b' ca (by rw[bn.out];exact ht) HG bW);have cl:=U.size;have b3:=a7.out;have W:=hI (show M.heap.size≤h.heap.size from by omega);obtain⟨H,F⟩:∃H:World,H=h.alloc (.cells #[] 25):=⟨_,rfl⟩;have I:=cG h h.heap.size 25 7 (qA _);rw[←F] at I;have N:BL h H:=by rw[F];exact(qB _ _).alloc (qA _) _
 have ck:H.heap.size=h.heap.size+1:=by rw[F];simp
 have bo:=hI I;have T:=hI N;have bs:=hI F;clear I N F;have co:t≤Y:=by omega
 have bv:=(a2.takeE t ht).below T;have ch:=au (a1.cell (i:=0) rfl);go_wp2_with(first|(rw[←bs.out];at_builtin;refine g_ _ rfl _ _ rfl (xs:=[]) (base:=h.heap.size) rfl bo rfl bv (by omega) (by omega) ?_;intro g3 c3 w3 G Z;simp only[Nat.zero_add,List.nil_append] at G ⊢;have B:=hI (T.grown Z (by omega) (λk u=>by injection u with u;omega));have F1:=(a1.below B).f7)|(at_builtin;refine kM (x0:=y0) (x1:=y1) (x2:=y2) (x3:=y3) (x4:=y4) (x5:=y5) (x6:=y6) _ rfl _ _ rfl rfl (aa G (za _ _)) rfl (by exact aO.new _ _ _) (by omega) (by have:=B.size;simp;omega) ?_;intro g4 c4 w4 L ad bN bt;have J:=hI ((B.alloc B.size _).grown ad (by have:=B.size;simp;omega) (λk u=>(G.lt k u).1));have bq:=hI (show Rd w4 7 (some ⟨g,0,none⟩) (m-t) (ents (R.drop t)) from by rw[b0.out,Nat.sub_self];exact xy _ _ _ (qK (by rw[bn.out,b0.out];exact qA _))))|(at_builtin;refine g_ _ rfl _ _ rfl (base:=h.heap.size) rfl L rfl bq (by omega) J.size ?_;intro g5 c5 w5 av ar))
 have ba:=hI (J.grown ar J.size (λk u=>(L.lt k u).1));have V:=hI (an av W);have bb:=hI (b9.trans ((U.mono a7.1).trans (ba.mono W)));clear G Z L ad bN bt F1 av ar;rw[show t+1+(m-t)=m+1 by omega] at V;go_roundw
 case rel=>exact⟨k+1,m+1,_,_,_,by omega,by omega,by go_num,by rw[show t+1+(m-t)=m+1 by omega],bk,V,bb⟩
 case measure=>simp[intOf]<;>omega}
 {
 have cL:(Y=t)=False:=by simp[cf]
 have a2:=hI (az bO);have bk:=hI (HI.put bR HX b' ca (by rw[bn.out];exact ht) HG bW);have cl:=U.size;have b3:=a7.out;have W:=hI (show M.heap.size≤h.heap.size from by omega);obtain⟨H,F⟩:∃H:World,H=h.alloc (.cells #[] 25):=⟨_,rfl⟩;have I:=cG h h.heap.size 25 7 (qA _);rw[←F] at I;have N:BL h H:=by rw[F];exact(qB _ _).alloc (qA _) _
 have ck:H.heap.size=h.heap.size+1:=by rw[F];simp
 have bo:=hI I;have T:=hI N;have bs:=hI F;clear I N F;have co:t≤Y:=by omega
 have bv:=(a2.takeE t ht).below T;have ch:=au (a1.cell (i:=0) rfl);go_wp2_with(first|(rw[←bs.out];at_builtin;refine g_ _ rfl _ _ rfl (xs:=[]) (base:=h.heap.size) rfl bo rfl bv (by omega) (by omega) ?_;intro g3 c3 w3 G Z;simp only[Nat.zero_add,List.nil_append] at G ⊢;have B:=hI (T.grown Z (by omega) (λk u=>by injection u with u;omega));have F1:=(a1.below B).f7)|(at_builtin;refine kM (x0:=y0) (x1:=y1) (x2:=y2) (x3:=y3) (x4:=y4) (x5:=y5) (x6:=y6) _ rfl _ _ rfl rfl (aa G (za _ _)) rfl (by exact aO.new _ _ _) (by omega) (by have:=B.size;simp;omega) ?_;intro g4 c4 w4 L ad bN bt;have J:=hI ((B.alloc B.size _).grown ad (by have:=B.size;simp;omega) (λk u=>(G.lt k u).1));have bq:=hI (show Rd w4 7 (some ⟨g,t*7,none⟩) (m-t) (ents (R.drop t)) from by have:=(a2.dropE t ht).below J;rwa [Nat.zero_add] at this))|(at_builtin;refine g_ _ rfl _ _ rfl (base:=h.heap.size) rfl L rfl bq (by omega) J.size ?_;intro g5 c5 w5 av ar))
 have ba:=hI (J.grown ar J.size (λk u=>(L.lt k u).1));have V:=hI (an av W);have bb:=hI (b9.trans ((U.mono a7.1).trans (ba.mono W)));clear G Z L ad bN bt F1 av ar;rw[show t+1+(m-t)=m+1 by omega] at V;go_roundw
 case rel=>exact⟨k+1,m+1,_,_,_,by omega,by omega,by go_num,by rw[show t+1+(m-t)=m+1 by omega],bk,V,bb⟩
 case measure=>simp[intOf]<;>omega}}
 {
 obtain⟨j,rfl⟩:∃j,t=j+1:=⟨t-1,by omega⟩;obtain⟨_,z0,_,z2,z3,z4,z5,_,b2,_,_,cs,cr,c2,c6,cb,_⟩:=bU bp (k:=j) (by omega);injection b2 with b2;injection b2 with b2;subst b2;have HZ:=hI cs;have cC:=hI cr;clear cs cr c2 c6;by_cases cv:y2<z2
 {
 have cw:=hI (show ∀z∈R.drop j,y2<E.rev z from by{
 rw[cC.out];intro z hz;rcases List.mem_cons.1 hz with rfl|hz
 {exact cv}
 {exact HG z hz}})
 have b6:=cell_regrown (a6.cell (i:=2) rfl);have cp:=cell_regrown (cb);refine wp_region_quiet_below (by kernel_rfl) (by kernel_rfl) ?_;repeat (first|go_big_quiet_step ((fail))|quiet_step ((fail)))
 refine wpQuiet_nil ?_;intro _ b4;obtain⟨⟨dq,b7⟩,b5⟩:=b4;subst b5;obtain⟨h,a8,O⟩:∃a',a'=grow (redrawn wi dq) b7∧BL wi a':=⟨_,rfl,below_regrown _ _ _⟩;rw[←a8];clear a8 b6 cp;have U:=zb bP O;have a1:=hI (a6.below O);have bO:=hI (aa bp O);clear O a6 bp;clear cb;go_wp2_with fail
 go_roundw
 case rel=>exact⟨j,by omega,by go_num,cw,U⟩
 case measure=>simp[intOf]<;>omega}
 {
 have bW:=hI (show ∀y,0<j+1→R[j+1-1]?=some y→E.rev y≤y2 from λy _ hy=>by{
 rw[Nat.add_sub_cancel,HZ.out] at hy;injection hy with hy;rw[←hy];exact Int.not_lt.1 cv})
 have b6:=cell_regrown (a6.cell (i:=2) rfl);have cp:=cell_regrown (cb);refine wp_region_quiet_below (by kernel_rfl) (by kernel_rfl) ?_;repeat (first|go_big_quiet_step ((fail))|quiet_step ((fail)))
 refine wpQuiet_nil ?_;intro _ b4;obtain⟨⟨dq,b7⟩,b5⟩:=b4;subst b5;obtain⟨h,a8,O⟩:∃a',a'=grow (redrawn wi dq) b7∧BL wi a':=⟨_,rfl,below_regrown _ _ _⟩;rw[←a8];clear a8 b6 cp;have U:=zb bP O;have a1:=hI (a6.below O);have bO:=hI (aa bp O);clear O a6 bp;clear cb;by_cases cf:Y=j+1
 {
 have b0:=hI (show m=j+1 by omega);have a2:=hI (az bO);have bk:=hI (HI.put bR HX b' ca (by rw[bn.out];exact ht) HG bW);have cl:=U.size;have b3:=a7.out;have W:=hI (show M.heap.size≤h.heap.size from by omega);obtain⟨H,F⟩:∃H:World,H=h.alloc (.cells #[] 25):=⟨_,rfl⟩;have I:=cG h h.heap.size 25 7 (qA _);rw[←F] at I;have N:BL h H:=by rw[F];exact(qB _ _).alloc (qA _) _
 have ck:H.heap.size=h.heap.size+1:=by rw[F];simp
 have bo:=hI I;have T:=hI N;have bs:=hI F;clear I N F;have co:j+1≤Y:=by omega
 have bv:=(a2.takeE (j+1) ht).below T;have ch:=au (a1.cell (i:=0) rfl);go_wp2_with(first|(rw[←bs.out];at_builtin;refine g_ _ rfl _ _ rfl (xs:=[]) (base:=h.heap.size) rfl bo rfl bv (by omega) (by omega) ?_;intro g3 c3 w3 G Z;simp only[Nat.zero_add,List.nil_append] at G ⊢;have B:=hI (T.grown Z (by omega) (λk u=>by injection u with u;omega));have F1:=(a1.below B).f7)|(at_builtin;refine kM (x0:=y0) (x1:=y1) (x2:=y2) (x3:=y3) (x4:=y4) (x5:=y5) (x6:=y6) _ rfl _ _ rfl rfl (aa G (za _ _)) rfl (by exact aO.new _ _ _) (by omega) (by have:=B.size;simp;omega) ?_;intro g4 c4 w4 L ad bN bt;have J:=hI ((B.alloc B.size _).grown ad (by have:=B.size;simp;omega) (λk u=>(G.lt k u).1));have bq:=hI (show Rd w4 7 (some ⟨g,0,none⟩) (m-(j+1)) (ents (R.drop (j+1))) from by rw[b0.out,Nat.sub_self];exact xy _ _ _ (qK (by rw[bn.out,b0.out];exact qA _))))|(at_builtin;refine g_ _ rfl _ _ rfl (base:=h.heap.size) rfl L rfl bq (by omega) J.size ?_;intro g5 c5 w5 av ar))
 have ba:=hI (J.grown ar J.size (λk u=>(L.lt k u).1));have V:=hI (an av W);have bb:=hI (b9.trans ((U.mono a7.1).trans (ba.mono W)));clear G Z L ad bN bt F1 av ar;rw[show j+1+1+(m-(j+1))=m+1 by omega] at V;go_roundw
 case rel=>exact⟨k+1,m+1,_,_,_,by omega,by omega,by go_num,by rw[show j+1+1+(m-(j+1))=m+1 by omega],bk,V,bb⟩
 case measure=>simp[intOf]<;>omega}
 {
 have cL:(Y=j+1)=False:=by simp[cf]
 have a2:=hI (az bO);have bk:=hI (HI.put bR HX b' ca (by rw[bn.out];exact ht) HG bW);have cl:=U.size;have b3:=a7.out;have W:=hI (show M.heap.size≤h.heap.size from by omega);obtain⟨H,F⟩:∃H:World,H=h.alloc (.cells #[] 25):=⟨_,rfl⟩;have I:=cG h h.heap.size 25 7 (qA _);rw[←F] at I;have N:BL h H:=by rw[F];exact(qB _ _).alloc (qA _) _
 have ck:H.heap.size=h.heap.size+1:=by rw[F];simp
 have bo:=hI I;have T:=hI N;have bs:=hI F;clear I N F;have co:j+1≤Y:=by omega
 have bv:=(a2.takeE (j+1) ht).below T;have ch:=au (a1.cell (i:=0) rfl);go_wp2_with(first|(rw[←bs.out];at_builtin;refine g_ _ rfl _ _ rfl (xs:=[]) (base:=h.heap.size) rfl bo rfl bv (by omega) (by omega) ?_;intro g3 c3 w3 G Z;simp only[Nat.zero_add,List.nil_append] at G ⊢;have B:=hI (T.grown Z (by omega) (λk u=>by injection u with u;omega));have F1:=(a1.below B).f7)|(at_builtin;refine kM (x0:=y0) (x1:=y1) (x2:=y2) (x3:=y3) (x4:=y4) (x5:=y5) (x6:=y6) _ rfl _ _ rfl rfl (aa G (za _ _)) rfl (by exact aO.new _ _ _) (by omega) (by have:=B.size;simp;omega) ?_;intro g4 c4 w4 L ad bN bt;have J:=hI ((B.alloc B.size _).grown ad (by have:=B.size;simp;omega) (λk u=>(G.lt k u).1));have bq:=hI (show Rd w4 7 (some ⟨g,(j+1)*7,none⟩) (m-(j+1)) (ents (R.drop (j+1))) from by have:=(a2.dropE (j+1) ht).below J;rwa [Nat.zero_add] at this))|(at_builtin;refine g_ _ rfl _ _ rfl (base:=h.heap.size) rfl L rfl bq (by omega) J.size ?_;intro g5 c5 w5 av ar))
 have ba:=hI (J.grown ar J.size (λk u=>(L.lt k u).1));have V:=hI (an av W);have bb:=hI (b9.trans ((U.mono a7.1).trans (ba.mono W)));clear G Z L ad bN bt F1 av ar;rw[show j+1+1+(m-(j+1))=m+1 by omega] at V;go_roundw
 case rel=>exact⟨k+1,m+1,_,_,_,by omega,by omega,by go_num,by rw[show j+1+1+(m-(j+1))=m+1 by omega],bk,V,bb⟩
 case measure=>simp[intOf]<;>omega}}})}}}
 {
 obtain rfl:k=n:=by omega
 have hy:R=ex xs race boat:=BH.done bR (by rw[HN.out];exact HI);subst hy;go_wp2_with fail
 go_ret;exact⟨_,_,_,rfl,an HO cc.size,by omega,cc.trans (HB.mono cc.size)⟩})}
theorem pg (b s race boat:Int)(A:OA)(n c:Nat)(B:List EntryT)(w:World)(h:bA w A n c B):Calls prog 171 #[.agg #[b,s,.slice A n c],race,boat] w (rN w (ep b s B race boat) (c_ b s B race boat)):=by{
 have R:=hI (λI (W:BL w I)=>bX b s A n c B I (h.below W));have HN:=hI h.1.len_ent;have HR:=hI h;obtain⟨_,O,u,G,_⟩:=ae w #[b,s,.slice A n c] 32;have F:=hI G;have L:=hI u;clear G u h;have T:=L.f3
 cases u:dC b s B with
 | false=>{
 rw[u] at R;have H:ep b s B race boat=[]:=by unfold ep c_;rw[u];rfl
 have G:c_ b s B race boat=1:=by unfold c_;rw[u];rfl
 rw[H,G];clear H G u;go_enter func171,ntmps171;go_wp2_with fail
 rw[←O];clear O;refine(R _ F).mono ?_;rintro e Y⟨rfl,h⟩;have J:=zb F h;have T:=(L.below h).f3;clear h L F;go_wp2_with fail
 go_ret2;exact⟨none,0,0,rfl,World.ownsRow_nil _ _ _ _,by omega,J⟩}
 | true=>{
 rw[u] at R;have M:=fA u;have ad:1≤b∧b≤16:=⟨M.b1,M.b2⟩
 cases ha:af race 0 11 with
 | false=>{
 have U:=hI (λw=>bj ha w);have V:=U;have H:ep b s B race boat=[]:=by unfold ep c_;rw[u,ha];rfl
 have G:c_ b s B race boat=2:=by unfold c_;rw[u,ha];rfl
 rw[H,G];clear H G u ha M;go_enter func171,ntmps171;go_wp2_with fail
 rw[←O];clear O;refine(R _ F).mono ?_;rintro e Y⟨rfl,h⟩;have J:=zb F h;have T:=(L.below h).f3;clear h L F;go_wp2_with(first|(go_at_call 34;(with_reducible refine(U.out _).mono ?_);rintro e I⟨rfl,rfl⟩)|(go_at_call 34;(with_reducible refine(V.out _).mono ?_);rintro e I⟨rfl,rfl⟩))
 go_ret2;exact⟨none,0,0,rfl,World.ownsRow_nil _ _ _ _,by omega,J⟩}
 | true=>{
 have U:=hI (λw=>bj ha w)
 cases N:af boat 0 (b-1) with
 | false=>{
 have V:=hI (λw=>bj N w);have H:ep b s B race boat=[]:=by unfold ep c_;rw[u,ha,N];rfl
 have G:c_ b s B race boat=2:=by unfold c_;rw[u,ha,N];rfl
 rw[H,G];clear H G u ha N M;go_enter func171,ntmps171;go_wp2_with fail
 rw[←O];clear O;refine(R _ F).mono ?_;rintro e Y⟨rfl,h⟩;have J:=zb F h;have T:=(L.below h).f3;clear h L F;go_wp2_with(first|(go_at_call 34;(with_reducible refine(U.out _).mono ?_);rintro e I⟨rfl,rfl⟩)|(go_at_call 34;(with_reducible refine(V.out _).mono ?_);rintro e I⟨rfl,rfl⟩))
 go_ret2;exact⟨none,0,0,rfl,World.ownsRow_nil _ _ _ _,by omega,J⟩}
 | true=>{
 have V:=hI (λw=>bj N w);have H:ep b s B race boat=ex B race boat:=by unfold ep c_;rw[u,ha,N];rfl
 have G:c_ b s B race boat=0:=by unfold c_;rw[u,ha,N];rfl
 rw[H,G];have Z:=hI (λI (W:BL w I)=>ip b s race boat A n c B I (HR.below W) (by have:=M.len;rw[HN.out] at this;exact this) M.okE M.key);clear H G u ha N M;go_enter func171,ntmps171;go_wp2_with fail
 rw[←O];clear O;refine(R _ F).mono ?_;rintro e Y⟨rfl,h⟩;have J:=zb F h;have T:=(L.below h).f3;clear h L F;go_wp2_with(first|(go_at_call 34;(with_reducible refine(U.out _).mono ?_);rintro e I⟨rfl,rfl⟩)|(go_at_call 34;(with_reducible refine(V.out _).mono ?_);rintro e I⟨rfl,rfl⟩))
 refine(Z _ J).mono ?_;rintro e M⟨_,_,_,rfl,u,L,h⟩;have G:=hI u;have F:=zb J h;have H:=hI J.size;clear u h T;go_wp2_with fail
 go_ret2;exact⟨_,_,_,rfl,an G H,L,F⟩}}}}
section
open Go.Lib Go.Lib Go.Lib Go.Lib
theorem pn (w:World)(F:TypeId)(A:OA)(n c:Nat)(B:n≤c)(h:OA)(d:Nat):(Builtin.append_ #[30,30] F #[.slice A n c,.slice h 0 d]).run prog w=.ok (.slice A n c) w:=by{
 obtain⟨i,u,_,_,_⟩:=info_parts iT
 cases A<;>cases h<;>simp[Builtin.append_,run_underlying underlying30,sizeOf,typeInfo,u,Builtin.lenOf,Builtin.firstCells,loadCells,loadCellsFrom,storeCells,B]}
theorem yi (w:World)(L:TypeId){base n c:Nat}{A:OA}{u:List EntryT}(J:w.ownsRow base 25 7 (.slice A n c) n (ents u)){m d:Nat}{H:OA}{h:List EntryT}(G:Rd w 7 H m (ents h))(Z:n+m≤1048576)(T:base≤w.heap.size):∃B F w',(Builtin.append_ #[30,30] L #[.slice A n c,.slice H m d]).run prog w=.ok (.slice B (n+m) F) w'∧w'.ownsRow base 25 7 (.slice B (n+m) F) (n+m) (ents (u++h))∧w.grownBy w' (Value.slice A n c).ownBlock:=by{
 have e:ents u++ents h=ents (u++h):=by unfold ents;rw[List.flatMap_append]
 rcases Nat.eq_zero_or_pos m with M|M
 {
 subst M;have I:h=[]:=List.eq_nil_of_length_eq_zero G.len_ent;subst I;exact⟨A,c,w,pn w L A n c (iP J) H d,by rw[qa];exact J,World.grownBy.refl _ _⟩}
 {
 obtain⟨b,f,rfl,_⟩:=G.pos (by omega);obtain⟨i,U,Y,W,R⟩:=info_parts iT;have V:(ents h).length=m*7:=G.len;obtain⟨_,w',N,I,O,_,_⟩:=run_append_own_at (P:=prog) w base 30 L 25 i (.agg #[(0:Int),(0:Int),(0:Int),(0:Int),(0:Int),(0:Int),(0:Int)]) 7 56 underlying30 U Y W R rfl (by decide) (.slice A n c) n (ents u) J ⟨b,f,none⟩ m d (ents h) V (uX G) (yR h) (by unfold maxLen;omega) (by omega) T;rw[e] at I;obtain⟨B,F,rfl⟩:=oV I;exact⟨B,F,w',N,I,O⟩}}
section
variable {ops : Array Oper} {rest : List Oper} {o : Oper} {a : Act} {K : Act → World → Prop} {Q : Exit → Act → World → Prop} {E : Prop}
theorem zw (w:World)(N:o.guard=none)(s x:Operand)(R:o.op=.call { callee:=.builtin .append,args:=#[s,x],argTypes:=#[30,30] }){base n c:Nat}{A:OA}{F:List EntryT}(V:a.eval s=.slice A n c)(T:w.ownsRow base 25 7 (.slice A n c) n (ents F)){m d:Nat}{B:OA}{G:List EntryT}(W:a.eval x=.slice B m d)(U:Rd w 7 B m (ents G))(O:n+m≤1048576)(M:base≤w.heap.size)(H:∀h u w',w'.ownsRow base 25 7 (.slice h (n+m) u) (n+m) (ents (F++G))→w.grownBy w' (Value.slice A n c).ownBlock→wpList prog ops Q rest (a.put o.dst (.slice h (n+m) u)) w'):wpList prog ops Q (o::rest) a w:=by{
 obtain⟨h,u,w',I,J,L⟩:=yi w o.type T U (d:=d) O M;exact Lib.wpList_append_run w N s x _ _ R _ _ V W _ w' I (H h u w' J L)}
theorem pL (w:World)(M:o.guard=none)(s x:Operand)(O:o.op=.call { callee:=.builtin .append,args:=#[s,x],argTypes:=#[30,30] }){base n c:Nat}{A:OA}{xs:List EntryT}(U:a.eval s=.slice A n c)(R:w.ownsRow base 25 7 (.slice A n c) n (ents xs)){m d:Nat}{B:OA}{F:List EntryT}(V:a.eval x=.slice B m d)(T:Rd w 7 B m (ents F))(N:n+m≤1048576)(L:base≤w.heap.size)(G:∀h u w',w'.ownsRow base 25 7 (.slice h (n+m) u) (n+m) (ents (xs++F))→w.grownBy w' (Value.slice A n c).ownBlock→K (a.put o.dst (.slice h (n+m) u)) w'):if Region.wanted o (yielded ops a.tmps)=true then Oper.wp prog o a w K Q else E:=by{
 obtain⟨h,u,w',H,I,J⟩:=yi w o.type R T (d:=d) N L;rw[if_pos (by simp[Region.wanted,M])];exact Lib.wp_append_run w s x _ _ O _ _ U V _ w' H (G h u w' I J)}
end
theorem GJ (q:Nat)(hq:q≤1048576)(w:World):Calls prog 311 #[.slice none 0 0,q] w λe w'=>∃H I,e=.returned (.slice H 0 I)∧w'.ownsRow w.heap.size 25 7 (.slice H 0 I) 0 (ents [])∧BL w w':=by{
 obtain⟨i,M,T,R,J⟩:=info_parts iT;rcases Nat.eq_zero_or_pos q with u|u
 {
 subst u;go_enter func311,ntmps311;go_wp2_with fail
 go_ret;exact⟨none,0,rfl,World.ownsRow_nil _ _ _ _,qB _ _⟩}
 {
 have O:∀G,(Builtin.append_ #[30,3] G #[.slice none 0 0,q]).run prog w=.ok (.slice (some ⟨w.heap.size,0,none⟩) q (grownCap w q 0 25)) (w.drew.alloc (.cells (Builtin.zeroCells (Value.agg #[(0:Int),(0:Int),(0:Int),(0:Int),(0:Int),(0:Int),(0:Int)]).cells q++Builtin.zeroCells (Value.agg #[(0:Int),(0:Int),(0:Int),(0:Int),(0:Int),(0:Int),(0:Int)]).cells (grownCap w q 0 25-q)) 25)):=λG=>Lib.run_append_nil_zeros w 30 3 G 25 i (.agg #[(0:Int),(0:Int),(0:Int),(0:Int),(0:Int),(0:Int),(0:Int)]) .i64 .i64 underlying30 underlying3 M T q u (by rw[R];decide) (by omega) (by rw[J];omega)
 have Z:=grownCap_ge w q 0 25;have B:=grownCap_le_maxLen w q 0 25 (by unfold maxLen;omega);generalize grownCap w q 0 25=h at *;have N:(w.drew.alloc (.cells (Builtin.zeroCells (Value.agg #[(0:Int),(0:Int),(0:Int),(0:Int),(0:Int),(0:Int),(0:Int)]).cells q++Builtin.zeroCells (Value.agg #[(0:Int),(0:Int),(0:Int),(0:Int),(0:Int),(0:Int),(0:Int)]).cells (h-q)) 25)).ownsRow w.heap.size 25 7 (.slice (some ⟨w.heap.size,0,none⟩) 0 h) 0 (ents []):=⟨rfl,.inr ⟨w.heap.size,h,_,rfl,qA _,heap_alloc_new w.drew _,qH _,B,by simp[Builtin.zeroCells,Value.cells];omega,by simp[ents]⟩⟩;have L:∀F,BL w (w.drew.alloc F):=λF=>((qB w.heap.size w).trans (ac w.heap.size w 1)).alloc (qA _) F
 generalize (Builtin.zeroCells (Value.agg #[(0:Int),(0:Int),(0:Int),(0:Int),(0:Int),(0:Int),(0:Int)]).cells q++Builtin.zeroCells (Value.agg #[(0:Int),(0:Int),(0:Int),(0:Int),(0:Int),(0:Int),(0:Int)]).cells (h-q))=Y at *;have V:=hI N;have U:=hI L;have W:=hI O;have ad:h≤9223372036854775807:=by unfold maxLen at B;omega
 clear N L O B M T R J;go_enter func311,ntmps311;go_wp2_with(at_builtin;refine Lib.wpList_append_run _ rfl _ _ _ _ rfl _ _ rfl rfl _ _ (W _) ?_)
 go_ret;exact⟨_,_,rfl,V,U _⟩}}
def Et (n m k:Nat):Nat:=if k=0 then 0 else if k=1 then n else n+m
def H_ (h u:List EntryT) (k:Nat):List EntryT:=if k=0 then [] else if k=1 then h else h++u
theorem Ai (J:Nat)(A:OA)(n c:Nat)(F:List EntryT)(W:OA)(m d:Nat)(G:List EntryT)(w:World)(B:w.cell? ⟨J,0,none⟩=some (.slice A n c))(H:w.cell? ⟨J,1,none⟩=some (.slice W m d))(u:Rd w 7 A n (ents F))(I:Rd w 7 W m (ents G))(Y:n+m≤1048576):Calls prog 275 #[.slice (some ⟨J,0,none⟩) 2 2] w (kc w (F++G)):=by{
 have ad:=hI (λw' (h:BL w w')=>(h.cell (p:=⟨J,0,none⟩) (au B)).trans B);have ar:=hI (λw' (h:BL w w')=>(h.cell (p:=⟨J,1,none⟩) (au H)).trans H);have av:=hI (λw' (h:BL w w')=>u.below h);have a1:=hI (λw' (h:BL w w')=>I.below h);clear u I;go_enter func275,ntmps275;go_wp2_with fail
 go_loop [3,11] (λs i=>∃k:Nat,k≤2∧i=.int .i64 k∧s=.int .i64 (Et n m k)) (λ_ i=>2-(intOf i).toNat)
 case atStart=>exact⟨0,by omega,rfl,rfl⟩
 case round=>(
 obtain⟨k,M,rfl,rfl⟩:=hrel;rcases (by omega:k=0∨k=1∨k=2) with rfl|rfl|rfl
 {
 have u:Et n m 0=0:=rfl;rw[u];go_wp2_with fail
 go_round
 case rel=>exact⟨1,by omega,by go_num,by simp[Et]⟩
 case measure=>simp[intOf]<;>omega}
 {
 have e1:Et n m 1=n:=rfl;rw[e1];go_wp2_with fail
 go_round
 case rel=>exact⟨2,by omega,by go_num,by simp[Et]<;>omega⟩
 case measure=>simp[intOf]<;>omega}
 {
 have e2:Et n m 2=n+m:=rfl;rw[e2];have I:=GJ (n+m) Y w;rw[Int.natCast_add] at I;have L:=hI I;clear I;go_wp2_with fail
 refine L.mono ?_;rintro e w1⟨Z,c0,rfl,N,h⟩;have O:=hI N;have I:=hI h;clear N h L B H;go_wp2_with fail
 go_loopw [6,27] (λs i wr=>∃(k U:Nat) (N:OA),k≤2∧i=.int .i64 k∧s=.slice N (Et n m k) U∧Hid (wr.ownsRow w.heap.size 25 7 (.slice N (Et n m k) U) (Et n m k) (ents (H_ F G k)))∧Hid (BL w wr)) (λ_ i _=>2-(intOf i).toNat)
 case atStart=>exact⟨0,c0,Z,by omega,rfl,rfl,O,I⟩
 case round=>(
 clear O I;obtain⟨k,U,N,M,rfl,rfl,B,h⟩:=hrel;have q0:=ad _ h;have q1:=ar _ h;rcases (by omega:k=0∨k=1∨k=2) with rfl|rfl|rfl
 {
 have u:Et n m 0=0:=rfl;have I:H_ F G 0=[]:=rfl;rw[u,I] at B;rw[u];go_wp2_with(at_builtin;refine zw _ rfl _ _ rfl rfl B rfl (av _ h) (by omega) h.size ?_;intro O V w2 H L;simp only[Nat.zero_add,List.nil_append] at H ⊢)
 have T:=hI H;have R:=hI (h.grown L h.size (λk M=>(B.lt k M).1));clear H L;go_roundw
 case rel=>exact⟨1,V,O,by omega,by go_num,rfl,T,R⟩
 case measure=>simp[intOf]<;>omega}
 {
 have u:Et n m 1=n:=rfl;have I:H_ F G 1=F:=rfl;rw[u,I] at B;rw[u];go_wp2_with(at_builtin;refine zw _ rfl _ _ rfl rfl B rfl (a1 _ h) (by omega) h.size ?_;intro O V w2 H L)
 have T:=hI H;have R:=hI (h.grown L h.size (λk M=>(B.lt k M).1));clear H L;go_roundw
 case rel=>exact⟨2,V,O,by omega,by go_num,rfl,T,R⟩
 case measure=>simp[intOf]<;>omega}
 {
 have u:Et n m 2=n+m:=rfl;have I:H_ F G 2=F++G:=rfl;rw[u,I] at B;rw[u];go_wp2_with fail
 go_ret;exact⟨_,_,_,rfl,B,Y,h⟩})})}
theorem rq (b s:Int)(A:OA)(n c:Nat)(V:List EntryT)(I:OA)(m d:Nat)(W:List EntryT)(w:World)(G:Rd w 7 A n (ents V))(H:Rd w 7 I m (ents W))(bb:n+m≤1048576):Calls prog 221 #[.agg #[b,s,.slice A n c],.slice I m d] w (EO w b s (V++W)):=by{
 obtain⟨h,T,u,B,O,bk⟩:=cI w #[b,s,.slice A n c] #[(0:Int),(0:Int),.slice none 0 0] 32 32;have J:=hI O;have a1:=hI (λw' (F:BL w w')=>G.below F);have a2:=hI (λw' (F:BL w w')=>H.below F);obtain⟨S,L,N⟩:∃S:World→Prop,(∀h,S h→(h.cell? ⟨w.heap.size,0,none⟩=some (.int .i64 b)∧h.cell? ⟨w.heap.size,1,none⟩=some (.int .i64 s)∧h.cell? ⟨w.heap.size,2,none⟩=some (.slice A n c)))∧(∀w2,BL h w2→S w2):=⟨λh=>h.cell? ⟨w.heap.size,0,none⟩=some (.int .i64 b)∧h.cell? ⟨w.heap.size,1,none⟩=some (.int .i64 s)∧h.cell? ⟨w.heap.size,2,none⟩=some (.slice A n c),λ_ a7=>a7,λw2 F=>⟨(u.below F).cell rfl,(u.below F).cell rfl,(u.below F).cell rfl⟩⟩;have R:=hI L;have M:=hI N;clear L N;have bp:=hI u;have a6:=hI B;have L:=u.f3;clear G H O u B;go_enter func221,ntmps221;go_wp2_with fail
 rw[←T];clear T;go_wp2_with fail
 clear L;refine bz (n:=11) S (λj=>decide (10≤j)) (by kernel_rfl) rfl ?_;intro ops u;have B:=M _ (ac _ h 1);refine zN u 0 B ?_;go_simp;refine zS u R 1 B ?_;go_simp;refine zN u 2 B ?_;go_simp;refine zS u R 3 B ?_;go_simp;refine zN u 4 B ?_;go_simp;refine zS u R 5 B ?_;go_simp;refine zN u 6 B ?_;go_simp;replace B:S h.drew:=B;obtain⟨H,G⟩:∃H:World,H=h.drew:=⟨_,rfl⟩;have ad:BL h H:=by rw[G];exact ac _ h 1
 have bo:H.heap.size=h.heap.size:=by rw[G];rfl
 rw[←G] at B ⊢;clear G;have av:=hI ad;refine zo u 7 λZ G=>?_
 go_simp;refine G _ _ (.inr (M _ (av.alloc (by omega) _))) ?_;clear G;go_simp;obtain⟨wv,L,XV,a',_⟩:=ae H #[.slice A n c,.slice I m d] 30;rw[←L];clear L;have O:=hI (ad.trans (a'.mono (by omega)));have Y:=hI (J.trans (O.mono J.size));have L:=Ai H.heap.size A n c V I m d W wv (XV.cell (i:=0) rfl) (XV.cell (i:=1) rfl) (a1 _ Y) (a2 _ Y) bb;rw[bo,bk] at L;have HC:=hI L;clear L;refine zo u 8 λZ G=>?_
 go_simp;(go_at_call 275);refine HC.mono ?_;rintro e w5⟨N,U,T,rfl,ar,ba,a8⟩;have L:=zb O a8;refine G _ _ (.inr (M _ L)) ?_;clear G;go_simp;refine zN u 9 (M _ L) ?_;go_simp;have F1:=(a6.below L).f3;refine zo u 10 λZ G=>?_
 go_simp;refine G _ _ (.inl (by decide)) ?_;clear G;go_simp;refine zd u ?_;go_wp2_with fail
 refine bodyPost_ret (v:=.agg #[b,s,.slice N U T]) (by simp[results,results221,go_sem,F1]) rfl ?_;have G:=aQ (g:=w.heap.size+1) [.int .i64 b,.int .i64 s,.slice N U T] 0 (aK.refl (w.heap.size+1) (w.heap.size+1+1) w5) (by omega) (by omega);have bq:=O.size;exact⟨N,U,T,rfl,an (aE ar G (λb F=>.inr (by have:=(ar.lt b F).1;omega))) (by omega),ba,ao (J.trans (L.mono J.size)) G (by omega) (by omega)⟩}
theorem Bd (b s:Int)(A:OA)(n c:Nat)(xs:List EntryT)(x0 x1 x2 x3 x4 x5 x6:Int)(w:World)(H:Rd w 7 A n (ents xs))(b0:n+1≤1048576):Calls prog 280 #[.agg #[b,s,.slice A n c],.agg #[x0,x1,x2,x3,x4,x5,x6]] w (EO w b s (xs++[(x0,x1,x2,x3,x4,x5,x6)])):=by{
 obtain⟨u,N,B,h,F,M,bP⟩:=da w #[b,s,.slice A n c] #[x0,x1,x2,x3,x4,x5,x6] #[(0:Int),(0:Int),.slice none 0 0] 32 25 32;have O:=hI M;have bo:=hI (λw' (G:BL w w')=>H.below G);obtain⟨S,J,L⟩:∃S:World→Prop,(∀u,S u→(u.cell? ⟨w.heap.size,0,none⟩=some (.int .i64 b)∧u.cell? ⟨w.heap.size,1,none⟩=some (.int .i64 s)∧u.cell? ⟨w.heap.size,2,none⟩=some (.slice A n c)∧u.cell? ⟨w.heap.size+1,0,none⟩=some (.int .i64 x0)∧u.cell? ⟨w.heap.size+1,1,none⟩=some (.int .i64 x1)∧u.cell? ⟨w.heap.size+1,2,none⟩=some (.int .i64 x2)∧u.cell? ⟨w.heap.size+1,3,none⟩=some (.int .i64 x3)∧u.cell? ⟨w.heap.size+1,4,none⟩=some (.int .i64 x4)∧u.cell? ⟨w.heap.size+1,5,none⟩=some (.int .i64 x5)∧u.cell? ⟨w.heap.size+1,6,none⟩=some (.int .i64 x6)))∧(∀w2,BL u w2→S w2):=⟨λu=>u.cell? ⟨w.heap.size,0,none⟩=some (.int .i64 b)∧u.cell? ⟨w.heap.size,1,none⟩=some (.int .i64 s)∧u.cell? ⟨w.heap.size,2,none⟩=some (.slice A n c)∧u.cell? ⟨w.heap.size+1,0,none⟩=some (.int .i64 x0)∧u.cell? ⟨w.heap.size+1,1,none⟩=some (.int .i64 x1)∧u.cell? ⟨w.heap.size+1,2,none⟩=some (.int .i64 x2)∧u.cell? ⟨w.heap.size+1,3,none⟩=some (.int .i64 x3)∧u.cell? ⟨w.heap.size+1,4,none⟩=some (.int .i64 x4)∧u.cell? ⟨w.heap.size+1,5,none⟩=some (.int .i64 x5)∧u.cell? ⟨w.heap.size+1,6,none⟩=some (.int .i64 x6),λ_ bO=>bO,λw2 G=>⟨(B.below G).cell rfl,(B.below G).cell rfl,(B.below G).cell rfl,(h.below G).cell rfl,(h.below G).cell rfl,(h.below G).cell rfl,(h.below G).cell rfl,(h.below G).cell rfl,(h.below G).cell rfl,(h.below G).cell rfl⟩⟩;have bk:=hI J;have I:=hI L;clear J L;have bR:=hI B;have bW:=hI h;have bp:=hI F;have J:=B.f3;clear H M B h F;go_enter func280,ntmps280;go_wp2_with fail
 rw[←N];clear N;go_wp2_with fail
 clear J;refine bz (n:=13) S (λj=>decide (12≤j)) (by kernel_rfl) rfl ?_;intro ops F;have V:=I _ (ac _ u 1);refine zN F 0 V ?_;go_simp;refine zS F bk 1 V ?_;go_simp;refine zN F 2 V ?_;go_simp;refine zS F bk 3 V ?_;go_simp;refine zN F 5 V ?_;go_simp;refine zS F bk 6 V ?_;go_simp;refine zS F bk 8 V ?_;go_simp;replace V:S u.drew:=V;obtain⟨wd,h⟩:∃wd:World,wd=u.drew:=⟨_,rfl⟩;have av:=hI (show BL u wd from by rw[h];exact ac _ u 1);have bt:wd.heap.size=u.heap.size:=by rw[h];rfl
 rw[←h] at V ⊢;clear h;rw[bP] at bt;refine wpAnyT_two 4 9 (by rw[F.out];rfl) (by rw[F.out];rfl) (by rw[F.out];kernel_rfl) ?_ ?_
 {
 intro N T;have h:=hI T;clear T;go_simp;refine h _ _ (.inr (I _ (av.alloc av.size _))) ?_;clear h;have H:=cG wd u.heap.size 25 7 av.size;obtain⟨wa,ba,a6,bq,a'⟩:=ae wd #[] 25;rw[←ba] at H ⊢;clear ba;have R:=zb av bq;rw[bt] at H a';have B:=hI H;clear a6 H;go_simp;refine wpAnyT_two 7 9 (by rw[F.out];rfl) (by rw[F.out];rfl) (by rw[F.out];kernel_rfl) ?_ ?_
 {
 intro N T;have h:=hI T;clear T;refine pL _ (by rfl) _ _ (by rfl) (xs:=[]) (by rfl) B (by rfl) (bo _ (O.trans (R.mono O.size))) (by omega) R.size ?_;intro A7 c7 wb H L;simp only[Nat.zero_add,List.nil_append] at H ⊢;have J:=hI (R.grown L R.size (λk U=>(B.lt k U).1));replace B:=hI H;clear H L;refine h _ _ (.inr (I _ J)) ?_;clear h;go_simp;refine zo F 9 λN h=>?_
 go_simp;refine h _ _ (.inr (I _ (J.alloc J.size _))) ?_;clear h;obtain⟨wc,L,H,bv,_⟩:=ae wb #[x0,x1,x2,x3,x4,x5,x6] 25;rw[←L];clear L;have M:=zb J bv;have L:=hI H;clear H;replace B:=hI (aa B bv);go_simp;refine zo F 10 λN h=>?_
 refine tE (x0:=x0) (x1:=x1) (x2:=x2) (x3:=x3) (x4:=x4) (x5:=x5) (x6:=x6) _ (by rfl) _ _ (by rfl) (by rfl) B (by rfl) L (by omega) M.size ?_;intro Y W we ar ad _ _;have H:=hI (M.grown ad M.size (λk U=>(B.lt k U).1));replace B:=hI ar;clear ar ad L;refine h _ _ (.inr (I _ H)) ?_;clear h;go_simp;refine zN F 11 (I _ H) ?_;go_simp;have F1:=(bp.below H).f3;refine zo F 12 λN h=>?_
 go_simp;refine h _ _ (.inl (by decide)) ?_;clear h;go_simp;refine zd F ?_;go_wp2_with fail
 refine bodyPost_ret (v:=.agg #[b,s,.slice (some ⟨Y,0,none⟩) (n+1) W]) (by simp[results,results280,go_sem,F1]) rfl ?_;have Z:=aQ (g:=w.heap.size+1+1) [.int .i64 b,.int .i64 s,.slice (some ⟨Y,0,none⟩) (n+1) W] 0 (aK.refl (w.heap.size+1+1) (w.heap.size+1+1+1) we) (by omega) (by omega);have bN:=H.size;exact⟨_,_,_,rfl,an (aE B Z (λb G=>.inr (by have:=(B.lt b G).1;omega))) (by omega),by omega,ao (O.trans (H.mono O.size)) Z (by omega) (by omega)⟩}
 {
 intro N T;have h:=hI T;clear T;go_simp;refine h _ _ (.inr (I _ (R.alloc R.size _))) ?_;clear h;obtain⟨wb,bb,a7,a8,bs⟩:=ae wa #[x0,x1,x2,x3,x4,x5,x6] 25;rw[←bb];clear bb;have J:=zb R a8;rw[a'] at a7 bs;have L:=hI a7;clear a7;replace B:=hI (aa B a8);go_simp;refine zo F 7 λN h=>?_
 refine pL _ (by rfl) _ _ (by rfl) (xs:=[]) (by rfl) B (by rfl) (bo _ (O.trans (J.mono O.size))) (by omega) J.size ?_;intro A7 c7 wc a2 a1;simp only[Nat.zero_add,List.nil_append] at a2 ⊢;have M:=hI (J.grown a1 J.size (λk U=>(B.lt k U).1));replace L:=hI (L.grown a1 (by simp[Value.ownBlock]));replace B:=hI a2;clear a2 a1;refine h _ _ (.inr (I _ M)) ?_;clear h;go_simp;refine zo F 10 λN h=>?_
 refine tE (x0:=x0) (x1:=x1) (x2:=x2) (x3:=x3) (x4:=x4) (x5:=x5) (x6:=x6) _ (by rfl) _ _ (by rfl) (by rfl) B (by rfl) L (by omega) M.size ?_;intro Y W we ar ad _ _;have H:=hI (M.grown ad M.size (λk U=>(B.lt k U).1));replace B:=hI ar;clear ar ad L;refine h _ _ (.inr (I _ H)) ?_;clear h;go_simp;refine zN F 11 (I _ H) ?_;go_simp;have F1:=(bp.below H).f3;refine zo F 12 λN h=>?_
 go_simp;refine h _ _ (.inl (by decide)) ?_;clear h;go_simp;refine zd F ?_;go_wp2_with fail
 refine bodyPost_ret (v:=.agg #[b,s,.slice (some ⟨Y,0,none⟩) (n+1) W]) (by simp[results,results280,go_sem,F1]) rfl ?_;have Z:=aQ (g:=w.heap.size+1+1) [.int .i64 b,.int .i64 s,.slice (some ⟨Y,0,none⟩) (n+1) W] 0 (aK.refl (w.heap.size+1+1) (w.heap.size+1+1+1) we) (by omega) (by omega);have bN:=H.size;exact⟨_,_,_,rfl,an (aE B Z (λb G=>.inr (by have:=(B.lt b G).1;omega))) (by omega),by omega,ao (O.trans (H.mono O.size)) Z (by omega) (by omega)⟩}}
 {
 intro N T;have h:=hI T;clear T;go_simp;refine h _ _ (.inr (I _ (av.alloc av.size _))) ?_;clear h;obtain⟨wa,ba,a6,bq,a'⟩:=ae wd #[x0,x1,x2,x3,x4,x5,x6] 25;rw[←ba];clear ba;have R:=zb av bq;rw[bt] at a6 a';have L:=hI a6;clear a6;go_simp;refine zo F 4 λN h=>?_
 go_simp;refine h _ _ (.inr (I _ (R.alloc R.size _))) ?_;clear h;have T:=cG wa u.heap.size 25 7 R.size;obtain⟨wb,bb,a7,a8,bs⟩:=ae wa #[] 25;rw[←bb] at T ⊢;clear bb;have J:=zb R a8;rw[a'] at T bs;have B:=hI T;replace L:=hI (L.below a8);clear a7 T;go_simp;refine zo F 7 λN h=>?_
 refine pL _ (by rfl) _ _ (by rfl) (xs:=[]) (by rfl) B (by rfl) (bo _ (O.trans (J.mono O.size))) (by omega) J.size ?_;intro A7 c7 wc a2 a1;simp only[Nat.zero_add,List.nil_append] at a2 ⊢;have M:=hI (J.grown a1 J.size (λk U=>(B.lt k U).1));replace L:=hI (L.grown a1 (by simp[Value.ownBlock]));replace B:=hI a2;clear a2 a1;refine h _ _ (.inr (I _ M)) ?_;clear h;go_simp;refine zo F 10 λN h=>?_
 refine tE (x0:=x0) (x1:=x1) (x2:=x2) (x3:=x3) (x4:=x4) (x5:=x5) (x6:=x6) _ (by rfl) _ _ (by rfl) (by rfl) B (by rfl) L (by omega) M.size ?_;intro Y W we ar ad _ _;have H:=hI (M.grown ad M.size (λk U=>(B.lt k U).1));replace B:=hI ar;clear ar ad L;refine h _ _ (.inr (I _ H)) ?_;clear h;go_simp;refine zN F 11 (I _ H) ?_;go_simp;have F1:=(bp.below H).f3;refine zo F 12 λN h=>?_
 go_simp;refine h _ _ (.inl (by decide)) ?_;clear h;go_simp;refine zd F ?_;go_wp2_with fail
 refine bodyPost_ret (v:=.agg #[b,s,.slice (some ⟨Y,0,none⟩) (n+1) W]) (by simp[results,results280,go_sem,F1]) rfl ?_;have Z:=aQ (g:=w.heap.size+1+1) [.int .i64 b,.int .i64 s,.slice (some ⟨Y,0,none⟩) (n+1) W] 0 (aK.refl (w.heap.size+1+1) (w.heap.size+1+1+1) we) (by omega) (by omega);have bN:=H.size;exact⟨_,_,_,rfl,an (aE B Z (λb G=>.inr (by have:=(B.lt b G).1;omega))) (by omega),by omega,ao (O.trans (H.mono O.size)) Z (by omega) (by omega)⟩}}
end
end Go.Proofs.YtnpldahkhaacnaaGreatDoor

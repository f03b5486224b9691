/- Texts of the walk: Jp. -/
import Derived.Test.YtnpldahkhaacnaaGreatDoorYar
set_option linter.unusedVariables false
set_option linter.unusedSimpArgs false
set_option maxRecDepth 100000
set_option maxHeartbeats 32000000
namespace Go.Proofs.YtnpldahkhaacnaaGreatDoor
open Go.RowKit Go.Sort Go.Proofs.Tryz
section
open Go.Lib
def BQ:Value→Nat|.slice _ n _=>n|_=>0
def GK:Option Value→Nat|some v=>BQ v|none=>0
theorem IP {G B:Nat}{a w w':World}{H:Option Nat}(h:aK G B a w)(u:w.grownBy w' H)(J:∀k,H=some k→a.heap.size≤k):aK G B a w':=⟨u.os.trans h.os,u.tape.trans h.tape,u.output.trans h.output,qM h.size u.size,λk F I=>(u.block k (qe F h.size) (λe=>by have:=J k e.symm;omega)).trans (h.block k F I)⟩
structure lg (w2 w : World) (sb : Nat) (vb : Array Value) (A : OA) (q c : Nat) (vs : List Value) (bn : Nat) (rows : List (List ah)) : Prop where
 rws : aF w w2.heap.size 157 53 A q c vs rows
 chg : aK sb (sb + 1) w2 w
 good : dj bn rows
 box : aO w sb vb 109
 lt : sb < w2.heap.size
section
variable {w2 w w' : World} {sb bn q c : Nat} {vb : Array Value} {A : Option Addr} {vs : List Value} {rows : List (List ah)}
theorem lg.below (h:lg w2 w sb vb A q c vs bn rows)(k:BL w w'):lg w2 w' sb vb A q c vs bn rows:=⟨h.rws.below k,h.chg.trans (aK.of_below k),h.good,h.box.below k,h.lt⟩
theorem lg.put (h:lg w2 w sb vb A q c vs bn rows)(i:Nat)(v:Value):lg w2 (w.setCell ⟨sb,i,none⟩ v) sb (vb.setIfInBounds i v) A q c vs bn rows:=by{
 have u:=aQ (g:=sb) [v] i (aK.refl sb (sb+1) w) (by omega) (by omega);exact⟨h.rws.chg u h.rws.in_ (by have:=h.lt;omega),h.chg.trans u,h.good,h.box.set i v,h.lt⟩}
theorem lg.app {B:World}{F:OA}{G z:Nat}(h:lg w2 w sb vb A q c vs bn rows){A':OA}{c':Nat}{ys:List ah}(T:w2.heap.size≤z)(M:lz w2.heap.size z A q c vs)(H:w.ownsRow z 53 3 (.slice A' ys.length c') ys.length (fins ys))(o:Obj)(u:(w.alloc o).grownBy B (Value.slice A q c).ownBlock)(O:B.ownsRow w2.heap.size 157 1 (.slice F (q+1) G) (q+1) (vs++[.slice A' ys.length c']))(L:dj bn (rows++[ys])):lg w2 B sb vb F (q+1) G (vs++[.slice A' ys.length c']) bn (rows++[ys]):=by{
 have N:=h.lt;refine⟨h.rws.append (by decide) (an H T) (λU R b I J=>?_) o u O,IP (IP h.chg (World.grownBy_alloc w o none) (λk e=>by cases e)) u (λk e=>(h.rws.outer.lt k e).1),L,?_,N⟩
 {
 have V:=(H.lt b I).1;have W:=(M.2 U R b J).2;omega}
 {exact(h.box.below (za _ _)).grown u (λe=>by have:=(h.rws.outer.lt _ e).1;omega)}}
theorem lg.upd (h:lg w2 w sb vb A q c vs bn rows){k j g:Nat}{I:Nat}{u:List ah}(G:vs[k]?=some (.slice (some ⟨g,0,none⟩) u.length I))(F:rows[k]?=some u)(J:j<u.length)(x0 x1 x2:Int):lg w2 (((w.setCell ⟨g,j*3,none⟩ (.int .i64 x0)).setCell ⟨g,j*3+1,none⟩ (.int .i64 x1)).setCell ⟨g,j*3+2,none⟩ (.int .i64 x2)) sb vb A q c vs bn (rows.set k (u.set j (x0,x1,x2))):=by{
 obtain⟨_,_,e,H⟩:=h.rws.row k _ _ G F;have B:=vn (g:=g) [.int .i64 x0,.int .i64 x1,.int .i64 x2] (j*3) (World.grownBy.refl w (some g));have N:=(H.lt g rfl);have L:=h.lt;have M:u.length=bn:=h.good.2 u (qF F);refine⟨h.rws.upd (by decide) G F (by simp) B (by rw[List.length_set];exact xC H J x0 x1 x2),IP h.chg B (λk e=>by injection e with e;omega),h.good.set k (by simpa using M),?_,L⟩;exact h.box.grown B (λe=>by injection e with e;omega)}
end
theorem Cv {w h:World}{u:Nat}{us:Array Value}{t:TypeId}(X:aO w u us t){base e s n:Nat}{v:Value}{H:List Value}(G:w.ownsRow base e s v n H)(F:e≠t)(o:Obj)(B:(w.alloc o).grownBy h v.ownBlock):aO h u us t:=(X.below (za _ _)).grown B (λe=>nN G X F _ e rfl)
theorem lA (b s:Int)(A:OA)(n c:Nat)(I:List EntryT)(w:World)(R:bA w A n c I)(L:n≤400)(O:∀x∈I,rL x)(J:I.Pairwise λx y=>bK x y=false)(F:1≤b)(H:b≤16):Calls prog 243 #[.agg #[b,s,.slice A n c]] w (wI w b s (ia b I)):=by{
 obtain⟨bn,rfl⟩:∃bn:Nat,b=(bn:Int):=⟨b.toNat,by omega⟩;have cb:bn≤16:=by omega
 obtain⟨_,U,h,u,G,_⟩:=cI w #[(bn:Int),s,.slice A n c] #[(0:Int),(0:Int),.slice none 0 0] 32 109;have V:=hI G;have B:=hI (λw' (hb:BL w w')=>kZ (bn:Int) s A n c I w' (R.below hb) L O J F H);have N:=λ(x:EntryT) (b':x∈currF (bn:Int) I)=>fK b'
 have T:ia (bn:Int) I=iY bn [] (currF (bn:Int) I):=by unfold ia Iv;rw[qP]
 rw[T];generalize currF (bn:Int) I=l at *;have bW:=hI N;have av:=hI h;have b6:=hI u;skip;have M:=h.f3;clear G h u R L O J N T F H;go_enter func243,ntmps243;go_wp2_with fail
 rw[←U];clear U;go_wp2_with fail
 refine(B _ V).mono ?_;rintro e w2⟨_,Z,_,rfl,u,_,h⟩;have bR:=hI (aN bw (by decide) u);have a8:=hI u;have ad:=hI h;have c4:=h.size;clear u h B M;have ar:=hI (aK.of_below (lo:=w.heap.size+1) (hi:=w.heap.size+1+1) ad);have h:=hI (show lg w2 (w2.alloc (.cells #[] 157)) (w.heap.size+1) #[(0:Int),(0:Int),.slice none 0 0] (some ⟨w2.heap.size,0,none⟩) 0 0 [] bn [] from⟨aF.empty w2 w2.heap.size _ _ (qA _),aK.of_below (za _ _),dj.nil _,(b6.below ad).below (za _ _),by omega⟩);go_wp2_with fail
 go_loopw [4,5] (λr i wr=>∃(k q F:Nat) (G:OA) (vs:List Value),k≤Z∧i=.int .i64 k∧r=.slice G q F∧Hid (lg w2 wr (w.heap.size+1) #[(0:Int),(0:Int),.slice none 0 0] G q F vs bn (iY bn [] (l.take k)))) (λ_ i _=>Z-(intOf i).toNat)
 case atStart=>exact⟨0,0,0,_,[],qH _,rfl,rfl,h⟩
 case round=>(
 clear h;obtain⟨k,q,F,G,vs,hk,rfl,rfl,h⟩:=hrel;obtain⟨N,cy⟩:∃N:World,N=wr:=⟨_,rfl⟩;subst cy;have c7:=h.chg.size;have a':=hI (aE a8 h.chg (λb hb=>.inr (by have:=(a8.lt b hb).1;omega)));by_cases cq:k<Z
 {
 obtain⟨_,y0,y1,y2,R,T,y5,y6,ca,_,_,L,_,W,Y,cc,cd,cf,ch,ck,_⟩:=bU a' cq;subst ca;obtain⟨_,H,O,J,U⟩:=bW _ (qF L);have HT:=hI (sJ bn l L []);simp only[E.race,E.boat] at H O J U;obtain⟨B,rfl⟩:=aC y0 H;obtain⟨u,rfl⟩:=aC y1 J;have c1:B≤11:=by omega
 have c8:u<bn:=by omega
 clear L H O J U a';obtain⟨_,U,L,O,_⟩:=ae N #[(B:Int),(u:Int),y2,R,T,y5,y6] 25;have J:=hI L;have H:=hI (h.below O);clear L O;generalize iY bn [] (l.take k)=a7 at *;go_wp2_with fail
 rw[←U];clear U W Y cc cd cf ch ck h;go_loopw [4] (λr wr=>∃(q F:Nat) (G:OA) (vs:List Value) (rows:List (List ah)),r=.slice G q F∧Hid (lg w2 wr (w.heap.size+1) #[(0:Int),(0:Int),.slice none 0 0] G q F vs bn rows)∧Hid (h_ bn rows (B+1)=h_ bn a7 (B+1))∧Hid (aO wr N.heap.size #[(B:Int),(u:Int),y2,R,T,y5,y6] 25)) (λr _=>B+1-BQ r)
 case atStart=>exact⟨q,F,G,vs,a7,rfl,H,hI rfl,J⟩
 case round=>(
 clear H J;obtain⟨q,F,G,vs,rows,rfl,h,HP,W⟩:=hrel;obtain⟨H,cx⟩:∃H:World,H=wr:=⟨_,rfl⟩;subst cx;have cv:=h.chg.size;have M:=(av.chg (ar.trans h.chg) (.inl (by omega))).f3;have F3:=W.f7;have J:=h.rws.len;have cr:=h.good.1;rw[J] at cr;have L:=hI J;clear J;by_cases hq:q≤B
 {
 have cs:decide ((q:Int)≤B)=true:=by simp;omega
 have bo:=cG H H.heap.size 53 3 (qA _);go_wp2_with fail
 go_loopw [7,8] (λf i wr=>∃(j Y:Nat) (U:OA),j≤bn∧i=.int .i64 j∧f=.slice U j Y∧Hid (wr.ownsRow H.heap.size 53 3 (.slice U j Y) j (fins (fF j)))∧Hid (BL H wr)) (λ_ i _=>bn-(intOf i).toNat)
 case atStart=>exact⟨0,0,_,qH _,rfl,rfl,hI bo,hI (za _ _)⟩
 case round=>(
 clear bo M F3;obtain⟨j,Y,U,_,rfl,rfl,HF,J⟩:=hrel;have cw:=J.size;have M:=(av.chg (ar.trans ((h.below J).chg)) (.inl (by omega))).f3;by_cases c0:j<bn
 {
 go_wp2_with(at_builtin;refine Cs _ rfl _ _ rfl rfl (aa HF (za _ _)) rfl (heap_alloc_new _ _) (by omega) ?cB ?_;rotate_left;intro g5 c5 w5 bp O _ _)
 {
 have bO:=hI bp;have bv:=hI ((J.alloc cw _).grown O (by simp;omega) (λk hk=>(HF.lt k hk).1));clear bp O;go_roundw
 case rel=>exact⟨j+1,_,_,by omega,by go_num,rfl,hI (by rw[rg];exact bO),bv⟩
 case measure=>simp[intOf]<;>omega}
 {first|omega|(simp;omega)}}
 {
 obtain rfl:j=bn:=by omega
 have O:=hI (h.below J);have b9:=hI (W.below J);have bP:=hI h.rws.in_;go_wp2_with(at_builtin;refine yF _ rfl _ _ rfl rfl (aa O.rws.outer (za _ _)) rfl (dv _ _ _) (by omega) ?cR ?_;rotate_left;intro A6 c6 w6 bq a2;have a1:=kL j;have b2:=hI (O.app (z:=H.heap.size) (A':=U) (c':=Y) (ys:=fF j) cv bP (by rw[a1];exact HF) _ a2 (by rw[a1];exact bq) (O.good.snoc (by rw[L.out];omega)));have b7:=hI (Cv b9 O.rws.outer (by decide) _ a2);clear bq a2 a1)
 {
 have b0:=hI ((uD (b:=j) (rows:=rows) (m:=B+1) (by rw[L.out];omega)).trans HP);go_roundw
 case rel=>exact⟨_,_,_,_,_,rfl,b2,b0,b7⟩
 case measure=>simp[BQ]<;>omega}
 {first|omega|(simp;omega)}})}
 {
 have cs:decide ((q:Int)≤B)=false:=by simp;omega
 have bs:B<q:=by omega
 obtain⟨v,A2,c2,r,hv,O,_,rfl,a6⟩:=h.rws.get bs;have bt:r.length=bn:=h.good.2 r (qF O);obtain⟨_,cC,rfl,cm,cn,hu,cl,_⟩:=je h.rws.outer bs;obtain rfl:Value.slice A2 r.length c2=cC:=by rw[hv] at hu;injection hu
 obtain⟨J,z0,z1,z2,rfl,co,cp,_,_,d0,d1,d2,e0,e1,e2⟩:=sa a6 (k:=u) (by omega);have bb:=nN a6 W (by decide) J rfl;have bk:N.heap.size≠J:=Ne.symm bb;have bN:=hI (show nu bn a7 ((B:Int),(u:Int),y2,R,T,y5,y6)=rows.set B (r.set u ((u:Int),R,T)) from by{
 unfold nu;simp only[E.race,E.boat,E.code,E.time,qP];rw[←HP.out,Cr (by rw[L.out];omega),qC,O];rfl})
 have HV:=hI hv;have b1:=hI O;have b3:=hI (show u<r.length by omega);have HD:=hI (And.intro d0 (And.intro d1 d2));have HE:=hI (And.intro e0 (And.intro e1 e2));have cN:=hI bk;rw[bt] at cl;clear hv O hu a6 bt bb bk co cp cm cn d0 d1 d2 e0 e1 e2 HP L;go_wp2_with fail
 go_still_tail 16,(by kernel_rfl);change wpList _ _ _ _ _ H.drew;obtain⟨L,O⟩:∃wd:World,wd=H.drew:=⟨_,rfl⟩;have ba:BL H L:=by rw[O];exact ac _ H 1
 have d:=HD.out;have e:=HE.out;replace d:L.cell? ⟨J,u*3,none⟩=some (.int .i64 z0)∧L.cell? ⟨J,u*3+1,none⟩=some (.int .i64 z1)∧L.cell? ⟨J,u*3+2,none⟩=some (.int .i64 z2):=by rw[O];exact d
 replace e:L.frozen? ⟨J,u*3,none⟩=false∧L.frozen? ⟨J,u*3+1,none⟩=false∧L.frozen? ⟨J,u*3+2,none⟩=false:=by rw[O];exact e
 rw[←O];clear O;have O:=h.below ba;have b5:=hI (O.upd HV b1 b3 (u:Int) R T);have b4:=hI HT;obtain⟨d0,d1,d2⟩:=d;obtain⟨e0,e1,e2⟩:=e;clear O ba M F3 HD HE W h;go_wp2_with fail
 go_roundw
 case rel=>exact⟨k+1,q,F,_,vs,by omega,by go_num,rfl,hI (by rw[b4.out,bN.out];exact b5)⟩
 case measure=>simp[intOf]<;>omega})}
 {
 obtain rfl:k=Z:=by omega
 have u:l.take k=l:=qI (by rw[bR.out];exact qA _);rw[u] at h;clear u;have M:=(av.chg (ar.trans h.chg) (.inl (by omega))).f3;have B:=h.box.f3;go_wp2_with fail
 refine bodyPost_ret (v:=.agg #[(bn:Int),s,.slice G q F]) (by simp[results,results243,go_sem,B]) rfl ?_;have u:=aQ (g:=w.heap.size+1) [.int .i64 (bn:Int),.int .i64 s,.slice G q F] 0 (aK.refl (w.heap.size+1) (w.heap.size+1+1) N) (by omega) (by omega);exact⟨G,q,F,vs,rfl,(h.rws.chg u h.rws.in_ (by omega)).base' (by omega),h.good.sum cb,ao (ao (V.trans (ad.mono V.size)) h.chg (by omega) (by have:=V.size;omega)) u (by omega) (by omega)⟩})}
theorem lF (b s:Int)(A:OA)(n c:Nat)(I:List EntryT)(w:World)(T:bA w A n c I)(N:n≤400)(R:∀x∈I,rL x)(L:I.Pairwise λx y=>bK x y=false)(G:1≤b)(J:b≤16):Calls prog 81 #[.agg #[b,s,.slice A n c]] w (wI w b s (ia b I)):=by{
 obtain⟨bn,rfl⟩:∃bn:Nat,b=(bn:Int):=⟨b.toNat,by omega⟩;have ca:bn≤16:=by omega
 obtain⟨_,V,h,u,F,H,_⟩:=da w #[(bn:Int),s,.slice A n c] #[(0:Int),(0:Int),.slice none 0 0] #[(bn:Int),s,.slice none 0 0] 32 109 109;have Y:=hI H;have B:=hI (λw' (hb:BL w w')=>ld (bn:Int) s A n c I w' (T.below hb) N R L G J);have O:=λ(x:EntryT) (b9:x∈currF (bn:Int) I)=>fK b9
 have U:ia (bn:Int) I=iY bn [] (currF (bn:Int) I):=by unfold ia Iv;rw[qP]
 rw[U];generalize currF (bn:Int) I=l at *;have bR:=hI O;have av:=hI h;have b3:=hI u;have b4:=hI F;clear F;have M:=h.f3;clear H h u T N R L O U G J;go_enter func81,ntmps81;go_wp2_with fail
 rw[←V];clear V;go_wp2_with fail
 refine(B _ Y).mono ?_;rintro e w2⟨_,nL,_,rfl,u,_,h⟩;have bP:=hI (aN bw (by decide) u);have a7:=hI u;have ar:=hI h;have c1:=h.size;clear u h B M;have Z:=hI (aK.of_below (lo:=w.heap.size+1+1) (hi:=w.heap.size+1+1+1) ar);have h:=hI (show lg w2 w2 (w.heap.size+1+1) #[(bn:Int),s,.slice none 0 0] none 0 0 [] bn [] from⟨aF.nil _ _ _ _,aK.refl _ _ _,dj.nil _,b4.below ar,by omega⟩);go_wp2_with fail
 go_loopw [16] (λi wr=>∃(k q F:Nat) (G:OA) (vs:List Value),k≤nL∧i=.int .i64 k∧Hid (lg w2 wr (w.heap.size+1+1) #[(bn:Int),s,.slice G q F] G q F vs bn (iY bn [] (l.take k)))) (λi _=>nL-(intOf i).toNat)
 case atStart=>exact⟨0,0,0,none,[],qH _,rfl,h⟩
 case round=>(
 clear h;obtain⟨k,q,F,G,vs,hk,rfl,h⟩:=hrel;obtain⟨O,cx⟩:∃O:World,O=wr:=⟨_,rfl⟩;subst cx;have c4:=h.chg.size;have a8:=hI (aE a7 h.chg (λb hb=>.inr (by have:=(a7.lt b hb).1;omega)));by_cases cp:k<nL
 {
 obtain⟨_,y0,y1,y2,U,V,y5,y6,b',_,_,L,_,T,W,cb,cc,cd,cf,ch,_⟩:=bU a8 cp;subst b';obtain⟨_,H,N,J,R⟩:=bR _ (qF L);have HT:=hI (sJ bn l L []);simp only[E.race,E.boat] at H N J R;obtain⟨B,rfl⟩:=aC y0 H;obtain⟨u,rfl⟩:=aC y1 J;have c0:B≤11:=by omega
 have c7:u<bn:=by omega
 clear L H N J R a8;obtain⟨_,R,L,N,_⟩:=ae O #[(B:Int),(u:Int),y2,U,V,y5,y6] 25;have J:=hI L;have H:=hI (h.below N);clear L N;generalize iY bn [] (l.take k)=a6 at *;have N:=h.box.f3;go_wp2_with fail
 rw[←R];clear R T W cb cc cd cf ch N h;go_loopw [6] (λf wr=>∃(q F:Nat) (G:OA) (vs:List Value) (rows:List (List ah)),Hid (lg w2 wr (w.heap.size+1+1) #[(bn:Int),s,.slice G q F] G q F vs bn rows)∧Hid (h_ bn rows (B+1)=h_ bn a6 (B+1))∧Hid (aO wr O.heap.size #[(B:Int),(u:Int),y2,U,V,y5,y6] 25)) (λ_ L=>B+1-GK (L.cell? ⟨w.heap.size+1+1,2,none⟩))
 case atStart=>exact⟨q,F,G,vs,a6,H,hI rfl,J⟩
 case round=>(
 clear H J;obtain⟨q,F,G,vs,rows,h,HP,ad⟩:=hrel;obtain⟨H,cw⟩:∃H:World,H=wr:=⟨_,rfl⟩;subst cw;have cs:=h.chg.size;have M:=(av.chg (Z.trans h.chg) (.inl (by omega))).f3;have F3:=ad.f7;have J:=h.rws.len;have cq:=h.good.1;rw[J] at cq;have T:=hI J;clear J;have N:=h.box.f3;by_cases hq:q≤B
 {
 have cr:decide ((q:Int)≤B)=true:=by simp;omega
 have bo:=cG H H.heap.size 53 3 (qA _);go_wp2_with fail
 go_loopw [6,29] (λf i wr=>∃(j c3:Nat) (W:OA),j≤bn∧i=.int .i64 j∧f=.slice W j c3∧Hid (wr.ownsRow H.heap.size 53 3 (.slice W j c3) j (fins (fF j)))∧Hid (BL H wr)) (λ_ i _=>bn-(intOf i).toNat)
 case atStart=>exact⟨0,0,_,qH _,rfl,rfl,hI bo,hI (za _ _)⟩
 case round=>(
 clear bo M F3 N;obtain⟨j,c3,W,_,rfl,rfl,HF,J⟩:=hrel;have cv:=J.size;have M:=(av.chg (Z.trans ((h.below J).chg)) (.inl (by omega))).f3;by_cases cN:j<bn
 {
 go_wp2_with(at_builtin;refine Cs _ rfl _ _ rfl rfl (aa HF (za _ _)) rfl (heap_alloc_new _ _) (by omega) ?cB ?_;rotate_left;intro g5 c5 w5 R L _ _)
 {
 have bN:=hI R;have bt:=hI ((J.alloc cv _).grown L (by simp;omega) (λk hk=>(HF.lt k hk).1));clear R L;go_roundw
 case rel=>exact⟨j+1,_,_,by omega,by go_num,rfl,hI (by rw[rg];exact bN),bt⟩
 case measure=>simp[intOf]<;>omega}
 {first|omega|(simp;omega)}}
 {
 obtain rfl:j=bn:=by omega
 have L:=hI (h.below J);have b7:=hI (ad.below J);have bO:=hI h.rws.in_;have N:=L.box.f3;go_wp2_with(at_builtin;refine yF _ rfl _ _ rfl rfl (aa L.rws.outer (za _ _)) rfl (dv _ _ _) (by omega) ?cR ?_;rotate_left;intro A6 c6 w6 bp a1;have R:=kL j;have a':=hI (L.app (z:=H.heap.size) (A':=W) (c':=c3) (ys:=fF j) cs bO (by rw[R];exact HF) _ a1 (by rw[R];exact bp) (L.good.snoc (by rw[T.out];omega)));have b5:=hI (Cv b7 L.rws.outer (by decide) _ a1);clear bp a1 R;have R:=a'.box.f3)
 {
 have bW:=hI ((uD (b:=j) (rows:=rows) (m:=B+1) (by rw[T.out];omega)).trans HP);have R:=hI (a'.put 2 (.slice A6 (q+1) c6));have b6:=hI (b5.other (c:=w.heap.size+1+1) (i:=2) (by omega) (.slice A6 (q+1) c6));go_roundw
 case rel=>exact⟨_,_,_,_,_,by simpa using R,bW,b6⟩
 case measure=>(have M1:=h.box.cell (i:=2) rfl;have M2:=R.box.cell (i:=2) rfl;rw[M1,M2];simp[GK,BQ];omega)}
 {first|omega|(simp;omega)}})}
 {
 have cr:decide ((q:Int)≤B)=false:=by simp;omega
 have bq:B<q:=by omega
 obtain⟨v,A2,c2,r,hv,L,_,rfl,a2⟩:=h.rws.get bq;have bs:r.length=bn:=h.good.2 r (qF L);obtain⟨_,cy,rfl,cl,cm,hu,ck,_⟩:=je h.rws.outer bq;obtain rfl:Value.slice A2 r.length c2=cy:=by rw[hv] at hu;injection hu
 obtain⟨J,z0,z1,z2,rfl,cn,co,_,_,d0,d1,d2,e0,e1,e2⟩:=sa a2 (k:=u) (by omega);have bb:=nN a2 ad (by decide) J rfl;have bk:O.heap.size≠J:=Ne.symm bb;have bv:=hI (show nu bn a6 ((B:Int),(u:Int),y2,U,V,y5,y6)=rows.set B (r.set u ((u:Int),U,V)) from by{
 unfold nu;simp only[E.race,E.boat,E.code,E.time,qP];rw[←HP.out,Cr (by rw[T.out];omega),qC,L];rfl})
 have HV:=hI hv;have b0:=hI L;have b1:=hI (show u<r.length by omega);have HD:=hI (And.intro d0 (And.intro d1 d2));have HE:=hI (And.intro e0 (And.intro e1 e2));have cC:=hI bk;rw[bs] at ck;clear hv L hu a2 bs bb bk cn co cl cm d0 d1 d2 e0 e1 e2 HP T;go_wp2_with fail
 go_still_tail 17,(by kernel_rfl);change wpList _ _ _ _ _ H.drew;obtain⟨L,T⟩:∃wd:World,wd=H.drew:=⟨_,rfl⟩;have ba:BL H L:=by rw[T];exact ac _ H 1
 have d:=HD.out;have e:=HE.out;replace d:L.cell? ⟨J,u*3,none⟩=some (.int .i64 z0)∧L.cell? ⟨J,u*3+1,none⟩=some (.int .i64 z1)∧L.cell? ⟨J,u*3+2,none⟩=some (.int .i64 z2):=by rw[T];exact d
 replace e:L.frozen? ⟨J,u*3,none⟩=false∧L.frozen? ⟨J,u*3+1,none⟩=false∧L.frozen? ⟨J,u*3+2,none⟩=false:=by rw[T];exact e
 rw[←T];clear T;have R:=h.below ba;have b2:=hI (R.upd HV b0 b1 (u:Int) U V);have T:=hI HT;obtain⟨d0,d1,d2⟩:=d;obtain⟨e0,e1,e2⟩:=e;clear R ba M F3 HD HE ad h N;go_wp2_with fail
 go_roundw
 case rel=>exact⟨k+1,q,F,_,vs,by omega,by go_num,hI (by rw[T.out,bv.out];exact b2)⟩
 case measure=>simp[intOf]<;>omega})}
 {
 obtain rfl:k=nL:=by omega
 have u:l.take k=l:=qI (by rw[bP.out];exact qA _);rw[u] at h;clear u;have M:=(av.chg (Z.trans h.chg) (.inl (by omega))).f3;have B:=(b3.chg (Z.trans h.chg) (.inl (by omega))).f3;have N:=h.box.f3;go_wp2_with fail
 refine bodyPost_ret (v:=.agg #[(bn:Int),s,.slice G q F]) (by simp[results,results81,go_sem,B]) rfl ?_;have u:=aQ (g:=w.heap.size+1) [.int .i64 (bn:Int),.int .i64 s,.slice G q F] 0 (aK.refl (w.heap.size+1) (w.heap.size+1+1) O) (by omega) (by omega);exact⟨G,q,F,vs,rfl,(h.rws.chg u h.rws.in_ (by omega)).base' (by omega),h.good.sum ca,ao (ao (Y.trans (ar.mono Y.size)) h.chg (by omega) (by have:=Y.size;omega)) u (by omega) (by omega)⟩})}
end
end Go.Proofs.YtnpldahkhaacnaaGreatDoor

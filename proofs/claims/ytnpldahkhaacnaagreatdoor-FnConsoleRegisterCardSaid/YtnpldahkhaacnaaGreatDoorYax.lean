/- Texts of the walk: Ve Yd Ye Js Vg. -/
import Derived.Test.YtnpldahkhaacnaaGreatDoorYak
import Derived.Test.YtnpldahkhaacnaaGreatDoorYav
import Derived.Test.YtnpldahkhaacnaaGreatDoorYaw
set_option linter.unusedVariables false
set_option linter.unusedSimpArgs false
set_option maxRecDepth 100000
set_option maxHeartbeats 32000000
namespace Go.Proofs.YtnpldahkhaacnaaGreatDoor
open Go.RowKit Go.Sort Go.Proofs.Tryz
theorem ab {w u:World}{b i:Nat}{v:Value}(h:w.cell? ⟨b,i,none⟩=some v)(k:BL w u):u.cell? ⟨b,i,none⟩=some v:=(k.cell (p:=⟨b,i,none⟩) (au h)).trans h
theorem al (l m:LB):((ag l).toList==m)=(l==m):=by rw[ByteArray.toList_eq,aw]
def Iq (h:Bool) (b s:Int) (A:OA) (n c:Nat):Array Value:=#[.bool h,b,s,.slice A n c,.slice none 0 0]
theorem uG (s:ByteArray)(w:World):Calls prog 105 #[.string s,(0:Int)] w λe h=>e=.returned (.string s)∧h=w:=by{
 go_enter func105,ntmps105;go_wp2_with fail
 go_ret;exact⟨rfl,rfl⟩}
theorem aO.f5 {w:World}{b:Nat}{t:TypeId}{u B F G H:Value}(h:aO w b #[u,B,F,G,H] t):w.cell? ⟨b,0,none⟩=some u∧w.cell? ⟨b,1,none⟩=some B∧w.cell? ⟨b,2,none⟩=some F∧w.cell? ⟨b,3,none⟩=some G∧w.cell? ⟨b,4,none⟩=some H∧w.frozen? ⟨b,0,none⟩=false∧w.frozen? ⟨b,1,none⟩=false∧w.frozen? ⟨b,2,none⟩=false∧w.frozen? ⟨b,3,none⟩=false∧w.frozen? ⟨b,4,none⟩=false∧b<w.heap.size:=⟨h.cell rfl,h.cell rfl,h.cell rfl,h.cell rfl,h.cell rfl,h.fz,h.fz,h.fz,h.fz,h.fz,h.lt⟩
section
variable {ops : Array Oper} {rest : List Oper} {o : Oper} {a : Act} {Q : Exit → Act → World → Prop}
theorem wZ (w:World)(J:o.guard=none)(s x:Operand)(M:o.op=.call { callee:=.builtin .append,args:=#[s,x],argTypes:=#[111,111] }){base n c:Nat}{A:OA}{h:List gz}(O:a.eval s=.slice A n c)(N:w.ownsRow base 114 4 (.slice A n c) n (rH h)){b:Nat}{x0 x1 x2 x3:Int}(T:a.eval x=.slice (some ⟨b,0,none⟩) 1 1)(hc:w.heap[b]?=some (.cells #[x0,x1,x2,x3] 114 (0,0)))(V:n≤1099511627776)(I:base≤w.heap.size)(G:∀g B w',w'.ownsRow base 114 4 (.slice (some ⟨g,0,none⟩) (n+1) B) (n+1) (rH (h++[(x0,x1,x2,x3)]))→w.grownBy w' (Value.slice A n c).ownBlock→((Value.slice A n c).ownBlock=some g∨g=w.heap.size)→g<w'.heap.size→wpList prog ops Q rest (a.put o.dst (.slice (some ⟨g,0,none⟩) (n+1) B)) w'):wpList prog ops Q (o::rest) a w:=by{
 obtain⟨i,L,U,R,H⟩:=info_parts Eu;have e:∀(u:List gz),rH u++[.int .i64 x0,.int .i64 x1,.int .i64 x2,.int .i64 x3]=rH (u++[(x0,x1,x2,x3)]):=λu=>by unfold rH;rw[List.flatMap_append];rfl
 exact wpList_append_lies w J s x 111 M base 114 i (.agg #[(0:Int),(0:Int),(0:Int),(0:Int)]) 4 32 underlying111 L U R H rfl (by decide) (.slice A n c) n (rH h) O N ⟨b,0,none⟩ 1 1 [.int .i64 x0,.int .i64 x1,.int .i64 x2,.int .i64 x3] T rfl (World.news_of_block (cs:=#[x0,x1,x2,x3]) hc) (by intro W F;simp at F;rcases F with rfl|rfl|rfl|rfl<;>rfl) (by decide) (by unfold maxLen;omega) (by omega) I _ rfl (by rw[e];exact G)}
end
theorem ti (w:World)(base e s:Nat)(h:base≤w.heap.size){z:Nat}(u:z=w.heap.size):(w.alloc (.cells #[] e)).ownsRow base e s (.slice (some ⟨z,0,none⟩) 0 0) 0 []:=by{subst u;exact cG w base e s h}
theorem uV {b s:Int}{H:List EntryT}(I:cE b s H){x:EntryT}(M:x∈currF b H):0≤E.boat x∧E.boat x<b∧(E.kind x=0∨E.kind x=1∨E.kind x=2∨E.kind x=3):=by{
 obtain⟨L,_,_,h,J⟩:=fK M;refine⟨h,J,?_⟩;have u:=(I.ent x L).1;unfold fT at u;rw[Bool.and_eq_true] at u;have F:=u.2;by_cases G:E.kind x=0
 {exact .inl G}
 {
 rw[if_neg G,Bool.and_eq_true] at F;have B:=F.2;unfold iW at B;by_cases h:E.kind x=3
 {exact .inr (.inr (.inr h))}
 {
 rw[if_neg h,Bool.and_eq_true] at B;have:=ai.1 B.1;right;omega}}}
theorem GX {t:Tb}{x:EntryT}(B:E.kind x≠0):jc t x=(gh t (Aa x)).2:=by{
 unfold jc gh Aa;have u:(E.kind x==0)=false:=by simp[B]
 simp only;by_cases h:E.kind x=3
 {rw[if_pos h,u,h];rfl}
 {
 have F:(E.kind x==3)=false:=by simp[h]
 rw[if_neg h,u,F];rfl}}
theorem Hq {t:Tb}{x:EntryT}(h:E.kind x≠0):jc t x=((iA t (E.race x) (E.boat x) (E.kind x)).2||(E.kind x==3)):=by{
 unfold jc;have u:(E.kind x==0)=false:=by simp[h]
 rw[u,Bool.or_comm];rfl}
theorem cQ (b s:Int)(A:OA)(n c:Nat)(B:List EntryT)(h:cE b s B)(w:World)(H:bA w A n c B):Calls prog 51 #[.agg #[b,s,.slice A n c]] w (oY w (tabR b s B)):=by{
 have b3:n≤400:=by have:=h.len;have:=H.1.len_ent;omega
 have hs:s=0∨s=1:=by have:=h.s0;have:=h.s1;omega
 have R:=hI (λw' (J:BL w w')=>lF b s A n c B w' (H.below J) b3 h.okE h.key h.b1 h.b2);have bq:=hI (λw' (J:BL w w')=>ld b s A n c B w' (H.below J) b3 h.okE h.key h.b1 h.b2);have T:=hI (show ∀A n c G,dx G A n (ia b B)→Calls prog 80 #[.agg #[b,s,.slice A n c]] G (oY G (lk b s B)) from λA n c G W=>rG b s A n c (ia b B) h.b1 h.b2 hs (ma b B) (vd h) G W);have M:=vE h;have b7:=wR h;have L:=λx (O:x∈currF b B)=>uV h O
 have b0:(lk b s B).boats=b:=rfl;unfold tabR;generalize lk b s B=t at *;generalize currF b B=F at *;rw[←b0] at L;have ch:=hI L;have cc:=hI (λP n c C m d A l u G W I=>pk P n c C m d t A l u (bT t F) M b7 G W I);have co:=hI (λP n c C m d x0 (u:Nat) x2 x3 hk (J:(u:Int)<t.boats) G W=>jA P n c C m d t x0 u x2 x3 hk M J G W);obtain⟨w1,cb,I,Z,Y,cB⟩:=cI w #[b,s,.slice A n c] #[(0:Int),.slice none 0 0,.slice none 0 0] 32 76;have bk:=hI Y;have U:=hI I;have V:=hI Z;have d2:w.heap.size+1<w1.heap.size:=by omega
 have N:=I.f3;clear Y I Z cB H M b7 L h b0;go_enter func51,ntmps51;go_wp2_with fail
 rw[←cb];clear cb;refine(R _ bk).mono ?_;rintro e w2⟨A2,n2,c2,_,rfl,I,_,h⟩;have cd:=zb bk h;have H:=hI I.rd;replace U:=hI (U.below h);replace V:=hI (V.below h);have d4:=h.size;clear h I R N;go_wp2_with fail
 refine(T A2 n2 c2 w2 H).mono ?_;rintro e I⟨P,n3,c3,_,C,m3,d3,_,rfl,L,_,h⟩;have ad:=zb cd h;have bN:=hI L.rd;replace U:=hI (U.below h);replace V:=hI (V.below h);have d5:=h.size;clear h L T H;obtain⟨we,L,T,b9⟩:=aH I #[] 114;have M:=ti I I.heap.size 114 4 (qA _) rfl;rw[←L] at M;obtain⟨_,Z,XT,R,cC⟩:=ae we #[t.boats,.slice P n3 c3,.slice C m3 d3] 76;have h:=hI (T.trans (R.mono T.size));have M:=aa M R;have N:=(U.below h).f3;have d6:=h.size;have b':we.heap.size=I.heap.size+1:=b9;have H:=hI XT;clear T R XT;simp only;rw[Z,L] at N;go_wp2_with fail
 rw[←L];(try rw[←b']);rw[←Z];clear L Z;refine(bq _ (ad.trans (h.mono ad.size))).mono ?_;rintro e w5⟨A5,L,c5,rfl,b5,_,R⟩;have bW:=aa M R;have Z:=zb h R;replace H:=hI (H.below R);have T:=hI b5;clear R b5 M h N bq;have R:∃R,R=we.heap.size:=⟨_,rfl⟩;obtain⟨R,h⟩:=R;rw[←h] at H;(try rw[←h]);have d1:I.heap.size<R:=by omega
 have HZ:=hI h;clear h b' b9 cC;have bv:=hI bW;clear bW;have cm:=hI (aN bw (by decide) T);(try go_wp2_with fail);go_loopw [4,17] (λv i wr=>∃(k h N:Nat) (M:OA),k≤L∧h≤k∧i=.int .i64 k∧v=.slice M h N∧Hid (wr.ownsRow I.heap.size 114 4 (.slice M h N) h (rH (bT t (F.take k))))∧Hid (wr.ownsRow I.heap.size 25 7 (.slice A5 L c5) L (ents F))∧Hid (aO wr R #[t.boats,.slice P n3 c3,.slice C m3 d3] 76)∧Hid (BL I wr)) (λ_ i _=>L-(intOf i).toNat)
 case atStart=>exact⟨0,0,0,_,qH _,qA _,rfl,rfl,bv,hI (an T (by omega)),H,Z⟩
 case round=>(
 clear bv T H Z;obtain⟨k,h,N,M,hk,_,rfl,rfl,HO,HE,HT,T⟩:=hrel;obtain⟨wo,c7⟩:∃wo:World,wo=wr:=⟨_,rfl⟩;subst c7;have cL:=T.size;by_cases cy:k<L
 {
 obtain⟨g5,x0,x1,x2,x3,x4,x5,x6,rfl,_,_,O,_,c0,c1,cr,cs,c4,cv,c6,_⟩:=bU HE cy;have b4:=qF O;obtain⟨Z,Y,cx⟩:=ch _ b4;simp only[E.boat,E.kind] at Z Y cx;obtain⟨u,rfl⟩:=aC x1 Z;have H:=hI (show bT t (F.take (k+1))=if jc t (x0,(u:Int),x2,x3,x4,x5,x6)=true then bT t (F.take k)++[(x0,(u:Int),x5,x6)] else bT t (F.take k) from by rw[am O];exact rk _ _ _);clear O b4 Z;obtain⟨wa,Z,XE,XX,O,_⟩:=cI wo #[x0,(u:Int),x2,x3,x4,x5,x6] #[x0,(u:Int),x5,x6] 25 114;have bO:=hI (aa HO O);have bs:=hI (aa HE O);have a8:=hI (HT.below O);have av:=hI (T.trans (O.mono cL));have cq:=hI XX;have FX:=XX.f4;clear O XE XX;by_cases e5:x5=0
 {
 subst e5;have O:=hI (show jc t (x0,(u:Int),x2,x3,x4,0,x6)=false from rfl);go_wp2_with fail
 rw[←Z];clear Z;(try go_wp2_with fail);go_roundw
 case rel=>exact⟨k+1,h,N,M,by omega,by omega,by go_num,rfl,hI (by rw[H.out,O.out,if_neg (by decide)];exact bO),bs,a8,av⟩
 case measure=>simp[intOf]<;>omega}
 {
 have dq:(x5==0)=false:=by simp[e5]
 have a6:=hI (show jc t (x0,(u:Int),x2,x3,x4,x5,x6)=(gh t (x0,(u:Int),x5,x6)).2 from GX (t:=t) (x:=(x0,(u:Int),x2,x3,x4,x5,x6)) e5);have cw:x5=1∨x5=2∨x5=3:=by omega
 have FT:=a8.f3;rw[Z] at FT;have bR:=hI (bN.below av);go_wp2_with fail
 rw[←Z];clear Z c0 c1 cr cs c4 cv c6;(try go_wp2_with fail);refine(co P n3 c3 C m3 d3 x0 u x5 x6 cw Y wa bR).mono ?_;rintro e wq⟨rfl,O⟩;have Z:=hI (aa bO O);have a2:=hI (aa bs O);have a':=hI (a8.below O);have a1:=zb av O;have cR:=a1.size;have FX:=(cq.below O).f4;clear O FT bR;simp only;rw[a6.out] at H
 cases O:(gh t (x0,(u:Int),x5,x6)).2 with
 | false=>{
 rw[O] at H;have a7:=hI (show bT t (F.take (k+1))=bT t (F.take k) from by have:=H.out;simpa using this);clear O a6 H;go_wp2_with fail
 go_roundw
 case rel=>exact⟨k+1,h,N,M,by omega,by omega,by go_num,rfl,hI (by rw[a7.out];exact Z),a2,a',a1⟩
 case measure=>simp[intOf]<;>omega}
 | true=>{
 rw[O] at H;have a7:=hI (show bT t (F.take (k+1))=bT t (F.take k)++[(x0,(u:Int),x5,x6)] from by have:=H.out;simpa using this);clear O a6 H;go_wp2_with(at_builtin;refine wZ (x0:=x0) (x1:=(u:Int)) (x2:=x5) (x3:=x6) _ rfl _ _ rfl rfl (aa Z (za _ _)) rfl (heap_alloc_new _ _) (by omega) ?cB1 ?_;rotate_left;intro H O w9 b6 ar _ _)
 {
 have cn:=hI b6;have H:BL wq (wq.alloc (.cells #[x0,(u:Int),x5,x6] 114)):=(qB _ _).alloc (qA _) _;have bP:=hI (aa Z H);have cp:=hI ((a'.below H).grown ar (ay bP (a'.below H) (by decide)));have ck:=hI ((aa a2 H).kept ar (by{
 rcases J:(Value.slice (some ⟨g5,0,none⟩) L c5).ownBlock with _|q
 {exact .inl rfl}
 {exact .inr (λhe=>aJ bP (aa a2 H) (by decide) q he.symm J)}}))
 have cf:=hI ((a1.alloc cR _).grown ar (by simp;omega) (λq hq=>(Z.lt q hq).1));clear b6 ar;go_roundw
 case rel=>exact⟨k+1,h+1,_,_,by omega,by omega,by go_num,rfl,hI (by rw[a7.out];exact cn),ck,cp,cf⟩
 case measure=>simp[intOf]<;>omega}
 {first|omega|(simp;omega)}}}}
 {
 obtain rfl:k=L:=by omega
 have H:=HO.out;rw[qI (by rw[cm.out];exact qA _)] at H;have bb:=hI (cc P n3 c3 C m3 d3 M h N wo (bN.below T) (az H));have FT:=HT.f3;have F1:=V.below T;have bp:=hI (ad.trans (T.mono ad.size));clear H HO HE;go_wp2_with fail
 refine bb.mono ?_;rintro e w9⟨P9,n9,O,dc,Z,m9,d9,c8,rfl,ba,ca,H⟩;have F9:=(F1.below H).f3;have bo:=zb bp H;have dA:=bp.size;have d0:=H.size;clear H FT F1 bb;simp only at ba ca ⊢;go_wp2_with fail
 refine bodyPost_ret (v:=.agg #[.int .i64 (iK t (bT t F)).boats,.slice P9 n9 O,.slice Z m9 d9]) (by simp[results,results51,go_sem,F9]) rfl ?_;have H:=aQ (g:=w.heap.size+1) [.int .i64 (iK t (bT t F)).boats,.slice P9 n9 O,.slice Z m9 d9] 0 (aK.refl (w.heap.size+1) (w.heap.size+1+1) w9) (by omega) (by omega);have cN:=(ba.chg H ba.in_ (.inr (by omega))).base' (show w.heap.size≤wo.heap.size by omega);exact⟨P9,n9,O,dc,Z,m9,d9,c8,rfl,cN,ca,ao bo H (by omega) (by have:=bo.size;omega)⟩})}
theorem lG (b s:Int)(A:OA)(n c:Nat)(F:List EntryT)(u:cE b s F)(w:World)(G:bA w A n c F):Calls prog 237 #[.agg #[b,s,.slice A n c]] w (oY w (tabR b s F)):=by{
 have b3:n≤400:=by have:=u.len;have:=G.1.len_ent;omega
 have hs:s=0∨s=1:=by have:=u.s0;have:=u.s1;omega
 have R:=hI (λw' (J:BL w w')=>lA b s A n c F w' (G.below J) b3 u.okE u.key u.b1 u.b2);have Y:=hI (λw' (J:BL w w')=>kZ b s A n c F w' (G.below J) b3 u.okE u.key u.b1 u.b2);have T:=hI (show ∀A n c I,dx I A n (ia b F)→Calls prog 281 #[.agg #[b,s,.slice A n c]] I (ke I (lk b s F,0)) from λA n c I av=>ru b s A n c (ia b F) u.b1 u.b2 hs (ma b F) (vd u) I av);have O:=vE u;have W:=wR u;have N:=λx (L:x∈currF b F)=>uV u L
 have V:(lk b s F).boats=b:=rfl;unfold tabR;generalize lk b s F=t at *;generalize currF b F=B at *;rw[←V] at N;have b9:=hI N;have b6:=hI (λP n c C m d A l h I av H=>vL P n c C m d t A l h (bT t B) O W I av H);have ca:=hI (λP n c C m d x0 (h:Nat) x2 (J:(h:Int)<t.boats) I av=>q_ P n c C m d t x0 h x2 O J I av);obtain⟨w1,Z,M,U,a1,ck⟩:=cI w #[b,s,.slice A n c] #[(0:Int),.slice none 0 0,.slice none 0 0] 32 76;have bv:=hI a1;have ad:=hI M;have ar:=hI U;have cC:w.heap.size+1<w1.heap.size:=by omega
 have H:=M.f3;clear a1 M U ck G O W N u V;go_enter func237,ntmps237;go_wp2_with fail
 rw[←Z];clear Z;refine(R _ bv).mono ?_;rintro e w2⟨A2,n2,c2,_,rfl,M,_,u⟩;have b7:=zb bv u;have G:=hI M.rd;replace ad:=hI (ad.below u);replace ar:=hI (ar.below u);have cL:=u.size;clear u M R H;go_wp2_with fail
 refine(T A2 n2 c2 w2 G).mono ?_;rintro e O⟨P,n3,c3,_,C,m3,d3,_,rfl,M,_,u⟩;have a7:=zb b7 u;have bW:=hI M.rd;replace ad:=hI (ad.below u);replace ar:=hI (ar.below u);have cN:=u.size;clear u M T G;obtain⟨_,M,N,R,cm⟩:=ae O #[t.boats,.slice P n3 c3,.slice C m3 d3] 76;have G:=hI R;have H:=(ad.below G).f3;have cR:=G.size;have u:=hI N;clear R N;simp only;rw[M] at H;go_wp2_with fail
 rw[←M];clear M;refine(Y _ (a7.trans (G.mono a7.size))).mono ?_;rintro e wc⟨A5,M,c5,rfl,Z,_,R⟩;have bO:=zb G R;replace u:=hI (u.below R);have cq:=bO.size;obtain⟨_,V,N,cn⟩:=aH wc #[] 114;have T:=ti wc O.heap.size 114 4 cq rfl;rw[←V] at T;have W:=zb bO N;replace u:=hI (u.below N);have U:=hI (aa Z N);clear R Z N G H Y;go_wp2_with fail
 rw[←V];clear V;obtain⟨tb,G⟩:∃tb,tb=O.heap.size:=⟨_,rfl⟩;rw[←G] at u;rw[←G];have cB:O.heap.size≤tb:=by omega
 have HZ:=hI G;clear G cn cm;have G:=hI T;clear T;have b':=hI (aN bw (by decide) U);(try go_wp2_with fail);go_loopw [6,7] (λv i wr=>∃(k H T:Nat) (R:OA),k≤M∧H≤k∧i=.int .i64 k∧v=.slice R H T∧Hid (wr.ownsRow O.heap.size 114 4 (.slice R H T) H (rH (bT t (B.take k))))∧Hid (wr.ownsRow O.heap.size 25 7 (.slice A5 M c5) M (ents B))∧Hid (aO wr tb #[t.boats,.slice P n3 c3,.slice C m3 d3] 76)∧Hid (BL O wr)) (λ_ i _=>M-(intOf i).toNat)
 case atStart=>exact⟨0,0,0,_,qH _,qA _,rfl,rfl,G,hI (an U (by omega)),u,W⟩
 case round=>(
 clear G U u W;obtain⟨k,H,T,R,_,_,rfl,rfl,HO,HE,HT,U⟩:=hrel;obtain⟨wo,cp⟩:∃wo:World,wo=wr:=⟨_,rfl⟩;subst cp;have co:=U.size;by_cases ch:k<M
 {
 obtain⟨g5,x0,x1,x2,x3,x4,x5,x6,rfl,_,_,L,_,V,Y,Z,cc,c4,cd,c6,_⟩:=bU HE ch;have N:=qF L;obtain⟨G,a1,cf⟩:=b9 _ N;simp only[E.boat,E.kind] at G a1 cf;obtain⟨h,rfl⟩:=aC x1 G;have u:=hI (show bT t (B.take (k+1))=if jc t (x0,(h:Int),x2,x3,x4,x5,x6)=true then bT t (B.take k)++[(x0,(h:Int),x5,x6)] else bT t (B.take k) from by rw[am L];exact rk _ _ _);clear L N G;obtain⟨wa,L,N,G,_⟩:=ae wo #[x0,(h:Int),x2,x3,x4,x5,x6] 25;have b0:=hI (aa HO G);have bR:=hI (aa HE G);have bp:=hI (HT.below G);have ba:=hI (U.trans (G.mono co));have cb:=hI N;have FX:=N.f7;clear G N;by_cases e5:x5=0
 {
 subst e5;have G:=hI (show jc t (x0,(h:Int),x2,x3,x4,0,x6)=false from rfl);go_wp2_with fail
 rw[←L];clear L;(try go_wp2_with fail);go_roundw
 case rel=>exact⟨k+1,H,T,R,by omega,by omega,by go_num,rfl,hI (by rw[u.out,G.out,if_neg (by decide)];exact b0),bR,bp,ba⟩
 case measure=>simp[intOf]<;>omega}
 {
 have cv:(x5==0)=false:=by simp[e5]
 have a':=hI (show jc t (x0,(h:Int),x2,x3,x4,x5,x6)=((iA t x0 (h:Int) x5).2||(x5==3)) from Hq (t:=t) (x:=(x0,(h:Int),x2,x3,x4,x5,x6)) e5);have cw:x5=1∨x5=2∨x5=3:=by omega
 have FT:=bp.f3;rw[L] at FT;have W:=hI (bW.below ba);go_wp2_with fail
 rw[←L];clear L V Y Z cc c4 cd c6;(try go_wp2_with fail);refine(ca P n3 c3 C m3 d3 x0 h x5 a1 wa W).mono ?_;rintro e wq⟨rfl,G⟩;have N:=hI (aa b0 G);have V:=hI (aa bR G);have Z:=hI (bp.below G);have a8:=zb ba G;have b4:=a8.size;have FX:=(cb.below G).f7;clear G FT W;simp only;rw[a'.out] at u
 cases a2:(iA t x0 (h:Int) x5).2 with
 | true=>{
 rw[a2] at u;have Y:=hI (show bT t (B.take (k+1))=bT t (B.take k)++[(x0,(h:Int),x5,x6)] from by have:=u.out;simpa using this);clear a2 a' u;go_wp2_with(at_builtin;refine wZ (x0:=x0) (x1:=(h:Int)) (x2:=x5) (x3:=x6) _ rfl _ _ rfl rfl (aa N (za _ _)) rfl (heap_alloc_new _ _) (by omega) ?cB1 ?_;rotate_left;intro g9 c9 w9 a6 L _ _)
 {
 have bo:=hI a6;have G:BL wq (wq.alloc (.cells #[x0,(h:Int),x5,x6] 114)):=(qB _ _).alloc (qA _) _;have W:=hI (aa N G);have bq:=hI ((Z.below G).grown L (ay W (Z.below G) (by decide)));have bk:=hI ((aa V G).kept L (by{
 rcases J:(Value.slice (some ⟨g5,0,none⟩) M c5).ownBlock with _|q
 {exact .inl rfl}
 {exact .inr (λhe=>aJ W (aa V G) (by decide) q he.symm J)}}))
 have bb:=hI ((a8.alloc b4 _).grown L (by simp;omega) (λq hq=>(N.lt q hq).1));clear a6 L;go_roundw
 case rel=>exact⟨k+1,H+1,_,_,by omega,by omega,by go_num,rfl,hI (by rw[Y.out];exact bo),bk,bq,bb⟩
 case measure=>simp[intOf]<;>omega}
 {first|omega|(simp;omega)}}
 | false=>{
 rw[a2] at u;by_cases e3:x5=3
 {
 subst e3;have Y:=hI (show bT t (B.take (k+1))=bT t (B.take k)++[(x0,(h:Int),3,x6)] from by have:=u.out;simpa using this);clear a2 a' u;go_wp2_with(at_builtin;refine wZ (x0:=x0) (x1:=(h:Int)) (x2:=3) (x3:=x6) _ rfl _ _ rfl rfl (aa N (za _ _)) rfl (heap_alloc_new _ _) (by omega) ?cB2 ?_;rotate_left;intro g9 c9 w9 a6 L _ _)
 {
 have bo:=hI a6;have G:BL wq (wq.alloc (.cells #[x0,(h:Int),(3:Int),x6] 114)):=(qB _ _).alloc (qA _) _;have W:=hI (aa N G);have bq:=hI ((Z.below G).grown L (ay W (Z.below G) (by decide)));have bk:=hI ((aa V G).kept L (by{
 rcases J:(Value.slice (some ⟨g5,0,none⟩) M c5).ownBlock with _|q
 {exact .inl rfl}
 {exact .inr (λhe=>aJ W (aa V G) (by decide) q he.symm J)}}))
 have bb:=hI ((a8.alloc b4 _).grown L (by simp;omega) (λq hq=>(N.lt q hq).1));clear a6 L;go_roundw
 case rel=>exact⟨k+1,H+1,_,_,by omega,by omega,by go_num,rfl,hI (by rw[Y.out];exact bo),bk,bq,bb⟩
 case measure=>simp[intOf]<;>omega}
 {first|omega|(simp;omega)}}
 {
 have L:(x5==3)=false:=by simp[e3]
 rw[L] at u;have Y:=hI (show bT t (B.take (k+1))=bT t (B.take k) from by have:=u.out;simpa using this);clear a2 a' u;go_wp2_with fail
 go_roundw
 case rel=>exact⟨k+1,H,T,R,by omega,by omega,by go_num,rfl,hI (by rw[Y.out];exact N),V,Z,a8⟩
 case measure=>simp[intOf]<;>omega}}}}
 {
 obtain rfl:k=M:=by omega
 have u:=HO.out;rw[qI (by rw[b'.out];exact qA _)] at u;have bs:=hI (b6 P n3 c3 C m3 d3 R H T wo (bW.below U) (az u));have FT:=HT.f3;have Z:=ar.below U;have bP:=hI (a7.trans (U.mono a7.size));clear u HO HE;go_wp2_with fail
 refine bs.mono ?_;rintro e w9⟨L,Y,c9,cs,G,W,N,cr,rfl,V,b5,u⟩;have F9:=(Z.below u).f3;have bN:=zb bP u;have cx:=bP.size;have cy:=u.size;clear u FT Z bs;simp only at V b5 ⊢;go_wp2_with fail
 refine bodyPost_ret (v:=.agg #[.int .i64 (iK t (bT t B)).boats,.slice L Y c9,.slice G W N]) (by simp[results,results237,go_sem,F9]) rfl ?_;have u:=aQ (g:=w.heap.size+1) [.int .i64 (iK t (bT t B)).boats,.slice L Y c9,.slice G W N] 0 (aK.refl (w.heap.size+1) (w.heap.size+1+1) w9) (by omega) (by omega);have Z:=(V.chg u V.in_ (.inr (by omega))).base' (show w.heap.size≤wo.heap.size by omega);exact⟨L,Y,c9,cs,G,W,N,cr,rfl,Z,b5,ao bN u (by omega) (by have:=bN.size;omega)⟩})}
theorem bF (b s:Int)(A:OA)(n c:Nat)(u:List EntryT)(w:World)(L:bA w A n c u):Calls prog 164 #[.agg #[b,s,.slice A n c]] w (ke w (ky b s u)):=by{
 obtain⟨_,O,h,F,N,_⟩:=cI w #[b,s,.slice A n c] #[(0:Int),.slice none 0 0,.slice none 0 0] 32 76;have J:=hI N;have M:=hI (λB (I:BL w B)=>bX b s A n c u B (L.below I));have HR:=hI (λB (I:BL w B)=>L.below I);have W:=hI h;have Y:=hI F;have H:=h.f3;have G:=F.f3;clear N h F L
 cases F:dC b s u with
 | false=>{
 rw[F] at M;rw[show ky b s u=(IV,1) from by unfold ky;rw[F];rfl];clear F;go_enter func164,ntmps164;go_wp2_with fail
 rw[←O];clear O;refine(M _ J).mono ?_;rintro e V⟨rfl,h⟩;have L:=zb J h;have R:=hI (Y.below h);clear H G;have H:=(W.below h).f3;have G:=R.f3;have a1:=h.size;clear h;go_wp2_with fail
 refine bodyPost_ret (v:=.tuple #[.agg #[(0:Int),.slice none 0 0,.slice none 0 0],(1:Int)]) (by simp[results,results164,go_sem,G]) rfl ?_;have N:=aQ (g:=w.heap.size+1) [.int .i64 0,.slice none 0 0,.slice none 0 0] 0 (aK.refl (w.heap.size+1) (w.heap.size+1+1) V) (by omega) (by omega);exact ke.nil w _ 1 (ao L N (by omega) (by omega))}
 | true=>{
 rw[F] at M;rw[show ky b s u=(tabR b s u,0) from by unfold ky;rw[F];rfl];have T:=fA F;have av:=hI (λB (I:BL w B)=>lG b s A n c u T B (HR B I));generalize tabR b s u=Z at *;clear F T;go_enter func164,ntmps164;go_wp2_with fail
 rw[←O];clear O;refine(M _ J).mono ?_;rintro e V⟨rfl,h⟩;have L:=zb J h;have R:=hI (Y.below h);clear H G;have H:=(W.below h).f3;have a1:=h.size;clear h;go_wp2_with fail
 refine(av _ L).mono ?_;rintro e w3⟨P,U,F,vs,C,T,O,us,rfl,ad,a2,h⟩;have ar:=zb L h;have G:=(R.below h).f3;have a6:=h.size;clear h H;go_wp2_with fail
 refine bodyPost_ret (v:=.tuple #[.agg #[Z.boats,.slice P U F,.slice C T O],(0:Int)]) (by simp[results,results164,go_sem,G]) rfl ?_;have N:=aQ (g:=w.heap.size+1) [.int .i64 Z.boats,.slice P U F,.slice C T O] 0 (aK.refl (w.heap.size+1) (w.heap.size+1+1) w3) (by omega) (by omega);have h:=(ad.chg N ad.in_ (.inr (by omega))).base' (show w.heap.size≤V.heap.size by omega);exact⟨P,U,F,vs,C,T,O,us,rfl,h,a2,ao ar N (by omega) (by omega)⟩}}
section
open Go.Lib
def AM (b s:Int) (h:List EntryT):Int:=if sN b s h=0 then b else 0
def Ag (b s:Int) (h:List EntryT):Int:=if sN b s h=0 then s else 0
def AD (b s:Int) (h:List EntryT):List (List ah):=if sN b s h=0 then ia b h else []
theorem oJ (b s:Int)(A:OA)(n c:Nat)(h:List EntryT)(w:World)(u:bA w A n c h):Calls prog 169 #[.agg #[b,s,.slice A n c]] w (Fy w (AM b s h) (Ag b s h) (AD b s h) (sN b s h)):=by{
 have HN:=hI u.1.len_ent;obtain⟨_,U,B,H,I,_⟩:=cI w #[b,s,.slice A n c] #[(0:Int),(0:Int),.slice none 0 0] 32 109;have M:=hI I;have O:=hI (λG (J:BL w G)=>bX b s A n c h G (u.below J));have HR:=hI (λG (J:BL w G)=>u.below J);have V:=hI B;have W:=hI H;have L:=B.f3;have F:=H.f3;clear I B H u
 cases H:dC b s h with
 | false=>{
 rw[H] at O;have u:sN b s h=1:=by unfold sN;rw[H];rfl
 rw[u,show AM b s h=0 from by unfold AM;rw[u];rfl,show Ag b s h=0 from by unfold Ag;rw[u];rfl,show AD b s h=[] from by unfold AD;rw[u];rfl];clear u H;go_enter func169,ntmps169;go_wp2_with fail
 rw[←U];clear U;refine(O _ M).mono ?_;rintro e Z⟨rfl,B⟩;have N:=zb M B;have R:=hI (W.below B);clear L F;have L:=(V.below B).f3;have F:=R.f3;have a1:=B.size;clear B;go_wp2_with fail
 refine bodyPost_ret (v:=.tuple #[.agg #[(0:Int),(0:Int),.slice none 0 0],(1:Int)]) (by simp[results,results169,go_sem,F]) rfl ?_;have T:=aQ (g:=w.heap.size+1) [.int .i64 0,.int .i64 0,.slice none 0 0] 0 (aK.refl (w.heap.size+1) (w.heap.size+1+1) Z) (by omega) (by omega);exact⟨none,0,0,[],rfl,aF.nil _ _ _ _,by simp[kS],ao N T (by omega) (by omega)⟩}
 | true=>{
 rw[H] at O;have u:sN b s h=0:=by unfold sN;rw[H];rfl
 rw[u,show AM b s h=b from by unfold AM;rw[u];rfl,show Ag b s h=s from by unfold Ag;rw[u];rfl,show AD b s h=ia b h from by unfold AD;rw[u];rfl];have I:=fA H;have av:n≤400:=by have:=I.len;rw[HN.out] at this;exact this
 have ar:=hI (λG (J:BL w G)=>lA b s A n c h G (HR G J) av I.okE I.key I.b1 I.b2);clear u H I;go_enter func169,ntmps169;go_wp2_with fail
 rw[←U];clear U;refine(O _ M).mono ?_;rintro e Z⟨rfl,B⟩;have N:=zb M B;have R:=hI (W.below B);clear L F;have L:=(V.below B).f3;have F:=R.f3;have a1:=B.size;clear B;go_wp2_with fail
 refine(ar _ N).mono ?_;rintro e w3⟨B,I,H,vs,rfl,Y,a2,u⟩;have ad:=zb N u;have U:=hI Y;have a6:=u.size;clear F;have F:=(R.below u).f3;clear Y u;go_wp2_with fail
 refine bodyPost_ret (v:=.tuple #[.agg #[b,s,.slice B I H],(0:Int)]) (by simp[results,results169,go_sem,F]) rfl ?_;have T:=aQ (g:=w.heap.size+1) [.int .i64 b,.int .i64 s,.slice B I H] 0 (aK.refl (w.heap.size+1) (w.heap.size+1+1) w3) (by omega) (by omega);exact⟨B,I,H,vs,rfl,(U.chg T U.in_ (by omega)).base' (by omega),a2,ao ad T (by omega) (by omega)⟩}}
end
theorem jd (w:World)(B:Array Value)(u:TypeId):∃h,h=w.alloc (.cells B u)∧BL w h∧h.heap.size=w.heap.size+1:=⟨_,rfl,(qB _ _).alloc (qA _) _,by simp⟩
theorem eV {w h:World}{b i:Nat}{v:Value}{n:Nat}(u:Below n w h)(hc:w.cell? ⟨b,i,none⟩=some v)(B:b<n):h.cell? ⟨b,i,none⟩=some v:=(u.cell (p:=⟨b,i,none⟩) B).trans hc
theorem gL {w B:World}{u e s n:Nat}{v:Value}{F:List Value}(G:w.ownsRow u e s v n F){h:Option Nat}(H:w.grownBy B h)(I:∀b,h=some b→v.ownBlock≠some b):B.ownsRow u e s v n F:=G.kept H (by{
 cases h with
 | none=>cases v.ownBlock<;>simp
 | some b=>exact .inr (I b rfl)})
end Go.Proofs.YtnpldahkhaacnaaGreatDoor

/- Texts of the walk: Jh. -/
import Derived.Test.YtnpldahkhaacnaaGreatDoorYam
set_option linter.unusedVariables false
set_option linter.unusedSimpArgs false
set_option maxRecDepth 100000
set_option maxHeartbeats 32000000
namespace Go.Proofs.YtnpldahkhaacnaaGreatDoor
open Go.RowKit Go.Sort Go.Proofs.Tryz
section
open Go.Lib
theorem AB (W:Nat)(h u B F G H I J L M N O R T:Int)(w:World)(X:aO w W #[J,L,M,N,O,R,T] 25):Calls prog 220 #[.agg #[h,u,B,F,G,H,I],.pointer (some ⟨W,0,none⟩)] w λe w'=>e=.returned (.bool (bK (h,u,B,F,G,H,I) (J,L,M,N,O,R,T)))∧BL w w':=by{
 obtain⟨w1,V,ad,U,_⟩:=ae w #[h,u,B,F,G,H,I] 25;have HC:=hI (qw h u B F G H I J L M N O R T w1);have Z:=hI U;have Y:=X.f7;clear X ad U;go_enter func220,ntmps220;go_wp2_with fail
 rw[←V];clear V;refine HC.mono ?_;rintro e w2⟨rfl,U⟩;have V:=zb Z U;clear U Y;go_wp2_with fail
 go_ret;exact⟨rfl,V⟩}
def jK (p:EntryT→Bool):Nat→List EntryT→Int|_,[]=>-1|i,x::r=>if p x=true then(i:Int) else jK p (i+1) r
theorem As (p:EntryT→Bool)(i:Nat)(u:List EntryT):decide (0≤jK p i u)=u.any p:=by{
 induction u generalizing i with
 | nil=>rfl
 | cons x r B=>{
 unfold jK;by_cases h:p x=true
 {rw[if_pos h,List.any_cons,h];simp}
 {rw[if_neg h,B,List.any_cons];simp[h]}}}
theorem CR (A:OA)(n c:Nat)(T:List EntryT)(q0:Value)(p:EntryT→Bool)(w:World)(Y:Rd w 7 A n (ents T))(u:∀I J L M N O R h,BL w h→Calls prog 220 #[.agg #[.int .i64 I,.int .i64 J,.int .i64 L,.int .i64 M,.int .i64 N,.int .i64 O,.int .i64 R],q0] h λe ar=>e=.returned (.bool (p (I,J,L,M,N,O,R)))∧BL h ar):Calls prog 274 #[.slice A n c,.func (.func 220) #[] #[q0]] w λe h=>e=.returned (.int .i64 (jK p 0 T))∧BL w h:=by{
 have HN:=hI Y.len_ent;have hm:=Y.le;have HP:=hI u;clear u;go_enter func274,ntmps274;go_wp2_with fail
 go_loopw [8] (λi wr=>∃k:Nat,k≤n∧i=.int .i64 k∧Hid (jK p k (T.drop k)=jK p 0 T)∧BL w wr) (λi _=>n-(intOf i).toNat)
 case atStart=>exact⟨0,qH _,rfl,hI rfl,qB _ _⟩
 case round=>(
 obtain⟨k,_,rfl,V,F⟩:=hrel;by_cases ad:k<n
 {
 obtain⟨b,o,I,J,L,M,N,O,R,rfl,B,u,_,_,_,_,_,_,_⟩:=(Y.below F).ent ad;have Z:=hI u;clear u B;have u:=hI F;clear F;have B:=hI (λh (F:BL w h)=>HP I J L M N O R h F)
 cases G:p (I,J,L,M,N,O,R) with
 | true=>{
 rw[G] at B;have W:=hI G;clear G;go_wp2_with fail
 refine(B _ u).mono ?_;rintro e w2⟨rfl,H⟩;have U:=zb u H;clear H u B;go_wp2_with fail
 go_ret;exact⟨dK (by rw[←V.out,Z.out,jK,if_pos W.out]),U⟩}
 | false=>{
 rw[G] at B;have W:=hI G;clear G;go_wp2_with fail
 refine(B _ u).mono ?_;rintro e w2⟨rfl,H⟩;have U:=zb u H;clear H u B;go_wp2_with fail
 go_roundw
 case rel=>exact⟨k+1,by omega,by go_num,hI (by rw[←V.out,Z.out,jK,if_neg (by rw[W.out];decide)]),U⟩
 case measure=>simp[intOf]<;>omega}}
 {
 obtain rfl:k=n:=by omega
 go_wp2_with fail
 go_ret;exact⟨dK (by rw[←V.out,qK (by rw[HN.out];omega),jK]),F⟩})}
theorem AH (A:OA)(n c:Nat)(u:List EntryT)(B:Value)(p:EntryT→Bool)(w:World)(F:Rd w 7 A n (ents u))(G:∀H I J L M N O h,BL w h→Calls prog 220 #[.agg #[.int .i64 H,.int .i64 I,.int .i64 J,.int .i64 L,.int .i64 M,.int .i64 N,.int .i64 O],B] h λe T=>e=.returned (.bool (p (H,I,J,L,M,N,O)))∧BL h T):Calls prog 219 #[.slice A n c,.func (.func 220) #[] #[B]] w λe h=>e=.returned (.bool (u.any p))∧BL w h:=by{
 have E:=hI (As p 0 u);have R:=hI (CR A n c u B p w F G);clear F G;generalize jK p 0 u=r at *;go_enter func219,ntmps219;go_wp2_with fail
 refine R.mono ?_;rintro e G⟨rfl,F⟩;go_wp2_with fail
 go_ret;exact⟨ak E,F⟩}
theorem wV {w:World}{h:Nat}{u B F G H I J:Int}(L:aO w h #[u,B,F,G,H,I,J] 25):Rd w 7 (some ⟨h,0,none⟩) 1 (ents [(u,B,F,G,H,I,J)]):=⟨rfl,by omega,λ_=>⟨h,0,rfl,λi N M=>by rw[Nat.zero_add];exact L.cell (by simpa[ents,po] using M)⟩⟩
def d_ (b s:Int) (h:List EntryT) (x:EntryT):Int:=if dC b s h=true then(if (fT b x&&im (E.rev x))=true then(if nD h x=true then 5 else if h.length=400 then 3 else 0) else 2) else 1
def fh (b s:Int) (h:List EntryT) (x:EntryT):Int:=if d_ b s h x=0 then b else 0
def fg (b s:Int) (h:List EntryT) (x:EntryT):Int:=if d_ b s h x=0 then s else 0
def ie (b s:Int) (h:List EntryT) (x:EntryT):List EntryT:=if d_ b s h x=0 then h++[x] else []
def mh (w:World) (b s:Int) (l:List EntryT) (code:Int) (e:Ending) (h:World):Prop:=∃A n c,e=.returned (.tuple #[.agg #[b,s,.slice A n c],code])∧h.ownsRow w.heap.size 25 7 (.slice A n c) n (ents l)∧n≤1048576∧BL w h
theorem jQ (b s:Int)(A:OA)(n c:Nat)(h:List EntryT)(u B F G H I J:Int)(w:World)(R:bA w A n c h):Calls prog 236 #[.agg #[b,s,.slice A n c],.agg #[u,B,F,G,H,I,J]] w (mh w (fh b s h (u,B,F,G,H,I,J)) (fg b s h (u,B,F,G,H,I,J)) (ie b s h (u,B,F,G,H,I,J)) (d_ b s h (u,B,F,G,H,I,J))):=by{
 have HN:=hI R.1.len_ent;obtain⟨w1,a7,T,U,V,M,_⟩:=da w #[b,s,.slice A n c] #[u,B,F,G,H,I,J] #[(0:Int),(0:Int),.slice none 0 0] 32 25 32;have av:=hI M;have HR:=hI (λw' (hb:BL w1 w')=>(R.below M).below hb);have HI:=hI (λw' (hb:BL w1 w')=>bX b s A n c h w' ((R.below M).below hb));have Z:=hI T;have ad:=hI U;have W:=hI V;have a1:=hI (qB w1.heap.size w1);have N:=T.f3;have O:=U.f7;have L:=V.f3;clear M T U V R
 cases Y:dC b s h with
 | false=>{
 rw[Y] at HI;have M:d_ b s h (u,B,F,G,H,I,J)=1:=by unfold d_;rw[Y];rfl
 rw[M,show fh b s h (u,B,F,G,H,I,J)=0 from by unfold fh;rw[M];rfl,show fg b s h (u,B,F,G,H,I,J)=0 from by unfold fg;rw[M];rfl,show ie b s h (u,B,F,G,H,I,J)=[] from by unfold ie;rw[M];rfl];clear M Y;go_enter func236,ntmps236;go_wp2_with fail
 rw[←a7];clear a7;go_wp2_with fail
 refine(HI _ a1).mono ?_;rintro e w2⟨rfl,V⟩;have R:=zb a1 V;clear V N O L;have N:=(Z.below R).f3;have O:=(ad.below R).f7;have L:=(W.below R).f3;go_wp2_with fail
 refine bodyPost_ret (v:=.tuple #[.agg #[(0:Int),(0:Int),.slice none 0 0],(1:Int)]) (by simp[results,results236,go_sem,L]) rfl ?_;have a2:=aQ (g:=w.heap.size+1+1) [.int .i64 0,.int .i64 0,.slice none 0 0] 0 (aK.refl (w.heap.size+1+1) (w.heap.size+1+1+1) w2) (by omega) (by omega);exact⟨none,0,0,rfl,World.ownsRow_nil _ _ _ _,by omega,ao (av.trans (R.mono av.size)) a2 (by omega) (by omega)⟩}
 | true=>{
 rw[Y] at HI;have T:=fA Y;have ba:1≤b∧b≤16:=⟨T.b1,T.b2⟩;have bq:n≤400:=by have:=T.len;rw[HN.out] at this;exact this
 clear T
 cases a6:(fT b (u,B,F,G,H,I,J)&&im (E.rev (u,B,F,G,H,I,J))) with
 | false=>{
 have HE:=hI (λw=>iz ba.1 ba.2 a6 w);have M:d_ b s h (u,B,F,G,H,I,J)=2:=by unfold d_;rw[Y,a6];rfl
 rw[M,show fh b s h (u,B,F,G,H,I,J)=0 from by unfold fh;rw[M];rfl,show fg b s h (u,B,F,G,H,I,J)=0 from by unfold fg;rw[M];rfl,show ie b s h (u,B,F,G,H,I,J)=[] from by unfold ie;rw[M];rfl];clear M Y a6;go_enter func236,ntmps236;go_wp2_with fail
 rw[←a7];clear a7;go_wp2_with fail
 refine(HI _ a1).mono ?_;rintro e w2⟨rfl,V⟩;have R:=zb a1 V;clear V N O L;have N:=(Z.below R).f3;have O:=(ad.below R).f7;have L:=(W.below R).f3;go_wp2_with fail
 refine(HE _).mono ?_;rintro e w3⟨rfl,ar⟩;have T:=zb R ar;clear ar N O L;have N:=(Z.below T).f3;have O:=(ad.below T).f7;have L:=(W.below T).f3;go_wp2_with fail
 refine bodyPost_ret (v:=.tuple #[.agg #[(0:Int),(0:Int),.slice none 0 0],(2:Int)]) (by simp[results,results236,go_sem,L]) rfl ?_;have a2:=aQ (g:=w.heap.size+1+1) [.int .i64 0,.int .i64 0,.slice none 0 0] 0 (aK.refl (w.heap.size+1+1) (w.heap.size+1+1+1) w3) (by omega) (by omega);exact⟨none,0,0,rfl,World.ownsRow_nil _ _ _ _,by omega,ao (av.trans (T.mono av.size)) a2 (by omega) (by omega)⟩}
 | true=>{
 have HE:=hI (λw=>iz ba.1 ba.2 a6 w);have U:True:=trivial
 {
 clear U;have HF:=hI (λw' (hb:BL w1 w')=>su A n c h u B F G H I J w' (HR w' hb).1)
 cases hh:nD h (u,B,F,G,H,I,J) with
 | true=>{
 rw[hh] at HF;have M:d_ b s h (u,B,F,G,H,I,J)=5:=by unfold d_;rw[Y,a6,hh];rfl
 rw[M,show fh b s h (u,B,F,G,H,I,J)=0 from by unfold fh;rw[M];rfl,show fg b s h (u,B,F,G,H,I,J)=0 from by unfold fg;rw[M];rfl,show ie b s h (u,B,F,G,H,I,J)=[] from by unfold ie;rw[M];rfl];clear M Y a6 hh;go_enter func236,ntmps236;go_wp2_with fail
 rw[←a7];clear a7;go_wp2_with fail
 refine(HI _ a1).mono ?_;rintro e w2⟨rfl,V⟩;have R:=zb a1 V;clear V N O L;have N:=(Z.below R).f3;have O:=(ad.below R).f7;have L:=(W.below R).f3;go_wp2_with fail
 refine(HE _).mono ?_;rintro e w3⟨rfl,ar⟩;have T:=zb R ar;clear ar N O L;have N:=(Z.below T).f3;have O:=(ad.below T).f7;have L:=(W.below T).f3;go_wp2_with fail
 refine(HF _ T).mono ?_;rintro e w4⟨rfl,a8⟩;have U:=zb T a8;clear a8 N O L;have N:=(Z.below U).f3;have O:=(ad.below U).f7;have L:=(W.below U).f3;go_wp2_with fail
 refine bodyPost_ret (v:=.tuple #[.agg #[(0:Int),(0:Int),.slice none 0 0],(5:Int)]) (by simp[results,results236,go_sem,L]) rfl ?_;have a2:=aQ (g:=w.heap.size+1+1) [.int .i64 0,.int .i64 0,.slice none 0 0] 0 (aK.refl (w.heap.size+1+1) (w.heap.size+1+1+1) w4) (by omega) (by omega);exact⟨none,0,0,rfl,World.ownsRow_nil _ _ _ _,by omega,ao (av.trans (U.mono av.size)) a2 (by omega) (by omega)⟩}
 | false=>{
 rw[hh] at HF;by_cases h4:n=400
 {
 have a':h.length=400:=by rw[HN.out];exact h4
 have M:d_ b s h (u,B,F,G,H,I,J)=3:=by unfold d_;rw[Y,a6,hh,if_pos rfl,if_pos rfl,if_neg (by decide),if_pos a']
 rw[M,show fh b s h (u,B,F,G,H,I,J)=0 from by unfold fh;rw[M];rfl,show fg b s h (u,B,F,G,H,I,J)=0 from by unfold fg;rw[M];rfl,show ie b s h (u,B,F,G,H,I,J)=[] from by unfold ie;rw[M];rfl];clear M Y a6 hh a';subst h4;go_enter func236,ntmps236;go_wp2_with fail
 rw[←a7];clear a7;go_wp2_with fail
 refine(HI _ a1).mono ?_;rintro e w2⟨rfl,V⟩;have R:=zb a1 V;clear V N O L;have N:=(Z.below R).f3;have O:=(ad.below R).f7;have L:=(W.below R).f3;go_wp2_with fail
 refine(HE _).mono ?_;rintro e w3⟨rfl,ar⟩;have T:=zb R ar;clear ar N O L;have N:=(Z.below T).f3;have O:=(ad.below T).f7;have L:=(W.below T).f3;go_wp2_with fail
 refine(HF _ T).mono ?_;rintro e w4⟨rfl,a8⟩;have U:=zb T a8;clear a8 N O L;have N:=(Z.below U).f3;have O:=(ad.below U).f7;have L:=(W.below U).f3;go_wp2_with fail
 refine bodyPost_ret (v:=.tuple #[.agg #[(0:Int),(0:Int),.slice none 0 0],(3:Int)]) (by simp[results,results236,go_sem,L]) rfl ?_;have a2:=aQ (g:=w.heap.size+1+1) [.int .i64 0,.int .i64 0,.slice none 0 0] 0 (aK.refl (w.heap.size+1+1) (w.heap.size+1+1+1) w4) (by omega) (by omega);exact⟨none,0,0,rfl,World.ownsRow_nil _ _ _ _,by omega,ao (av.trans (U.mono av.size)) a2 (by omega) (by omega)⟩}
 {
 have a':¬(h.length=400):=by rw[HN.out];exact h4
 have bp:((n:Int)==400)=false:=by simp;omega
 have M:d_ b s h (u,B,F,G,H,I,J)=0:=by unfold d_;rw[Y,a6,hh,if_pos rfl,if_pos rfl,if_neg (by decide),if_neg a']
 rw[M,show fh b s h (u,B,F,G,H,I,J)=b from by unfold fh;rw[M];rfl,show fg b s h (u,B,F,G,H,I,J)=s from by unfold fg;rw[M];rfl,show ie b s h (u,B,F,G,H,I,J)=h++[(u,B,F,G,H,I,J)] from by unfold ie;rw[M];rfl];clear M Y a6 hh a';go_enter func236,ntmps236;go_wp2_with fail
 rw[←a7];clear a7;go_wp2_with fail
 refine(HI _ a1).mono ?_;rintro e w2⟨rfl,V⟩;have R:=zb a1 V;clear V N O L;have N:=(Z.below R).f3;have O:=(ad.below R).f7;have L:=(W.below R).f3;go_wp2_with fail
 refine(HE _).mono ?_;rintro e w3⟨rfl,ar⟩;have T:=zb R ar;clear ar N O L;have N:=(Z.below T).f3;have O:=(ad.below T).f7;have L:=(W.below T).f3;go_wp2_with fail
 refine(HF _ T).mono ?_;rintro e w4⟨rfl,a8⟩;have U:=zb T a8;clear a8 N O L;have N:=(Z.below U).f3;have O:=(ad.below U).f7;have L:=(W.below U).f3;go_wp2_with fail
 refine(Bd b s A n c h u B F G H I J w4 (HR _ U).1 (by omega)).mono ?_;rintro e w6⟨M,Y,V,rfl,bk,bo,bn⟩;have bb:=zb U bn;clear L;have L:=(W.below bb).f3;have bs:=U.size;go_wp2_with fail
 refine bodyPost_ret (v:=.tuple #[.agg #[b,s,.slice M Y V],(0:Int)]) (by simp[results,results236,go_sem,L]) rfl ?_;have a2:=aQ (g:=w.heap.size+1+1) [.int .i64 b,.int .i64 s,.slice M Y V] 0 (aK.refl (w.heap.size+1+1) (w.heap.size+1+1+1) w6) (by omega) (by omega);exact⟨M,Y,V,rfl,an (aE bk a2 (λb hb=>.inr (by have:=(bk.lt b hb).1;omega))) (by omega),bo,ao (av.trans (bb.mono av.size)) a2 (by omega) (by omega)⟩}}}}}}
theorem pV (b s:Int)(A:OA)(n c:Nat)(J:List EntryT)(u B h F G H I:Int)(w:World)(N:bA w A n c J):Calls prog 148 #[.agg #[b,s,.slice A n c],.agg #[u,B,h,F,G,H,I]] w (mh w (fh b s J (u,B,h,F,G,H,I)) (fg b s J (u,B,h,F,G,H,I)) (ie b s J (u,B,h,F,G,H,I)) (d_ b s J (u,B,h,F,G,H,I))):=by{
 have HN:=hI N.1.len_ent;obtain⟨w1,a6,T,U,Y,M,_⟩:=da w #[b,s,.slice A n c] #[u,B,h,F,G,H,I] #[(0:Int),(0:Int),.slice none 0 0] 32 25 32;have av:=hI M;have HR:=hI (λw' (hb:BL w1 w')=>(N.below M).below hb);have HI:=hI (λw' (hb:BL w1 w')=>cJ b s A n c J w' ((N.below M).below hb));have ad:=hI T;have V:=hI U;have W:=hI Y;have a1:=hI (qB w1.heap.size w1);have O:=T.f3;have R:=U.f7;have L:=Y.f3;clear M T U Y N
 cases Y:dC b s J with
 | false=>{
 rw[Y] at HI;have M:d_ b s J (u,B,h,F,G,H,I)=1:=by unfold d_;rw[Y];rfl
 rw[M,show fh b s J (u,B,h,F,G,H,I)=0 from by unfold fh;rw[M];rfl,show fg b s J (u,B,h,F,G,H,I)=0 from by unfold fg;rw[M];rfl,show ie b s J (u,B,h,F,G,H,I)=[] from by unfold ie;rw[M];rfl];clear M Y;go_enter func148,ntmps148;go_wp2_with fail
 rw[←a6];clear a6;go_wp2_with fail
 refine(HI _ a1).mono ?_;rintro e w2⟨rfl,U⟩;have N:=zb a1 U;clear U O R L;have O:=(ad.below N).f3;have R:=(V.below N).f7;have L:=(W.below N).f3;go_wp2_with fail
 refine bodyPost_ret (v:=.tuple #[.agg #[(0:Int),(0:Int),.slice none 0 0],(1:Int)]) (by simp[results,results148,go_sem,L]) rfl ?_;have a2:=aQ (g:=w.heap.size+1+1) [.int .i64 0,.int .i64 0,.slice none 0 0] 0 (aK.refl (w.heap.size+1+1) (w.heap.size+1+1+1) w2) (by omega) (by omega);exact⟨none,0,0,rfl,World.ownsRow_nil _ _ _ _,by omega,ao (av.trans (N.mono av.size)) a2 (by omega) (by omega)⟩}
 | true=>{
 rw[Y] at HI;have T:=fA Y;have ba:1≤b∧b≤16:=⟨T.b1,T.b2⟩;have bs:n≤400:=by have:=T.len;rw[HN.out] at this;exact this
 clear T
 cases Z:fT b (u,B,h,F,G,H,I) with
 | false=>{
 have HE:=hI (λw=>ib ba.1 ba.2 Z w);have M:d_ b s J (u,B,h,F,G,H,I)=2:=by unfold d_;rw[Y,Z];rfl
 rw[M,show fh b s J (u,B,h,F,G,H,I)=0 from by unfold fh;rw[M];rfl,show fg b s J (u,B,h,F,G,H,I)=0 from by unfold fg;rw[M];rfl,show ie b s J (u,B,h,F,G,H,I)=[] from by unfold ie;rw[M];rfl];clear M Y Z;go_enter func148,ntmps148;go_wp2_with fail
 rw[←a6];clear a6;go_wp2_with fail
 refine(HI _ a1).mono ?_;rintro e w2⟨rfl,U⟩;have N:=zb a1 U;clear U O R L;have O:=(ad.below N).f3;have R:=(V.below N).f7;have L:=(W.below N).f3;go_wp2_with fail
 refine(HE _).mono ?_;rintro e w3⟨rfl,ar⟩;have T:=zb N ar;clear ar O R L;have O:=(ad.below T).f3;have R:=(V.below T).f7;have L:=(W.below T).f3;go_wp2_with fail
 refine bodyPost_ret (v:=.tuple #[.agg #[(0:Int),(0:Int),.slice none 0 0],(2:Int)]) (by simp[results,results148,go_sem,L]) rfl ?_;have a2:=aQ (g:=w.heap.size+1+1) [.int .i64 0,.int .i64 0,.slice none 0 0] 0 (aK.refl (w.heap.size+1+1) (w.heap.size+1+1+1) w3) (by omega) (by omega);exact⟨none,0,0,rfl,World.ownsRow_nil _ _ _ _,by omega,ao (av.trans (T.mono av.size)) a2 (by omega) (by omega)⟩}
 | true=>{
 have HE:=hI (λw=>ib ba.1 ba.2 Z w)
 cases hv:im h with
 | false=>{
 have HV:=hI (λw=>gk hv w);have M:d_ b s J (u,B,h,F,G,H,I)=2:=by unfold d_;rw[Y,Z,show im (E.rev (u,B,h,F,G,H,I))=false from hv];rfl
 rw[M,show fh b s J (u,B,h,F,G,H,I)=0 from by unfold fh;rw[M];rfl,show fg b s J (u,B,h,F,G,H,I)=0 from by unfold fg;rw[M];rfl,show ie b s J (u,B,h,F,G,H,I)=[] from by unfold ie;rw[M];rfl];clear M Y Z hv;go_enter func148,ntmps148;go_wp2_with fail
 rw[←a6];clear a6;go_wp2_with fail
 refine(HI _ a1).mono ?_;rintro e w2⟨rfl,U⟩;have N:=zb a1 U;clear U O R L;have O:=(ad.below N).f3;have R:=(V.below N).f7;have L:=(W.below N).f3;go_wp2_with fail
 refine(HE _).mono ?_;rintro e w3⟨rfl,ar⟩;have T:=zb N ar;clear ar O R L;have O:=(ad.below T).f3;have R:=(V.below T).f7;have L:=(W.below T).f3;go_wp2_with(go_at_call 54;(with_reducible refine(HV.out _).mono ?_);rintro e w'⟨rfl,rfl⟩)
 refine bodyPost_ret (v:=.tuple #[.agg #[(0:Int),(0:Int),.slice none 0 0],(2:Int)]) (by simp[results,results148,go_sem,L]) rfl ?_;have a2:=aQ (g:=w.heap.size+1+1) [.int .i64 0,.int .i64 0,.slice none 0 0] 0 (aK.refl (w.heap.size+1+1) (w.heap.size+1+1+1) w3) (by omega) (by omega);exact⟨none,0,0,rfl,World.ownsRow_nil _ _ _ _,by omega,ao (av.trans (T.mono av.size)) a2 (by omega) (by omega)⟩}
 | true=>{
 have HV:=hI (λw=>gk hv w);have a8:(fT b (u,B,h,F,G,H,I)&&im (E.rev (u,B,h,F,G,H,I)))=true:=by rw[Z];exact hv
 clear Z hv;have HF:=hI (λw' (hb:BL w1 w')=>AH A n c J (.pointer (some ⟨w.heap.size+1,0,none⟩)) (λy=>bK y (u,B,h,F,G,H,I)) w' (HR w' hb).1 (λy0 y1 y2 y3 y4 y5 y6 w2 Z=>AB (w.heap.size+1) y0 y1 y2 y3 y4 y5 y6 u B h F G H I w2 (V.below (hb.trans (Z.mono hb.size)))))
 cases hh:nD J (u,B,h,F,G,H,I) with
 | true=>{
 rw[show J.any (λy=>bK y (u,B,h,F,G,H,I))=true from hh] at HF;have M:d_ b s J (u,B,h,F,G,H,I)=5:=by unfold d_;rw[Y,a8,hh];rfl
 rw[M,show fh b s J (u,B,h,F,G,H,I)=0 from by unfold fh;rw[M];rfl,show fg b s J (u,B,h,F,G,H,I)=0 from by unfold fg;rw[M];rfl,show ie b s J (u,B,h,F,G,H,I)=[] from by unfold ie;rw[M];rfl];clear M Y a8 hh;go_enter func148,ntmps148;go_wp2_with fail
 rw[←a6];clear a6;go_wp2_with fail
 refine(HI _ a1).mono ?_;rintro e w2⟨rfl,U⟩;have N:=zb a1 U;clear U O R L;have O:=(ad.below N).f3;have R:=(V.below N).f7;have L:=(W.below N).f3;go_wp2_with fail
 refine(HE _).mono ?_;rintro e w3⟨rfl,ar⟩;have T:=zb N ar;clear ar O R L;have O:=(ad.below T).f3;have R:=(V.below T).f7;have L:=(W.below T).f3;go_wp2_with(go_at_call 54;(with_reducible refine(HV.out _).mono ?_);rintro e w'⟨rfl,rfl⟩)
 refine(HF _ T).mono ?_;rintro e w4⟨rfl,a7⟩;have Z:=zb T a7;clear a7 O R L;have O:=(ad.below Z).f3;have R:=(V.below Z).f7;have L:=(W.below Z).f3;go_wp2_with fail
 refine bodyPost_ret (v:=.tuple #[.agg #[(0:Int),(0:Int),.slice none 0 0],(5:Int)]) (by simp[results,results148,go_sem,L]) rfl ?_;have a2:=aQ (g:=w.heap.size+1+1) [.int .i64 0,.int .i64 0,.slice none 0 0] 0 (aK.refl (w.heap.size+1+1) (w.heap.size+1+1+1) w4) (by omega) (by omega);exact⟨none,0,0,rfl,World.ownsRow_nil _ _ _ _,by omega,ao (av.trans (Z.mono av.size)) a2 (by omega) (by omega)⟩}
 | false=>{
 rw[show J.any (λy=>bK y (u,B,h,F,G,H,I))=false from hh] at HF;by_cases h4:n=400
 {
 have a':J.length=400:=by rw[HN.out];exact h4
 have M:d_ b s J (u,B,h,F,G,H,I)=3:=by unfold d_;rw[Y,a8,hh,if_pos rfl,if_pos rfl,if_neg (by decide),if_pos a']
 rw[M,show fh b s J (u,B,h,F,G,H,I)=0 from by unfold fh;rw[M];rfl,show fg b s J (u,B,h,F,G,H,I)=0 from by unfold fg;rw[M];rfl,show ie b s J (u,B,h,F,G,H,I)=[] from by unfold ie;rw[M];rfl];clear M Y a8 hh a';subst h4;go_enter func148,ntmps148;go_wp2_with fail
 rw[←a6];clear a6;go_wp2_with fail
 refine(HI _ a1).mono ?_;rintro e w2⟨rfl,U⟩;have N:=zb a1 U;clear U O R L;have O:=(ad.below N).f3;have R:=(V.below N).f7;have L:=(W.below N).f3;go_wp2_with fail
 refine(HE _).mono ?_;rintro e w3⟨rfl,ar⟩;have T:=zb N ar;clear ar O R L;have O:=(ad.below T).f3;have R:=(V.below T).f7;have L:=(W.below T).f3;go_wp2_with(go_at_call 54;(with_reducible refine(HV.out _).mono ?_);rintro e w'⟨rfl,rfl⟩)
 refine(HF _ T).mono ?_;rintro e w4⟨rfl,a7⟩;have Z:=zb T a7;clear a7 O R L;have O:=(ad.below Z).f3;have R:=(V.below Z).f7;have L:=(W.below Z).f3;go_wp2_with fail
 refine bodyPost_ret (v:=.tuple #[.agg #[(0:Int),(0:Int),.slice none 0 0],(3:Int)]) (by simp[results,results148,go_sem,L]) rfl ?_;have a2:=aQ (g:=w.heap.size+1+1) [.int .i64 0,.int .i64 0,.slice none 0 0] 0 (aK.refl (w.heap.size+1+1) (w.heap.size+1+1+1) w4) (by omega) (by omega);exact⟨none,0,0,rfl,World.ownsRow_nil _ _ _ _,by omega,ao (av.trans (Z.mono av.size)) a2 (by omega) (by omega)⟩}
 {
 have a':¬(J.length=400):=by rw[HN.out];exact h4
 have bq:((n:Int)==400)=false:=by simp;omega
 have M:d_ b s J (u,B,h,F,G,H,I)=0:=by unfold d_;rw[Y,a8,hh,if_pos rfl,if_pos rfl,if_neg (by decide),if_neg a']
 rw[M,show fh b s J (u,B,h,F,G,H,I)=b from by unfold fh;rw[M];rfl,show fg b s J (u,B,h,F,G,H,I)=s from by unfold fg;rw[M];rfl,show ie b s J (u,B,h,F,G,H,I)=J++[(u,B,h,F,G,H,I)] from by unfold ie;rw[M];rfl];clear M Y a8 hh a';go_enter func148,ntmps148;go_wp2_with fail
 rw[←a6];clear a6;go_wp2_with fail
 refine(HI _ a1).mono ?_;rintro e w2⟨rfl,U⟩;have N:=zb a1 U;clear U O R L;have O:=(ad.below N).f3;have R:=(V.below N).f7;have L:=(W.below N).f3;go_wp2_with fail
 refine(HE _).mono ?_;rintro e w3⟨rfl,ar⟩;have T:=zb N ar;clear ar O R L;have O:=(ad.below T).f3;have R:=(V.below T).f7;have L:=(W.below T).f3;go_wp2_with(go_at_call 54;(with_reducible refine(HV.out _).mono ?_);rintro e w'⟨rfl,rfl⟩)
 refine(HF _ T).mono ?_;rintro e w4⟨rfl,a7⟩;have Z:=zb T a7;clear a7 O R L;have O:=(ad.below Z).f3;have R:=(V.below Z).f7;have L:=(W.below Z).f3;go_wp2_with fail
 obtain⟨w5,bn,M,Y,_⟩:=ae w4 #[u,B,h,F,G,H,I] 25;rw[←bn];have U:=zb Z Y;refine(rq b s A n c J (some ⟨w4.heap.size,0,none⟩) 1 1 [(u,B,h,F,G,H,I)] w5 (HR _ U).1 (wV M) (by omega)).mono ?_;clear bn M Y;rintro e w6⟨M,n6,Y,rfl,bk,bp,bo⟩;have bb:=zb U bo;clear L;have L:=(W.below bb).f3;have bt:=U.size;go_wp2_with fail
 refine bodyPost_ret (v:=.tuple #[.agg #[b,s,.slice M n6 Y],(0:Int)]) (by simp[results,results148,go_sem,L]) rfl ?_;have a2:=aQ (g:=w.heap.size+1+1) [.int .i64 b,.int .i64 s,.slice M n6 Y] 0 (aK.refl (w.heap.size+1+1) (w.heap.size+1+1+1) w6) (by omega) (by omega);exact⟨M,n6,Y,rfl,an (aE bk a2 (λb hb=>.inr (by have:=(bk.lt b hb).1;omega))) (by omega),bp,ao (av.trans (bb.mono av.size)) a2 (by omega) (by omega)⟩}}}}}}
end
end Go.Proofs.YtnpldahkhaacnaaGreatDoor

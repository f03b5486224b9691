/- Texts of the walk: Yb. -/
import Derived.Test.YtnpldahkhaacnaaGreatDoorYao
import Derived.Test.YtnpldahkhaacnaaGreatDoorYar
set_option linter.unusedVariables false
set_option linter.unusedSimpArgs false
set_option maxRecDepth 100000
set_option maxHeartbeats 32000000
namespace Go.Proofs.YtnpldahkhaacnaaGreatDoor
open Go.RowKit Go.Sort Go.Proofs.Tryz
theorem mo {w w':World}{b i:Nat}{v:Value}(h:w.cell? ⟨b,i,none⟩=some v)(k:BL w w'):w'.cell? ⟨b,i,none⟩=some v:=fW.below k _ _ h
def IU (w:World) (l:LI) (e:Ending) (w':World):Prop:=∃g c,e=.returned (.slice (some ⟨g,0,none⟩) l.length c)∧w'.ownsRow w.heap.size 2 1 (.slice (some ⟨g,0,none⟩) l.length c) l.length (ints l)∧w.heap.size≤g∧BL w w'
section
variable {ops : Array Oper} {rest : List Oper} {o : Oper} {a : Act} {K : Act → World → Prop} {Q : Exit → Act → World → Prop} {E : Prop}
theorem EX (w:World)(L:o.guard=none)(s x:Operand)(N:o.op=.call { callee:=.builtin .append,args:=#[s,x],argTypes:=#[44,44] }){base n c:Nat}{A:OA}{h:LI}(R:a.eval s=.slice A n c)(O:w.ownsRow base 2 1 (.slice A n c) n (ints h)){B:Addr}{x0:Int}(U:a.eval x=.slice (some B) 1 1)(hc:w.cell? B=some (.int .i64 x0))(W:n≤1099511627776)(J:base≤w.heap.size)(G:∀g u w',w'.ownsRow base 2 1 (.slice (some ⟨g,0,none⟩) (n+1) u) (n+1) (ints (h++[x0]))→w.grownBy w' (Value.slice A n c).ownBlock→K (a.put o.dst (.slice (some ⟨g,0,none⟩) (n+1) u)) w'):if Region.wanted o (yielded ops a.tmps)=true then Oper.wp prog o a w K Q else E:=by{
 obtain⟨i,M,V,T,I⟩:=info_parts kh;exact step_append_lies w L s x 44 N base 2 i (.int .i64 0) 1 8 underlying44 M V T I rfl (by decide) (.slice A n c) n (ints h) R O B 1 1 [.int .i64 x0] U rfl (xH hc) (by intro H F;simp at F;subst F;rfl) (by decide) (by unfold maxLen;omega) (by omega) J _ rfl (by rw[show ints h++[.int .i64 x0]=ints (h++[x0]) from(by unfold ints;simp)];exact λg u w' F H _ _=>G g u w' F H)}
end
def Hf (s:Int) (h:List ah) (code:Int):Int:=if code=9 then 0 else if code=1∨s=0 then 10*((h.length:Int)+1) else 10*((cameN h:Int)+1)
def li (h:List ah):Nat:=(h.filter λg=>g.2.1==1).length
theorem om (h:List ah):cameN h+li h=h.length:=by{
 unfold cameN li
 induction h with
 | nil=>rfl
 | cons f r u=>simp only[List.filter_cons];cases f.2.1==1<;>simp<;>omega}
theorem iH (h:List ah)(g:ah):li (h++[g])=li h+(if g.2.1=1 then 1 else 0):=by{
 unfold li;rw[List.filter_append,qJ,List.filter_cons];by_cases u:g.2.1=1<;>simp[u]}
theorem mf (h:List ah)(k:Nat):li (h.take k)≤k:=qM (List.length_filter_le _ _) (by simp;omega)
theorem sI (A:OA)(n c:Nat)(h:List ah)(code s:Int)(Z:s=0∨s=1)(hn:n≤16)(w:World)(u:Rd w 3 A n (fins h)):Calls prog 181 #[.slice A n c,code,s] w λe w'=>e=.returned (.int .i64 (Hf s h code))∧BL w w':=by{
 have U:=hI u.len_fin;have a2:=hI (λw' (B:BL w w')=>u.below B);clear u;go_enter func181,ntmps181;by_cases h9:code=9
 {
 subst h9;go_wp2_with fail
 go_ret;exact⟨rfl,qB _ _⟩}
 have bp:(code==9)=false:=by simp[h9]
 by_cases N:code=1
 {
 subst N;have bk:((1:Int) !=1)=false:=by decide
 go_wp2_with fail
 go_loopw [7,16] (λv i wr=>∃(k:Nat) (q:Int),k≤n∧i=.int .i64 k∧v=.int .i64 q∧Hid (q=(n:Int)-((0:Nat)*li (h.take k):Nat))∧0≤q∧q≤16∧Hid (BL w wr)) (λ_ i _=>n-(intOf i).toNat)
 case atStart=>exact⟨0,(n:Int),qH _,rfl,rfl,hI (by simp[li]),by omega,by omega,hI (qB _ _)⟩
 case round=>(
 obtain⟨k,q,hk,rfl,rfl,G,a',ba,u⟩:=hrel;obtain⟨I,av⟩:∃I:World,I=wr:=⟨_,rfl⟩;subst av;have ar:=u.size;by_cases Y:k<n
 {
 obtain⟨b,o,x0,x1,x2,rfl,T,_,a6,a7,a8⟩:=(a2 _ u).fin Y;have L:=hI (show h.take (k+1)=h.take k++[(x0,x1,x2)] from am T);have a1:=hI (mf h k);clear T;obtain⟨wa,B,W,O,ad⟩:=ae I #[x0,x1,x2] 53;have J:=hI (u.trans (O.mono ar));have FA:=W.f3;clear O ad;by_cases H:x1=1
 {
 subst H;have F:=hI (show q=(n:Int)-((0:Nat)*li (h.take (k+1)):Nat) from by rw[L.out,iH,if_pos rfl];have:=G.out;push_cast;omega);go_wp2_with fail
 try rw[←B]
 try clear B
 try go_wp2_with fail
 go_roundw
 case rel=>exact⟨k+1,q,by omega,by go_num,by go_num,F,by omega,by omega,J⟩
 case measure=>simp[intOf]<;>omega}
 {
 have N:(x1==1)=false:=by simp[H]
 have F:=hI (show q=(n:Int)-((0:Nat)*li (h.take (k+1)):Nat) from by rw[L.out,iH,if_neg H];have:=G.out;push_cast;omega);go_wp2_with fail
 try rw[←B]
 try clear B
 try go_wp2_with fail
 go_roundw
 case rel=>exact⟨k+1,q,by omega,by go_num,rfl,F,by omega,by omega,J⟩
 case measure=>simp[intOf]<;>omega}}
 {
 obtain rfl:k=n:=by omega
 have R:10*(q+1)=Hf s h 1:=by{
 have M:=G.out;rw[qI (by rw[U.out];omega)] at M;have N:=om h;have h2:=U.out;unfold Hf;rw[if_neg (by decide),if_pos (.inl rfl)];push_cast at M;omega}
 have V:=hI R;clear R;go_wp2_with fail
 go_ret;exact⟨dK (by rw[←V.out];try omega),u⟩})}
 have bo:(code !=1)=true:=by simp[N]
 rcases Z with Z|Z
 {
 subst Z;have bb:((0:Int)==1)=false:=by decide
 go_wp2_with fail
 go_loopw [7,16] (λv i wr=>∃(k:Nat) (q:Int),k≤n∧i=.int .i64 k∧v=.int .i64 q∧Hid (q=(n:Int)-((0:Nat)*li (h.take k):Nat))∧0≤q∧q≤16∧Hid (BL w wr)) (λ_ i _=>n-(intOf i).toNat)
 case atStart=>exact⟨0,(n:Int),qH _,rfl,rfl,hI (by simp[li]),by omega,by omega,hI (qB _ _)⟩
 case round=>(
 obtain⟨k,q,hk,rfl,rfl,G,a',ba,u⟩:=hrel;obtain⟨I,av⟩:∃I:World,I=wr:=⟨_,rfl⟩;subst av;have ar:=u.size;by_cases Y:k<n
 {
 obtain⟨b,o,x0,x1,x2,rfl,T,_,a6,a7,a8⟩:=(a2 _ u).fin Y;have L:=hI (show h.take (k+1)=h.take k++[(x0,x1,x2)] from am T);have a1:=hI (mf h k);clear T;obtain⟨wa,B,W,O,ad⟩:=ae I #[x0,x1,x2] 53;have J:=hI (u.trans (O.mono ar));have FA:=W.f3;clear O ad;by_cases H:x1=1
 {
 subst H;have F:=hI (show q=(n:Int)-((0:Nat)*li (h.take (k+1)):Nat) from by rw[L.out,iH,if_pos rfl];have:=G.out;push_cast;omega);go_wp2_with fail
 try rw[←B]
 try clear B
 try go_wp2_with fail
 go_roundw
 case rel=>exact⟨k+1,q,by omega,by go_num,by go_num,F,by omega,by omega,J⟩
 case measure=>simp[intOf]<;>omega}
 {
 have N:(x1==1)=false:=by simp[H]
 have F:=hI (show q=(n:Int)-((0:Nat)*li (h.take (k+1)):Nat) from by rw[L.out,iH,if_neg H];have:=G.out;push_cast;omega);go_wp2_with fail
 try rw[←B]
 try clear B
 try go_wp2_with fail
 go_roundw
 case rel=>exact⟨k+1,q,by omega,by go_num,rfl,F,by omega,by omega,J⟩
 case measure=>simp[intOf]<;>omega}}
 {
 obtain rfl:k=n:=by omega
 have R:10*(q+1)=Hf 0 h code:=by{
 have M:=G.out;rw[qI (by rw[U.out];omega)] at M;have N:=om h;have h2:=U.out;unfold Hf;rw[if_neg h9,if_pos (.inr rfl)];push_cast at M;omega}
 have V:=hI R;clear R;go_wp2_with fail
 go_ret;exact⟨dK (by rw[←V.out];try omega),u⟩})}
 {
 subst Z;go_wp2_with fail
 go_loopw [7,16] (λv i wr=>∃(k:Nat) (q:Int),k≤n∧i=.int .i64 k∧v=.int .i64 q∧Hid (q=(n:Int)-(li (h.take k):Int))∧0≤q∧q≤16∧Hid (BL w wr)) (λ_ i _=>n-(intOf i).toNat)
 case atStart=>exact⟨0,(n:Int),qH _,rfl,rfl,hI (by simp[li]),by omega,by omega,hI (qB _ _)⟩
 case round=>(
 obtain⟨k,q,hk,rfl,rfl,G,a',ba,u⟩:=hrel;obtain⟨I,av⟩:∃I:World,I=wr:=⟨_,rfl⟩;subst av;have ar:=u.size;by_cases Y:k<n
 {
 obtain⟨b,o,x0,x1,x2,rfl,T,_,a6,a7,a8⟩:=(a2 _ u).fin Y;have L:=hI (show h.take (k+1)=h.take k++[(x0,x1,x2)] from am T);have a1:=hI (mf h k);clear T;obtain⟨wa,B,W,O,ad⟩:=ae I #[x0,x1,x2] 53;have J:=hI (u.trans (O.mono ar));have FA:=W.f3;clear O ad;by_cases H:x1=1
 {
 subst H;have F:=hI (show(q-1)=(n:Int)-(li (h.take (k+1)):Int) from by rw[L.out,iH,if_pos rfl];have:=G.out;push_cast;omega);have O:1≤q:=by have:=F.out;have:=a1.out;have:=om (h.take (k+1));have:=mf h (k+1);omega
 go_wp2_with fail
 try rw[←B]
 try clear B
 try go_wp2_with fail
 go_roundw
 case rel=>exact⟨k+1,(q-1),by omega,by go_num,by go_num,F,by omega,by omega,J⟩
 case measure=>simp[intOf]<;>omega}
 {
 have N:(x1==1)=false:=by simp[H]
 have F:=hI (show q=(n:Int)-(li (h.take (k+1)):Int) from by rw[L.out,iH,if_neg H];have:=G.out;push_cast;omega);go_wp2_with fail
 try rw[←B]
 try clear B
 try go_wp2_with fail
 go_roundw
 case rel=>exact⟨k+1,q,by omega,by go_num,rfl,F,by omega,by omega,J⟩
 case measure=>simp[intOf]<;>omega}}
 {
 obtain rfl:k=n:=by omega
 have R:10*(q+1)=Hf 1 h code:=by{
 have M:=G.out;rw[qI (by rw[U.out];omega)] at M;have N:=om h;have h2:=U.out;unfold Hf;rw[if_neg h9,if_neg (by omega)];push_cast at M;omega}
 have V:=hI R;clear R;go_wp2_with fail
 go_ret;exact⟨dK (by rw[←V.out];try omega),u⟩})}}
theorem sM (A:OA)(n c:Nat)(h:List ah)(s:Int)(hs:s=0∨s=1)(hn:n≤16)(a6:0<n)(w:World)(G:Rd w 3 A n (fins h)):Calls prog 124 #[.slice A n c,s] w (IU w (eW s h)):=by{
 have HN:=hI G.len_fin;have b1:=hI (λw' (J:BL w w')=>G.below J);have H:=hI (wO A n c h hn w G);have b0:=hI (λcode w' (J:BL w w')=>sI A n c h code s hs hn w' (G.below J));have a1:=hI (show(eW s h).length=n from by unfold eW;rw[qV];exact G.len_fin);clear G;go_enter func124,ntmps124;go_wp2_with fail
 refine H.mono ?_;rintro e w2⟨P,n2,_,_,_,rfl,u,F,I⟩;have B:=eU u;simp only[qV] at B;obtain rfl:n=n2:=by rw[←B];exact HN.symm
 obtain⟨R,_,rfl,_,_,_,_,_⟩:=aY u a6;obtain⟨T,_,rfl,_,_,_,_,_⟩:=aY F a6;have HP:=hI u;have HS:=hI F;have Z:=hI I;clear u F I B H;have B:=df w2 w2.heap.size 2 (qA _);have u:BL w2 (w2.alloc (.cells #[] 2)):=(qB _ _).alloc (qA _) _;go_wp2_with fail
 go_loopw [7,18] (λv i wr=>∃(k:Nat) (N:OA) (M:Nat),k≤n∧i=.int .i64 k∧v=.slice N k M∧Hid (wr.ownsRow w2.heap.size 2 1 (.slice N k M) k (ints ((eW s h).take k)))∧Hid (BL w2 wr)) (λ_ i _=>n-(intOf i).toNat)
 case atStart=>exact⟨0,_,_,qH _,rfl,rfl,hI B,hI u⟩
 case round=>(
 clear B u;obtain⟨k,N,M,_,rfl,rfl,HO,Y⟩:=hrel;obtain⟨W,b'⟩:∃W:World,W=wr:=⟨_,rfl⟩;subst b';have b9:=Y.size;have ar:=hI (Z.trans (Y.mono Z.size));by_cases a2:k<n
 {
 obtain⟨b,o,x0,x1,x2,rfl,u,_,bo,bp,bq⟩:=(b1 _ ar).fin a2;have bb:=hI (show(eW s h).take (k+1)=(eW s h).take k++[vW s h (x0,x1,x2)] from am (by unfold eW;rw[qZ,u];rfl));have HX:=hI u;clear u;obtain⟨L,U,XA,u,_⟩:=ae W #[x0,x1,x2] 53;have O:=hI (Y.trans (u.mono b9));have a8:=hI (aa HO u);have bW:=zb ar u;have FA:=XA.f3;clear u;by_cases e1:x1=0
 {
 subst e1;obtain⟨b4,p,bs,_,_,F,bO,_⟩:=aY (aa HP O) a2;obtain⟨b5,H,bv,_,_,V,bR,_⟩:=aY (aa HS O) a2;obtain rfl:R=b4:=by injection bs with e;injection e
 obtain rfl:T=b5:=by injection bv with e;injection e
 rw[qZ,HX.out] at F V;have u:p=(ci h (x0,0,x2)).1:=by simpa using F.symm
 have I:H=(ci h (x0,0,x2)).2:=by simpa using V.symm
 have ca:1≤p∧p≤17:=by rw[u];have:=pO x2 h;have:=HN.out;simp only[ci,if_true];omega
 have bP:0≤H∧H≤16:=by rw[I];have:=pI x2 h;have:=HN.out;simp only[ci,if_true];omega
 obtain⟨v,hv⟩:∃v,v=5*(2*p+H-1):=⟨_,rfl⟩;have HV:=hI (show vW s h (x0,0,x2)=v from by unfold vW;rw[if_pos rfl,hv,u,I]);have b3:=hI (show IntKind.i64.wrap (5*IntKind.i64.wrap (IntKind.i64.wrap (IntKind.i64.wrap (2*p)+H)-1))=v from by rw[IntWalk.i64_in (2*p) (by omega),IntWalk.i64_in (2*p+H) (by omega),IntWalk.i64_in (2*p+H-1) (by omega),IntWalk.i64_in _ (by omega)];exact hv.symm);have bk:=hI (show ∀B,BL L B→B.cell? ⟨R,k,none⟩=some (.int .i64 p)∧B.cell? ⟨T,k,none⟩=some (.int .i64 H) from λB J=>⟨mo bO J,mo bR J⟩);clear hv u I F V bs bv;go_wp2_with fail
 rw[←U];clear U bo bp bq FA bO bR;go_wp2_with fail
 obtain⟨S,I,u⟩:∃S:World→Prop,(∀B,S B→B.cell? ⟨R,k,none⟩=some (.int .i64 p)∧B.cell? ⟨T,k,none⟩=some (.int .i64 H))∧(∀B,S B→S (B.alloc (.cells #[.int .i64 v] 2)))∧S L.drew:=⟨λB=>B.cell? ⟨R,k,none⟩=some (.int .i64 p)∧B.cell? ⟨T,k,none⟩=some (.int .i64 H),λ_ G=>G,λB G=>⟨mo G.1 (za _ _),mo G.2 (za _ _)⟩,bk _ (ac _ L 1)⟩;have ba:=hI I;have b2:=hI u.1;have F:=u.2;clear I u bk;refine bz (n:=16) S (λj=>decide (14≤j)) (by kernel_rfl) rfl ?_;intro ops u;refine zN u 0 F ?_;go_simp;refine zN u 1 F ?_;go_simp;refine zN u 2 F ?_;go_simp;refine zN u 3 F ?_;go_simp;refine zS u ba 4 F ?_;go_simp;refine zN u 5 F ?_;go_simp;refine zN u 6 F ?_;go_simp;refine zN u 7 F ?_;go_simp;refine zN u 8 F ?_;go_simp;refine zS u ba 9 F ?_;go_simp;refine zN u 10 F ?_;go_simp;refine zN u 11 F ?_;go_simp;refine zV u 12 (.int .i64 v) rfl (by kernel_rfl) (λB F=>by go_simp;try rw[b3.out]) F ?_;go_simp;have b6:=ac W.heap.size L 1;obtain⟨V,I⟩:∃V:World,V=L.drew:=⟨_,rfl⟩;rw[←I] at F ⊢;have a':=hI (show V.ownsRow w2.heap.size 2 1 (.slice N k M) k (ints ((eW s h).take k)) from by rw[I];exact jW a8 1);have a7:=hI (show BL w2 V from by rw[I];exact bx O 1);clear I b6;have b7:=a7.size;refine zo u 13 λK' I=>?_
 go_simp;refine I _ _ (.inr (b2 _ F)) ?_;clear I;go_simp;refine zo u 14 λK' I=>?_
 refine EX _ rfl _ _ rfl rfl (a'.alloc _) rfl (dv _ _ _) (by omega) (by simp;omega) ?_;intro g9 c9 w9 bN bt;have av:=hI bN;have ad:=hI (iF a7 b7 (qA _) a' bt);clear bN bt;refine I _ _ (.inl (by decide)) ?_;clear I;go_simp;refine zo u 15 λK' I=>?_
 go_simp;refine I _ _ (.inl (by decide)) ?_;clear I;go_simp;refine zd u ?_;go_wp2_with fail
 go_roundw
 case rel=>exact⟨k+1,_,_,by omega,by go_num,rfl,hI (by rw[bb.out,HV.out];exact av),ad⟩
 case measure=>simp[intOf]<;>omega}
 {
 have h1:(x1==0)=false:=by simp[e1]
 have HV:=hI (show vW s h (x0,x1,x2)=Hf s h x1 from by unfold vW Hf;rw[if_neg e1]);have H:=hI (b0 x1 L bW);go_wp2_with fail
 rw[←U];clear U bo bp bq;go_wp2_with fail
 refine H.mono ?_;rintro e wb⟨rfl,u⟩;have F:=zb O u;have I:=hI (aa a8 u);have bP:=F.size;clear u H FA;rw[←HV.out];generalize vW s h (x0,x1,x2)=v at *;go_wp2_with(at_builtin;refine nP _ rfl _ _ rfl rfl (I.alloc _) rfl (dv _ _ _) (by omega) ?cB1 ?_;rotate_left;intro U V B H u)
 {
 have av:=hI H;have ad:=hI (iF F bP (qA _) I u);clear H u;go_roundw
 case rel=>exact⟨k+1,_,_,by omega,by go_num,rfl,hI (by rw[bb.out];exact av),ad⟩
 case measure=>simp[intOf]<;>omega}
 {simp;omega}}}
 {
 obtain rfl:k=n:=by omega
 have u:=HO.out;rw[qI (by rw[a1.out];exact qA _)] at u;obtain⟨g,_,rfl,_,_,_,_,_⟩:=aY u a6;have B:=hI u;clear u;have u:=Z.size;go_wp2_with fail
 go_ret;refine⟨g,M,?_,?_,by omega,ar⟩
 {rw[a1.out];rfl}
 {rw[a1.out];exact an B u}})}
theorem vX:∀h:List ah,bh 0 h (List.replicate h.length 0)=h:=by{
 intro h
 induction h with
 | nil=>rfl
 | cons f r u=>simp only[qO,List.replicate_succ,bh,if_true,u]}
theorem EU (s:Int){h:List ah}{k:Nat}{f:ah}(hf:h[k]?=some f):(eW s h).take (k+1)++List.replicate (h.length-(k+1)) 0=((eW s h).take k++List.replicate (h.length-k) 0).set k (vW s h f):=by{
 have B:k<h.length:=(List.getElem?_eq_some_iff.1 hf).1;have u:(eW s h)[k]?=some (vW s h f):=by unfold eW;rw[qZ,hf];rfl
 exact(sV 0 (eW s h) h.length k (vW s h f) (by simp[eW]) u B).symm}
theorem tP (A:OA)(n c:Nat)(B:List ah)(s:Int)(hn:n≤16)(cl:0<n)(w:World)(R:Rd w 3 A n (fins B)):Calls prog 314 #[.agg #[.slice A n c],s] w (IU w (eW s B)):=by{
 have Y:=hI R.len_fin;have bb:=hI (λw' (G:BL w w')=>R.below G);have a1:=hI (show(eW s B).length=n from by unfold eW;rw[qV];exact R.len_fin);clear R;obtain⟨wa,F,h,u,_⟩:=ae w #[.slice A n c] 157;have a8:=hI u;have bo:=hI h;have T:=h.l1;clear u h;go_enter func314,ntmps314;go_wp2_with fail
 rw[←F];clear F;go_wp2_with fail
 clear T;go_loopw [6,7] (λv i wr=>∃(k:Nat),k≤n∧i=.int .i64 k∧v=.int .i64 (cameN (B.take k):Nat)∧Hid (BL wa wr)) (λ_ i _=>n-(intOf i).toNat)
 case atStart=>exact⟨0,qH _,rfl,rfl,hI (qB _ _)⟩
 case round=>(
 obtain⟨k,_,rfl,rfl,HB⟩:=hrel;obtain⟨F,b7⟩:∃F:World,F=wr:=⟨_,rfl⟩;subst b7;have W:=hI (a8.trans (HB.mono a8.size));have T:=(bo.below HB).l1;have V:cameN (B.take k)≤16:=qM (xj _) (by simp;have:=Y.out;omega);by_cases ar:k<n
 {
 obtain⟨b,o,x0,x1,x2,rfl,H,_,bp,bq,bs⟩:=(bb _ W).fin ar;have I:=hI (show cameN (B.take (k+1))=cameN (B.take k)+(if x1=1 then 0 else 1) from by{
 rw[am H];unfold cameN;rw[List.filter_append,qJ,List.filter_cons];by_cases R:x1=1<;>simp[R]})
 clear H;generalize cameN (B.take k)=q at *;by_cases J:x1=1
 {
 subst J;go_wp2_with fail
 go_roundw
 case rel=>exact⟨k+1,by omega,by go_num,by rw[I.out,if_pos rfl];rfl,HB⟩
 case measure=>simp[intOf]<;>omega}
 {
 have h1:(x1 !=1)=true:=by simp[J]
 have h:=hI (show cameN (B.take (k+1))=q+1 from by rw[I.out,if_neg J]);clear J I;go_wp2_with fail
 go_roundw
 case rel=>exact⟨k+1,by omega,by go_num,by rw[h.out];go_num,HB⟩
 case measure=>simp[intOf]<;>omega}}
 {
 obtain rfl:k=n:=by omega
 rw[qI (by rw[Y.out];omega)] at V ⊢;have bW:=hI (show cameN B≤16 from V);have b4:=λw=>kB k (by omega) w
 obtain⟨O,h⟩:∃O,O=F.alloc (.cells (madeCells #[(0:Int)] k) 2):=⟨_,rfl⟩;have Z:=jM F F.heap.size 2 k (.int .i64 0) (qA _) (by omega);rw[←fZ,←h] at Z;have N:BL F O:=by rw[h];exact(qB _ _).alloc (qA _) _
 obtain⟨w2,u⟩:∃w2,w2=O.alloc (.cells (madeCells #[(0:Int)] k) 2):=⟨_,rfl⟩;have a6:=jM O O.heap.size 2 k (.int .i64 0) (qA _) (by omega);rw[←fZ,←u] at a6;have U:BL O w2:=by rw[u];exact(qB _ _).alloc (qA _) _
 have bt:O.heap.size=F.heap.size+1:=by rw[h];simp
 have b5:w2.heap.size=O.heap.size+1:=by rw[u];simp
 have L:=hI (aa Z U);have M:=hI a6;have a7:=hI (N.trans (U.mono N.size));clear Z a6 N U;generalize N:cameN B=cm at *;have bP:=hI N;clear N V;go_wp2_with fail
 rw[←h,←u];clear b4 h u;go_wp2_with fail
 clear T;obtain⟨N,U⟩:∃g,g=F.heap.size+1:=⟨_,rfl⟩;rw[bt,←U] at M;obtain⟨u,h⟩:∃g,g=F.heap.size:=⟨_,rfl⟩;rw[←U,←h];rw[←h] at L;have b1:=hI (bo.below HB);have V:=hI (an M (show F.heap.size≤N by omega));have bR:=hI h;have ck:u<N:=by omega
 have ch:F.heap.size≤u:=by omega
 clear h U bt b5;have bk:=hI (λw' (G:BL F w')=>bb w' (W.trans (G.mono W.size)));have a':=hI (vX B);rw[Y.out] at a';go_loopw [10] (λi wr=>∃(h:Nat),h≤k∧i=.int .i64 h∧Hid (wr.ownsRow F.heap.size 2 1 (.slice (some ⟨u,0,none⟩) k k) k (ints ((eW s B).take h++List.replicate (k-h) 0)))∧Hid (wr.ownsRow F.heap.size 2 1 (.slice (some ⟨N,0,none⟩) k k) k (ints (List.replicate k 0)))∧Hid (BL F wr)) (λi _=>k-(intOf i).toNat)
 case atStart=>exact⟨0,qH _,rfl,hI (by have R:=L.out;rw[←bR.out];simpa using R),V,a7⟩
 case round=>(
 clear L M V a7;obtain⟨h,_,rfl,V,HS,L⟩:=hrel;obtain⟨wp,b9⟩:∃wp:World,wp=wr:=⟨_,rfl⟩;subst b9;have b6:=L.size;have T:=(b1.below L).l1;by_cases ar:h<k
 {
 obtain⟨b,o,x0,x1,x2,rfl,H,_,bp,bq,bs⟩:=(bk _ L).fin ar;have Z:=hI (EU s H);rw[Y.out] at Z;have HX:=hI H;have b2:=hI (show((eW s B).take h++List.replicate (k-h) 0)[h]?=some 0 from by{have M:=a1.out;rw[qR (by rw[qS];omega),List.getElem?_replicate,if_pos (by rw[qS];omega)]});obtain⟨gx,z,av,_,_,_,bv,bN⟩:=aY V ar;obtain rfl:u=gx:=by injection av with e;injection e
 clear H av;by_cases e0:x1=0
 {
 subst e0;have a2:=hI (λw' (G:BL F w') (H:Rd w' 1 (some ⟨N,0,none⟩) k (ints (List.replicate k 0)))=>vQ (some ⟨b,o,none⟩) k c B (some ⟨N,0,none⟩) k k (List.replicate k 0) h x0 0 x2 0 w' (bk w' G) H HX (by rw[List.getElem?_replicate,if_pos ar]) rfl hn);rw[a'.out] at a2;have h1:=pO x2 B;have h2:=pI x2 B;have M:=hI (show vW s B (x0,0,x2)=5*(2*(1+(ltN x2 B:Int))+(eqN x2 B:Int)-1) from rfl);have U:=Y.out;generalize ltN x2 B=p at *;generalize eqN x2 B=q at *;obtain⟨v,H⟩:∃v,v=5*(2*(1+(p:Int))+(q:Int)-1):=⟨_,rfl⟩;rw[←H] at M;have b':=hI (show IntKind.i64.wrap (5*IntKind.i64.wrap (IntKind.i64.wrap (IntKind.i64.wrap (2*(1+(p:Int)))+(q:Int))-1))=v from by rw[IntWalk.i64_in (2*(1+(p:Int))) (by omega),IntWalk.i64_in (2*(1+(p:Int))+(q:Int)) (by omega),IntWalk.i64_in (2*(1+(p:Int))+(q:Int)-1) (by omega),IntWalk.i64_in _ (by omega)];exact H.symm);have ad:=hI H;have cn:p≤16:=by omega
 have co:q≤16:=by omega
 clear H U;go_wp2_with fail
 refine(a2 _ L (az HS)).mono ?_;rintro e w5⟨rfl,U⟩;have bO:=hI (L.trans (U.mono b6));have ba:=hI (aa V U);have b0:=hI (aa HS U);have cp:=U.size;clear U a2 bv bN T bp bq bs;obtain⟨gx,z,av,_,_,_,bv,bN⟩:=aY ba ar;obtain rfl:u=gx:=by injection av with e;injection e
 clear av;go_wp2_with fail
 rw[show(5*(2*(1+(p:Int))+(q:Int)-1))=v from ad.out.symm];have U:=hI (dn (k:=h) ba v);have T:=hI (bO.setCell (p:=⟨u,h,none⟩) (show F.heap.size≤u by omega) (.int .i64 v));have I:=hI (aE b0 (aQ (g:=u) [.int .i64 v] h (aK.refl u (u+1) w5) (qA _) (by omega)) (λb G=>by (have h9:N=b:=(by simpa[Value.ownBlock] using G));omega));go_roundw
 case rel=>exact⟨h+1,by omega,by go_num,hI (by rw[Z.out,M.out];exact U),I,T⟩
 case measure=>simp[intOf]<;>omega}
 {
 have ca:(x1==0)=false:=by simp[e0]
 by_cases e9:x1=9
 {
 subst e9;have M:=hI (show vW s B (x0,9,x2)=0 from rfl);go_wp2_with fail
 go_roundw
 case rel=>exact⟨h+1,by omega,by go_num,hI (by rw[Z.out,M.out,iX b2.out];exact V),HS,L⟩
 case measure=>simp[intOf]<;>omega}
 {
 have cd:(x1==9)=false:=by simp[e9]
 by_cases J:x1=1∨s=0
 {
 have cb:(if (x1==1)=true then true else(s==0))=true:=by rcases J with rfl|rfl<;>simp
 obtain⟨v,H⟩:∃v,v=10*((k:Int)+1):=⟨_,rfl⟩;have M:=hI (show vW s B (x0,x1,x2)=v from by unfold vW;rw[if_neg e0,if_neg e9,if_pos J,Y.out,H]);have ad:=hI H;clear H;rcases (Classical.em (x1=1)) with e2|e2
 {
 subst e2;go_wp2_with fail
 rw[show(10*((k:Int)+1))=v from ad.out.symm];have U:=hI (dn (k:=h) V v);have T:=hI (L.setCell (p:=⟨u,h,none⟩) (show F.heap.size≤u by omega) (.int .i64 v));have I:=hI (aE HS (aQ (g:=u) [.int .i64 v] h (aK.refl u (u+1) wp) (qA _) (by omega)) (λb G=>by (have h9:N=b:=(by simpa[Value.ownBlock] using G));omega));go_roundw
 case rel=>exact⟨h+1,by omega,by go_num,hI (by rw[Z.out,M.out];exact U),I,T⟩
 case measure=>simp[intOf]<;>omega}
 {
 have b3:(x1==1)=false:=by simp[e2]
 obtain rfl:s=0:=J.resolve_left e2;go_wp2_with fail
 rw[show(10*((k:Int)+1))=v from ad.out.symm];have U:=hI (dn (k:=h) V v);have T:=hI (L.setCell (p:=⟨u,h,none⟩) (show F.heap.size≤u by omega) (.int .i64 v));have I:=hI (aE HS (aQ (g:=u) [.int .i64 v] h (aK.refl u (u+1) wp) (qA _) (by omega)) (λb G=>by (have h9:N=b:=(by simpa[Value.ownBlock] using G));omega));go_roundw
 case rel=>exact⟨h+1,by omega,by go_num,hI (by rw[Z.out,M.out];exact U),I,T⟩
 case measure=>simp[intOf]<;>omega}}
 {
 have b3:(x1==1)=false:=by simp;intro e;exact J (.inl e)
 have cc:(s==0)=false:=by simp;intro e;exact J (.inr e)
 obtain⟨v,H⟩:∃v,v=10*((cm:Int)+1):=⟨_,rfl⟩;have M:=hI (show vW s B (x0,x1,x2)=v from by unfold vW;rw[if_neg e0,if_neg e9,if_neg J,bP.out,H]);have ad:=hI H;have cf:=bW.out;clear H;go_wp2_with fail
 rw[show(10*((cm:Int)+1))=v from ad.out.symm];have U:=hI (dn (k:=h) V v);have T:=hI (L.setCell (p:=⟨u,h,none⟩) (show F.heap.size≤u by omega) (.int .i64 v));have I:=hI (aE HS (aQ (g:=u) [.int .i64 v] h (aK.refl u (u+1) wp) (qA _) (by omega)) (λb G=>by (have h9:N=b:=(by simpa[Value.ownBlock] using G));omega));go_roundw
 case rel=>exact⟨h+1,by omega,by go_num,hI (by rw[Z.out,M.out];exact U),I,T⟩
 case measure=>simp[intOf]<;>omega}}}}
 {
 obtain rfl:h=k:=by omega
 have H:=V.out;rw[Nat.sub_self,qI (by rw[a1.out];exact qA _)] at H;simp only[List.replicate_zero,qa] at H;have T:=hI H;have M:=hI (W.trans (L.mono W.size));have U:=W.size;clear H;go_wp2_with fail
 go_ret;refine⟨u,h,?_,?_,by omega,M⟩
 {rw[a1.out];rfl}
 {rw[a1.out];exact an T U}})})}
end Go.Proofs.YtnpldahkhaacnaaGreatDoor

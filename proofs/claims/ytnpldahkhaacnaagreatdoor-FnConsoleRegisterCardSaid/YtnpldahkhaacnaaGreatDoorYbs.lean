/- Texts of the walk: Oo Op. -/
import Derived.Test.YtnpldahkhaacnaaGreatDoorYbr
set_option linter.unusedVariables false
set_option linter.unusedSimpArgs false
set_option maxRecDepth 100000
set_option maxHeartbeats 32000000
namespace Go.Proofs.YtnpldahkhaacnaaGreatDoor
open Go.RowKit Go.Sort Go.Proofs.Tryz
theorem Ew (I:Bool)(b s:Int)(B:List EntryT)(u:LI)(O:lh ⟨I,b,s,B,u⟩)(G:Nat)(A:OA)(n c:Nat)(F:OA)(H J:Nat)(w:World)(N:aO w G (be I b s A n c F H J) 61)(T:bA w A n c B)(R:Rd w 1 F H (ints u))(h:LB)(M:h.length≤2097152)(L:∀Y,BL w Y→gu Y):Calls prog 71 #[.pointer (some ⟨G,0,none⟩),.string (ag h)] w (fo w G A n c B F H J u (aZ ⟨I,b,s,B,u⟩ h)):=by{
 by_cases U:(wordsL h).getD 0 []=cM
 {exact BO I b s B u O G A n c F H J w N T R h M L U}
 by_cases V:(wordsL h).getD 0 []=aS
 {exact wA I b s B u O G A n c F H J w N T R h M L V}
 by_cases W:(wordsL h).getD 0 []=a_
 {exact zF I b s B u O G A n c F H J w N T R h M L W}
 exact DN I b s B u O G A n c F H J w N T R h M L _ rfl U V W}
theorem yu:∀(l:LB),∀x∈aL l,x.length≤l.length:=by{
 intro l
 induction l with
 | nil=>intro x h;simp[aL] at h;subst h;simp
 | cons c r u=>{
 intro x h;by_cases B:c=10
 {
 subst B;rw[eI] at h;rcases List.mem_cons.1 h with rfl|h
 {simp}
 {have:=u x h;simp;omega}}
 {
 rw[ik B] at h
 cases F:aL r with
 | nil=>exact absurd F (gK r)
 | cons w G=>{
 rw[F] at h u;simp only[cj] at h;rcases List.mem_cons.1 h with rfl|h
 {have:=u w List.mem_cons_self;simp;omega}
 {have:=u x (List.mem_cons_of_mem _ h);simp;omega}}}}}
theorem pU (h:LB):∀x∈bE h,x.length≤h.length:=by{
 intro x u;unfold bE at u;split at u
 {exact yu h x (List.dropLast_subset _ u)}
 {exact yu h x u}}
theorem CQ (h p:LB):(Lib.trimSuffix h p).length≤h.length:=by{
 unfold Lib.trimSuffix;split
 {rw[qS];omega}
 {exact qA _}}
theorem Ah (h:LB)(w:World)(F:h.length≤2097152):Calls prog 70 #[.string (ag h),.string ⟨#[10]⟩] w λe B=>e=.returned (.string (ag (Lib.trimSuffix h [10])))∧B=w:=by{
 have u:=strings_TrimSuffix (ag h) ⟨#[10]⟩ w (by rw[aj];omega);rw[aw] at u;exact u}
theorem BD (h:LB)(O:h.length≤2097152)(w:World)(B:MaxL w):Calls prog 66 #[.string (ag h),.string ⟨#[10]⟩] w λe u=>∃A n,e=.returned (.slice A n n)∧Rd u 1 A n (strs (aL h))∧BL w u∧u.heap.size=w.heap.size+1:=by{
 obtain⟨m,B⟩:=B;have F:=strings_Split (ag h) ⟨#[10]⟩ m w (by rw[aj];omega) B (by decide);have H:=vC (ag h);rw[aw] at H;have I:Lib.countB (ag h) ⟨#[10]⟩+1=(aL h).length:=by{
 have G:Lib.countB (ag h) ⟨#[10]⟩+1=(aL (ag h).data.toList).length:=by{
 rw[nG];unfold Lib.countB;rw[←Lib.count_one 10]}
 rw[G,aw]}
 have M:(Lib.splitB ⟨#[10]⟩ 0 (Lib.countB (ag h) ⟨#[10]⟩) (ag h)).map Value.string=strs (aL h):=by{
 rw[←H];unfold strs;rw[List.map_map];refine List.map_congr_left λx _=>?_
 show Value.string x=Value.string (ag x.data.toList);rw[fw]}
 rw[M,I] at F;have J:(aL h).length≤9223372036854775807:=by{
 have L:=nG h;have N:h.count 10≤h.length:=List.count_le_length;omega}
 refine F.mono ?_;rintro e u⟨rfl,rfl⟩;refine⟨_,_,rfl,⟨by rw[gi];omega,J,λG=>⟨_,_,rfl,λi N L=>?_⟩⟩,(qB _ _).alloc (qA _) _,by simp⟩;rw[Nat.zero_add];exact(aO.new w (strs (aL h)).toArray 9).cell (by simpa using L)}
theorem uB {B O:World}{M G e N I L u H:Nat}{J F:OA}{V R:List Value}(T:B.ownsRow G e N (.slice J I L) I V)(Y:aK M (M+1) B O)(h:(F=J∧u=I∧H=L∧R=V)∨O.ownsRow B.heap.size e N (.slice F u H) u R)(W:G≤B.heap.size)(hd:M<G):O.ownsRow G e N (.slice F u H) u R∧(∀q,q<B.heap.size→(Value.slice J I L).ownBlock≠some q→(Value.slice F u H).ownBlock≠some q):=by{
 rcases h with⟨rfl,rfl,rfl,rfl⟩|h
 {exact⟨aE T Y (λq U=>.inr (by have:=(T.lt q U).1;omega)),λq _ h=>h⟩}
 {exact⟨an h W,λq U _ Z=>by have:=(h.lt q Z).1;omega⟩}}
def kC (w:World) (d:Dk) (I:List LB) (code:Int) (e:Ending) (u:World):Prop:=∃A n c G m H B h F,e=.returned (.tuple #[.agg (be d.op d.b d.s A n c G m H),.slice B h F,code])∧u.ownsRow w.heap.size 25 7 (.slice A n c) n (ents d.xs)∧u.ownsRow w.heap.size 9 1 (.slice B h F) h (strs I)∧BL w u
theorem qq (h:LB)(hL:h.length≤2097152)(w:World)(u:∀w',BL w w'→gu w'):Calls prog 40 #[.string (ag h)] w (kC w (dl h) (eG h) (dF h)):=by{
 have b9:=hI u;have bR:=hI (λw=>Ah h w hL);have bv:=hI (λw B=>BD (Lib.trimSuffix h [10]) (qM (CQ h [10]) hL) w B);have ch:(ag h).size=h.length:=aj h;have c5:=hI (λx hx=>qM (pU h x hx) hL);obtain⟨wa,G,B,F,H⟩:=ae w #[.bool false,(0:Int),(0:Int),.slice none 0 0,.slice none 0 0] 61;have HX:=hI B;have ba:=hI F;have bW:=hI (show(w.alloc (.cells #[.bool false,(0:Int),(0:Int),.slice none 0 0,.slice none 0 0] 61))=wa from G.symm);clear B F G u H;by_cases h0:h=[]
 {
 have en:(ag h).toList.isEmpty=true:=by rw[h0,ByteArray.toList_eq,aw];rfl
 have V:=hI (show dF h=0∧eG h=(di Dk.zero []).2∧dl h=(di Dk.zero []).1 from by rw[h0];exact⟨by decide,by decide,rfl⟩);have cv:(ag h).size=0:=by rw[ch,h0];rfl
 have cm:=hI (show([]:List LB).length=0 from rfl);generalize ag h=a1 at *;clear h0 ch c5;have cy:decide ((a1.size:Int)>6000)=false:=by rw[cv];decide
 have cB:decide (6000<a1.size)=false:=by rw[cv];decide
 have a7:decide ((6000:Int)<(a1.size:Int))=false:=by rw[cv];decide
 go_enter func40,ntmps40;go_wp2_with fail
 rw[bW.out];clear bW;refine(bR _).mono ?_;rintro e w'⟨rfl,rfl⟩;go_wp2_with fail
 refine(bv _ (b9 _ ba).max).mono ?_;rintro e u⟨Al,nl,rfl,bo,Y,a7⟩;have W:=hI (HX.below Y);have a2:=zb ba Y;have cR:=W.lt;obtain⟨wx,av,ad,a8⟩:=jd u #[] 9;have ar:=bg u u.heap.size 9 1 (qA _);rw[←av] at ar;obtain⟨w3,a',X3,Z,b3⟩:=ae wx #[.bool false,(0:Int),(0:Int),.slice none 0 0,.slice none 0 0] 61;have bs:=hI (aa ar Z);have bq:=hI (ad.trans (Z.mono ad.size));have a6:=hI X3;have bO:=hI (show u.heap.size+2≤w3.heap.size from by omega);have bN:=hI (show w3=(u.alloc (.cells #[] 9)).alloc (.cells #[.bool false,(0:Int),(0:Int),.slice none 0 0,.slice none 0 0] 61) from by rw[a',av]);rw[a8] at a6;clear ar ad Z X3 a' av b3 a8 bv bR Y a7;clear bo;go_wp2_with fail
 rw[←bN.out];clear bN;go_loopw [7,28] (λl i wr=>∃(k R:Nat) (O:OA) (N:Bool) (b s:Int) (I:OA) (H L:Nat) (J:OA) (G M:Nat) (xs:List EntryT) (bp:LI),k≤0∧l=.slice O k R∧i=.int .i64 (k:Int)∧Hid ((⟨N,b,s,xs,bp⟩:Dk)=(di Dk.zero (([]:List LB).take k)).1)∧Hid (wr.ownsRow u.heap.size 9 1 (.slice O k R) k (strs (di Dk.zero (([]:List LB).take k)).2))∧Hid (∀q,(Value.slice O k R).ownBlock=some q→q≠u.heap.size+1)∧Hid (aO wr (u.heap.size+1) #[.bool N,b,s,.slice I H L,.slice J G M] 61)∧Hid (wr.ownsRow (u.heap.size+2) 25 7 (.slice I H L) H (ents xs))∧Hid (wr.ownsRow (u.heap.size+2) 2 1 (.slice J G M) G (ints bp))∧Hid (∀q,(Value.slice O k R).ownBlock=some q→(Value.slice I H L).ownBlock≠some q∧(Value.slice J G M).ownBlock≠some q)∧Hid (BL u wr)∧Hid (u.heap.size+2≤wr.heap.size)) (λ_ i _=>0-(intOf i).toNat)
 case atStart=>exact⟨0,0,_,false,0,0,none,0,0,none,0,0,[],[],qH _,rfl,rfl,hI rfl,bs,hI (λq F=>by simp[Value.ownBlock] at F;omega),a6,hI (World.ownsRow_nil _ _ _ _),hI (World.ownsRow_nil _ _ _ _),hI (λq _=>⟨by simp[Value.ownBlock],by simp[Value.ownBlock]⟩),bq,bO⟩
 case round=>(
 clear bs a6 bq bO;obtain⟨k,R,O,N,b,s,I,H,L,J,G,M,xs,bp,hk,rfl,rfl,bn,HO,cn,b4,bt,co,cl,bk,HZ⟩:=hrel;obtain⟨wo,cL⟩:∃wo:World,wo=wr:=⟨_,rfl⟩;subst cL;have er:=bk.size;have eE:=HZ.out;have b0:=hI (a2.trans (bk.mono a2.size));by_cases cw:k<0
 {omega}
 {
 obtain rfl:k=0:=by omega
 have dc:decide ((0:Int)<(0:Int))=false:=by simp
 have ck:([]:List LB).take 0=([]:List LB):=qI (by rw[cm.out];omega);have b2:=bn.out;have ho:=HO.out;rw[ck] at b2 ho;have bn:=hI b2;have HO:=hI ho;have FD:=b4.f5;have ca:=hI (W.kept bk (by have:=W.lt;exact this));have FX:=ca.f5;have eH:=ba.size;have eK:=a2.size;clear b2 ho ck;go_wp2_with fail
 obtain⟨U,T⟩:∃U:World,U=(((((wo).setCell ⟨w.heap.size,0,none⟩ (.bool N)).setCell ⟨w.heap.size,1,none⟩ (.int .i64 b)).setCell ⟨w.heap.size,2,none⟩ (.int .i64 s)).setCell ⟨w.heap.size,3,none⟩ (.slice I H L)).setCell ⟨w.heap.size,4,none⟩ (.slice J G M):=⟨_,rfl⟩;have XG:aO U w.heap.size #[.bool N,b,s,.slice I H L,.slice J G M] 61:=by rw[T];have:=(((((ca).set 0 (.bool N)).set 1 (.int .i64 b)).set 2 (.int .i64 s)).set 3 (.slice I H L)).set 4 (.slice J G M);simpa using this
 have b1:aK w.heap.size (w.heap.size+1) wo U:=by rw[T];(repeat refine bD ?_ (qA _) (by omega) _);exact aK.refl _ _ _
 have FG:=XG.f5;rw[←T];clear T XG;refine bodyPost_ret (v:=.tuple #[.agg #[.bool N,b,s,.slice I H L,.slice J G M],.slice O 0 R,(0:Int)]) (by simp[results,results40,go_sem,FG]) rfl ?_;unfold kC;rw[V.out.1,V.out.2.1,V.out.2.2,←bn.out];exact⟨I,H,L,J,G,M,O,_,R,rfl,an (aE bt b1 (λq B=>.inr (by have:=(bt.lt q B).1;omega))) (by omega),an (aE HO b1 (λq B=>.inr (by have:=(HO.lt q B).1;omega))) (by omega),ao b0 b1 (qA _) b0.size⟩})}
 have en:(ag h).toList.isEmpty=false:=by rw[ByteArray.toList_eq,aw];cases h with|nil=>exact absurd rfl h0|cons c r=>rfl
 by_cases h6:6000<h.length
 {
 skip;have V:=hI (show dF h=3∧eG h=[]∧dl h=Dk.zero from by{
 have hf:dU h=false:=by unfold dU;rw[decide_eq_false (by omega),Bool.false_and]
 unfold dF eG dl;rw[hf];exact⟨rfl,rfl,rfl⟩})
 generalize ag h=a1 at *;have cy:decide ((a1.size:Int)>6000)=true:=by simp;omega
 have cB:decide (6000<a1.size)=true:=by simp;omega
 have a7:decide ((6000:Int)<(a1.size:Int))=true:=by simp;omega
 clear h0 h6 ch;go_enter func40,ntmps40;go_wp2_with fail
 rw[bW.out];clear bW;refine(bR _).mono ?_;rintro e w'⟨rfl,rfl⟩;go_wp2_with fail
 refine(bv _ (b9 _ ba).max).mono ?_;rintro e u⟨Al,nl,rfl,bo,Y,a7⟩;have W:=hI (HX.below Y);have a2:=zb ba Y;have cR:=W.lt;obtain⟨wx,av,ad,a8⟩:=jd u #[] 9;have ar:=bg u u.heap.size 9 1 (qA _);rw[←av] at ar;obtain⟨w3,a',X3,Z,b3⟩:=ae wx #[.bool false,(0:Int),(0:Int),.slice none 0 0,.slice none 0 0] 61;have bs:=hI (aa ar Z);have bq:=hI (ad.trans (Z.mono ad.size));have a6:=hI X3;have bO:=hI (show u.heap.size+2≤w3.heap.size from by omega);have bN:=hI (show w3=(u.alloc (.cells #[] 9)).alloc (.cells #[.bool false,(0:Int),(0:Int),.slice none 0 0,.slice none 0 0] 61) from by rw[a',av]);rw[a8] at a6;clear ar ad Z X3 a' av b3 a8 bv bR Y a7;clear bo;have FX:=W.f5;have cp:=FX;clear bN bs a6 bO bq;go_wp2_with fail
 clear FX cp;obtain⟨wp,bP⟩:∃wp:World,wp=(((((u).setCell ⟨w.heap.size,0,none⟩ (.bool false)).setCell ⟨w.heap.size,1,none⟩ (.int .i64 0)).setCell ⟨w.heap.size,2,none⟩ (.int .i64 0)).setCell ⟨w.heap.size,3,none⟩ (.slice none 0 0)).setCell ⟨w.heap.size,4,none⟩ (.slice none 0 0):=⟨_,rfl⟩;have XP:aO wp w.heap.size #[.bool false,(0:Int),(0:Int),.slice none 0 0,.slice none 0 0] 61:=by rw[bP];have:=(((((W).set 0 (.bool false)).set 1 (.int .i64 0)).set 2 (.int .i64 0)).set 3 (.slice none 0 0)).set 4 (.slice none 0 0);simpa using this
 have cs:aK w.heap.size (w.heap.size+1) u wp:=by rw[bP];(repeat refine bD ?_ (qA _) (by omega) _);exact aK.refl _ _ _
 rw[←bP];clear bP;obtain⟨U,T⟩:∃U:World,U=(wp.alloc (.cells #[] 9)).alloc (.cells #[.bool false,(0:Int),(0:Int),.slice none 0 0,.slice none 0 0] 61):=⟨_,rfl⟩;have cb:BL wp U:=by rw[T];exact(za _ _).alloc (by simp) _
 have cd:=ao a2 cs (qA _) a2.size;have FG:=(XP.below cb).f5;rw[←T];clear T XP;refine bodyPost_ret (v:=.tuple #[.agg #[.bool false,(0:Int),(0:Int),.slice none 0 0,.slice none 0 0],.slice none 0 0,(3:Int)]) (by simp[results,results40,go_sem,FG]) rfl ?_;unfold kC;rw[V.out.1,V.out.2.1,V.out.2.2];exact⟨none,0,0,none,0,0,none,0,0,rfl,World.ownsRow_nil _ _ _ _,World.ownsRow_nil _ _ _ _,cd.trans (cb.mono cd.size)⟩}
 have d4:=hI (Ax h0);rw[d4.out] at bv;by_cases c8:150<(bE h).length
 {
 skip;have V:=hI (show dF h=3∧eG h=[]∧dl h=Dk.zero from by{
 have hf:dU h=false:=by unfold dU;rw[decide_eq_false (show ¬(bE h).length≤150 from by omega),Bool.and_false]
 unfold dF eG dl;rw[hf];exact⟨rfl,rfl,rfl⟩})
 generalize ag h=a1 at *;have cy:decide ((a1.size:Int)>6000)=false:=by simp;omega
 have cB:decide (6000<a1.size)=false:=by simp;omega
 have a7:decide ((6000:Int)<(a1.size:Int))=false:=by simp;omega
 clear h0 h6 ch;go_enter func40,ntmps40;go_wp2_with fail
 rw[bW.out];clear bW;refine(bR _).mono ?_;rintro e w'⟨rfl,rfl⟩;go_wp2_with fail
 refine(bv _ (b9 _ ba).max).mono ?_;rintro e u⟨Al,nl,rfl,bo,Y,a7⟩;have W:=hI (HX.below Y);have a2:=zb ba Y;have cR:=W.lt;obtain⟨wx,av,ad,a8⟩:=jd u #[] 9;have ar:=bg u u.heap.size 9 1 (qA _);rw[←av] at ar;obtain⟨w3,a',X3,Z,b3⟩:=ae wx #[.bool false,(0:Int),(0:Int),.slice none 0 0,.slice none 0 0] 61;have bs:=hI (aa ar Z);have bq:=hI (ad.trans (Z.mono ad.size));have a6:=hI X3;have bO:=hI (show u.heap.size+2≤w3.heap.size from by omega);have bN:=hI (show w3=(u.alloc (.cells #[] 9)).alloc (.cells #[.bool false,(0:Int),(0:Int),.slice none 0 0,.slice none 0 0] 61) from by rw[a',av]);rw[a8] at a6;clear ar ad Z X3 a' av b3 a8 bv bR Y a7;have dq:=bo.len_str;rw[dq] at c8;clear bo dq;have eA:decide ((nl:Int)>150)=true:=by simp;omega
 have eC:decide (150<nl)=true:=by simp;omega
 have eD:decide ((150:Int)<(nl:Int))=true:=by simp;omega
 have FX:=W.f5;have cp:=FX;clear bN bs a6 bO bq;go_wp2_with fail
 clear FX cp;obtain⟨wp,bP⟩:∃wp:World,wp=(((((u).setCell ⟨w.heap.size,0,none⟩ (.bool false)).setCell ⟨w.heap.size,1,none⟩ (.int .i64 0)).setCell ⟨w.heap.size,2,none⟩ (.int .i64 0)).setCell ⟨w.heap.size,3,none⟩ (.slice none 0 0)).setCell ⟨w.heap.size,4,none⟩ (.slice none 0 0):=⟨_,rfl⟩;have XP:aO wp w.heap.size #[.bool false,(0:Int),(0:Int),.slice none 0 0,.slice none 0 0] 61:=by rw[bP];have:=(((((W).set 0 (.bool false)).set 1 (.int .i64 0)).set 2 (.int .i64 0)).set 3 (.slice none 0 0)).set 4 (.slice none 0 0);simpa using this
 have cs:aK w.heap.size (w.heap.size+1) u wp:=by rw[bP];(repeat refine bD ?_ (qA _) (by omega) _);exact aK.refl _ _ _
 rw[←bP];clear bP;obtain⟨U,T⟩:∃U:World,U=(wp.alloc (.cells #[] 9)).alloc (.cells #[.bool false,(0:Int),(0:Int),.slice none 0 0,.slice none 0 0] 61):=⟨_,rfl⟩;have cb:BL wp U:=by rw[T];exact(za _ _).alloc (by simp) _
 have cd:=ao a2 cs (qA _) a2.size;have FG:=(XP.below cb).f5;rw[←T];clear T XP;refine bodyPost_ret (v:=.tuple #[.agg #[.bool false,(0:Int),(0:Int),.slice none 0 0,.slice none 0 0],.slice none 0 0,(3:Int)]) (by simp[results,results40,go_sem,FG]) rfl ?_;unfold kC;rw[V.out.1,V.out.2.1,V.out.2.2];exact⟨none,0,0,none,0,0,none,0,0,rfl,World.ownsRow_nil _ _ _ _,World.ownsRow_nil _ _ _ _,cd.trans (cb.mono cd.size)⟩}
 have V:=hI (show dF h=0∧eG h=(di Dk.zero (bE h)).2∧dl h=(di Dk.zero (bE h)).1 from by{
 have hf:dU h=true:=by unfold dU;rw[decide_eq_true (show h.length≤6000 from by omega),decide_eq_true (show(bE h).length≤150 from by omega)];rfl
 unfold dF eG dl;rw[hf];exact⟨rfl,rfl,rfl⟩})
 generalize ag h=a1 at *;have cy:decide ((a1.size:Int)>6000)=false:=by simp;omega
 have cB:decide (6000<a1.size)=false:=by simp;omega
 have a7:decide ((6000:Int)<(a1.size:Int))=false:=by simp;omega
 clear h0 h6 ch;go_enter func40,ntmps40;go_wp2_with fail
 rw[bW.out];clear bW;refine(bR _).mono ?_;rintro e w'⟨rfl,rfl⟩;go_wp2_with fail
 refine(bv _ (b9 _ ba).max).mono ?_;rintro e u⟨Al,nl,rfl,bo,Y,a7⟩;have W:=hI (HX.below Y);have a2:=zb ba Y;have cR:=W.lt;obtain⟨wx,av,ad,a8⟩:=jd u #[] 9;have ar:=bg u u.heap.size 9 1 (qA _);rw[←av] at ar;obtain⟨w3,a',X3,Z,b3⟩:=ae wx #[.bool false,(0:Int),(0:Int),.slice none 0 0,.slice none 0 0] 61;have bs:=hI (aa ar Z);have bq:=hI (ad.trans (Z.mono ad.size));have a6:=hI X3;have bO:=hI (show u.heap.size+2≤w3.heap.size from by omega);have bN:=hI (show w3=(u.alloc (.cells #[] 9)).alloc (.cells #[.bool false,(0:Int),(0:Int),.slice none 0 0,.slice none 0 0] 61) from by rw[a',av]);rw[a8] at a6;clear ar ad Z X3 a' av b3 a8 bv bR Y a7;have cm:=hI bo.len_str;have d9:=hI bo;rw[cm.out] at c8;clear bo;have eA:decide ((nl:Int)>150)=false:=by simp;omega
 have eC:decide (150<nl)=false:=by simp;omega
 have eD:decide ((150:Int)<(nl:Int))=false:=by simp;omega
 go_wp2_with fail
 rw[←bN.out];clear bN;go_loopw [7,28] (λl i wr=>∃(k R:Nat) (O:OA) (N:Bool) (b s:Int) (I:OA) (H L:Nat) (J:OA) (G M:Nat) (xs:List EntryT) (bp:LI),k≤nl∧l=.slice O k R∧i=.int .i64 (k:Int)∧Hid ((⟨N,b,s,xs,bp⟩:Dk)=(di Dk.zero ((bE h).take k)).1)∧Hid (wr.ownsRow u.heap.size 9 1 (.slice O k R) k (strs (di Dk.zero ((bE h).take k)).2))∧Hid (∀q,(Value.slice O k R).ownBlock=some q→q≠u.heap.size+1)∧Hid (aO wr (u.heap.size+1) #[.bool N,b,s,.slice I H L,.slice J G M] 61)∧Hid (wr.ownsRow (u.heap.size+2) 25 7 (.slice I H L) H (ents xs))∧Hid (wr.ownsRow (u.heap.size+2) 2 1 (.slice J G M) G (ints bp))∧Hid (∀q,(Value.slice O k R).ownBlock=some q→(Value.slice I H L).ownBlock≠some q∧(Value.slice J G M).ownBlock≠some q)∧Hid (BL u wr)∧Hid (u.heap.size+2≤wr.heap.size)) (λ_ i _=>nl-(intOf i).toNat)
 case atStart=>exact⟨0,0,_,false,0,0,none,0,0,none,0,0,[],[],qH _,rfl,rfl,hI rfl,bs,hI (λq F=>by simp[Value.ownBlock] at F;omega),a6,hI (World.ownsRow_nil _ _ _ _),hI (World.ownsRow_nil _ _ _ _),hI (λq _=>⟨by simp[Value.ownBlock],by simp[Value.ownBlock]⟩),bq,bO⟩
 case round=>(
 clear bs a6 bq bO;obtain⟨k,R,O,N,b,s,I,H,L,J,G,M,xs,bp,hk,rfl,rfl,bn,HO,cn,b4,bt,co,cl,bk,HZ⟩:=hrel;obtain⟨wo,cL⟩:∃wo:World,wo=wr:=⟨_,rfl⟩;subst cL;have er:=bk.size;have eE:=HZ.out;have b0:=hI (a2.trans (bk.mono a2.size));by_cases cw:k<nl
 {
 have dc:decide ((k:Int)<(nl:Int))=true:=by simpa using cw
 obtain⟨_,_,y,rfl,hx,-,em⟩:=(d9.below bk).str cw;have c':lh ⟨N,b,s,xs,bp⟩:=by rw[bn.out];exact Ix _
 have cf:=x_ (d:=Dk.zero) hx;rw[←bn.out] at cf;have b':=hI (Ew N b s xs bp c' (u.heap.size+1) I H L J G M wo b4 ⟨az bt,iP bt⟩ (az co) y (c5 y (qF hx)) (λw' Y=>b9 w' (b0.trans (Y.mono b0.size))));unfold fo at b';obtain⟨r,hr⟩:∃r,r=aZ ⟨N,b,s,xs,bp⟩ y:=⟨_,rfl⟩;rw[←hr] at b' cf;obtain⟨Y,so⟩:=r;simp only at b' cf;have c4:=hI cf;clear hx c' cf hr;go_wp2_with fail
 refine b'.mono ?_;rintro e w1⟨A6,n6,c6,A7,m7,c7,rfl,cN,hE,hR,b5⟩;unfold be at cN;have eP:=b4.lt;obtain⟨oE,jE⟩:=uB bt b5 (hE.imp (λF=>⟨F.1,F.2.1,F.2.2.1,by rw[F.2.2.2]⟩) id) (by omega) (by omega);obtain⟨oR,jR⟩:=uB co b5 (hR.imp (λF=>⟨F.1,F.2.1,F.2.2.1,by rw[F.2.2.2]⟩) id) (by omega) (by omega);have c0:=hI oE;have c3:=hI oR;have cq:=hI (show ∀q,(Value.slice O k R).ownBlock=some q→(Value.slice A6 n6 c6).ownBlock≠some q∧(Value.slice A7 m7 c7).ownBlock≠some q from λq B=>⟨jE q (HO.lt q B).2 (cl q B).1,jR q (HO.lt q B).2 (cl q B).2⟩);have cr:=hI (aE HO b5 (λq B=>by have:=cn q B;omega));have b7:=hI (ao bk b5 (by omega) bk.size);have eT:=b5.size;have ee:=hI cN;clear b5 em cN hE hR oE oR jE jR b' b4 HO bt co cl bn;go_wp2_with(at_builtin;refine fy (l:=so) _ rfl _ _ rfl rfl rfl (aa cr (za _ _)) rfl (heap_alloc_new _ _) (by omega) ?cB0 ?_;rotate_left;intro Z c9 w9 dA b6 d0 eR)
 {
 have d1:=hI ((b7.alloc b7.size (.cells #[.string (ag so)] 9)).grown b6 (by simp;have:=b7.size;omega) (λq B=>(cr.lt q B).1));have eg:=hI ((ee.below ((qB _ _).alloc (qA _) (.cells #[.string (ag so)] 9))).grown b6 (λe=>cn _ e rfl));have d7:=hI (gL (aa c0 ((qB _ _).alloc (qA _) (.cells #[.string (ag so)] 9))) b6 (λq B=>(cq q B).1));have d8:=hI (gL (aa c3 ((qB _ _).alloc (qA _) (.cells #[.string (ag so)] 9))) b6 (λq B=>(cq q B).2));have cC:(Value.slice O k R).ownBlock=some Z∨w1.heap.size<Z:=by{
 rcases d0 with F|F
 {exact .inl F}
 {exact .inr (by simp at F;omega)}}
 have d5:=hI (show ∀q,(Value.slice (some ⟨Z,0,none⟩) (k+1) c9).ownBlock=some q→q≠u.heap.size+1 from by{
 intro q B;have cx:Z=q:=by simpa[Value.ownBlock] using B
 subst cx;rcases cC with F|F
 {exact cn _ F}
 {omega}})
 have d3:=hI (show ∀q,(Value.slice (some ⟨Z,0,none⟩) (k+1) c9).ownBlock=some q→(Value.slice A6 n6 c6).ownBlock≠some q∧(Value.slice A7 m7 c7).ownBlock≠some q from by{
 intro q B;have cx:Z=q:=by simpa[Value.ownBlock] using B
 subst cx;rcases cC with F|F
 {exact cq _ F}
 {exact⟨λhe=>by have:=(c0.lt _ he).2;omega,λhe=>by have:=(c3.lt _ he).2;omega⟩}})
 have ek:=hI (show u.heap.size+2≤w9.heap.size from by have:=b6.size;simp at this;omega);have d2:=hI (show(⟨Y.op,Y.b,Y.s,Y.xs,Y.rule⟩:Dk)=(di Dk.zero ((bE h).take (k+1))).1 from by rw[c4.out]);have d6:=hI (show w9.ownsRow u.heap.size 9 1 (.slice (some ⟨Z,0,none⟩) (k+1) c9) (k+1) (strs (di Dk.zero ((bE h).take (k+1))).2) from by rw[c4.out];exact dA);clear dA b6 d0 cC;go_roundw
 case rel=>exact⟨k+1,c9,some ⟨Z,0,none⟩,Y.op,Y.b,Y.s,A6,n6,c6,A7,m7,c7,Y.xs,Y.rule,by omega,rfl,by go_num,d2,d6,d5,eg,d7,d8,d3,d1,ek⟩
 case measure=>simp[intOf]<;>omega}
 {first|(have:=(cr).1;have:=b7.size;omega)|(simp;have:=b7.size;omega)}}
 {
 obtain rfl:k=nl:=by omega
 have dc:decide ((k:Int)<(k:Int))=false:=by simp
 have ck:(bE h).take k=(bE h):=qI (by rw[cm.out];omega);have b2:=bn.out;have ho:=HO.out;rw[ck] at b2 ho;have bn:=hI b2;have HO:=hI ho;have FD:=b4.f5;have ca:=hI (W.kept bk (by have:=W.lt;exact this));have FX:=ca.f5;have eH:=ba.size;have eK:=a2.size;clear b2 ho ck;go_wp2_with fail
 obtain⟨U,T⟩:∃U:World,U=(((((wo).setCell ⟨w.heap.size,0,none⟩ (.bool N)).setCell ⟨w.heap.size,1,none⟩ (.int .i64 b)).setCell ⟨w.heap.size,2,none⟩ (.int .i64 s)).setCell ⟨w.heap.size,3,none⟩ (.slice I H L)).setCell ⟨w.heap.size,4,none⟩ (.slice J G M):=⟨_,rfl⟩;have XG:aO U w.heap.size #[.bool N,b,s,.slice I H L,.slice J G M] 61:=by rw[T];have:=(((((ca).set 0 (.bool N)).set 1 (.int .i64 b)).set 2 (.int .i64 s)).set 3 (.slice I H L)).set 4 (.slice J G M);simpa using this
 have b1:aK w.heap.size (w.heap.size+1) wo U:=by rw[T];(repeat refine bD ?_ (qA _) (by omega) _);exact aK.refl _ _ _
 have FG:=XG.f5;rw[←T];clear T XG;refine bodyPost_ret (v:=.tuple #[.agg #[.bool N,b,s,.slice I H L,.slice J G M],.slice O k R,(0:Int)]) (by simp[results,results40,go_sem,FG]) rfl ?_;unfold kC;rw[V.out.1,V.out.2.1,V.out.2.2,←bn.out];exact⟨I,H,L,J,G,M,O,_,R,rfl,an (aE bt b1 (λq B=>.inr (by have:=(bt.lt q B).1;omega))) (by omega),an (aE HO b1 (λq B=>.inr (by have:=(HO.lt q B).1;omega))) (by omega),ao b0 b1 (qA _) b0.size⟩})}
def kQ (w:World) (B:LB) (e:Ending) (G:World):Prop:=∃u h F,e=.returned (.tuple #[.slice u h F,.int .i64 (dF B)])∧G.ownsRow w.heap.size 9 1 (.slice u h F) h (strs (eG B))∧BL w G
def Hh (h:LB):Int:=if dF h=0 then(if (dl h).op=true then 0 else 5) else 3
def ts (w:World) (h:LB) (e:Ending) (u:World):Prop:=∃A n c,e=.returned (.tuple #[.agg #[.int .i64 (dl h).b,.int .i64 (dl h).s,.slice A n c],.int .i64 (Hh h)])∧u.ownsRow w.heap.size 25 7 (.slice A n c) n (ents (dl h).xs)∧BL w u
theorem fi {h:LB}(u:dU h=true):dF h=0∧eG h=(di Dk.zero (bE h)).2∧dl h=(di Dk.zero (bE h)).1∧(bE h).length≤150:=by{
 unfold dF eG dl;rw[u];refine⟨rfl,rfl,rfl,?_⟩;unfold dU at u;rw[Bool.and_eq_true] at u;exact of_decide_eq_true u.2}
theorem km {h:LB}(u:dU h=false):dF h=3∧eG h=[]∧dl h=Dk.zero:=by{
 unfold dF eG dl;rw[u];exact⟨rfl,rfl,rfl⟩}
theorem oy (h:LB):lh (dl h):=by{
 unfold dl;split
 {exact Ix _}
 {exact lh.zero}}
theorem sE (h:LB):dF h=0∨(dF h=3∧dl h=Dk.zero):=by{
 cases u:dU h with
 | true=>exact .inl (fi u).1
 | false=>exact .inr ⟨(km u).1,(km u).2.2⟩}
theorem oZ (h:LB)(J:h.length≤2097152)(w:World):Calls prog 14 #[.string (ag h)] w (kQ w h):=by{
 have H:=hI (rf h J w)
 cases u:dU h with
 | false=>{
 rw[u] at H;obtain⟨B,F,-⟩:=km u;unfold kQ;rw[B,F];clear u B F;generalize ag h=W at *;go_enter func14,ntmps14;go_wp2_with fail
 refine H.mono ?_;rintro e Y⟨rfl,G⟩;have I:=hI G;clear G;go_wp2_with fail
 go_ret2;exact⟨none,0,0,rfl,World.ownsRow_nil _ _ _ _,I⟩}
 | true=>{
 rw[u] at H;obtain⟨B,F,-,M⟩:=fi u;have L:=hI (λN=>kI h J N);unfold jG at L;have R:=hI (λx N=>qM (pU h x N) J);unfold kQ;rw[B,F];clear u B F;generalize ag h=W at *;go_enter func14,ntmps14;go_wp2_with fail
 refine H.mono ?_;rintro e Y⟨rfl,G⟩;have I:=hI G;clear G;go_wp2_with fail
 refine(L _).mono ?_;rintro e Z⟨A,n,c,rfl,u,G,-⟩;have F:=zb I G;have N:=u.len_str;have B:=hI (nJ A n c (bE h) R (by omega) Z u);unfold nB be at B;clear G u N M;go_wp2_with fail
 refine B.mono ?_;rintro e w3⟨_,_,_,_,_,_,N,V,T,rfl,-,M,G⟩;have u:=zb F G;have U:=F.size;have O:=hI (an M (base':=w.heap.size) U);clear G M;go_wp2_with fail
 go_ret2;exact⟨N,V,T,rfl,aa O (za _ _),u.alloc u.size _⟩}}
theorem ku (h:LB)(M:h.length≤2097152)(w:World)(u:∀H,BL w H→gu H):Calls prog 15 #[.string (ag h)] w (kQ w h):=by{
 have B:=hI (qq h M w u);unfold kC be at B;clear u;generalize ag h=O at *;go_enter func15,ntmps15;go_wp2_with fail
 refine B.mono ?_;rintro e R⟨_,_,_,_,_,_,I,N,L,rfl,-,G,F⟩;have u:=hI F;have J:=hI G;clear F G;go_wp2_with fail
 go_ret2;exact⟨I,N,L,rfl,aa J (za _ _),u.alloc u.size _⟩}
theorem sc (Z:LB)(hL:Z.length≤2097152)(w:World)(h:∀w',BL w w'→gu w'):Calls prog 13 #[.string (ag Z)] w (ts w Z):=by{
 have R:=hI (λw' (u:BL w w')=>qq Z hL w' (λw2 B=>h w2 (u.trans (B.mono u.size))));unfold kC be at R;have bq:=oy Z;have bs:=sE Z;unfold ts Hh;generalize ag Z=bv at *;generalize dl Z=d at *;obtain⟨op,b,s,_,_⟩:=d;simp only at R ⊢;clear h;obtain⟨_,B,h,u,F⟩:=ae w #[(0:Int),(0:Int),.slice none 0 0] 32;have HX:=hI h;have av:=hI u;have a1:=hI B;clear h u B F;rcases bs with h0|⟨h3,hz⟩
 {
 rw[h0] at R ⊢;rw[if_pos rfl]
 cases op with
 | true=>{
 rw[if_pos rfl];go_enter func13,ntmps13;go_wp2_with fail
 rw[←a1.out];clear a1;(try go_wp2_with fail);refine(R _ av).mono ?_;rintro e N⟨G,I,H,U,m2,c2,Ao,no,co,rfl,ho,-,B⟩;obtain⟨w2,M,X2,L,a8⟩:=ae N #[.bool true,b,s,.slice G I H,.slice U m2 c2] 61;have bo:=B.size;have u:=hI (HX.below B);have Y:=hI (u.below L);have J:=zb av B;have ba:=zb J L;have a':=hI ho;have bk:=Y.lt;have bp:=HX.lt;have bn:=u.lt;have bb:=hI M;have W:=X2.f5;have V:=Y.f3;have a6:=u.f3;rw[M] at W V;clear M X2 B ho L R a8;go_wp2_with fail
 clear W V a6;obtain⟨h,F⟩:∃h:World,h=(((N).setCell ⟨w.heap.size,0,none⟩ (.int .i64 b)).setCell ⟨w.heap.size,1,none⟩ (.int .i64 s)).setCell ⟨w.heap.size,2,none⟩ (.slice G I H):=⟨_,rfl⟩;have XP:aO h w.heap.size #[b,s,.slice G I H] 32:=by rw[F];have:=(((u).set 0 (.int .i64 b)).set 1 (.int .i64 s)).set 2 (.slice G I H);simpa using this
 have a2:aK w.heap.size (w.heap.size+1) N h:=by rw[F];(repeat refine bD ?_ (qA _) (by omega) _);exact aK.refl _ _ _
 have ad:=ao J a2 (qA _) J.size;rw[←F];clear F;obtain⟨O,ar,T⟩:∃O:World,O=h.alloc (.cells #[.bool true,b,s,.slice G I H,.slice U m2 c2] 61)∧BL h O:=⟨_,rfl,(qB _ _).alloc (qA _) _⟩;have a7:=ad.trans (T.mono ad.size);have FG:=(XP.below T).f3;rw[←ar];clear ar XP;refine bodyPost_ret (v:=.tuple #[.agg #[b,s,.slice G I H],(0:Int)]) (by simp[results,results13,go_sem,FG]) rfl ?_;exact⟨G,I,H,rfl,an (aa (aE a' a2 (λq hq=>.inr (by have:=(a'.lt q hq).1;omega))) T) (by omega),a7⟩}
 | false=>{
 have bt:=bq.shut rfl;injection bt with _ q1 q2 q3 q4;subst q1 q2 q3 q4;rw[if_neg Bool.false_ne_true];go_enter func13,ntmps13;go_wp2_with fail
 rw[←a1.out];clear a1;(try go_wp2_with fail);refine(R _ av).mono ?_;rintro e N⟨G,I,H,U,m2,c2,Ao,no,co,rfl,ho,-,B⟩;obtain⟨w2,M,X2,L,a8⟩:=ae N #[.bool false,(0:Int),(0:Int),.slice G I H,.slice U m2 c2] 61;have bo:=B.size;have u:=hI (HX.below B);have Y:=hI (u.below L);have J:=zb av B;have ba:=zb J L;have a':=hI ho;have bk:=Y.lt;have bp:=HX.lt;have bn:=u.lt;have bb:=hI M;have W:=X2.f5;have V:=Y.f3;have a6:=u.f3;rw[M] at W V;clear M X2 B ho L R a8;go_wp2_with fail
 clear W V a6;obtain⟨h,F⟩:∃h:World,h=(((N).setCell ⟨w.heap.size,0,none⟩ (.int .i64 0)).setCell ⟨w.heap.size,1,none⟩ (.int .i64 0)).setCell ⟨w.heap.size,2,none⟩ (.slice none 0 0):=⟨_,rfl⟩;have XP:aO h w.heap.size #[(0:Int),(0:Int),.slice none 0 0] 32:=by rw[F];have:=(((u).set 0 (.int .i64 0)).set 1 (.int .i64 0)).set 2 (.slice none 0 0);simpa using this
 have a2:aK w.heap.size (w.heap.size+1) N h:=by rw[F];(repeat refine bD ?_ (qA _) (by omega) _);exact aK.refl _ _ _
 have ad:=ao J a2 (qA _) J.size;rw[←F];clear F;obtain⟨O,ar,T⟩:∃O:World,O=h.alloc (.cells #[.bool false,(0:Int),(0:Int),.slice G I H,.slice U m2 c2] 61)∧BL h O:=⟨_,rfl,(qB _ _).alloc (qA _) _⟩;have a7:=ad.trans (T.mono ad.size);have FG:=(XP.below T).f3;rw[←ar];clear ar XP;refine bodyPost_ret (v:=.tuple #[.agg #[(0:Int),(0:Int),.slice none 0 0],(5:Int)]) (by simp[results,results13,go_sem,FG]) rfl ?_;exact⟨none,0,0,rfl,World.ownsRow_nil _ _ _ _,a7⟩}}
 {
 injection hz with q0 q1 q2 q3 q4;subst q0 q1 q2 q3 q4;rw[h3] at R ⊢;rw[if_neg (by decide)];go_enter func13,ntmps13;go_wp2_with fail
 rw[←a1.out];clear a1;(try go_wp2_with fail);refine(R _ av).mono ?_;rintro e N⟨G,I,H,U,m2,c2,Ao,no,co,rfl,ho,-,B⟩;obtain⟨w2,M,X2,L,a8⟩:=ae N #[.bool false,(0:Int),(0:Int),.slice G I H,.slice U m2 c2] 61;have bo:=B.size;have u:=hI (HX.below B);have Y:=hI (u.below L);have J:=zb av B;have ba:=zb J L;have a':=hI ho;have bk:=Y.lt;have bp:=HX.lt;have bn:=u.lt;have bb:=hI M;have W:=X2.f5;have V:=Y.f3;have a6:=u.f3;rw[M] at W V;clear M X2 B ho L R a8;go_wp2_with fail
 clear W V a6;obtain⟨h,F⟩:∃h:World,h=(((N).setCell ⟨w.heap.size,0,none⟩ (.int .i64 0)).setCell ⟨w.heap.size,1,none⟩ (.int .i64 0)).setCell ⟨w.heap.size,2,none⟩ (.slice none 0 0):=⟨_,rfl⟩;have XP:aO h w.heap.size #[(0:Int),(0:Int),.slice none 0 0] 32:=by rw[F];have:=(((u).set 0 (.int .i64 0)).set 1 (.int .i64 0)).set 2 (.slice none 0 0);simpa using this
 have a2:aK w.heap.size (w.heap.size+1) N h:=by rw[F];(repeat refine bD ?_ (qA _) (by omega) _);exact aK.refl _ _ _
 have ad:=ao J a2 (qA _) J.size;rw[←F];clear F;obtain⟨O,ar,T⟩:∃O:World,O=h.alloc (.cells #[.bool false,(0:Int),(0:Int),.slice G I H,.slice U m2 c2] 61)∧BL h O:=⟨_,rfl,(qB _ _).alloc (qA _) _⟩;have a7:=ad.trans (T.mono ad.size);have FG:=(XP.below T).f3;rw[←ar];clear ar XP;refine bodyPost_ret (v:=.tuple #[.agg #[(0:Int),(0:Int),.slice none 0 0],(3:Int)]) (by simp[results,results13,go_sem,FG]) rfl ?_;exact⟨none,0,0,rfl,World.ownsRow_nil _ _ _ _,a7⟩}}
theorem sA (B:LB)(hL:B.length≤2097152)(w:World):Calls prog 19 #[.string (ag B)] w (ts w B):=by{
 have HF:=hI (λw'=>rf B hL w');obtain⟨_,F,h,u,G⟩:=ae w #[(0:Int),(0:Int),.slice none 0 0] 32;have HX:=hI h;have bb:=hI u;have av:=hI F;clear h u F G
 cases F:dU B with
 | false=>{
 rw[F] at HF;obtain⟨I,-,J⟩:=km F;unfold ts Hh;rw[I,J,if_neg (by decide)];clear F I J;generalize ag B=b0 at *;go_enter func19,ntmps19;go_wp2_with fail
 rw[←av.out];clear av;(try go_wp2_with fail);refine(HF _).mono ?_;rintro e w1⟨rfl,G⟩;have ar:=zb bb G;have T:=hI (HX.below G);have bt:=T.lt;have FX:=T.f3;clear G;go_wp2_with fail
 obtain⟨h,u⟩:∃h:World,h=(((w1).setCell ⟨w.heap.size,0,none⟩ (.int .i64 0)).setCell ⟨w.heap.size,1,none⟩ (.int .i64 0)).setCell ⟨w.heap.size,2,none⟩ (.slice none 0 0):=⟨_,rfl⟩;have XP:aO h w.heap.size #[(0:Int),(0:Int),.slice none 0 0] 32:=by rw[u];have:=(((T).set 0 (.int .i64 0)).set 1 (.int .i64 0)).set 2 (.slice none 0 0);simpa using this
 have a1:aK w.heap.size (w.heap.size+1) w1 h:=by rw[u];(repeat refine bD ?_ (qA _) (by omega) _);exact aK.refl _ _ _
 have O:=ao ar a1 (qA _) ar.size;rw[←u];clear u;obtain⟨H,ad,N⟩:∃H:World,H=h∧BL h H:=⟨_,rfl,qB _ _⟩;have a7:=O.trans (N.mono O.size);have FG:=(XP.below N).f3;subst ad;clear XP;refine bodyPost_ret (v:=.tuple #[.agg #[(0:Int),(0:Int),.slice none 0 0],(3:Int)]) (by simp[results,results19,go_sem,FG]) rfl ?_;exact⟨none,0,0,rfl,World.ownsRow_nil _ _ _ _,a7⟩}
 | true=>{
 rw[F] at HF;obtain⟨I,-,J,bs⟩:=fi F;have bk:=hI (λw'=>kI B hL w');unfold jG at bk;have bq:=hI (λx L=>qM (pU B x L) hL);have bR:=oy B;unfold ts Hh;rw[I,if_pos rfl];have a8:=hI J;clear F I J;generalize ag B=b0 at *;generalize dl B=d at *;obtain⟨op,b,s,_,_⟩:=d;simp only
 cases op with
 | true=>{
 rw[if_pos rfl];go_enter func19,ntmps19;go_wp2_with fail
 rw[←av.out];clear av;(try go_wp2_with fail);refine(HF _).mono ?_;rintro e w1⟨rfl,G⟩;have ar:=zb bb G;have T:=hI (HX.below G);clear G;go_wp2_with fail
 refine(bk _).mono ?_;rintro e w2⟨A,n,c,rfl,Y,U,-⟩;have ba:=zb ar U;have a2:=hI (T.below U);have bo:=Y.len_str;have F:=hI (nJ A n c (bE B) bq (by omega) w2 Y);unfold nB be at F;rw[←a8.out] at F;simp only at F;clear U Y bo bs a8;go_wp2_with fail
 refine F.mono ?_;rintro e w3⟨I,L,J,A2,m2,c2,Ao,no,co,rfl,ho,-,V⟩;obtain⟨w4,Z,X4,W,bp⟩:=ae w3 #[.bool true,b,s,.slice I L J,.slice A2 m2 c2] 65;have R:=zb ba V;have bv:=zb R W;have M:=hI (a2.below V);have a6:=hI (M.below W);have bn:=hI ho;have bt:=a6.lt;have bO:=a2.lt;have bP:=M.lt;have bN:=hI Z;have FY:=X4.f5;have FX:=a6.f3;have a':=M.f3;rw[Z] at FY FX;clear Z X4 V ho W F bp;go_wp2_with fail
 clear FY FX a';obtain⟨h,u⟩:∃h:World,h=(((w3).setCell ⟨w.heap.size,0,none⟩ (.int .i64 b)).setCell ⟨w.heap.size,1,none⟩ (.int .i64 s)).setCell ⟨w.heap.size,2,none⟩ (.slice I L J):=⟨_,rfl⟩;have XP:aO h w.heap.size #[b,s,.slice I L J] 32:=by rw[u];have:=(((M).set 0 (.int .i64 b)).set 1 (.int .i64 s)).set 2 (.slice I L J);simpa using this
 have a1:aK w.heap.size (w.heap.size+1) w3 h:=by rw[u];(repeat refine bD ?_ (qA _) (by omega) _);exact aK.refl _ _ _
 have O:=ao R a1 (qA _) R.size;rw[←u];clear u;obtain⟨H,ad,N⟩:∃H:World,H=h.alloc (.cells #[.bool true,b,s,.slice I L J,.slice A2 m2 c2] 65)∧BL h H:=⟨_,rfl,(qB _ _).alloc (qA _) _⟩;have a7:=O.trans (N.mono O.size);have FG:=(XP.below N).f3;rw[←ad];clear ad XP;refine bodyPost_ret (v:=.tuple #[.agg #[b,s,.slice I L J],(0:Int)]) (by simp[results,results19,go_sem,FG]) rfl ?_;exact⟨I,L,J,rfl,an (aa (aE bn a1 (λq hq=>.inr (by have:=(bn.lt q hq).1;omega))) N) (by omega),a7⟩}
 | false=>{
 have bW:=bR.shut rfl;injection bW with _ q1 q2 q3 q4;subst q1 q2 q3 q4;rw[if_neg Bool.false_ne_true];go_enter func19,ntmps19;go_wp2_with fail
 rw[←av.out];clear av;(try go_wp2_with fail);refine(HF _).mono ?_;rintro e w1⟨rfl,G⟩;have ar:=zb bb G;have T:=hI (HX.below G);clear G;go_wp2_with fail
 refine(bk _).mono ?_;rintro e w2⟨A,n,c,rfl,Y,U,-⟩;have ba:=zb ar U;have a2:=hI (T.below U);have bo:=Y.len_str;have F:=hI (nJ A n c (bE B) bq (by omega) w2 Y);unfold nB be at F;rw[←a8.out] at F;simp only at F;clear U Y bo bs a8;go_wp2_with fail
 refine F.mono ?_;rintro e w3⟨I,L,J,A2,m2,c2,Ao,no,co,rfl,ho,-,V⟩;obtain⟨w4,Z,X4,W,bp⟩:=ae w3 #[.bool false,(0:Int),(0:Int),.slice I L J,.slice A2 m2 c2] 65;have R:=zb ba V;have bv:=zb R W;have M:=hI (a2.below V);have a6:=hI (M.below W);have bn:=hI ho;have bt:=a6.lt;have bO:=a2.lt;have bP:=M.lt;have bN:=hI Z;have FY:=X4.f5;have FX:=a6.f3;have a':=M.f3;rw[Z] at FY FX;clear Z X4 V ho W F bp;go_wp2_with fail
 clear FY FX a';obtain⟨h,u⟩:∃h:World,h=(((w3).setCell ⟨w.heap.size,0,none⟩ (.int .i64 0)).setCell ⟨w.heap.size,1,none⟩ (.int .i64 0)).setCell ⟨w.heap.size,2,none⟩ (.slice none 0 0):=⟨_,rfl⟩;have XP:aO h w.heap.size #[(0:Int),(0:Int),.slice none 0 0] 32:=by rw[u];have:=(((M).set 0 (.int .i64 0)).set 1 (.int .i64 0)).set 2 (.slice none 0 0);simpa using this
 have a1:aK w.heap.size (w.heap.size+1) w3 h:=by rw[u];(repeat refine bD ?_ (qA _) (by omega) _);exact aK.refl _ _ _
 have O:=ao R a1 (qA _) R.size;rw[←u];clear u;obtain⟨H,ad,N⟩:∃H:World,H=h.alloc (.cells #[.bool false,(0:Int),(0:Int),.slice I L J,.slice A2 m2 c2] 65)∧BL h H:=⟨_,rfl,(qB _ _).alloc (qA _) _⟩;have a7:=O.trans (N.mono O.size);have FG:=(XP.below N).f3;rw[←ad];clear ad XP;refine bodyPost_ret (v:=.tuple #[.agg #[(0:Int),(0:Int),.slice none 0 0],(5:Int)]) (by simp[results,results19,go_sem,FG]) rfl ?_;exact⟨none,0,0,rfl,World.ownsRow_nil _ _ _ _,a7⟩}}}
end Go.Proofs.YtnpldahkhaacnaaGreatDoor

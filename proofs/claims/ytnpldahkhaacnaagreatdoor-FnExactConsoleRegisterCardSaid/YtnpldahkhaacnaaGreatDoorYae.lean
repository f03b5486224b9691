/- Texts of the walk: Es_K Zmc_K. -/
import Derived.Test.YtnpldahkhaacnaaGreatDoorYad
set_option linter.unusedVariables false
set_option linter.unusedSimpArgs false
set_option maxRecDepth 100000
set_option maxHeartbeats 32000000
namespace Go.Proofs.YtnpldahkhaacnaaGreatDoor
open Go.RowKit Go.Sort Go.Proofs.Tryz
set_option synthInstance.maxSize 2000 in
set_option synthInstance.maxHeartbeats 400000 in
instance : DecidableEq EntryT := inferInstanceAs (DecidableEq (Int × Int × Int × Int × Int × Int × Int))
theorem zP (B F G H I J L M N O R T U V:Int)(w:World):Calls prog 74 #[.agg #[B,F,G,H,I,J,L],.agg #[M,N,O,R,T,U,V]] w λe w'=>e=.returned (.bool (decide ((B,F,G,H,I,J,L)=(M,N,O,R,T,U,V))))∧BL w w':=by{
 have u:∀o1 o2,BL w ((w.alloc o1).alloc o2):=λo1 o2=>(za _ _).alloc (by simp) _
 have h:=hI u;clear u;by_cases W:B=M
 {
 subst W;by_cases Y:F=N
 {
 subst Y;by_cases Z:G=O
 {
 subst Z;by_cases h3:H=R
 {
 subst h3;by_cases h4:I=T
 {
 subst h4;by_cases h5:J=U
 {
 subst h5;by_cases h6:L=V
 {
 subst h6;go_enter func74,ntmps74;go_wp2_with fail
 go_ret;exact⟨ak (by simp),h _ _⟩}
 {
 have u:(L !=V)=true:=by simp[h6]
 go_enter func74,ntmps74;go_wp2_with fail
 go_ret;exact⟨ak (by simp[h6]),h _ _⟩}}
 {
 have u:(J !=U)=true:=by simp[h5]
 go_enter func74,ntmps74;go_wp2_with fail
 go_ret;exact⟨ak (by simp[h5]),h _ _⟩}}
 {
 have u:(I !=T)=true:=by simp[h4]
 go_enter func74,ntmps74;go_wp2_with fail
 go_ret;exact⟨ak (by simp[h4]),h _ _⟩}}
 {
 have u:(H !=R)=true:=by simp[h3]
 go_enter func74,ntmps74;go_wp2_with fail
 go_ret;exact⟨ak (by simp[h3]),h _ _⟩}}
 {
 have u:(G !=O)=true:=by simp[Z]
 go_enter func74,ntmps74;go_wp2_with fail
 go_ret;exact⟨ak (by simp[Z]),h _ _⟩}}
 {
 have u:(F !=N)=true:=by simp[Y]
 go_enter func74,ntmps74;go_wp2_with fail
 go_ret;exact⟨ak (by simp[Y]),h _ _⟩}}
 {
 have u:(B !=M)=true:=by simp[W]
 go_enter func74,ntmps74;go_wp2_with fail
 go_ret;exact⟨ak (by simp[W]),h _ _⟩}}
theorem wJ (A A':OA)(n c I c':Nat)(U ys:List EntryT)(w:World)(ar:Rd w 7 A n (ents U))(h':Rd w 7 A' I (ents ys)):Calls prog 45 #[.slice A n c,.slice A' I c'] w λe w'=>e=.returned (.bool (decide (U=ys)))∧BL w w':=by{
 have HN:=hI ar.len_ent;have a1:=hI h'.len_ent;have hm:=ar.le;by_cases hl:n=I
 {
 subst hl;go_enter func45,ntmps45;go_wp2;go_loopw [5] (λi wr=>∃k:Nat,k≤n∧i=.int .i64 k∧(U=ys↔U.drop k=ys.drop k)∧BL w wr) (λi _=>n-(intOf i).toNat)
 case atStart=>exact⟨0,qH _,rfl,by simp,qB _ _⟩
 case round=>(
 obtain⟨k,_,rfl,h,B⟩:=hrel;have HA:=hI h;clear h;by_cases a2:k<n
 {
 obtain⟨b,o,J,L,M,N,O,R,T,rfl,F,h,_,_,_,_,_,_,_⟩:=(ar.below B).ent a2;obtain⟨_,_,V,W,Y,Z,y4,y5,y6,rfl,G,u,_,_,_,_,_,_,_⟩:=(h'.below B).ent a2;clear F G;have HD:=hI h;clear h;have av:=hI u;clear u;have h:=hI B;clear B;have H:=hI (zP J L M N O R T V W Y Z y4 y5 y6);by_cases u:(J,L,M,N,O,R,T)=(V,W,Y,Z,y4,y5,y6)
 {
 have G:decide ((J,L,M,N,O,R,T)=(V,W,Y,Z,y4,y5,y6))=true:=by simpa using u
 rw[G] at H;rw[u] at HD;clear u G;go_wp2_with fail
 go_still_tail 8,(by kernel_rfl);go_wp2_with fail
 refine(H _).mono ?_;rintro e w2⟨rfl,F⟩;have ad:=hI ((h.trans (((bI.refl wr).step 1).below.mono h.size)).trans (F.mono h.size));clear F h;go_wp2_with fail
 go_roundw
 case rel=>exact⟨k+1,by omega,by go_num,by rw[HA.out,HD.out,av.out];simp,ad⟩
 case measure=>simp[intOf]<;>omega}
 {
 have G:decide ((J,L,M,N,O,R,T)=(V,W,Y,Z,y4,y5,y6))=false:=by simpa using u
 rw[G] at H;have HX:=hI u;clear u G;go_wp2_with fail
 go_still_tail 8,(by kernel_rfl);go_wp2_with fail
 refine(H _).mono ?_;rintro e w2⟨rfl,F⟩;have ad:=hI ((h.trans (((bI.refl wr).step 1).below.mono h.size)).trans (F.mono h.size));clear F h;go_wp2_with fail
 go_ret;exact⟨ak (by rw[eq_comm,decide_eq_false_iff_not,HA.out,HD.out,av.out];intro e;injection e with e _;exact HX e),ad⟩}}
 {
 obtain rfl:k=n:=by omega
 go_wp2;go_ret;exact⟨ak (by rw[eq_comm,decide_eq_true_iff,HA.out,qK (by rw[HN.out];omega),qK (by rw[a1.out];omega)]),B⟩})}
 {
 have h:((n:Int) !=I)=true:=by simp;omega
 go_enter func45,ntmps45;go_wp2;go_ret;exact⟨ak (by rw[eq_comm,decide_eq_false_iff_not];rintro rfl;exact hl (HN.symm.trans a1)),qB _ _⟩}}
theorem ug (A u:OA)(n c B F:Nat)(h:List EntryT)(w:World)(G:Rd w 7 A n (ents h))(H:Rd w 7 u B (ents h)):Calls prog 45 #[.slice A n c,.slice u B F] w λe I=>e=.returned (.bool true)∧BL w I:=(wJ A u n c B F h h w G H).mono λ_ _ ⟨a,b⟩=>⟨by rw[a,decide_eq_true rfl],b⟩
def ea (k:Int):Nat→List EntryT|0=>[]|n+1=>(k,k+1,k+2,k+3,k+4,k+5,k+6)::ea (k+7) n
theorem tz (k:Int)(n:Nat):(ea k n).length=n:=by{
 induction n generalizing k with
 | zero=>rfl
 | succ n h=>simp[ea,h]}
theorem yo (k:Int)(n:Nat):ea k (n+1)=ea k n++[(k+7*n,k+7*n+1,k+7*n+2,k+7*n+3,k+7*n+4,k+7*n+5,k+7*n+6)]:=by{
 induction n generalizing k with
 | zero=>simp[ea]
 | succ n h=>{
 rw[ea,h,ea,List.cons_append];congr 3;simp only[Prod.mk.injEq];omega}}
theorem Bc (k:Int)(n j:Nat)(u:j<n):(ea k n)[j]?=some (k+7*(j:Int),k+7*(j:Int)+1,k+7*(j:Int)+2,k+7*(j:Int)+3,k+7*(j:Int)+4,k+7*(j:Int)+5,k+7*(j:Int)+6):=by{
 induction n generalizing k j with
 | zero=>omega
 | succ n h=>{
 cases j with
 | zero=>simp[ea]
 | succ j=>{
 rw[ea,qk,h _ _ (by omega)];simp only[Option.some.injEq,Prod.mk.injEq];omega}}}
theorem xu (k:Int)(j:Nat)(h:List EntryT)(u:j<h.length):(ea k j++h.drop j).set j (k+7*(j:Int),k+7*(j:Int)+1,k+7*(j:Int)+2,k+7*(j:Int)+3,k+7*(j:Int)+4,k+7*(j:Int)+5,k+7*(j:Int)+6)=ea k (j+1)++h.drop (j+1):=by{
 rw[List.set_append,if_neg (by simp[tz]),yo,List.drop_eq_getElem_cons u,tz,Nat.sub_self,List.set_cons_zero,qb];rfl}
theorem tH (u e:Nat)(A:OA)(n c:Nat)(G:List EntryT)(k:Int)(w:World)(B:w.ownsRow u e 7 (.slice A n c) n (ents G))(N:0≤k)(O:k≤1099511627776)(R:n≤1048576):Calls prog 46 #[.slice A n c,k] w λM I=>M=.returned (.int .i64 (k+7*n))∧I.ownsRow u e 7 (.slice A n c) n (ents (ea k n))∧w.grownBy I (Value.slice A n c).ownBlock:=by{
 have H:=hI (aN bw (by decide) B);go_enter func46,ntmps46;go_wp2;go_loopw [1,5] (λt i wr=>∃(j:Nat),j≤n∧i=.int .i64 j∧t=.int .i64 (k+7*j)∧wr.ownsRow u e 7 (.slice A n c) n (ents (ea k j++G.drop j))∧w.grownBy wr (Value.slice A n c).ownBlock) (λ_ i _=>n-(intOf i).toNat)
 case atStart=>exact⟨0,qH _,rfl,by simp,by simpa[ea] using B,World.grownBy.refl _ _⟩
 case round=>(
 obtain⟨j,_,rfl,rfl,h,F⟩:=hrel;clear B;by_cases B:j<n
 {
 obtain⟨g,_,_,_,_,_,_,_,rfl,_,_,_,_,_,_,_,_,_,_,_,_,_,_,_,_,_,_⟩:=bU h B;have L:=hI (qE h B (k+7*j) (k+7*j+1) (k+7*j+1+1) (k+7*j+1+1+1) (k+7*j+1+1+1+1) (k+7*j+1+1+1+1+1) (k+7*j+1+1+1+1+1+1));have J:=hI (vn (g:=g) [.int .i64 (k+7*j),.int .i64 (k+7*j+1),.int .i64 (k+7*j+1+1),.int .i64 (k+7*j+1+1+1),.int .i64 (k+7*j+1+1+1+1),.int .i64 (k+7*j+1+1+1+1+1),.int .i64 (k+7*j+1+1+1+1+1+1)] (j*7) F);clear h F;go_wp2_with fail
 go_roundw
 case rel=>exact⟨j+1,by omega,by go_num,by rw[show k+7*(j:Int)+1+1+1+1+1+1+1=k+7*((j+1:Nat):Int) from by omega],by{
 rw[←xu k j G (by rw[H.out];exact B)];rw[show k+7*(j:Int)+2=k+7*(j:Int)+1+1 from by omega];rw[show k+7*(j:Int)+3=k+7*(j:Int)+1+1+1 from by omega];rw[show k+7*(j:Int)+4=k+7*(j:Int)+1+1+1+1 from by omega];rw[show k+7*(j:Int)+5=k+7*(j:Int)+1+1+1+1+1 from by omega];rw[show k+7*(j:Int)+6=k+7*(j:Int)+1+1+1+1+1+1 from by omega];exact L},J⟩
 case measure=>simp[intOf]<;>omega}
 {
 obtain rfl:j=n:=by omega
 go_wp2;go_ret;refine⟨rfl,?_,F⟩;rw[qK (by rw[H.out];exact qA _),qa] at h;exact h})}
theorem sx (A:OA)(n c:Nat)(k:Int)(w:World)(N:Rd w 7 A n (ents (ea k n)))(R:0≤k)(T:k≤1099511627776)(U:n≤1048576):Calls prog 47 #[.slice A n c,k] w λB O=>B=.returned (.int .i64 (k+7*n))∧w=O:=by{
 go_enter func47,ntmps47;go_wp2;go_loop [1,5] (λt i=>∃(j:Nat),j≤n∧i=.int .i64 j∧t=.int .i64 (k+7*j)) (λ_ i=>n-(intOf i).toNat)
 case atStart=>exact⟨0,qH _,rfl,by simp⟩
 case round=>(
 obtain⟨j,_,rfl,rfl⟩:=hrel;by_cases u:j<n
 {
 obtain⟨b,o,_,_,_,_,_,_,_,rfl,h,_,_,_,_,_,_,_,_⟩:=N.ent u;rw[Bc k n j u] at h;simp only[Option.some.injEq,Prod.mk.injEq] at h;obtain⟨F,G,H,I,J,L,M⟩:=h;subst F G H I J L M;go_wp2_with fail
 go_round
 case rel=>exact⟨j+1,by omega,by go_num,by rw[show k+7*(j:Int)+1+1+1+1+1+1+1=k+7*((j+1:Nat):Int) from by omega]⟩
 case measure=>simp[intOf]<;>omega}
 {
 obtain rfl:j=n:=by omega
 go_wp2;go_ret;exact⟨rfl,rfl⟩})}
section
open Go.Shelf Go.Shelf Go.Shelf
attribute [local go_sem] Oper.semAt_some
instance : Inhabited EV := ⟨⟨(0, 0, 1, 0, 0, 0, 0), by unfold rL; simp [E.race, E.boat, E.rev]⟩⟩
attribute [local go_sem] Oper.semAt_some
theorem lv (b s:Int)(A:OA)(n c:Nat)(h:OA)(u F:Nat)(H:List EntryT)(w:World)(G:Rd w 7 A n (ents H))(I:Rd w 7 h u (ents H)):Calls prog 20 #[.agg #[b,s,.slice A n c],.agg #[b,s,.slice h u F]] w λe B=>e=.returned (.bool true)∧BL w B:=by{
 have L:=hI (λB (J:BL w B)=>ug A h n c u F H B (G.below J) (I.below J));clear G I;obtain⟨_,I,M,N,G,_⟩:=cI w #[b,s,.slice A n c] #[b,s,.slice h u F] 32 32;go_enter func20,ntmps20;go_wp2_with fail
 rw[←I];clear I;refine(L _ G).mono ?_;rintro e O⟨rfl,I⟩;have J:=hI (G.trans (I.mono G.size));clear I M N;go_wp2_with fail
 go_ret;exact⟨rfl,J⟩}
theorem pS (h B u e:Nat)(b s:Int)(A:OA)(n c:Nat)(J:List EntryT)(k:Int)(w:World)(F:w.ownsRow h e 7 (.slice A n c) n (ents J))(V:∀b,(Value.slice A n c).ownBlock=some b→B≤b∧b<u)(R:0≤k)(T:k≤1099511627776)(U:n≤1048576):Calls prog 21 #[.agg #[.int .i64 b,s,.slice A n c],k] w λO I=>O=.returned (.int .i64 (k+7*n))∧I.ownsRow h e 7 (.slice A n c) n (ents (ea k n))∧aK B u w I:=by{
 obtain⟨W,H,_,G,_⟩:=ae w #[.int .i64 b,s,.slice A n c] 32;have L:=hI (tH h e A n c J k W (aa F G) R T U);clear F;go_enter func21,ntmps21;go_wp2_with fail
 rw[←H];clear H;refine L.mono ?_;rintro e Y⟨rfl,H,F⟩;have M:=hI ((aK.of_below (lo:=B) (hi:=u) G).trans (aK.of_grown F V));have N:=hI H;clear F H;go_wp2_with fail
 go_ret;exact⟨rfl,N,M⟩}
theorem jU (b s:Int)(A:OA)(n c:Nat)(k:Int)(w:World)(u:Rd w 7 A n (ents (ea k n)))(H:0≤k)(I:k≤1099511627776)(J:n≤1048576):Calls prog 22 #[.agg #[b,s,.slice A n c],k] w λG L=>G=.returned (.int .i64 (k+7*n))∧BL w L:=by{
 obtain⟨M,B,_,h,_⟩:=ae w #[b,s,.slice A n c] 32;have F:=hI (sx A n c k M (u.below h) H I J);clear u;go_enter func22,ntmps22;go_wp2_with fail
 rw[←B];clear B;refine F.mono ?_;rintro e B⟨rfl,rfl⟩;have u:=hI h;clear h;go_wp2_with fail
 go_ret;exact⟨rfl,u⟩}
end
end Go.Proofs.YtnpldahkhaacnaaGreatDoor

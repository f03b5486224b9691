/- Texts of the walk: A0 Zma Hr Qc Ms Ss Zl. -/
import Derived.Below
import Derived.Lib.Hide
import Derived.Test.YtnpldahkhaacnaaGreatDoorRows
import Derived.WalkKit
import Derived.WalkSpells
import Derived.WalkLawsBesides
import Derived.Deep.QuietTactic
import Derived.BigQuiet
import Derived.Deep.LoopGhost
import Derived.Deep.DeepCutAuto
import Derived.Lib.ItoaMem
import Derived.Lib.Split
import Derived.Lib.SplitLaws
import Derived.Lib.IndexLaws
import Derived.Lib.ParseIntBTie
import Derived.Lib.ParseIntBCases
import Derived.ProofKit
import Derived.OpenShut
import Derived.ShutString
import Derived.ChangeOld
import Derived.Lib.SmallJoins
import Derived.Deep.Slices
import Derived.Deep.Fields
import Derived.Test.YtnpldahkhaacnaaGreatDoorShelf
import Derived.Deep.AppendLies
import Derived.IntWalk
import Derived.Lib.AppendIntMem
import Derived.Lib.LaidTab
import Derived.Lib.QuietBelow
import Derived.OrdersHeld
import Derived.StillTail
import Derived.RegionTactic
import Derived.Tactics
import Derived.Tactics2
import Derived.KernelRfl
import Derived.Laws.BytesArg
import Derived.OrdersIn
import Derived.OwnWalkIn
set_option linter.unusedVariables false
set_option linter.unusedSimpArgs false
set_option maxRecDepth 100000
set_option maxHeartbeats 32000000
namespace Go.Proofs.YtnpldahkhaacnaaGreatDoor
open Go.RowKit Go.Sort Go.Proofs.Tryz
theorem hI {p:Prop}(h:p):Hid p:=h
abbrev BL (w v:World):Prop:=Below w.heap.size w v
abbrev OA:=Option Addr
abbrev LI:=List Int
abbrev LB:=List UInt8
instance :Coe Int Value:=⟨.int .i64⟩
instance :Coe Nat Value:=⟨fun n=>.int .i64 n⟩
abbrev qA:=@Nat.le_refl
abbrev qB:=@Below.refl
abbrev qC:=@List.getD_eq_getElem?_getD
abbrev qF:=@List.mem_of_getElem?
abbrev qG:=@List.getElem?_eq_getElem
abbrev qH:=@Nat.zero_le
abbrev qI:=@List.take_of_length_le
abbrev qJ:=@List.length_append
abbrev qK:=@List.drop_eq_nil_of_le
abbrev qM:=@Nat.le_trans
abbrev qO:=@List.length_cons
abbrev qP:=@Int.toNat_natCast
abbrev qR:=@List.getElem?_append_right
abbrev qS:=@List.length_take
abbrev qT:=@List.length_nil
abbrev qU:=@List.getElem?_append_left
abbrev qV:=@List.length_map
abbrev qW:=@Nat.add_zero
abbrev qX:=@List.length_drop
abbrev qY:=@List.getElem?_eq_none
abbrev qZ:=@List.getElem?_map
abbrev qa:=@List.append_nil
abbrev qb:=@List.append_assoc
abbrev qc:=@List.mem_of_mem_drop
abbrev qd:=@List.drop_zero
abbrev qe:=@Nat.lt_of_lt_of_le
abbrev qf:=@List.map_append
abbrev qg:=@List.getElem?_drop
abbrev qh:=@List.take_zero
abbrev qi:=@List.mem_of_mem_take
abbrev qj:=@Nat.lt_succ_self
abbrev qk:=@List.getElem?_cons_succ
theorem zb {w w1 w2:World} (h:Hid (Below w.heap.size w w1)) (k:Below w1.heap.size w1 w2):Hid (Below w.heap.size w w2):=Lib.hid (h.out.trans (k.mono h.out.size))
theorem za (w:World) (o:Obj):Below w.heap.size w (w.alloc o):=(Below.refl _ _).alloc (Nat.le_refl _) o
section
open Go.ChangeShapes Go.WideShapes
def fW (w w':World):Prop:=∀a v,w.cell? a=some v→w'.cell? a=some v
theorem fW.refl (w:World):fW w w:=λ_ _ h=>h
theorem fW.trans {a b c:World}(h:fW a b)(k:fW b c):fW a c:=λ_ _ e=>k _ _ (h _ _ e)
theorem au {w:World}{a:Addr}{v:Value}(h:w.cell? a=some v):a.block<w.heap.size:=World.block_lt_of_cell? w a h
theorem fW.below {w w':World}(h:BL w w'):fW w w':=λa _ e=>(h.cell (p:=a) (au e)).trans e
structure Rd (w : World) (s : Nat) (A : OA) (n : Nat) (xs : List Value) : Prop where
 len : xs.length = n*s
 le : n ≤ 9223372036854775807
 pos : 0 < n → ∃b o, A = some ⟨b, o, none⟩ ∧ ∀i u, xs[i]? = some u → w.cell? ⟨b, o + i, none⟩ = some u
theorem Rd.keep {w w':World}{s n:Nat}{A:OA}{u:List Value}(h:Rd w s A n u)(k:fW w w'):Rd w' s A n u:=⟨h.len,h.le,λF=>by{
 obtain⟨b,o,e,B⟩:=h.pos F;exact⟨b,o,e,λi H G=>k _ _ (B i H G)⟩}⟩
theorem Rd.below {w w':World}{s n:Nat}{A:OA}{h:List Value}(u:Rd w s A n h)(k:BL w w'):Rd w' s A n h:=u.keep (fW.below k)
theorem Rd.drewN {w:World}{s n:Nat}{A:OA}{u:List Value}(h:Rd w s A n u)(q:Nat):Rd (w.drewN q) s A n u:=⟨h.len,h.le,h.pos⟩
theorem bx {u:Nat}{a w:World}(h:Below u a w)(n:Nat):Below u a (w.drewN n):=⟨h.os,h.tape,h.output,h.size,h.block⟩
theorem ac (h:Nat)(w:World)(n:Nat):Below h w (w.drewN n):=bx (qB _ _) n
theorem jW {w:World}{base e s n:Nat}{v:Value}{h:List Value}(u:w.ownsRow base e s v n h)(q:Nat):(w.drewN q).ownsRow base e s v n h:=u
def bI (w w':World):Prop:=∃q,w'=w.drewN q
theorem bI.refl (w:World):bI w w:=⟨0,rfl⟩
theorem bI.step {w w':World}(h:bI w w')(n:Nat):bI w (w'.drewN n):=by obtain⟨q,rfl⟩:=h;exact⟨_,World.drewN_drewN _ _ _⟩
theorem bI.out {w w':World}(h:bI w w'):∃q,w'=w.drewN q:=h
theorem bI.below {w w':World}(h:bI w w'):BL w w':=by obtain⟨q,rfl⟩:=h;exact ac _ _ _
theorem bI.size {w w':World}(h:bI w w'):w'.heap.size=w.heap.size:=by obtain⟨q,rfl⟩:=h;rfl
theorem bI.own {w w':World}{base e s n:Nat}{v:Value}{h:List Value}(u:bI w w')(B:w.ownsRow base e s v n h):w'.ownsRow base e s v n h:=by obtain⟨q,rfl⟩:=u;exact B
theorem Rd.drawn {w w':World}{s n:Nat}{A:OA}{h:List Value}(u:Rd w s A n h)(k:bI w w'):Rd w' s A n h:=u.below k.below
def ints (h:LI):List Value:=h.map (Value.int .i64)
theorem jo (h:LI):(ints h).length=h.length:=by simp[ints]
theorem zj {h:LI}{k:Nat}{x:Int}(u:h[k]?=some x):(ints h)[k]?=some (.int .i64 x):=by simp[ints,u]
theorem jx (h u:LI):ints (h++u)=ints h++ints u:=by simp[ints]
theorem xR (h:LI)(k:Nat)(x:Int):ints (h.set k x)=(ints h).set k (.int .i64 x):=by simp[ints,List.map_set]
theorem dd {α:Type}{xs:List α}{k:Nat}(h:k<xs.length):∃x,xs[k]?=some x∧xs.drop k=x::xs.drop (k+1):=⟨xs[k],qG h,List.drop_eq_getElem_cons h⟩
theorem am {α:Type}{h:List α}{k:Nat}{x:α}(u:h[k]?=some x):h.take (k+1)=h.take k++[x]:=by{
 obtain⟨F,B⟩:=List.getElem?_eq_some_iff.1 u;rw[List.take_succ_eq_append_getElem F,B]}
theorem Rd.int {w:World}{A:OA}{n k:Nat}{h:LI}(u:Rd w 1 A n (ints h))(I:k<n):∃b o x,A=some ⟨b,o,none⟩∧h[k]?=some x∧h.drop k=x::h.drop (k+1)∧w.cell? ⟨b,o+k,none⟩=some (.int .i64 x):=by{
 obtain⟨b,o,e,G⟩:=u.pos (by omega);have H:=u.len;rw[jo,Nat.mul_one] at H;obtain⟨x,B,F⟩:=dd (xs:=h) (k:=k) (by omega);exact⟨b,o,x,e,B,F,G k _ (zj B)⟩}
theorem Rd.len_int {w:World}{A:OA}{n:Nat}{h:LI}(u:Rd w 1 A n (ints h)):h.length=n:=by{
 have B:=u.len;rwa [jo,Nat.mul_one] at B}
theorem az {w:World}{base e s n c:Nat}{A:OA}{B:List Value}(h:w.ownsRow base e s (.slice A n c) n B):Rd w s A n B:=by{
 rcases h.2 with⟨u,_⟩|⟨g,_,_,u,_,_,_,I,_,_⟩
 {exact⟨h.1,by omega,λF=>by omega⟩}
 {
 injection u with F _ H;subst F H;refine⟨h.1,by simp only[maxLen] at I;omega,λ_=>⟨g,0,rfl,λi L J=>?_⟩⟩;have:=h.cells (g:=g) rfl i L J;have G:(⟨g,0,none⟩:Addr).add i=⟨g,0+i,none⟩:=by unfold Addr.add;split<;>simp_all
 rwa [G] at this}}
theorem je {w:World}{base e n c k:Nat}{A:OA}{u:List Value}(h:w.ownsRow base e 1 (.slice A n c) n u)(M:k<n):∃g G,A=some ⟨g,0,none⟩∧base≤g∧g<w.heap.size∧u[k]?=some G∧w.cell? ⟨g,k,none⟩=some G∧w.frozen? ⟨g,k,none⟩=false:=by{
 rcases h.2 with⟨B,_⟩|⟨g,_,_,B,I,L,_,_,_,_⟩
 {omega}
 {
 have O:=B;injection B with H _ J;subst H J;have N:=h.1;have F:u[k]?=some (u[k]'(by omega)):=qG _;exact⟨g,_,rfl,I,(Array.getElem?_eq_some_iff.1 L).1,F,(h.cellAt k (by omega)).trans F,h.frozenAt k⟩}}
theorem aY {w:World}{base e n c k:Nat}{A:OA}{B:LI}(F:w.ownsRow base e 1 (.slice A n c) n (ints B))(N:k<n):∃g x,A=some ⟨g,0,none⟩∧base≤g∧g<w.heap.size∧B[k]?=some x∧w.cell? ⟨g,k,none⟩=some (.int .i64 x)∧w.frozen? ⟨g,k,none⟩=false:=by{
 obtain⟨g,_,H,I,J,h,L,M⟩:=je F N;have O:=F.1;rw[jo,Nat.mul_one] at O;have G:B[k]?=some (B[k]'(by omega)):=qG _;rw[zj G] at h;injection h with h;subst h;exact⟨g,_,H,I,J,G,L,M⟩}
theorem eU {w:World}{base e n:Nat}{v:Value}{h:LI}(u:w.ownsRow base e 1 v n (ints h)):h.length=n:=by{
 have B:=u.1;rwa [jo,Nat.mul_one] at B}
theorem dn {w:World}{base e g n c k:Nat}{h:LI}(u:w.ownsRow base e 1 (.slice (some ⟨g,0,none⟩) n c) n (ints h))(x:Int):(w.setCell ⟨g,k,none⟩ (.int .i64 x)).ownsRow base e 1 (.slice (some ⟨g,0,none⟩) n c) n (ints (h.set k x)):=by{rw[xR];exact(u.stored k _).1}
theorem aa {w w':World}{base e s n:Nat}{v:Value}{h:List Value}(u:w.ownsRow base e s v n h)(k:BL w w'):w'.ownsRow base e s v n h:=u.kept ⟨k.os,k.tape,k.output,k.size,λi B _=>k.block i B⟩ (row:=none) (by cases v.ownBlock<;>simp)
theorem an {w:World}{base base' e s n:Nat}{v:Value}{u:List Value}(h:w.ownsRow base e s v n u)(H:base'≤base):w.ownsRow base' e s v n u:=by{
 refine⟨h.1,?_⟩;rcases h.2 with G|⟨g,B,F,a,b,r⟩
 {exact .inl G}
 {exact .inr ⟨g,B,F,a,by omega,r⟩}}
theorem jM (w:World)(base e n:Nat)(z:Value)(h:base≤w.heap.size)(u:n≤9223372036854775807):(w.alloc (.cells (madeCells #[z] n) e)).ownsRow base e 1 (.slice (some ⟨w.heap.size,0,none⟩) n n) n (List.replicate n z):=by{
 have:=World.ownsRow_lit (base:=base) (e:=e) (size:=1) w (madeCells #[z] n) n h (by unfold maxLen;omega) (by simp[size_madeCells]);rwa [toList_madeCells_one] at this}
theorem df (w:World)(base e:Nat)(h:base≤w.heap.size):(w.alloc (.cells #[] e)).ownsRow base e 1 (.slice (some ⟨w.heap.size,0,none⟩) 0 0) 0 []:=by{
 have:=World.ownsRow_lit (base:=base) (e:=e) (size:=1) w #[] 0 h (by unfold maxLen;omega) (by simp);simpa using this}
theorem dv (w:World)(v:Value)(e:TypeId):(w.alloc (.cells #[v] e)).cell? ⟨w.heap.size,0,none⟩=some v:=by simp
theorem fZ (n:Nat)(x:Int):ints (List.replicate n x)=List.replicate n (.int .i64 x):=by simp[ints]
theorem sV {α:Type}(d:α)(h:List α)(n k:Nat)(x:α)(G:h.length=n)(B:h[k]?=some x)(u:k<n):(h.take k++List.replicate (n-k) d).set k x=h.take (k+1)++List.replicate (n-(k+1)) d:=by{
 subst G;have H:h[k]=x:=by rw[qG u] at B;exact Option.some.inj B
 rw[List.set_append,if_neg (by simp;omega),List.take_succ_eq_append_getElem u,H];have e:h.length-k=(h.length-(k+1))+1:=by omega
 rw[e,List.replicate_succ];have F:k-(List.take k h).length=0:=by simp;omega
 rw[F];simp}
def ja (h:List Bool):List Value:=h.map Value.bool
theorem wh (h:List Bool):(ja h).length=h.length:=by simp[ja]
theorem rs (n:Nat)(x:Bool):ja (List.replicate n x)=List.replicate n (.bool x):=by simp[ja]
theorem lZ {w:World}{base e n c k:Nat}{A:OA}{h:List Bool}(F:w.ownsRow base e 1 (.slice A n c) n (ja h))(O:k<n):∃g x,A=some ⟨g,0,none⟩∧base≤g∧g<w.heap.size∧h[k]?=some x∧w.cell? ⟨g,k,none⟩=some (.bool x)∧w.frozen? ⟨g,k,none⟩=false:=by{
 obtain⟨g,_,H,I,J,B,M,N⟩:=je F O;have R:=F.1;rw[wh,Nat.mul_one] at R;have G:h[k]?=some (h[k]'(by omega)):=qG _;have L:(ja h)[k]?=some (.bool (h[k]'(by omega))):=by simp[ja,G]
 rw[L] at B;injection B with B;subst B;exact⟨g,_,H,I,J,G,M,N⟩}
theorem vK {w:World}{base e g n c k:Nat}{h:List Bool}(u:w.ownsRow base e 1 (.slice (some ⟨g,0,none⟩) n c) n (ja h))(x:Bool):(w.setCell ⟨g,k,none⟩ (.bool x)).ownsRow base e 1 (.slice (some ⟨g,0,none⟩) n c) n (ja (h.set k x)):=by{
 have e:ja (h.set k x)=(ja h).set k (.bool x):=by simp[ja,List.map_set]
 rw[e];exact(u.stored k _).1}
def IsRow (k:IntKind) (w:World) (a:OA) (B u:Nat) (h:LI):Prop:=(a=none∧B=0∧u=0∧h=[])∨∃x,a=some x∧B≤u∧u≤maxLen∧h.length=u∧(∀i,i<h.length→w.cell? (x.add i)=some (.int k (h.getD i 0)))∧∀n∈h,(Lit.int k n).wf=true
theorem uQ {w:World}{x:Addr}{v:Value}(h:w.cell? x=some v):x.spot=none:=by{
 unfold World.cell? at h;split at h
 {
 split at h
 {cases h}
 {rename_i u;simpa using u}}
 {cases h}}
theorem IsRow.rd {w:World}{a:OA}{u J:Nat}{B:LI}(h:IsRow .i64 w a u J B):Rd w 1 a u (ints (B.take u)):=by{
 rcases h with⟨rfl,rfl,rfl,rfl⟩|⟨x,rfl,_,L,_,H,_⟩
 {exact⟨rfl,by omega,λh=>by omega⟩}
 {
 unfold maxLen at L;refine⟨by simp[ints];omega,by omega,λU=>?_⟩;have G:=H 0 (by omega);have N:x.add 0=x:=by simp[Addr.add]
 rw[N] at G;obtain⟨b,o,T⟩:=x;obtain rfl:T=none:=uQ G;refine⟨b,o,rfl,λi V F=>?_⟩;have R:i<(ints (B.take u)).length:=by{
 rcases Nat.lt_or_ge i (ints (B.take u)).length with h|h
 {exact h}
 {rw[qY h] at F;cases F}}
 have O:i<u:=by simp[ints] at R;omega
 have I:=H i (by omega);have M:(⟨b,o,none⟩:Addr).add i=⟨b,o+i,none⟩:=by unfold Addr.add;split<;>simp_all
 rw[M] at I;rw[I,←F];simp[ints,O,qG (show i<B.length by omega)]}}
theorem qm {a w:World}{g:Nat}(h:a.grownBy w (some g))(k:Nat)(B:Value):a.grownBy (w.setCell ⟨g,k,none⟩ B) (some g):=⟨h.os,h.tape,h.output,by simpa[World.setCell] using h.size,λi F u=>(Below.heap_setCell w _ B i (by rintro rfl;exact u rfl)).trans (h.block i F u)⟩
theorem gV (w:World)(p:Addr)(h:Value):(w.setCell p h).heap.size=w.heap.size:=by simp[World.setCell]
structure aK (lo hi : Nat) (w w' : World) : Prop where
 os : w'.os = w.os
 tape : w'.tape = w.tape
 output : w'.output = w.output
 size : w.heap.size ≤ w'.heap.size
 block : ∀k, k < w.heap.size → (k < lo ∨ hi ≤ k) → w'.heap[k]? = w.heap[k]?
theorem aK.of_below {lo hi:Nat}{w w':World}(h:BL w w'):aK lo hi w w':=⟨h.os,h.tape,h.output,h.size,λk u _=>h.block k u⟩
theorem aK.refl (u h:Nat)(w:World):aK u h w w:=aK.of_below (qB _ _)
theorem aK.trans {B u:Nat}{a b c:World}(h:aK B u a b)(k:aK B u b c):aK B u a c:=⟨k.os.trans h.os,k.tape.trans h.tape,k.output.trans h.output,qM h.size k.size,λi u F=>(k.block i (qe u h.size) F).trans (h.block i u F)⟩
theorem aK.mono {F u G B:Nat}{a b:World}(h:aK F u a b)(H:G≤F)(I:u≤B):aK G B a b:=⟨h.os,h.tape,h.output,h.size,λi u J=>h.block i u (by omega)⟩
theorem aK.of_grown {B u:Nat}{w w':World}{F:Option Nat}(h:w.grownBy w' F)(H:∀k,F=some k→B≤k∧k<u):aK B u w w':=⟨h.os,h.tape,h.output,h.size,λk G I=>h.block k G (λe=>by have:=H k e.symm;omega)⟩
theorem ao {u F B:Nat}{a w w':World}(h:Below u a w)(k:aK F B w w')(G:u≤F)(H:u≤w.heap.size):Below u a w':=⟨k.os.trans h.os,k.tape.trans h.tape,k.output.trans h.output,qM h.size k.size,λi B=>(k.block i (by omega) (by omega)).trans (h.block i B)⟩
theorem aE {lo hi:Nat}{w w':World}{base e s n:Nat}{v:Value}{B:List Value}(h:w.ownsRow base e s v n B)(k:aK lo hi w w')(J:∀b,v.ownBlock=some b→b<lo∨hi≤b):w'.ownsRow base e s v n B:=by{
 refine⟨h.1,?_⟩;rcases h.2 with I|⟨g,F,G,rfl,H,u,rest⟩
 {exact .inl I}
 {exact .inr ⟨g,F,G,rfl,H,(k.block g (Array.getElem?_eq_some_iff.1 u).1 (J g rfl)).trans u,rest⟩}}
theorem dK {k:IntKind}{a b:Int}(h:a=b):Ending.returned (.int k a)=.returned (.int k b):=by rw[h]
theorem ak {a b:Bool}(h:a=b):Ending.returned (.bool a)=.returned (.bool b):=by rw[h]
theorem aC (x:Int)(h:0≤x):∃n:Nat,x=n:=⟨x.toNat,by omega⟩
def af (n a b:Int):Bool:=decide (a≤n)&&decide (n≤b)
theorem ai {n a b:Int}:af n a b=true↔a≤n∧n≤b:=by simp[af]
theorem gY {n a b:Int}:af n a b=false↔¬(a≤n∧n≤b):=by rw[←ai];simp
def lf (h:LI) (u B:Int):Bool:=h.all (λx=>af x 0 B)&&((h.length:Int)==u)
def ag (l:LB):ByteArray:=⟨l.toArray⟩
theorem aj (l:LB):(ag l).size=l.length:=by simp[ag,ByteArray.size]
theorem aA (a b:LB):ag a++ag b=ag (a++b):=by{
 apply ByteArray.ext;simp[ag]}
theorem aw (l:LB):(ag l).data.toList=l:=by simp[ag]
def aP (n:Nat):LB:=Lib.decDigits n
def dgt (n:Nat):UInt8:=UInt8.ofNat (48+n%10)
theorem bZ {n:Nat}(h:n<10):aP n=[dgt n]:=by{
 unfold aP dgt;rw[Lib.decDigits_one h,Nat.mod_eq_of_lt h]}
theorem fY {n:Nat}(h:¬n<10):aP n=aP (n/10)++[dgt n]:=by{
 unfold aP dgt;rw[Lib.decDigits,dif_neg h]}
theorem bd:∀(k n:Nat),n<10^(k+1)→(aP n).length≤k+1:=by{
 intro k
 induction k with
 | zero=>intro n h;rw[bZ (by simpa using h)];simp
 | succ k B=>{
 intro n h;by_cases u:n<10
 {rw[bZ u];simp}
 {
 rw[fY u];rw[Nat.pow_succ] at h;have:=B (n/10) (by omega);simp;omega}}}
def BW (k n:Nat):LB:=List.replicate (k-(aP n).length) 48++aP n
def aG:Nat→Nat→LB→LB|0,_,s=>s|k+1,n,s=>aG k (n/10) (dgt n::s)
theorem bV:∀(k n:Nat) (s:LB),(aG k n s).length=k+s.length:=by{
 intro k
 induction k with
 | zero=>intro n s;simp[aG]
 | succ k h=>intro n s;rw[aG,h];simp;omega}
theorem Ct {n:Nat}(u:n<100):BW 2 n=aG 2 n []:=by{
 unfold BW;by_cases h:n<10
 {
 rw[bZ h];simp only[aG,qO,qT];have e:n/10=0:=by omega
 rw[e];rfl}
 {
 rw[fY h,bZ (by omega:n/10<10)];simp[aG]}}
theorem uR {n:Nat}(B:n<1000):BW 3 n=aG 3 n []:=by{
 unfold BW;by_cases h:n<10
 {
 rw[bZ h];simp only[aG,qO,qT];have e:n/10=0:=by omega
 rw[e];rfl}
 {
 by_cases u:n/10<10
 {
 rw[fY h,bZ u];simp only[aG,qJ,qO,qT];have e:n/10/10=0:=by omega
 rw[e];rfl}
 {
 rw[fY h,fY u,bZ (by omega:n/10/10<10)];simp[aG]}}}
theorem vS {n m:Nat}(h:n%10=m%10):dgt n=dgt m:=by unfold dgt;rw[h]
theorem tx (n:Nat):aG 3 n []=aG 3 (n%1000) []:=by{
 simp only[aG];rw[vS (show n%10=n%1000%10 by omega),vS (show n/10%10=n%1000/10%10 by omega),vS (show n/10/10%10=n%1000/10/10%10 by omega)]}
def aX (t:Nat):LB:=aP (t/60000)++[58]++aG 2 (t/1000%60) []++[46]++aG 3 t []
theorem Dg (t:Nat):aP (t/60000)++[58]++BW 2 (t/1000%60)++[46]++BW 3 (t%1000)=aX t:=by{
 unfold aX;rw[Ct (by omega),uR (by omega),←tx]}
def IE:List LB:=[[70,73,78],[68,78,67],[68,78,83],[79,67,83],[68,78,70],[82,69,84],[68,83,81],[68,78,69],[66,70,68],[82,68,71]]
def aD (c:Int):LB:=if 0≤c∧c≤9 then IE.getD c.toNat [] else []
def wordsL:LB→List LB|[]=>[[]]|c::r=>if c=32 then []::wordsL r else match wordsL r with|[]=>[[c]]|w::h=>(c::w)::h
theorem bY (l:LB):wordsL l≠[]:=by{
 cases l with
 | nil=>simp[wordsL]
 | cons c r=>{
 unfold wordsL;split
 {simp}
 {split<;>simp}}}
def cj (p:LB):List LB→List LB|[]=>[p]|w::h=>(p++w)::h
theorem dW (r:LB):wordsL (32::r)=[]::wordsL r:=by simp[wordsL]
theorem dQ {c:UInt8}(h:c≠32)(r:LB):wordsL (c::r)=cj [c] (wordsL r):=by{
 rw[wordsL,if_neg h]
 cases u:wordsL r with
 | nil=>exact absurd u (bY r)
 | cons w B=>rfl}
theorem qu (a b:LB){h:List LB}(u:h≠[]):cj a (cj b h)=cj (a++b) h:=by{
 cases h with
 | nil=>exact absurd rfl u
 | cons w h=>simp[cj]}
theorem iD {h:List LB}(u:h≠[]):cj [] h=h:=by{
 cases h with
 | nil=>exact absurd rfl u
 | cons w h=>rfl}
theorem jq:∀{a:LB},(∀c∈a,c≠32)→wordsL a=[a]:=by{
 intro a
 induction a with
 | nil=>intro _;rfl
 | cons c a B=>{
 intro h;rw[dQ (h c List.mem_cons_self),B (λd u=>h d (List.mem_cons_of_mem _ u))];rfl}}
theorem sG:∀{a:LB} (b:LB),(∀c∈a,c≠32)→wordsL (a++32::b)=a::wordsL b:=by{
 intro a
 induction a with
 | nil=>intro b _;exact dW b
 | cons c a B=>{
 intro b h;rw[List.cons_append,dQ (h c List.mem_cons_self),B b (λd u=>h d (List.mem_cons_of_mem _ u))];rfl}}
theorem ev:∀(l:LB),(wordsL l).length=l.count 32+1:=by{
 intro l
 induction l with
 | nil=>rfl
 | cons c r u=>{
 by_cases h:c=32
 {subst h;rw[dW,qO,u];simp}
 {
 rw[dQ h];have:(cj [c] (wordsL r)).length=(wordsL r).length:=by{
 cases B:wordsL r with
 | nil=>exact absurd B (bY r)
 | cons w F=>rfl}
 rw[this,u,List.count_cons_of_ne h]}}}
theorem qp:∀(l:LB),(∀c∈l,c≠32)∨∃a b,l=a++32::b∧∀c∈a,c≠32:=by{
 intro l
 induction l with
 | nil=>exact .inl (by simp)
 | cons c r F=>{
 by_cases u:c=32
 {subst u;exact .inr ⟨[],r,rfl,by simp⟩}
 {
 rcases F with B|⟨a,b,rfl,ha⟩
 {exact .inl (by intro d h;rcases List.mem_cons.1 h with rfl|h;exact u;exact B d h)}
 {exact .inr ⟨c::a,b,rfl,by intro d h;rcases List.mem_cons.1 h with rfl|h;exact u;exact ha d h⟩}}}}
theorem IJ {s:LB}{j:Nat}(h:s[j]?≠some 32):Lib.occAt s [32] j=false:=by{
 unfold Lib.occAt
 cases B:s.drop j with
 | nil=>rfl
 | cons c r=>{
 have u:s[j]?=some c:=by{
 have:(s.drop j)[0]?=some c:=by rw[B];rfl
 simpa using this}
 have F:c≠32:=λe=>h (by rw[u,e])
 simp[List.isPrefixOf,beq_eq_false_iff_ne.2 (Ne.symm F)]}}
theorem zT {a b:LB}(h:∀c∈a,c≠32):Lib.index (a++32::b) [32]=a.length:=by{
 refine Lib.index_first (by simp) ?_ ?_
 {
 unfold Lib.occAt;rw[List.drop_left];simp[List.isPrefixOf]}
 {
 intro j u;refine IJ ?_;rw[qU u];intro e;exact h 32 (qF e) rfl}}
theorem wQ:∀(k:Nat) (s:LB),s.count 32=k→Lib.splitK [32] 0 k s=wordsL s:=by{
 intro k
 induction k with
 | zero=>{
 intro s h;rcases qp s with u|⟨a,b,rfl,_⟩
 {rw[jq u];rfl}
 {simp at h}}
 | succ k H=>{
 intro s h;rcases qp s with u|⟨a,b,rfl,ha⟩
 {
 have:s.count 32=0:=List.count_eq_zero.2 (λB=>u 32 B rfl);omega}
 {
 have G:b.count 32=k:=by{
 have F:a.count 32=0:=List.count_eq_zero.2 (λB=>ha 32 B rfl);rw[List.count_append,F,List.count_cons_self] at h;omega}
 rw[sG b ha,Lib.splitK,zT ha,if_neg (by simp)];simp only[qP,qW,List.take_left,qO,qT];rw[show(a++32::b).drop (a.length+(0+1))=b from by rw[←List.drop_drop,List.drop_left];rfl,H b G]}}}
theorem yw (s:ByteArray):(Lib.splitB ⟨#[32]⟩ 0 (Lib.countB s ⟨#[32]⟩) s).map (·.data.toList)=wordsL s.data.toList:=by{
 rw[Lib.splitB_data];refine wQ _ _ ?_;unfold Lib.countB;exact(Lib.count_one 32 _).symm}
def jL (c:UInt8):Bool:=decide (48≤c.toNat)&&decide (c.toNat≤57)
theorem mb (n:Nat):(dgt n).toNat=48+n%10:=by{
 unfold dgt;rw[UInt8.toNat_ofNat'];omega}
theorem dZ:∀(n:Nat),∀c∈aP n,jL c=true:=by{
 intro n
 induction n using Nat.strongRecOn with
 | _ n B=>{
 intro c h;by_cases u:n<10
 {
 rw[bZ u] at h;obtain rfl:=List.mem_singleton.1 h;unfold jL;rw[mb];simp;omega}
 {
 rw[fY u] at h;rcases List.mem_append.1 h with h|h
 {exact B (n/10) (by omega) c h}
 {
 obtain rfl:=List.mem_singleton.1 h;unfold jL;rw[mb];simp;omega}}}}
theorem zk (n:Nat):∀c∈aP n,c≠32:=by{
 intro c h e;have:=dZ n c h;subst e;exact absurd this (by decide)}
theorem pN (n:Nat):aP n≠[]:=by{
 by_cases h:n<10
 {rw[bZ h];simp}
 {rw[fY h];simp}}
def fR (n:Nat) (c:UInt8):Nat:=10*n+(c.toNat-48)
def valL (n:Nat) (l:LB):Nat:=l.foldl fR n
theorem fS (n:Nat)(c:UInt8)(r:LB):valL n (c::r)=valL (fR n c) r:=by unfold valL;rw[List.foldl_cons]
theorem eh (n:Nat):valL n []=n:=by unfold valL;rw[List.foldl_nil]
theorem sm (a b:LB)(n:Nat):valL n (a++b)=valL (valL n a) b:=by unfold valL;rw[List.foldl_append]
theorem uN (n m:Nat):fR n (dgt m)=10*n+m%10:=by{
 unfold fR;rw[mb];omega}
theorem zq (n:Nat)(c:UInt8):10*n≤fR n c:=by unfold fR;omega
theorem jP:∀(n:Nat),valL 0 (aP n)=n:=by{
 intro n
 induction n using Nat.strongRecOn with
 | _ n u=>{
 by_cases h:n<10
 {
 rw[bZ h,fS,eh,uN];omega}
 {
 rw[fY h,sm,u (n/10) (by omega),fS,eh,uN];omega}}}
theorem Hk:∀(l:LB) (n:Nat),n≤valL n l:=by{
 intro l
 induction l with
 | nil=>intro n;rw[eh];exact qA _
 | cons d l h=>intro n;rw[fS];have:=h (fR n d);have:=zq n d;omega}
theorem Fu {n:Nat}{c:UInt8}(h:jL c=true):fR n c≤10*n+9:=by{
 unfold jL at h;simp only[Bool.and_eq_true,decide_eq_true_eq] at h;unfold fR;omega}
theorem oU:∀(l:LB) (n:Nat),(∀c∈l,jL c=true)→valL n l<(n+1)*10^l.length:=by{
 intro l
 induction l with
 | nil=>intro n _;rw[eh];simp
 | cons c r B=>{
 intro n h;have H:=Fu (n:=n) (h c List.mem_cons_self);have F:=B (fR n c) (λd u=>h d (List.mem_cons_of_mem _ u));rw[fS,qO,Nat.pow_succ];have u:(fR n c+1)*10^r.length≤(10*n+10)*10^r.length:=Nat.mul_le_mul_right _ (by omega);have G:(10*n+10)*10^r.length=(n+1)*(10^r.length*10):=by{rw[show 10*n+10=(n+1)*10 from by omega,Nat.mul_assoc,Nat.mul_comm 10]}
 omega}}
def fq (w:LB):Int×Bool:=match Lib.parseIntB 64 w with|.ok v=>if w.length≤19∧Lib.itoa v=w then(v,true) else(0,false)|_=>(0,false)
theorem oB:∀(l:LB) (h:Nat),(∀c∈l,jL c=true)→valL h l<1844674407370955162→Lib.parseUintM 18446744073709551615 h l=.ok (valL h l):=by{
 intro l
 induction l with
 | nil=>intro h _ _;rw[eh];rfl
 | cons c r H=>{
 intro h B F;have u:=B c List.mem_cons_self;unfold jL at u;simp only[Bool.and_eq_true,decide_eq_true_eq] at u;have I:=Hk r (fR h c);have J:=zq h c;have e:h*10+(c.toNat-48)=fR h c:=by unfold fR;omega
 rw[fS] at F ⊢;rw[Lib.parseUintM,if_pos u,e,if_neg (by omega),if_neg (by omega)];exact H _ (λd G=>B d (List.mem_cons_of_mem _ G)) F}}
theorem sl {n:Nat}(H:n<10^15):fq (aP n)=((n:Int),true):=by{
 have h:=dZ n;have J:Lib.parseIntB 64 (aP n)=.ok (n:Int):=by{
 have G:=jP n;have B:=oB (aP n) 0 h (by rw[G];omega);rw[G] at B
 cases u:aP n with
 | nil=>exact absurd u (pN n)
 | cons c r=>{
 rw[u] at B h;have F:=h c List.mem_cons_self;unfold jL at F;simp only[Bool.and_eq_true,decide_eq_true_eq] at F;rw[Lib.parseIntB_plain 64 c r (by omega) (by omega)];have I:Lib.parseUintB 64 (c::r)=.ok n:=by{
 unfold Lib.parseUintB;rw[if_neg (by simp)];exact B}
 rw[I];unfold Lib.signlessC;first|(simp only[];rw[if_neg (by omega)])|(simp;omega)}}
 unfold fq;rw[J];have u:=bd 14 n (by simpa using H);simp only;rw[Lib.itoa_nonneg,if_pos ⟨by omega,rfl⟩]}
section
variable {α : Type} {f : α → List Value} {s : Nat} (hf : ∀ x, (f x).length = s)
include hf
theorem fp (h:List α):(h.flatMap f).length=h.length*s:=by{
 induction h with
 | nil=>simp
 | cons x r u=>rw[List.flatMap_cons,qJ,u,hf,qO,Nat.add_mul];omega}
theorem sH {u:List α}{k:Nat}{x:α}(h:u[k]?=some x){j:Nat}(F:j<s):(u.flatMap f)[k*s+j]?=(f x)[j]?:=by{
 induction u generalizing k with
 | nil=>simp at h
 | cons y r B=>{
 rw[List.flatMap_cons]
 cases k with
 | zero=>{
 simp only[List.getElem?_cons_zero,Option.some.injEq] at h;subst h;rw[qU (by rw[hf];omega),Nat.zero_mul,Nat.zero_add]}
 | succ k=>{
 simp only[qk] at h;rw[qR (by rw[hf,Nat.add_mul];omega),hf,←B h];congr 1;rw[Nat.add_mul];omega}}}
theorem En (h:List α)(k:Nat):(h.flatMap f).take (k*s)=(h.take k).flatMap f:=by{
 induction h generalizing k with
 | nil=>simp
 | cons y r u=>{
 cases k with
 | zero=>simp
 | succ k=>{
 rw[List.flatMap_cons,List.take_append,hf,qI (by rw[hf,Nat.add_mul];omega),List.take_succ_cons,List.flatMap_cons,←u k];congr 2;rw[Nat.add_mul];omega}}}
theorem DI (h:List α)(k:Nat):(h.flatMap f).drop (k*s)=(h.drop k).flatMap f:=by{
 induction h generalizing k with
 | nil=>simp
 | cons y r u=>{
 cases k with
 | zero=>simp
 | succ k=>{
 rw[List.flatMap_cons,List.drop_append,hf,List.drop_of_length_le (by rw[hf,Nat.add_mul];omega),List.drop_succ_cons,←u k,List.nil_append];congr 1;rw[Nat.add_mul];omega}}}
def Ed (h:List Value) (i:Nat):List Value→List Value|[]=>h|v::r=>Ed (h.set i v) (i+1) r
 omit hf in
theorem G_ (vs:List Value):∀(h:List Value) (i:Nat),i+vs.length≤h.length→Ed h i vs=h.take i++vs++h.drop (i+vs.length):=by{
 induction vs with
 | nil=>intro h i u;simp[Ed]
 | cons v r G=>{
 intro h i u;rw[qO] at u;rw[Ed,G _ _ (by rw[List.length_set];omega),qO];have B:(h.set i v).take (i+1)=h.take i++[v]:=by{
 rw[List.take_succ_eq_append_getElem (by rw[List.length_set];omega),List.getElem_set_self];congr 1;rw[List.take_set,List.set_eq_of_length_le (by rw[qS];omega)]}
 have F:(h.set i v).drop (i+1+r.length)=h.drop (i+(r.length+1)):=by{rw[List.drop_set,if_pos (by omega),show i+1+r.length=i+(r.length+1) from by omega]}
 rw[B,F];simp}}
theorem yC (h:List α)(k:Nat)(x:α)(u:k<h.length):Ed (h.flatMap f) (k*s) (f x)=(h.set k x).flatMap f:=by{
 have B:k*s+s≤h.length*s:=by{
 have:=Nat.mul_le_mul_right s (show k+1≤h.length by omega);rw[Nat.add_mul] at this;omega}
 rw[G_ _ _ _ (by rw[hf,fp hf];exact B),hf,En hf,show k*s+s=(k+1)*s from by rw[Nat.add_mul];omega,DI hf,List.set_eq_take_append_cons_drop,if_pos u];simp}
 omit hf in
end
def Gr (w:World) (g i:Nat):List Value→World|[]=>w|v::r=>Gr (w.setCell ⟨g,i,none⟩ v) g (i+1) r
theorem Cq {base e s g n c:Nat}(vs:List Value):∀{w:World} {h:List Value} (i:Nat),w.ownsRow base e s (.slice (some ⟨g,0,none⟩) n c) n h→(Gr w g i vs).ownsRow base e s (.slice (some ⟨g,0,none⟩) n c) n (Ed h i vs):=by{
 induction vs with
 | nil=>intro w h i u;exact u
 | cons v r B=>intro w h i u;exact B (i+1) (u.stored i v).1}
theorem vn {g:Nat}(vs:List Value):∀{a w:World} (i:Nat),a.grownBy w (some g)→a.grownBy (Gr w g i vs) (some g):=by{
 induction vs with
 | nil=>intro a w i h;exact h
 | cons v r u=>intro a w i h;exact u (i+1) (qm h i v)}
theorem DB {h g:Nat}(vs:List Value):∀{a w:World} (i:Nat),Below h a w→h≤g→Below h a (Gr w g i vs):=by{
 induction vs with
 | nil=>intro a w i u _;exact u
 | cons v r F=>intro a w i u B;exact F (i+1) (u.setCell B v) B}
theorem aQ {B u g:Nat}(vs:List Value):∀{a w:World} (i:Nat),aK B u a w→B≤g→g<u→aK B u a (Gr w g i vs):=by{
 induction vs with
 | nil=>intro a w i h _ _;exact h
 | cons v r H=>{
 intro a w i h F G;refine H (i+1) ?_ F G;exact h.trans (aK.of_grown (qm (World.grownBy.refl w (some g)) i v) (λk e=>by injection e with e;omega))}}
theorem Rd.flat {α:Type}{f:α→List Value}{s:Nat}(hf:∀x,(f x).length=s)(L:0<s){w:World}{A:OA}{n k:Nat}{h:List α}(F:Rd w s A n (h.flatMap f))(M:k<n):∃b o x,A=some ⟨b,o,none⟩∧h[k]?=some x∧h.drop k=x::h.drop (k+1)∧∀j B,(f x)[j]?=some B→w.cell? ⟨b,o+(k*s+j),none⟩=some B:=by{
 obtain⟨b,o,e,J⟩:=F.pos (by omega);have u:=F.len;rw[fp hf] at u;have u:=Nat.eq_of_mul_eq_mul_right L u;obtain⟨x,G,I⟩:=dd (xs:=h) (k:=k) (by omega);refine⟨b,o,x,e,G,I,λj B H=>J _ _ ?_⟩;rw[sH hf G (by have:=(List.getElem?_eq_some_iff.1 H).1;rw[hf] at this;exact this)];exact H}
theorem Rd.len_flat {α:Type}{f:α→List Value}{s:Nat}(hf:∀x,(f x).length=s)(F:0<s){w:World}{A:OA}{n:Nat}{u:List α}(B:Rd w s A n (u.flatMap f)):u.length=n:=by{
 have h:=B.len;rw[fp hf] at h;exact Nat.eq_of_mul_eq_mul_right F h}
theorem aN {α:Type}{f:α→List Value}{s:Nat}(hf:∀x,(f x).length=s)(F:0<s){w:World}{base e n:Nat}{v:Value}{u:List α}(B:w.ownsRow base e s v n (u.flatMap f)):u.length=n:=by{
 have h:=B.1;rw[fp hf] at h;exact Nat.eq_of_mul_eq_mul_right F h}
theorem yY {α:Type}{f:α→List Value}{s:Nat}(hf:∀x,(f x).length=s)(T:0<s){w:World}{base e n c k:Nat}{A:OA}{h:List α}(u:w.ownsRow base e s (.slice A n c) n (h.flatMap f))(U:k<n):∃g x,A=some ⟨g,0,none⟩∧base≤g∧g<w.heap.size∧h[k]?=some x∧h.drop k=x::h.drop (k+1)∧(∀j B,(f x)[j]?=some B→w.cell? ⟨g,k*s+j,none⟩=some B)∧(∀j,w.frozen? ⟨g,j,none⟩=false):=by{
 have V:=aN hf T u;rcases u.2 with⟨H,_⟩|⟨g,_,_,H,L,N,_,_,_,_⟩
 {omega}
 {
 injection H with J _ M;subst J M;obtain⟨x,F,I⟩:=dd (xs:=h) (k:=k) (by omega);refine⟨g,x,rfl,L,(Array.getElem?_eq_some_iff.1 N).1,F,I,λj B G=>?_,λj=>u.frozenAt j⟩;have O:j<s:=by have:=(List.getElem?_eq_some_iff.1 G).1;rw[hf] at this;exact this
 have R:k*s+j<n*s:=by{
 have:=Nat.mul_le_mul_right s (show k+1≤n by omega);rw[Nat.add_mul] at this;omega}
 rw[u.cellAt _ R,sH hf F O,G]}}
theorem bB (w:World)(h:Array Value)(t:TypeId){b j:Nat}{v:Value}(B:b=w.heap.size)(F:h[j]?=some v):(w.alloc (.cells h t)).cell? ⟨b,j,none⟩=some v:=by{
 subst B;have u:(w.alloc (.cells h t)).heap[w.heap.size]?=some (.cells h t):=by show(w.heap.push _)[w.heap.size]?=_;simp
 simp only[World.cell?,u];simpa using F}
theorem Bg (w:World)(o:Obj){b j:Nat}{v:Value}(u:b<w.heap.size)(h:w.cell? ⟨b,j,none⟩=some v):(w.alloc o).cell? ⟨b,j,none⟩=some v:=(((qB _ w).alloc (qA _) o).cell (p:=⟨b,j,none⟩) u).trans h
def Im (p:Int×Int):List Value:=[.int .i64 p.1,.int .i64 p.2]
theorem uv (p:Int×Int):(Im p).length=2:=rfl
def winds (h:List (Int×Int)):List Value:=h.flatMap Im
theorem Rd.wind {w:World}{A:OA}{n k:Nat}{h:List (Int×Int)}(B:Rd w 2 A n (winds h))(H:k<n):∃b o x y,A=some ⟨b,o,none⟩∧h[k]?=some (x,y)∧h.drop k=(x,y)::h.drop (k+1)∧w.cell? ⟨b,o+k*2,none⟩=some (.int .i64 x)∧w.cell? ⟨b,o+k*2+1,none⟩=some (.int .i64 y):=by{
 obtain⟨b,o,⟨x,y⟩,e,F,G,u⟩:=Rd.flat uv (by decide) B H;exact⟨b,o,x,y,e,F,G,u 0 _ rfl,u 1 _ rfl⟩}
theorem Rd.len_wind {w:World}{A:OA}{n:Nat}{h:List (Int×Int)}(u:Rd w 2 A n (winds h)):h.length=n:=Rd.len_flat uv (by decide) u
def aO (w:World) (b:Nat) (vs:Array Value) (t:TypeId):Prop:=w.heap[b]?=some (.cells vs t (0,0))
section
variable {w w' : World} {b c i : Nat} {vs : Array Value} {t : TypeId} {v x y z x0 x1 x2 x3 x4 x5 x6 : Value}
theorem aO.new (w:World)(vs:Array Value)(t:TypeId):aO (w.alloc (.cells vs t)) w.heap.size vs t:=by{
 show(w.heap.push (.cells vs t))[w.heap.size]?=_;simp}
theorem aO.lt (h:aO w b vs t):b<w.heap.size:=(Array.getElem?_eq_some_iff.1 h).1
theorem aO.below (h:aO w b vs t)(k:BL w w'):aO w' b vs t:=(k.block b h.lt).trans h
theorem aO.kept {h:Nat}(u:aO w b vs t)(k:Below h w w')(B:b<h):aO w' b vs t:=(k.block b B).trans u
theorem aO.chg {B u:Nat}(h:aO w b vs t)(k:aK B u w w')(F:b<B∨u≤b):aO w' b vs t:=(k.block b h.lt F).trans h
theorem aO.other (h:aO w b vs t)(u:b≠c)(v:Value):aO (w.setCell ⟨c,i,none⟩ v) b vs t:=by{
 unfold aO at h ⊢;rw[←h];exact Below.heap_setCell _ _ _ _ (by simpa using u)}
theorem aO.grown {u:Option Nat}(h:aO w b vs t)(B:w.grownBy w' u)(F:u≠some b):aO w' b vs t:=(B.block b h.lt (λe=>F e.symm)).trans h
theorem aO.cell (h:aO w b vs t)(u:vs[i]?=some v):w.cell? ⟨b,i,none⟩=some v:=by{
 unfold aO at h;simp[World.cell?,h,u]}
theorem aO.fz (h:aO w b vs t):w.frozen? ⟨b,i,none⟩=false:=by{
 unfold aO at h;simp[World.frozen?,h]}
theorem aO.set (h:aO w b vs t)(i:Nat)(v:Value):aO (w.setCell ⟨b,i,none⟩ v) b (vs.setIfInBounds i v) t:=by{
 unfold aO at h ⊢;simp[World.setCell,Array.getElem?_modify,h]}
theorem aO.c1 (h:aO w b #[x] t):w.cell? ⟨b,0,none⟩=some x:=h.cell rfl
theorem aO.f3 (h:aO w b #[x,y,z] t):w.cell? ⟨b,0,none⟩=some x∧w.cell? ⟨b,1,none⟩=some y∧w.cell? ⟨b,2,none⟩=some z∧w.frozen? ⟨b,0,none⟩=false∧w.frozen? ⟨b,1,none⟩=false∧w.frozen? ⟨b,2,none⟩=false∧b<w.heap.size:=⟨h.cell rfl,h.cell rfl,h.cell rfl,h.fz,h.fz,h.fz,h.lt⟩
theorem aO.f4 (h:aO w b #[x0,x1,x2,x3] t):w.cell? ⟨b,0,none⟩=some x0∧w.cell? ⟨b,1,none⟩=some x1∧w.cell? ⟨b,2,none⟩=some x2∧w.cell? ⟨b,3,none⟩=some x3∧w.frozen? ⟨b,0,none⟩=false∧w.frozen? ⟨b,1,none⟩=false∧w.frozen? ⟨b,2,none⟩=false∧w.frozen? ⟨b,3,none⟩=false∧b<w.heap.size:=⟨h.cell rfl,h.cell rfl,h.cell rfl,h.cell rfl,h.fz,h.fz,h.fz,h.fz,h.lt⟩
theorem aO.f7 (h:aO w b #[x0,x1,x2,x3,x4,x5,x6] t):w.cell? ⟨b,0,none⟩=some x0∧w.cell? ⟨b,1,none⟩=some x1∧w.cell? ⟨b,2,none⟩=some x2∧w.cell? ⟨b,3,none⟩=some x3∧w.cell? ⟨b,4,none⟩=some x4∧w.cell? ⟨b,5,none⟩=some x5∧w.cell? ⟨b,6,none⟩=some x6∧b<w.heap.size:=⟨h.cell rfl,h.cell rfl,h.cell rfl,h.cell rfl,h.cell rfl,h.cell rfl,h.cell rfl,h.lt⟩
end
theorem ae (w:World)(vs:Array Value)(t:TypeId):∃h,h=w.alloc (.cells vs t)∧aO h w.heap.size vs t∧BL w h∧h.heap.size=w.heap.size+1:=⟨_,rfl,aO.new _ _ _,(qB _ _).alloc (qA _) _,by simp⟩
theorem cI (w:World)(vs us:Array Value)(t u:TypeId):∃h,h=(w.alloc (.cells vs t)).alloc (.cells us u)∧aO h w.heap.size vs t∧aO h (w.heap.size+1) us u∧BL w h∧h.heap.size=w.heap.size+1+1:=by{
 obtain⟨h,I,J,B,F⟩:=ae w vs t;obtain⟨w2,L,G,H,M⟩:=ae h us u;rw[F] at G;exact⟨w2,by rw[L,I],J.below H,G,B.trans (H.mono B.size),by rw[M,F]⟩}
theorem da (w:World)(vs us F:Array Value)(t B x:TypeId):∃h,h=((w.alloc (.cells vs t)).alloc (.cells us B)).alloc (.cells F x)∧aO h w.heap.size vs t∧aO h (w.heap.size+1) us B∧aO h (w.heap.size+1+1) F x∧BL w h∧h.heap.size=w.heap.size+1+1+1:=by{
 obtain⟨h,J,L,M,G,H⟩:=cI w vs us t B;obtain⟨w2,N,I,u,O⟩:=ae h F x;rw[H] at I;exact⟨w2,by rw[N,J],L.below u,M.below u,I,G.trans (u.mono G.size),by rw[O,H]⟩}
theorem bg (w:World)(base e s:Nat)(h:base≤w.heap.size):(w.alloc (.cells #[] e)).ownsRow base e s (.slice (some ⟨w.heap.size,0,none⟩) 0 0) 0 []:=by{
 have:=World.ownsRow_lit (base:=base) (e:=e) (size:=s) w #[] 0 h (by unfold maxLen;omega) (by simp);simpa using this}
def strs (h:List LB):List Value:=h.map λw=>Value.string (ag w)
theorem gi (h:List LB):(strs h).length=h.length:=by simp[strs]
theorem xY {h:List LB}{k:Nat}{x:LB}(u:h[k]?=some x):(strs h)[k]?=some (.string (ag x)):=by simp[strs,u]
theorem FU (h u:List LB):strs (h++u)=strs h++strs u:=by simp[strs]
theorem bQ (s:ByteArray)(a b:Nat)(u:b≤s.size):s.extract a b=ag ((s.data.toList.drop a).take (b-a)):=by{
 apply ByteArray.ext;apply Array.ext';have h:=Lib.extract_data s a b;rw[h];simp[ag]}
theorem fw (s:ByteArray):ag s.data.toList=s:=by{
 apply ByteArray.ext;simp[ag]}
def jG (w:World) (h:List LB) (e:Ending) (w':World):Prop:=∃A n c,e=.returned (.slice A n c)∧Rd w' 1 A n (strs h)∧BL w w'∧n≤c
theorem lx {w:World}{base e s n c:Nat}{A:OA}{B:List Value}(u:w.ownsRow base e s (.slice A n c) n B):n≤c:=by{
 rcases u.2 with⟨h,_⟩|⟨g,_,_,h,_,_,_,_⟩
 {omega}
 {injection h with _ _ F;omega}}
def MaxL (w:World):Prop:=∃m,w.cell? ⟨1,0,none⟩=some (.int .i64 m)
theorem MaxL.below {w w':World}(u:MaxL w)(B:BL w w'):MaxL w':=by{
 obtain⟨m,h⟩:=u;exact⟨m,(B.cell (au h)).trans h⟩}
theorem gA (s:ByteArray)(M:s.size≤2097152)(w:World)(h:MaxL w):Calls prog 38 #[.string s] w (jG w (wordsL s.data.toList)):=by{
 obtain⟨m,h⟩:=h;have u:=strings_Split s ⟨#[32]⟩ m w (by omega) h (by decide);have H:=yw s;have B:Lib.countB s ⟨#[32]⟩+1=(wordsL s.data.toList).length:=by{
 rw[ev];unfold Lib.countB;rw[←Lib.count_one 32]}
 have G:(Lib.splitB ⟨#[32]⟩ 0 (Lib.countB s ⟨#[32]⟩) s).map Value.string=strs (wordsL s.data.toList):=by{
 rw[←H];unfold strs;rw[List.map_map];refine List.map_congr_left λx _=>?_
 show Value.string x=Value.string (ag x.data.toList);rw[fw]}
 rw[G,B] at u;have F:(wordsL s.data.toList).length≤9223372036854775807:=by{
 have I:=ev s.data.toList;have J:s.data.toList.count 32≤s.data.toList.length:=List.count_le_length;have L:=(Lib.size_eq s).symm;omega}
 generalize wordsL s.data.toList=L at *;have I:=hI u;have J:=hI F;clear u h G B H F;go_enter func38,ntmps38;go_wp2_with fail
 refine I.mono ?_;rintro e w'⟨rfl,rfl⟩;go_wp2_with fail
 go_ret;refine⟨_,_,_,rfl,⟨by rw[gi];omega,J,λu=>⟨_,_,rfl,λi B h=>?_⟩⟩,(qB _ _).alloc (qA _) _,qA _⟩;rw[Nat.zero_add];exact(aO.new w (strs L).toArray 9).cell (by simpa using h)}
theorem EC:(prog.info? 9).map (λi=>(i.zero,i.size,i.bytes))=some (some (.string ByteArray.empty),1,16):=by kernel_rfl
theorem fy {ops:Array Oper}{rest:List Oper}{o:Oper}{a:Act}{Q:Exit→Act→World→Prop}(w:World)(I:o.guard=none)(s x:Operand)(L:o.op=.call { callee:=.builtin .append,args:=#[s,x],argTypes:=#[35,35] }){base n c:Nat}{A:OA}{h:List LB}{y:ByteArray}{l:LB}(T:y=ag l)(N:a.eval s=.slice A n c)(M:w.ownsRow base 9 1 (.slice A n c) n (strs h)){b:Nat}(R:a.eval x=.slice (some ⟨b,0,none⟩) 1 1)(hc:w.heap[b]?=some (.cells #[.string y] 9 (0,0)))(V:n≤1099511627776)(H:base≤w.heap.size)(F:∀g u w',w'.ownsRow base 9 1 (.slice (some ⟨g,0,none⟩) (n+1) u) (n+1) (strs (h++[l]))→w.grownBy w' (Value.slice A n c).ownBlock→((Value.slice A n c).ownBlock=some g∨g=w.heap.size)→g<w'.heap.size→wpList prog ops Q rest (a.put o.dst (.slice (some ⟨g,0,none⟩) (n+1) u)) w'):wpList prog ops Q (o::rest) a w:=by{
 subst T;obtain⟨i,J,U,O,G⟩:=info_parts EC;have e:strs h++[.string (ag l)]=strs (h++[l]):=by rw[FU];rfl
 exact wpList_append_lies w I s x 35 L base 9 i (.string ByteArray.empty) 1 16 underlying35 J U O G rfl (by decide) (.slice A n c) n (strs h) N M ⟨b,0,none⟩ 1 1 [.string (ag l)] R rfl (World.news_of_block (cs:=#[.string (ag l)]) hc) (by intro W B;simp at B;subst B;rfl) (by decide) (by unfold maxLen;omega) (by omega) H _ rfl (by rw[e];exact F)}
theorem zc (p:LB)(r:LB):cj p (wordsL (32::r))=p::wordsL r:=by rw[dW];simp[cj]
theorem Af (p:LB){c:UInt8}(h:c≠32)(r:LB):cj p (wordsL (c::r))=cj (p++[c]) (wordsL r):=by{rw[dQ h,qu _ _ (bY r)]}
theorem bc (n a b:Int)(w:World):Calls prog 30 #[n,a,b] w λe w'=>e=.returned (.bool (af n a b))∧w=w':=by{
 have h:af n a b=(decide (a≤n)&&decide (n≤b)):=rfl;have E:=hI h;clear h;by_cases h:a≤n
 {
 go_enter func30,ntmps30;go_wp2;go_ret;exact⟨by rw[E.out];simp[h],rfl⟩}
 {
 go_enter func30,ntmps30;go_wp2;go_ret;exact⟨by rw[E.out];simp;omega,rfl⟩}}
theorem bi (n a b:Int)(w:World):Calls prog 34 #[n,a,b] w λe w'=>e=.returned (.bool (af n a b))∧w=w':=by{
 have h:af n a b=(decide (a≤n)&&decide (n≤b)):=rfl;have E:=hI h;clear h;by_cases h:a≤n
 {
 go_enter func34,ntmps34;go_wp2;go_ret;exact⟨by rw[E.out];simp[h],rfl⟩}
 {
 go_enter func34,ntmps34;go_wp2;go_ret;exact⟨by rw[E.out];simp;omega,rfl⟩}}
def Pow (w : World) : Prop := Lib.TabIs prog w "internal/strconv.uint64pow10" .u64 Lib.pow10Tab
theorem ii (n:Nat)(F:n≤1000000000000)(w:World)(u:Pow w):Calls prog 32 #[n] w λe w'=>e=.returned (.string (ag (aP n)))∧BL w w':=by{
 have h:=strconv_FormatInt_10 (n:Int) (by omega) (by omega) w u;rw[Lib.itoa_nonneg] at h;have B:=hI h;clear h u;go_enter func32,ntmps32;go_wp2_with fail
 refine B.mono ?_;rintro e w'⟨rfl,k,_,rfl⟩;go_wp2_with fail
 go_ret;exact⟨rfl,Lib.below_grow _ _ (qA _) _ _⟩}
theorem xK (k:Nat):Lib.repeatL [48] k=List.replicate k 48:=by{
 induction k with
 | zero=>rfl
 | succ k h=>simp only[Lib.repeatL] at h ⊢;first|(rw[List.replicate_succ];simp[h])|simp_all[List.replicate_succ]}
theorem td (n k:Nat)(M:n≤1000000000000)(O:k≤10)(w:World)(F:∀w',BL w w'→Pow w'):Calls prog 92 #[n,k] w λe w'=>e=.returned (.string (ag (BW k n)))∧BL w w':=by{
 have B:=hI (ii n M w (F w (qB _ _)));have L:=bd 12 n (by omega);obtain⟨h,u⟩:∃h,h=aP n:=⟨_,rfl⟩;have I:=hI (show ag (List.replicate (k-h.length) 48)++ag h=ag (BW k n) from by rw[aA,u];rfl);rw[←u] at B L;clear u F;have H:(ag h).size=h.length:=aj h;have G:=hI H;have R:(ag (List.replicate (k-h.length) 48)).size≤10:=by rw[aj];simp;omega
 have F:=hI (λw'=>strings_Repeat ⟨#[48]⟩ (k-h.length) w' (by omega) (by simp[ByteArray.size];omega));have J:=hI (show(⟨(Lib.repeatL (ByteArray.mk #[48]).data.toList (k-h.length)).toArray⟩:ByteArray)=ag (List.replicate (k-h.length) 48) from by unfold ag;rw[show(ByteArray.mk #[48]).data.toList=[48] from rfl,xK]);have u:max 0 ((k:Int)-(h.length:Int))=((k-h.length:Nat):Int):=by omega
 have N:=hI u;clear H u;go_enter func92,ntmps92;go_wp2_with fail
 refine B.mono ?_;rintro e U⟨rfl,u⟩;have H:=hI u;clear u B;go_wp2_with fail
 rw[show max 0 (wrap64 ((k:Int)-((ag h).size:Int)))=((k-h.length:Nat):Int) from by rw[G.out];unfold wrap64;omega];refine(F _).mono ?_;rintro e w2⟨rfl,u⟩;rw[J.out];have B:=zb H u;have T:(ag h).size≤20:=by rw[G.out];omega
 clear u F;go_wp2_with fail
 rw[I.out];go_ret;exact⟨rfl,B⟩}
def ErrV (w:World):Prop:=(∃u h,w.cell? ⟨2,0,none⟩=some (.iface u h))∧∃u h,w.cell? ⟨3,0,none⟩=some (.iface u h)
theorem ErrV.below {w w':World}(F:ErrV w)(B:BL w w'):ErrV w':=by{
 obtain⟨⟨a,b,h⟩,c,d,u⟩:=F;exact⟨⟨a,b,(B.cell (au h)).trans h⟩,c,d,(B.cell (au u)).trans u⟩}
structure gu (w : World) : Prop where
 pow : Pow w
 err : ErrV w
 max : MaxL w
theorem DH (v:Int)(B:-9223372036854775808≤v)(F:v≤9223372036854775807)(w:World)(h:Pow w):Calls prog 32 #[v] w λe w'=>e=.returned (.string (ag (Lib.itoa v)))∧BL w w':=by{
 have u:=hI (strconv_FormatInt_10 v B F w h);clear h;go_enter func32,ntmps32;go_wp2_with fail
 refine u.mono ?_;rintro e w'⟨rfl,k,_,rfl⟩;go_wp2_with fail
 go_ret;exact⟨rfl,Lib.below_grow _ _ (qA _) _ _⟩}
theorem js (w w':World)(t:TypeId)(h:w'=w∨∃s,w'=Lib.bytesWorld w t s):BL w w':=by{
 rcases h with rfl|⟨s,rfl⟩
 {exact qB _ _}
 {exact Lib.bytesWorld_below _ _ _}}
theorem kt {a b:ByteArray}(h:a≠b):(a.toList==b.toList)=false:=by{
 rw[beq_eq_false_iff_ne,ByteArray.toList_eq,ByteArray.toList_eq];intro e;exact h (WideShapes.bytes_inj e)}
theorem lB (s:ByteArray)(hs:s.size≤2097152)(w:World)(R:Pow w)(he:ErrV w)(M:∀w',BL w w'→Pow w'):Calls prog 97 #[.string s] w λe w'=>e=.returned (.tuple #[.int .i64 (fq s.data.toList).1,.bool (fq s.data.toList).2])∧BL w w':=by{
 obtain⟨⟨te,pe,I⟩,a2,a1,J⟩:=he;have O:=(Lib.size_eq s).symm;rcases u:Lib.parseIntB 64 s.data.toList with v|_|_
 {
 have N:=Lib.parseIntB_bounds u;have V:-9223372036854775808≤v:=by have:=N.1;simpa using this
 have W:v≤9223372036854775807:=by have:=N.2;simp at this;omega
 have H:=hI (Any.strconv_ParseInt_10_at64_ok laysC174 s (by omega) v u w);have U:=hI (λw' B=>DH v V W w' (M w' B));by_cases hl:s.size≤19
 {
 have av:decide ((19:Int)<(s.size:Int))=false:=by simp;omega
 by_cases L:Lib.itoa v=s.data.toList
 {
 have T:ag (Lib.itoa v)=s:=by rw[L,fw]
 rw[T] at U;have h:fq s.data.toList=(v,true):=by{
 unfold fq;rw[u];simp only;rw[if_pos ⟨by omega,L⟩]}
 rw[h];clear N V W u I J M R O T L h;go_enter func97,ntmps97;go_wp2_with fail
 refine H.mono ?_;rintro e Y⟨rfl,G⟩;have F:=hI (js _ _ _ G);clear G;go_wp2_with fail
 refine(U _ F).mono ?_;rintro e w2⟨rfl,B⟩;have Z:=zb F B;clear B;go_wp2_with fail
 go_ret2;exact⟨rfl,Z⟩}
 {
 have T:ag (Lib.itoa v)≠s:=λe=>L (by rw[←e,aw])
 have h:fq s.data.toList=(0,false):=by{
 unfold fq;rw[u];simp only;rw[if_neg (λad=>L ad.2)]}
 rw[h];have ar:=hI T;clear N V W u I J M R O T L h;go_enter func97,ntmps97;go_wp2_with fail
 refine H.mono ?_;rintro e Y⟨rfl,G⟩;have F:=hI (js _ _ _ G);clear G;go_wp2_with fail
 refine(U _ F).mono ?_;rintro e w2⟨rfl,B⟩;have Z:=zb F B;have a7:=kt ar;generalize ag (Lib.itoa v)=a6 at *;clear B;go_wp2_with fail
 go_ret2;exact⟨rfl,Z⟩}}
 {
 have av:decide ((19:Int)<(s.size:Int))=true:=by simp;omega
 have h:fq s.data.toList=(0,false):=by{
 unfold fq;rw[u];simp only;rw[if_neg (λad=>hl (by omega))]}
 rw[h];clear N V W u I J M R O h U;go_enter func97,ntmps97;go_wp2_with fail
 refine H.mono ?_;rintro e Y⟨rfl,G⟩;have F:=hI (js _ _ _ G);clear G;go_wp2_with fail
 go_ret2;exact⟨rfl,F⟩}}
 {
 have h:fq s.data.toList=(0,false):=by unfold fq;rw[u]
 rw[h];have H:=hI (Any.strconv_ParseInt_10_at64_syntax laysC174 s (by omega) u _ w I (.inr ⟨te,pe,rfl⟩));clear u I J M R O h;go_enter func97,ntmps97;go_wp2_with fail
 refine H.mono ?_;rintro e Y⟨G,rfl,_,_,B⟩;have F:=hI B;clear B;go_wp2_with fail
 go_ret2;exact⟨rfl,F⟩}
 {
 have h:fq s.data.toList=(0,false):=by unfold fq;rw[u]
 rw[h];have H:=hI (Any.strconv_ParseInt_10_at64_range laysC174 s (by omega) u _ w J (.inr ⟨a2,a1,rfl⟩));clear u I J M R O h;generalize Lib.intSat 64 s.data.toList=h at *;go_enter func97,ntmps97;go_wp2_with fail
 refine H.mono ?_;rintro e Y⟨G,rfl,_,_,B⟩;have F:=hI B;clear B;go_wp2_with fail
 go_ret2;exact⟨rfl,F⟩}}
section
variable {P : Program} {ops : Array Oper} {Q : Exit → Act → World → Prop} {md : Region.Mode} {S : World → Prop} {late : Nat → Bool}
def pX (md:Region.Mode) (ops:Array Oper):Nat→Nat→Nat→Bool|0,_,_=>false|f+1,j,i=>Region.waitsFor md ops j i||(List.range j).any λp=>Region.waitsFor md ops j p&&pX md ops f p i
def pC (md:Region.Mode) (ops:Array Oper) (h:Array Bool):Prop:=∀j u,ops[j]?=some u→h.getD j false=true→∀e∈u.after,Region.binds md e=true→h.getD e.on false=true
def mc (md:Region.Mode) (ops:Array Oper) (h:Array Bool):Bool:=(List.range ops.size).all λj=>!h.getD j false||((ops[j]?).map (·.after.all λe=>!Region.binds md e||h.getD e.on false)).getD true
theorem Dd {G:Array Bool}(h:mc md ops G=true):pC md ops G:=by{
 intro j M F L e I H;unfold mc at h;rw[List.all_eq_true] at h;have J:j<ops.size:=(Array.getElem?_eq_some_iff.1 F).1;have u:=h j (List.mem_range.2 J);rw[L,F] at u;simp only[Bool.not_true,Bool.false_or,Option.map_some,Option.getD_some] at u;have B:=(Array.all_eq_true'.1 u) e I;rw[H] at B;simpa using B}
theorem pC.set {h:Array Bool}{i:Nat}(M:pC md ops h)(O:i∈Region.ready md ops h):pC md ops (h.setIfInBounds i true):=by{
 intro j J H I e F B;obtain⟨T,U,R,N⟩:=mem_ready.1 O;have L:∀k,h.getD k false=true→(h.setIfInBounds i true).getD k false=true:=by{
 intro k u;by_cases G:i=k
 {
 subst G;have:=getD_both T;rw[this] at u;cases u}
 {rw[getD_set_ne false G];exact u}}
 by_cases u:i=j
 {
 subst u;obtain rfl:U=J:=Option.some.inj (R.symm.trans H);exact L _ (N e F B)}
 {
 rw[getD_set_ne false u] at I;exact L _ (M j J H I e F B)}}
theorem tf {u:Array Bool}(hc:pC md ops u):∀(f j i:Nat),pX md ops f j i=true→u.getD i true=false→u.getD j false=false∧j∉Region.ready md ops u:=by{
 intro f
 induction f with
 | zero=>intro j i h;cases h
 | succ f V=>{
 intro j i h H;unfold pX at h;have L:∀p,Region.waitsFor md ops j p=true→u.getD p false=false→u.getD j false=false∧j∉Region.ready md ops u:=by{
 intro p U B;obtain⟨M,I,e,G,F,J⟩:=Region.waitsFor_spec U;refine⟨?_,λT=>?_⟩
 {
 cases O:u.getD j false with
 | false=>rfl
 | true=>{
 have:=hc j M I O e G F;rw[J,B] at this;cases this}}
 {
 obtain⟨_,W,R,N⟩:=mem_ready.1 T;obtain rfl:M=W:=Option.some.inj (I.symm.trans R);have:=N e G F;rw[J,B] at this;cases this}}
 rw[Bool.or_eq_true] at h;rcases h with h|h
 {exact L i h (getD_both H)}
 {
 obtain⟨p,_,B⟩:=List.any_eq_true.1 h;rw[Bool.and_eq_true] at B;exact L p B.1 (V p i B.2 H).1}}}
def wpAnyT (P:Program) (md:Region.Mode) (ops:Array Oper) (Q:Exit→Act→World→Prop) (S:World→Prop) (late:Nat→Bool):Nat→Array Bool→Act→World→Prop|0,h,a,w=>Region.ready md ops h=[]∧Q .normal a w|fuel+1,h,a,w=>(Region.ready md ops h=[]→Q .normal a w)∧∀i∈Region.ready md ops h,wpOp P ops Q i (λu w'=>(late i=true∨S w')∧wpAnyT P md ops Q S late fuel (h.setIfInBounds i true) u w') a w
theorem nv:∀(h:Nat) (B:Array Bool) (a:Act) (w:World),wpAnyT P md ops Q S late h B a w→wpAny P md ops Q h B a w|0,_,_,_,u=>u|h+1,_,_,_,u=>⟨u.1,λi H=>wpOp_mono (λF w' G=>nv h _ F w' G.2) (u.2 i H)⟩
theorem wpAnyT_first {i:Nat}{H:Oper}{v:Value}(Z:ops[i]?=some H)(a1:∀(j:Nat) (o:Oper) L b,ops[j]?=some o→o.op≠.select L b)(hQ:∀c a w,Q (.panic c) (a.put H.dst v) w→Q (.panic c) a w)(ba:∀j h,ops[j]?=some h→late j=true→pX md ops ops.size j i=true):∀(M:Nat) (u:Array Bool) (a:Act) (w:World),pC md ops u→(∀j h,ops[j]?=some h→j≠i→u.getD j true=false→(∀e∈h.after,Region.binds md e=true→e.on≠i)→H.apart ops h=true)→i∈Region.ready md ops u→YieldsIf P ops S H v a→S w→wpAnyT P md ops Q S late M (u.setIfInBounds i true) (a.put H.dst v) w→wpAnyT P md ops Q S late (M+1) u a w:=by{
 intro M
 induction M with
 | zero=>{
 intro u a w Y _ G V N J;refine⟨λB=>(by rw[B] at G;cases G),λj I=>?_⟩;by_cases F:j=i
 {subst F;exact V.wpOp Z N ⟨.inr N,J⟩}
 {
 have:=ready_mono I F;rw[J.1] at this
 cases this}}
 | succ M ih=>{
 intro u a w Y ar G V N J;refine⟨λB=>(by rw[B] at G;cases G),λj I=>?_⟩;by_cases F:j=i
 {subst F;exact V.wpOp Z N ⟨.inr N,J⟩}
 {
 have T:=J.2 j (ready_mono I F);have O:=(mem_ready.1 G).1;obtain⟨av,h,U,a2⟩:=mem_ready.1 I;have bb:late j=false:=by{
 cases hl:late j with
 | false=>rfl
 | true=>exact absurd I (tf Y _ j i (ba j h U hl) O).2}
 have bo:∀e∈h.after,Region.binds md e=true→e.on≠i:=λe he hb a6=>by{
 have T:=a2 e he hb;rw[a6,getD_both O] at T
 cases T}
 have h2:=wpOp_putIf U (ar j h U F av bo) (λL b=>a1 i H L b Z) (λL b=>a1 j h L b U) hQ V T;have a7:∀k R,ops[k]?=some R→k≠i→(u.setIfInBounds j true).getD k true=false→(∀e∈R.after,Region.binds md e=true→e.on≠i)→H.apart ops R=true:=λk R hk a8 O bk=>by{
 refine ar k R hk a8 ?_ bk;by_cases W:j=k
 {subst W;exact av}
 {rw[getD_set_ne true W] at O;exact O}}
 refine wpOp_mono (λa' w' W=>?_) h2;have ad:S w':=by{
 rcases W.2.1 with B|B
 {rw[bb] at B;cases B}
 {exact B}}
 refine⟨.inr ad,ih (u.setIfInBounds j true) a' w' (Y.set I) a7 (ready_mono G (Ne.symm F)) W.1 ad ?_⟩;rw[Array.setIfInBounds_comm _ _ F];exact W.2.2}}}
def vi (md:Region.Mode) (ops:Array Oper) (late:Nat→Bool) (i:Nat):Bool:=(List.range ops.size).all λj=>!late j||pX md ops ops.size j i
theorem AN {i:Nat}(h:vi md ops late i=true):∀j u,ops[j]?=some u→late j=true→pX md ops ops.size j i=true:=by{
 intro j u B F;unfold vi at h;rw[List.all_eq_true] at h;have:=h j (List.mem_range.2 (Array.getElem?_eq_some_iff.1 B).1);rw[F] at this;simpa using this}
theorem wpAnyT_take (i:Nat){u:Oper}(v:Value){B:Nat}{h:Array Bool}{a:Act}{w:World}(G:ops[i]?=some u)(F:(Region.noSelect ops&&Region.free md ops h i&&(Region.ready md ops h).contains i&&vi md ops late i&&mc md ops h)=true)(I:∀c a w,Q (.panic c) (a.put u.dst v) w→Q (.panic c) a w)(M:u.guard=none)(T:∀w,S w→(execOp a.eval u).run P w=.ok (.value v) w)(J:S w)(H:wpAnyT P md ops Q S late B (h.setIfInBounds i true) (a.put u.dst v) w):wpAnyT P md ops Q S late (B+1) h a w:=by{
 simp only[Bool.and_eq_true] at F;obtain⟨⟨⟨⟨R,hf⟩,O⟩,N⟩,L⟩:=F;exact wpAnyT_first G (Region.noSelect_spec R) I (AN N) B h a w (Dd L) (Region.free_spec G hf) (by simpa using O) (.inl ⟨by simp[Region.wanted,M],T⟩) J H}
theorem wpAnyT_one (i:Nat){u:Oper}{F:Nat}{B:Array Bool}{a:Act}{w:World}(N:ops[i]?=some u)(I:Region.ready md ops B=[i])(J:∀h:Act→World→Prop,(∀a w,(late i=true∨S w)→wpAnyT P md ops Q S late F (B.setIfInBounds i true) a w→h a w)→if Region.wanted u (yielded ops a.tmps)=true then Oper.wp P u a w h Q else h (a.put u.dst undef) w):wpAnyT P md ops Q S late (F+1) B a w:=by{
 refine⟨λG=>(by rw[I] at G;cases G),λj H=>?_⟩;rw[I] at H;obtain rfl:j=i:=by simpa using H
 exact wpOp_step N (λh L=>J h (λa w O M=>L a w ⟨O,M⟩))}
theorem wpAnyT_two (i j:Nat){F G:Oper}{H:Nat}{B:Array Bool}{a:Act}{w:World}(T:ops[i]?=some F)(U:ops[j]?=some G)(N:Region.ready md ops B=[i,j])(O:∀h:Act→World→Prop,(∀a w,(late i=true∨S w)→wpAnyT P md ops Q S late H (B.setIfInBounds i true) a w→h a w)→if Region.wanted F (yielded ops a.tmps)=true then Oper.wp P F a w h Q else h (a.put F.dst undef) w)(R:∀h:Act→World→Prop,(∀a w,(late j=true∨S w)→wpAnyT P md ops Q S late H (B.setIfInBounds j true) a w→h a w)→if Region.wanted G (yielded ops a.tmps)=true then Oper.wp P G a w h Q else h (a.put G.dst undef) w):wpAnyT P md ops Q S late (H+1) B a w:=by{
 refine⟨λM=>(by rw[N] at M;cases M),λk u=>?_⟩;rw[N] at u;rcases List.mem_cons.1 u with rfl|u
 {exact wpOp_step T (λh I=>O h (λa w L J=>I a w ⟨L,J⟩))}
 {
 obtain rfl:k=j:=by simpa using u
 exact wpOp_step U (λh I=>R h (λa w L J=>I a w ⟨L,J⟩))}}
theorem wpAnyT_done {B:Array Bool}{a:Act}{w:World}(u:Region.ready md ops B=[])(h:Q .normal a w):∀F,wpAnyT P md ops Q S late F B a w|0=>⟨u,h⟩|_+1=>⟨λ_=>h,by rw[u];simp⟩
theorem zM (S:World→Prop)(late:Nat→Bool){id:Nat}{a:Act}{w:World}(u:P.follows .mixedOrders=true)(h:wpAnyT P .any ops Q S late ops.size (Array.replicate ops.size false) a w.drew):(Code.region id ops true).wp P Q a w:=wp_region_any u (nv _ _ _ _ h)
theorem bz (S:World→Prop)(late:Nat→Bool){n:Nat}{id:Nat}{a:Act}{w:World}(B:P.follows .mixedOrders=true)(F:ops.size=n)(u:∀h,Hid (h=ops)→wpAnyT P .any h Q S late n (Array.replicate n false) a w.drew):(Code.region id ops true).wp P Q a w:=by{
 subst F;exact zM S late B (u ops (hI rfl))}
end
theorem zS {P:Program} {ops h:Array Oper} {Q:Exit→Act→World→Prop} {md:Region.Mode} {S:World→Prop} {late:Nat→Bool} (E:Hid (ops=h)) {C:World→Prop} (H:Hid (∀ w,S w→C w)) (i:Nat) {F:Oper} {v:Value} {G:Nat} {B:Array Bool} {a:Act} {w:World} (L:S w)
 (u:wpAnyT P md ops Q S late G (B.setIfInBounds i true) (a.put F.dst v) w) (N:h[i]?=some F:=by rfl)
 (I:(Region.noSelect h&&Region.free md h B i&&(Region.ready md h B).contains i&&vi md h late i&&mc md h B)=true:=by kernel_rfl)
 (O:∀ w,C w→(execOp a.eval F).run P w=.ok (.value v) w:=by intro T R;go_simp;rfl) (J:∀ c a w,Q (.panic c) (a.put F.dst v) w→Q (.panic c) a w:=by exact λ_ _ _ u=>u) (M:F.guard=none:=by rfl):wpAnyT P md ops Q S late (G+1) B a w:=by
 have e:=E.out
 subst e
 exact wpAnyT_take i v N I J M (λw u=>O w (H.out w u)) L u
theorem zN {P:Program} {ops h:Array Oper} {Q:Exit→Act→World→Prop} {md:Region.Mode} {S:World→Prop} {late:Nat→Bool} (E:Hid (ops=h)) (i:Nat) {B:Oper} {v:Value} {G:Nat} {u:Array Bool} {a:Act} {w:World} (J:S w)
 (F:wpAnyT P md ops Q S late G (u.setIfInBounds i true) (a.put B.dst v) w) (M:h[i]?=some B:=by rfl)
 (H:(Region.noSelect h&&Region.free md h u i&&(Region.ready md h u).contains i&&vi md h late i&&mc md h u)=true:=by kernel_rfl)
 (N:∀ w,(execOp a.eval B).run P w=.ok (.value v) w:=by intro O;go_simp;rfl) (I:∀ c a w,Q (.panic c) (a.put B.dst v) w→Q (.panic c) a w:=by exact λ_ _ _ F=>F) (L:B.guard=none:=by rfl):wpAnyT P md ops Q S late (G+1) u a w:=by
 have e:=E.out
 subst e
 exact wpAnyT_take i v M H I L (λw _=>N w) J F
theorem zV {P:Program} {ops h:Array Oper} {Q:Exit→Act→World→Prop} {md:Region.Mode} {S:World→Prop} {late:Nat→Bool} (E:Hid (ops=h)) (i:Nat) (v:Value) {B:Oper} {G:Nat} {u:Array Bool} {a:Act} {w:World} (M:h[i]?=some B)
 (H:(Region.noSelect h&&Region.free md h u i&&(Region.ready md h u).contains i&&vi md h late i&&mc md h u)=true)
 (N:∀ w,S w→(execOp a.eval B).run P w=.ok (.value v) w) (J:S w)
 (F:wpAnyT P md ops Q S late G (u.setIfInBounds i true) (a.put B.dst v) w) (I:∀ c a w,Q (.panic c) (a.put B.dst v) w→Q (.panic c) a w:=by exact λ_ _ _ F=>F) (L:B.guard=none:=by rfl):wpAnyT P md ops Q S late (G+1) u a w:=by
 have e:=E.out
 subst e
 exact wpAnyT_take i v M H I L N J F
theorem zo {P:Program} {ops B:Array Oper} {Q:Exit→Act→World→Prop} {md:Region.Mode} {S:World→Prop} {late:Nat→Bool} (E:Hid (ops=B)) (i:Nat) {h:Oper} {G:Nat} {F:Array Bool} {a:Act} {w:World}
 (H:∀ u:Act→World→Prop,Hid (∀ a w,(late i=true∨S w)→wpAnyT P md ops Q S late G (F.setIfInBounds i true) a w→u a w)→if Region.wanted h (yielded ops a.tmps)=true then Oper.wp P h a w u Q else u (a.put h.dst undef) w)
 (J:B[i]?=some h:=by rfl) (L:Region.ready md B F=[i]:=by kernel_rfl):wpAnyT P md ops Q S late (G+1) F a w:=by
 have e:=E.out
 subst e
 exact wpAnyT_one i J L (λK I=>H K (Lib.hid I))
theorem zt {P:Program} {ops u:Array Oper} {Q:Exit→Act→World→Prop} {md:Region.Mode} {S:World→Prop} {late:Nat→Bool} (E:Hid (ops=u)) (i j:Nat) {F G:Oper} {H:Nat} {B:Array Bool} {a:Act} {w:World}
 (J:∀ h:Act→World→Prop,Hid (∀ a w,(late i=true∨S w)→wpAnyT P md ops Q S late H (B.setIfInBounds i true) a w→h a w)→if Region.wanted F (yielded ops a.tmps)=true then Oper.wp P F a w h Q else h (a.put F.dst undef) w)
 (L:∀ h:Act→World→Prop,Hid (∀ a w,(late j=true∨S w)→wpAnyT P md ops Q S late H (B.setIfInBounds j true) a w→h a w)→if Region.wanted G (yielded ops a.tmps)=true then Oper.wp P G a w h Q else h (a.put G.dst undef) w)
 (M:u[i]?=some F:=by rfl) (N:u[j]?=some G:=by rfl) (O:Region.ready md u B=[i,j]:=by kernel_rfl):wpAnyT P md ops Q S late (H+1) B a w:=by
 have e:=E.out
 subst e
 exact wpAnyT_two i j M N O (λK I=>J K (Lib.hid I)) (λK I=>L K (Lib.hid I))
theorem zd {P:Program} {ops h:Array Oper} {Q:Exit→Act→World→Prop} {md:Region.Mode} {S:World→Prop} {late:Nat→Bool} (E:Hid (ops=h)) {B:Array Bool} {a:Act} {w:World} {u:Nat} (F:Q .normal a w) (G:Region.ready md h B=[]:=by kernel_rfl):wpAnyT P md ops Q S late u B a w:=by
 have e:=E.out
 subst e
 exact wpAnyT_done G F u
def mQ (h:LI):List Value:=h.map (Value.int .u8)
theorem nK (h:LI):(mQ h).length=h.length:=by simp[mQ]
theorem Cc {h:LI}{k:Nat}{x:Int}(u:h[k]?=some x):(mQ h)[k]?=some (.int .u8 x):=by simp[mQ,u]
theorem xX (s:ByteArray)(hs:s.size≤2097152)(w:World):Calls prog 73 #[.string s,.int .u8 32] w (jG w (wordsL s.data.toList)):=by{
 have G:=(Lib.size_eq s).symm;obtain⟨u,h⟩:∃u,u=s.data.toList:=⟨_,rfl⟩;rw[←h] at G ⊢;obtain⟨B,F⟩:∃B,B=wordsL u:=⟨_,rfl⟩;rw[←F];have HL:=hI h;have av:=hI G;have I:=hI (show []++cj ((u.drop 0).take (0-0)) (wordsL (u.drop 0))=B from by simp[F,iD (bY u)]);have ar:=hI (λa b H=>bQ s a b H);rw[←h] at ar;clear h G F;go_enter func73,ntmps73;go_wp2_with fail
 have H:=hI (show(w.alloc (.cells #[] 9)).ownsRow w.heap.size 9 1 (.slice (some ⟨w.heap.size,0,none⟩) 0 0) 0 (strs []) from bg w w.heap.size 9 1 (qA _));have G:=hI ((qB w.heap.size w).alloc (qA _) (.cells #[] 9));go_loopw [5,6,7] (λo f i wr=>∃(k h m c:Nat) (A:OA) (F:List LB),k≤s.size+1∧m≤k∧o=.slice A m c∧f=.int .i64 h∧i=.int .i64 k∧Hid ((k≤s.size∧h≤k∧F++cj ((u.drop h).take (k-h)) (wordsL (u.drop k))=B)∨(k=s.size+1∧F=B))∧Hid (wr.ownsRow w.heap.size 9 1 (.slice A m c) m (strs F))∧Hid (BL w wr)) (λ_ _ i _=>s.size+1-(intOf i).toNat)
 case atStart=>exact⟨0,0,0,0,_,[],qH _,qH _,rfl,rfl,rfl,hI (.inl ⟨qH _,qA _,I⟩),H,G⟩
 case round=>(
 clear H G I;obtain⟨k,h,m,c,A,F,_,_,rfl,rfl,rfl,H,G,L⟩:=hrel;obtain⟨wo,bk⟩:∃wo:World,wo=wr:=⟨_,rfl⟩;subst bk;by_cases bb:k≤s.size
 {
 have ba:decide ((k:Int)≤(s.size:Int))=true:=by simp;omega
 have V:=H.out;have a':h≤k∧F++cj ((u.drop h).take (k-h)) (wordsL (u.drop k))=B:=by rcases V with I|I;exact I.2;exact absurd I.1 (by omega)
 obtain⟨_,hinv⟩:=a';have ad:=hI (ar h k bb);have a1:=L.size;by_cases N:k=s.size
 {
 have a8:((k:Int)==(s.size:Int))=true:=by simp[N]
 have M:=hI (show F++[(u.drop h).take (k-h)]=B from by{
 have J:u.drop k=[]:=qK (by have:=av.out;omega);rw[←hinv,J];simp[wordsL,cj]})
 have a6:=hI N;clear V hinv H N;go_wp2_with(at_builtin;refine fy (l:=(u.drop h).take (k-h)) _ rfl _ _ rfl ad rfl (aa G (za _ _)) rfl (heap_alloc_new _ _) (by omega) ?cBa ?_;rotate_left;intro g9 Z w9 T O _ _)
 {
 have W:=hI ((L.alloc a1 _).grown O (by simp;omega) (λj hj=>(G.lt j hj).1));have Y:=hI T;clear T O;go_roundw
 case rel=>exact⟨k+1,k+1,m+1,Z,_,_,by omega,by omega,rfl,by go_num,by go_num,hI (.inr ⟨by have:=a6.out;omega,M⟩),Y,W⟩
 case measure=>simp[intOf]<;>omega}
 {first|omega|(simp;omega)}}
 {
 have a8:((k:Int)==(s.size:Int))=false:=by simp;omega
 have bp:k<s.size:=by omega
 have a2:k<u.length:=by have:=av.out;omega
 have U:=List.drop_eq_getElem_cons a2;have R:s[k]=u[k]:=by{
 have J:=HL.out;subst J;rfl}
 have bo:=hI R;by_cases J:u[k]=32
 {
 have hc:(((s[k]).toNat:Int)==32)=true:=by rw[R,J];rfl
 have M:=hI (show F++[(u.drop h).take (k-h)]++cj ((u.drop (k+1)).take (k+1-(k+1))) (wordsL (u.drop (k+1)))=B from by{
 rw[←hinv,U,J,zc,Nat.sub_self,qh,iD (bY _)];simp})
 clear V hinv H U R J N;go_wp2_with(at_builtin;refine fy (l:=(u.drop h).take (k-h)) _ rfl _ _ rfl ad rfl (aa G (za _ _)) rfl (heap_alloc_new _ _) (by omega) ?cBb ?_;rotate_left;intro g9 Z w9 T O _ _)
 {
 have W:=hI ((L.alloc a1 _).grown O (by simp;omega) (λj hj=>(G.lt j hj).1));have Y:=hI T;clear T O;go_roundw
 case rel=>exact⟨k+1,k+1,m+1,Z,_,_,by omega,by omega,rfl,by go_num,by go_num,hI (.inl ⟨by omega,qA _,M⟩),Y,W⟩
 case measure=>simp[intOf]<;>omega}
 {first|omega|(simp;omega)}}
 {
 have hc:(((s[k]).toNat:Int)==32)=false:=by{
 rw[R];simp only[beq_eq_false_iff_ne];intro e;apply J;apply UInt8.toNat_inj.1;show(u[k]).toNat=32;omega}
 have M:=hI (show F++cj ((u.drop h).take (k+1-h)) (wordsL (u.drop (k+1)))=B from by{
 rw[←hinv,U,Af _ J];congr 3;rw[show k+1-h=(k-h)+1 from by omega,List.take_add_one];congr 1;rw[qg,show h+(k-h)=k from by omega,qG a2];rfl})
 clear V hinv H U R J N;go_wp2_with fail
 go_roundw
 case rel=>exact⟨k+1,h,m,c,A,F,by omega,by omega,rfl,rfl,by go_num,hI (.inl ⟨by omega,by omega,M⟩),G,L⟩
 case measure=>simp[intOf]<;>omega}}}
 {
 have ba:decide ((k:Int)≤(s.size:Int))=false:=by simp;omega
 have hw:F=B:=by rcases H.out with I|I;omega;exact I.2
 have a7:=hI hw;clear H hw;go_wp2_with fail
 go_ret;exact⟨_,_,_,rfl,by rw[←a7.out];exact az G,L,lx G⟩})}
theorem AF (A:OA)(n c:Nat)(B:LI)(J h:Int)(w:World)(G:Rd w 1 A n (ints B)):Calls prog 312 #[.slice A n c,J,h] w λe w'=>e=.returned (.bool (lf B J h))∧w=w':=by{
 have I:=hI G.len_int;have N:=G.le;go_enter func312,ntmps312;go_wp2;go_loop [8,11] (λ_ i=>∃k:Nat,k≤n∧i=.int .i64 k∧(B.drop k).all (λx=>af x 0 h)=B.all (λx=>af x 0 h)) (λ_ i=>n-(intOf i).toNat)
 case atStart=>exact⟨0,qH _,rfl,rfl⟩
 case round=>(
 obtain⟨k,_,rfl,u⟩:=hrel;have F:=hI u;clear u;by_cases L:k<n
 {
 obtain⟨b,o,x,rfl,H,u,_⟩:=G.int L;have M:=hI H;clear H;have H:=hI u;clear u;go_wp2_with(go_at_call 30;refine(bc _ _ _ _).mono ?_;rintro e w'⟨rfl,rfl⟩)
 {
 have u:(!af x 0 h)=true:=by assumption
 go_ret;exact⟨ak (by unfold lf;rw[←F.out,H.out];simp at u;simp[u]),rfl⟩}
 {
 have u:(!af x 0 h)=false:=by assumption
 go_round
 case rel=>exact⟨k+1,by omega,by go_num,by rw[←F.out,H.out];simp at u;simp[u]⟩
 case measure=>simp[intOf];omega}}
 {
 obtain rfl:k=n:=by omega
 go_wp2;go_ret;exact⟨ak (by unfold lf;rw[←F.out,qK (by rw[I.out];omega),I.out];simp),rfl⟩})}
end
theorem zA {a b:Prop} (x:a) (y:b):a∧b:=⟨x,y⟩
theorem zR {P:Program} {ops:Array Oper} {Q:Exit→Act→World→Prop} {id:Nat} {a:Act} {W:World} {C:World→Prop} (n:Nat) (late:Nat→Bool) (hC:∀ w9,Below W.heap.size W w9→C w9)
 (h:∀ (S:World→Prop) (_:Hid (∀ w,S w→C w)) (_:Hid (∀ w,Below W.heap.size W w→S w)) (ops':Array Oper) (_:Hid (ops'=ops)) (wd:World) (_:Below W.heap.size W wd) (_:S wd),wpAnyT P .any ops' Q S late n (Array.replicate n false) a wd)
 (hm:P.follows .mixedOrders=true:=by kernel_rfl) (hn:ops.size=n:=by rfl):(Code.region id ops true).wp P Q a W:=by
 refine bz (fun w=>Below W.heap.size W w) late hm hn ?_
 intro ops' H
 exact h _ (Lib.hid (fun w hw=>hC w hw)) (Lib.hid (fun _ h=>h)) ops' H _ (ac _ W 1) (ac _ W 1)
theorem Gl (w:World)(b:Nat)(x:Int)(hc:w.cell? ⟨b,0,none⟩=some (.int .u8 x)):(convert 22 9 (.slice (some ⟨b,0,none⟩) 1 1)).run prog w=.ok (.string (ag [UInt8.ofNat x.toNat])) w:=by{
 have h:=run_convert_bytes_arg (P:=prog) w 22 5 underlying22 underlying5 b 0 1 1 [x] rfl (λi u=>by obtain rfl:i=0:=(by omega);simpa using hc) 9 underlying9;rw[h];rfl}
theorem iG (w:World)(x:Int):(convert 22 9 (.slice (some ⟨w.heap.size,0,none⟩) 1 1)).run prog (w.alloc (.cells #[.int .u8 x] 5))=.ok (.string (ag [UInt8.ofNat x.toNat])) (w.alloc (.cells #[.int .u8 x] 5)):=Gl _ _ x (aO.new w #[.int .u8 x] 5).c1
theorem wW (n:Nat):UInt8.ofNat (48+(n:Int)%10).toNat=dgt n:=by{
 unfold dgt;have e:(48+(n:Int)%10).toNat=48+n%10:=by omega
 rw[e]}
theorem De {p:World→Prop}{h:World}(Q:World→Prop)(F:Q h)(B:∀u,Q u→p u):p h:=B h F
theorem cu:∀(f n:Nat) (hf:n≤f) (hn:n≤1000000000000000) (w:World),Calls prog 36 #[n] w λe w'=>e=.returned (.string (ag (aP n)))∧BL w w':=by{
 intro f
 induction f with
 | zero=>{
 intro n hf hn w;have O:n<10:=by omega
 have Z:decide ((n:Int)<10)=true:=by simp;omega
 have R:=hI (bZ O);have I:=iG w (48+(n:Int));have h:UInt8.ofNat (48+(n:Int)).toNat=dgt n:=by unfold dgt;congr 1;omega
 rw[h] at I;have ad:=hI h;clear h;go_enter func36,ntmps36;go_wp2_with fail
 rw[R.out];go_ret;exact⟨rfl,(qB _ _).alloc (qA _) _⟩}
 | succ f u=>{
 intro n hf hn w;by_cases O:n<10
 {
 have Z:decide ((n:Int)<10)=true:=by simp;omega
 have R:=hI (bZ O);have I:=iG w (48+(n:Int));have h:UInt8.ofNat (48+(n:Int)).toNat=dgt n:=by unfold dgt;congr 1;omega
 rw[h] at I;have ad:=hI h;clear h;go_enter func36,ntmps36;go_wp2_with fail
 rw[R.out];go_ret;exact⟨rfl,(qB _ _).alloc (qA _) _⟩}
 {
 have Z:decide ((n:Int)<10)=false:=by simp;omega
 have T:=hI (show ag (aP (n/10))++ag [UInt8.ofNat (48+(n:Int)%10).toNat]=ag (aP n) from by rw[aA,wW,←fY O]);have h:=u (n/10) (by omega) (by omega);rw[show((n/10:Nat):Int)=(n:Int)/10 from by omega] at h;have U:=hI h;clear u h;have ar:=bd 15 (n/10) (by omega);have av:(ag (aP (n/10))).size≤16:=by rw[aj];exact ar
 have N:=hI (aj [UInt8.ofNat (48+(n:Int)%10).toNat]);simp only[qO,qT] at N;go_enter func36,ntmps36;go_wp2_with fail
 refine bz (n:=11) (λ_=>True) (λ_=>false) (by kernel_rfl) rfl ?_;intro a1 h;have G:=trivial;refine zV h 0 (.int .i64 (n:Int)) rfl (by kernel_rfl) (λB G=>by go_simp;first|done|(rw[Int.tdiv_eq_ediv_of_nonneg (by omega)];exact IntWalk.i64_in _ (by omega))|(rw[Int.tmod_eq_emod_of_nonneg (by omega)];try exact IntWalk.i64_in _ (by omega))|exact IntWalk.i64_in _ (by omega)|exact IntWalk.u8_in _ (by omega)|omega) trivial ?_;go_simp;refine zV h 1 (.int .i64 ((n:Int)/10)) rfl (by kernel_rfl) (λB G=>by go_simp;first|done|(rw[Int.tdiv_eq_ediv_of_nonneg (by omega)];exact IntWalk.i64_in _ (by omega))|(rw[Int.tmod_eq_emod_of_nonneg (by omega)];try exact IntWalk.i64_in _ (by omega))|exact IntWalk.i64_in _ (by omega)|exact IntWalk.u8_in _ (by omega)|omega) trivial ?_;go_simp;refine zV h 3 (.int .i64 (n:Int)) rfl (by kernel_rfl) (λB G=>by go_simp;first|done|(rw[Int.tdiv_eq_ediv_of_nonneg (by omega)];exact IntWalk.i64_in _ (by omega))|(rw[Int.tmod_eq_emod_of_nonneg (by omega)];try exact IntWalk.i64_in _ (by omega))|exact IntWalk.i64_in _ (by omega)|exact IntWalk.u8_in _ (by omega)|omega) trivial ?_;go_simp;refine zV h 4 (.int .i64 ((n:Int)%10)) rfl (by kernel_rfl) (λB G=>by go_simp;first|done|(rw[Int.tdiv_eq_ediv_of_nonneg (by omega)];exact IntWalk.i64_in _ (by omega))|(rw[Int.tmod_eq_emod_of_nonneg (by omega)];try exact IntWalk.i64_in _ (by omega))|exact IntWalk.i64_in _ (by omega)|exact IntWalk.u8_in _ (by omega)|omega) trivial ?_;go_simp;refine zV h 5 (.int .i64 (48+(n:Int)%10)) rfl (by kernel_rfl) (λB G=>by go_simp;first|done|(rw[Int.tdiv_eq_ediv_of_nonneg (by omega)];exact IntWalk.i64_in _ (by omega))|(rw[Int.tmod_eq_emod_of_nonneg (by omega)];try exact IntWalk.i64_in _ (by omega))|exact IntWalk.i64_in _ (by omega)|exact IntWalk.u8_in _ (by omega)|omega) trivial ?_;go_simp;refine zV h 6 (.int .u8 (48+(n:Int)%10)) rfl (by kernel_rfl) (λB G=>by go_simp;first|done|(rw[Int.tdiv_eq_ediv_of_nonneg (by omega)];exact IntWalk.i64_in _ (by omega))|(rw[Int.tmod_eq_emod_of_nonneg (by omega)];try exact IntWalk.i64_in _ (by omega))|exact IntWalk.i64_in _ (by omega)|exact IntWalk.u8_in _ (by omega)|omega) trivial ?_;go_simp;refine wpAnyT_two 2 7 (by rw[h.out];rfl) (by rw[h.out];rfl) (by rw[h.out];kernel_rfl) ?_ ?_
 {
 intro J F;have u:=hI F;clear F;go_simp;go_at_call 36;refine(U _).mono ?_;rintro e B⟨rfl,H⟩;refine u _ _ (.inr trivial) ?_;clear u;have L:=hI ((ac w.heap.size w 1).trans H);clear H;go_simp;refine zo h 7 λJ u=>?_
 go_simp;refine u _ _ (.inr trivial) ?_;clear u;go_simp;refine zo h 8 λJ u=>?_
 have I:=iG B (48+(n:Int)%10);go_simp;refine u _ _ (.inr trivial) ?_;clear u;clear I;go_simp;refine zV h 9 (.string (ag (aP (n/10))++ag [UInt8.ofNat (48+(n:Int)%10).toNat])) rfl (by kernel_rfl) (λB G=>by go_simp;rw[N.out];omega) trivial ?_;go_simp;refine zN h 10 trivial ?_;go_simp;refine zd h ?_;go_wp2_with fail
 rw[T.out];go_ret;exact⟨rfl,L.alloc L.size _⟩}
 {
 intro J F;have u:=hI F;clear F;go_simp;refine u _ _ (.inr trivial) ?_;clear u;go_simp;refine De (p:=λM=>wpAnyT _ _ _ _ _ _ _ _ _ M) (λM=>M.cell? ⟨w.heap.size,0,none⟩=some (.int .u8 (48+(n:Int)%10))∧BL w M) ⟨(aO.new w #[.int .u8 (48+(n:Int)%10)] 5).c1,bx (za _ _) 1⟩ ?_;rintro M⟨hz,Y⟩;have V:=hI hz;have W:=hI Y;clear hz Y;refine wpAnyT_two 2 8 (by rw[h.out];rfl) (by rw[h.out];rfl) (by rw[h.out];kernel_rfl) ?_ ?_
 {
 intro J F;have u:=hI F;clear F;go_simp;go_at_call 36;refine(U _).mono ?_;rintro e B⟨rfl,H⟩;refine u _ _ (.inr trivial) ?_;clear u;have L:=zb W H;have Y:=hI ((H.cell (p:=⟨w.heap.size,0,none⟩) (au V)).trans V);clear H;go_simp;refine zo h 8 λJ u=>?_
 have I:=Gl B w.heap.size (48+(n:Int)%10) Y;go_simp;refine u _ _ (.inr trivial) ?_;clear u;clear I;go_simp;refine zV h 9 (.string (ag (aP (n/10))++ag [UInt8.ofNat (48+(n:Int)%10).toNat])) rfl (by kernel_rfl) (λB G=>by go_simp;rw[N.out];omega) trivial ?_;go_simp;refine zN h 10 trivial ?_;go_simp;refine zd h ?_;go_wp2_with fail
 rw[T.out];go_ret;exact⟨rfl,L⟩}
 {
 intro J F;have u:=hI F;clear F;have I:=Gl M w.heap.size (48+(n:Int)%10) V;go_simp;refine u _ _ (.inr trivial) ?_;clear u;clear I;go_simp;refine zo h 2 λJ u=>?_
 go_simp;go_at_call 36;refine(U _).mono ?_;rintro e B⟨rfl,H⟩;refine u _ _ (.inr trivial) ?_;clear u;have L:=zb W H;clear H;go_simp;refine zV h 9 (.string (ag (aP (n/10))++ag [UInt8.ofNat (48+(n:Int)%10).toNat])) rfl (by kernel_rfl) (λB G=>by go_simp;rw[N.out];omega) trivial ?_;go_simp;refine zN h 10 trivial ?_;go_simp;refine zd h ?_;go_wp2_with fail
 rw[T.out];go_ret;exact⟨rfl,L⟩}}}}}
def kF (j:Nat) (h:LI):LI:=(h.set (j+1) (h.getD j 0)).set j (h.getD (j+1) 0)
def dE (u:Int→Int→Bool):Nat→LI→LI|0,h=>h|j+1,h=>if u (h.getD (j+1) 0) (h.getD j 0) then dE u j (kF j h) else h
def cK (u:Int→Int→Bool):Nat→Nat→LI→LI|0,_,h=>h|m+1,i,h=>cK u m (i+1) (dE u i h)
def aU (u:Int→Int→Bool) (h:LI):LI:=cK u (h.length-1) 1 h
theorem ua (j:Nat)(h:LI):(kF j h).length=h.length:=by simp[kF]
theorem xd (B:Int→Int→Bool)(j:Nat)(h:LI):(dE B j h).length=h.length:=by{
 induction j generalizing h with
 | zero=>rfl
 | succ j u=>{
 unfold dE;split
 {rw[u,ua]}
 {rfl}}}
theorem t_ (B:Int→Int→Bool)(m i:Nat)(h:LI):(cK B m i h).length=h.length:=by{
 induction m generalizing i h with
 | zero=>rfl
 | succ m u=>unfold cK;rw[u,xd]}
theorem iQ (u:Int→Int→Bool)(h:LI):(aU u h).length=h.length:=t_ _ _ _ _
def cO (u:Int→Int→Bool) (x:Int):LI→LI→LI|[],h=>x::h|y::r,h=>if u x y then cO u x r (y::h) else r.reverse++y::x::h
theorem Bn (p:LI)(y x:Int)(h:LI):kF p.length (p++y::x::h)=p++x::y::h:=by{
 have B:(p++y::x::h).getD p.length 0=y:=by{rw[qC,qR (qA _)];simp}
 have F:(p++y::x::h).getD (p.length+1) 0=x:=by{rw[qC,qR (by omega)];simp}
 unfold kF;rw[B,F,List.set_append,if_neg (by omega),List.set_append,if_neg (by omega)];have u:p.length+1-p.length=1:=by omega
 rw[u,Nat.sub_self];rfl}
theorem u_ (B:Int→Int→Bool)(x:Int)(r h:LI):dE B r.length (r.reverse++x::h)=cO B x r h:=by{
 induction r generalizing h with
 | nil=>rfl
 | cons y r H=>{
 have F:(r.reverse++y::x::h).getD r.length 0=y:=by{rw[qC,qR (by simp)];simp}
 have G:(r.reverse++y::x::h).getD (r.length+1) 0=x:=by{rw[qC,qR (by simp)];simp}
 have e:(y::r).reverse++x::h=r.reverse++y::x::h:=by simp
 rw[e,qO,dE,F,G,cO];split
 {
 have u:=Bn r.reverse y x h;rw[List.length_reverse] at u;rw[u,H]}
 {rfl}}}
theorem lm (F:Int→Int→Bool)(x:Int)(r h:LI):List.Perm (cO F x r h) (x::(r.reverse++h)):=by{
 induction r generalizing h with
 | nil=>simp[cO]
 | cons y r B=>{
 unfold cO;split
 {
 refine(B (y::h)).trans ?_;simp}
 {
 have:(y::r).reverse++h=r.reverse++y::h:=by simp
 rw[this];have u:=@List.perm_middle _ x (r.reverse++[y]) h;simpa using u}}}
structure wD (lt : Int → Int → Bool) (xs : LI) : Prop where
 irr : ∀x ∈ xs, lt x x = false
 tot : ∀x ∈ xs, ∀y ∈ xs, x ≠ y → lt x y = false → lt y x = true
 asy : ∀x ∈ xs, ∀y ∈ xs, lt x y = true → lt y x = false
 tr : ∀x ∈ xs, ∀y ∈ xs, ∀z ∈ xs, lt x y = true → lt y z = true → lt x z = true
theorem uj {F:Int→Int→Bool}{B:LI}(T:wD F B)(x:Int)(V:x∈B)(r u:LI)(N:∀y∈r,y∈B)(ha:∀y∈u,y∈B)(I:(r.reverse++u).Pairwise (λa b=>F a b=true))(O:∀y∈u,F x y=true)(U:∀y∈r,y≠x):(cO F x r u).Pairwise (λa b=>F a b=true):=by{
 induction r generalizing u with
 | nil=>{
 unfold cO;rw[List.pairwise_cons];exact⟨O,by simpa using I⟩}
 | cons y r ih=>{
 have e:(y::r).reverse++u=r.reverse++y::u:=by simp
 rw[e] at I;have R:y∈B:=N y (by simp);unfold cO;split
 {
 rename_i M;refine ih (y::u) (λz h=>N z (by simp[h])) (λz h=>?_) I (λz h=>?_) (λz h=>U z (by simp[h]))
 {
 rcases List.mem_cons.1 h with rfl|h
 {exact R}
 {exact ha z h}}
 {
 rcases List.mem_cons.1 h with rfl|h
 {exact M}
 {exact O z h}}}
 {
 rename_i M;have W:F y x=true:=T.tot x V y R (λe=>U y (by simp) e.symm) (by simpa using M);rw[List.pairwise_append] at I ⊢;obtain⟨Y,J,L⟩:=I;rw[List.pairwise_cons] at J;refine⟨Y,?_,?_⟩
 {
 rw[List.pairwise_cons,List.pairwise_cons];refine⟨λz h=>?_,O,J.2⟩;rcases List.mem_cons.1 h with rfl|h
 {exact W}
 {exact J.1 z h}}
 {
 intro a G b H;have Z:a∈B:=N a (by simp at G;simp[G]);rcases List.mem_cons.1 H with rfl|H
 {exact L a G b (by simp)}
 {
 rcases List.mem_cons.1 H with rfl|H
 {exact T.tr a Z y R b V (L a G y (by simp)) W}
 {exact L a G b (by simp[H])}}}}}}
theorem vV {h:Int→Int→Bool}{F:LI}(T:wD h F)(m:Nat)(p q:LI)(I:q.length=m)(H:∀y∈p++q,y∈F)(N:(p++q).Nodup)(O:p.Pairwise (λa b=>h a b=true)):List.Perm (cK h m p.length (p++q)) (p++q)∧(cK h m p.length (p++q)).Pairwise (λa b=>h a b=true):=by{
 induction m generalizing p q with
 | zero=>{
 obtain rfl:=List.eq_nil_of_length_eq_zero I;simpa[cK] using O}
 | succ m ih=>{
 cases q with
 | nil=>simp at I
 | cons x q=>{
 unfold cK;have R:dE h p.length (p++x::q)=cO h x p.reverse []++q:=by{
 have U:∀(r B:LI),cO h x r (B++q)=cO h x r B++q:=by{
 intro r
 induction r with
 | nil=>intro B;rfl
 | cons y r u=>{
 intro B;unfold cO;split
 {exact u (y::B)}
 {simp}}}
 have M:=u_ h x p.reverse q;rw[List.length_reverse,List.reverse_reverse] at M;rw[M];exact U p.reverse []}
 rw[R];have L:=lm h x p.reverse [];rw[List.reverse_reverse,qa] at L;have V:(cO h x p.reverse []).length=p.length+1:=by rw[L.length_eq];simp
 have Z:x∈F:=H x (by simp);have W:=List.nodup_append.1 N;have Y:=uj T x Z p.reverse [] (λy u=>H y (by simp at u;simp[u])) (λy u=>by cases u) (by simpa using O) (λy u=>by cases u) (λy u e=>W.2.2 y (by simpa using u) x (by simp) e);have J:List.Perm (cO h x p.reverse []++q) (p++x::q):=by{
 refine(L.append_right q).trans ?_;exact(List.perm_middle (a:=x) (l₁:=p) (l₂:=q)).symm}
 have G:=ih (cO h x p.reverse []) q (by simpa using I) (λy u=>H y (J.mem_iff.1 u)) (J.nodup_iff.2 N) Y;rw[V] at G;exact⟨G.1.trans J,G.2⟩}}}
theorem mJ {u:Int→Int→Bool}{h:LI}(B:wD u h)(F:h.Nodup):List.Perm (aU u h) h∧(aU u h).Pairwise (λa b=>u a b=true):=by{
 unfold aU
 cases h with
 | nil=>simp[cK]
 | cons x r=>exact vV B r.length [x] r rfl (λy G=>G) F (by simp)}
def ij (n:Nat):LI:=(List.range n).map λ(i:Nat)=>(i:Int)
theorem dg (n:Nat):(ij n).length=n:=by simp[ij]
theorem ww {n i:Nat}(h:i<n):(ij n)[i]?=some (i:Int):=by simp[ij,h]
theorem ki {n:Nat}{x:Int}:x∈ij n↔0≤x∧x<n:=by{
 unfold ij;rw[List.mem_map];constructor
 {
 rintro⟨a,ha,rfl⟩;rw[List.mem_range] at ha;omega}
 {
 intro h;exact⟨x.toNat,by rw[List.mem_range];omega,by omega⟩}}
theorem pm (n:Nat):(ij n).Nodup:=by{
 unfold ij;rw[List.nodup_iff_pairwise_ne,List.pairwise_map];refine List.Pairwise.imp (λ{a b} h=>?_) (List.nodup_iff_pairwise_ne.1 List.nodup_range);omega}
structure gq (w : World) (A : OA) (n : Nat) (rows : List LI) : Prop where
 len : rows.length = n
 le : n ≤ 9223372036854775807
 at_ : ∀k, k < n → ∃b o A' c' xs, A = some ⟨b, o, none⟩ ∧ rows[k]? = some xs ∧ w.cell? ⟨b, o + k, none⟩ = some (.slice A' xs.length c') ∧ Rd w 1 A' xs.length (ints xs)
theorem gq.keep {w w':World}{A:OA}{n:Nat}{rows:List LI}(h:gq w A n rows)(k:fW w w'):gq w' A n rows:=⟨h.len,h.le,λi G=>by{
 obtain⟨b,o,u,B,J,e,I,F,H⟩:=h.at_ i G;exact⟨b,o,u,B,J,e,I,k _ _ F,H.keep k⟩}⟩
theorem gq.below {w w':World}{A:OA}{n:Nat}{rows:List LI}(h:gq w A n rows)(k:BL w w'):gq w' A n rows:=h.keep (fW.below k)
theorem gq.drawn {w w':World}{A:OA}{n:Nat}{rows:List LI}(h:gq w A n rows)(k:bI w w'):gq w' A n rows:=h.below k.below
theorem gq.row {w:World}{A:OA}{n k:Nat}{rows:List LI}(F:gq w A n rows)(H:k<n):∃b o u B h,A=some ⟨b,o,none⟩∧rows[k]?=some h∧rows.drop k=h::rows.drop (k+1)∧w.cell? ⟨b,o+k,none⟩=some (.slice u h.length B)∧Rd w 1 u h.length (ints h):=by{
 obtain⟨b,o,u,B,h,e,I,L,M⟩:=F.at_ k H;obtain⟨y,G,J⟩:=dd (xs:=rows) (k:=k) (by rw[F.len];exact H);obtain rfl:h=y:=by rw[I] at G;injection G
 exact⟨b,o,u,B,h,e,I,J,L,M⟩}
structure ap (w : World) (base eo ei : Nat) (A : OA) (n c : Nat) (vs : List Value) (rows : List LI) : Prop where
 outer : w.ownsRow base eo 1 (.slice A n c) n vs
 len : rows.length = n
 row : ∀(k : Nat) (v : Value) (xs : LI), vs[k]? = some v → rows[k]? = some xs → ∃A' c', v = .slice A' xs.length c' ∧ w.ownsRow base ei 1 v xs.length (ints xs)
 apart : ∀(i j : Nat) (u v : Value), i ≠ j → vs[i]? = some u → vs[j]? = some v → ∀g, u.ownBlock = some g → v.ownBlock ≠ some g
section
variable {w w' : World} {base eo ei n c : Nat} {A : Option Addr} {vs : List Value} {rows : List (List Int)}
theorem ap.vlen (h:ap w base eo ei A n c vs rows):vs.length=n:=by have:=h.outer.1;omega
theorem ap.nle (h:ap w base eo ei A n c vs rows):n≤9223372036854775807:=(az h.outer).le
theorem ap.get (F:ap w base eo ei A n c vs rows){k:Nat}(I:k<n):∃v u B h,vs[k]?=some v∧rows[k]?=some h∧rows.drop k=h::rows.drop (k+1)∧v=.slice u h.length B∧w.ownsRow base ei 1 (.slice u h.length B) h.length (ints h):=by{
 have G:vs[k]?=some (vs[k]'(by rw[F.vlen];exact I)):=qG _;obtain⟨h,H,L⟩:=dd (xs:=rows) (k:=k) (by rw[F.len];exact I);obtain⟨u,B,e,J⟩:=F.row k _ _ G H;exact⟨_,u,B,h,G,H,L,e,by rw[e] at J;exact J⟩}
theorem ap.rd (h:ap w base eo ei A n c vs rows):gq w A n rows:=⟨h.len,h.nle,λk u=>by{
 obtain⟨v,F,G,O,H,I,_,e,M⟩:=h.get u;obtain⟨g,N,J,_,_,B,L,_⟩:=je h.outer u;obtain rfl:v=N:=by rw[H] at B;injection B
 exact⟨g,0,F,G,O,J,I,by rw[Nat.zero_add,L,e],az M⟩}⟩
def lz (u h:Nat) (A:OA) (n c:Nat) (vs:List Value):Prop:=(∀b,(Value.slice A n c).ownBlock=some b→u≤b∧b<h)∧∀v∈vs,∀b,v.ownBlock=some b→u≤b∧b<h
theorem ap.in_ (h:ap w base eo ei A n c vs rows):lz base w.heap.size A n c vs:=by{
 refine⟨h.outer.lt,λv I b B=>?_⟩;obtain⟨k,F⟩:=List.mem_iff_getElem?.1 I;have G:k<n:=by have:=(List.getElem?_eq_some_iff.1 F).1;rw[h.vlen] at this;exact this
 obtain⟨J,_,_,_,u,_,_,e,H⟩:=h.get G;obtain rfl:v=J:=by rw[F] at u;injection u
 rw[e] at B;exact H.lt b B}
theorem ap.below (h:ap w base eo ei A n c vs rows)(k:BL w w'):ap w' base eo ei A n c vs rows:=⟨aa h.outer k,h.len,λi v I F G=>by obtain⟨u,B,e,H⟩:=h.row i v I F G;exact⟨u,B,e,aa H k⟩,h.apart⟩
theorem ap.drawn (h:ap w base eo ei A n c vs rows)(k:bI w w'):ap w' base eo ei A n c vs rows:=h.below k.below
theorem ap.alloc (h:ap w base eo ei A n c vs rows)(o:Obj):ap (w.alloc o) base eo ei A n c vs rows:=h.below (za _ _)
theorem ap.chg {I F:Nat}(h:ap w base eo ei A n c vs rows)(k:aK I F w w'){J G:Nat}(H:lz J G A n c vs)(T:G≤I∨F≤J):ap w' base eo ei A n c vs rows:=⟨aE h.outer k (λb u=>by have:=H.1 b u;omega),h.len,λi v R B N=>by{
 obtain⟨L,M,e,O⟩:=h.row i v R B N;exact⟨L,M,e,aE O k (λb u=>by have:=H.2 v (qF B) b u;omega)⟩},h.apart⟩
theorem ap.base' {u:Nat}(h:ap w base eo ei A n c vs rows)(B:u≤base):ap w u eo ei A n c vs rows:=⟨an h.outer B,h.len,λi v L H I=>by obtain⟨F,G,e,J⟩:=h.row i v L H I;exact⟨F,G,e,an J B⟩,h.apart⟩
theorem aJ {base H e F n O:Nat}{s R:Nat}{v G:Value}{T U:List Value}(I:w.ownsRow base e s v n T)(J:w.ownsRow H F R G O U)(M:e≠F):∀g,v.ownBlock=some g→G.ownBlock≠some g:=by{
 intro g u B;rcases I.2 with⟨rfl,_⟩|⟨_,_,_,rfl,_,L,_⟩
 {simp[Value.ownBlock] at u}
 {
 rcases J.2 with⟨rfl,_⟩|⟨_,_,_,rfl,_,h,_⟩
 {simp[Value.ownBlock] at B}
 {
 simp[Value.ownBlock] at u B;subst u;subst B;rw[L] at h;injection h with h;injection h with _ N;exact M N}}}
theorem ap.upd (h:ap w base eo ei A n c vs rows)(Z:eo≠ei){k:Nat}{v:Value}{M G:LI}(L:vs[k]?=some v)(O:rows[k]?=some M)(Y:G.length=M.length)(N:w.grownBy w' v.ownBlock)(hy:w'.ownsRow base ei 1 v G.length (ints G)):ap w' base eo ei A n c vs (rows.set k G):=by{
 obtain⟨T,V,W,ad⟩:=h.row k v M L O;refine⟨h.outer.kept N ?_,by simpa using h.len,?_,h.apart⟩
 {
 rcases H:(Value.slice A n c).ownBlock with _|g
 {exact .inl rfl}
 {exact .inr (λI=>aJ h.outer ad Z g H I.symm)}}
 {
 intro i F zs B u;by_cases J:i=k
 {
 subst J;obtain rfl:v=F:=by rw[L] at B;injection B
 have R:=(List.getElem?_eq_some_iff.1 O).1;rw[List.getElem?_set_self R] at u;injection u with u;subst u;exact⟨T,V,by rw[W,Y],hy⟩}
 {
 rw[List.getElem?_set_ne (λe=>J e.symm)] at u;obtain⟨R,U,e,ho⟩:=h.row i F zs B u;refine⟨R,U,e,ho.kept N ?_⟩;rcases H:F.ownBlock with _|g
 {exact .inl rfl}
 {exact .inr (λI=>h.apart i k F v J B L g H I.symm)}}}}
theorem ap.put {g:Nat}(I:ap w base eo ei (some ⟨g,0,none⟩) n c vs rows)(Z:eo≠ei){k:Nat}{G:OA}{H:Nat}{F:LI}(hy:w.ownsRow base ei 1 (.slice G F.length H) F.length (ints F))(R:∀B∈vs,∀b,(Value.slice G F.length H).ownBlock=some b→B.ownBlock≠some b):ap (w.setCell ⟨g,k,none⟩ (.slice G F.length H)) base eo ei (some ⟨g,0,none⟩) n c (vs.set k (.slice G F.length H)) (rows.set k F):=by{
 have V:=I.outer.stored k (.slice G F.length H);have W:∀(B:Value) (m:Nat) (N:List Value),w.ownsRow base ei 1 B m N→(w.setCell ⟨g,k,none⟩ (.slice G F.length H)).ownsRow base ei 1 B m N:=by{
 intro B m N O;refine O.kept V.2 ?_;rcases J:B.ownBlock with _|b
 {exact .inl rfl}
 {
 refine .inr (λh=>?_);injection h with h;subst h;exact aJ I.outer O Z b rfl J}}
 refine⟨V.1,by simpa using I.len,?_,?_⟩
 {
 intro i B N u h;by_cases L:i=k
 {
 subst L;have T:i<rows.length:=by have:=(List.getElem?_eq_some_iff.1 h).1;simpa using this
 have M:i<vs.length:=by rw[I.vlen,←I.len];exact T
 rw[List.getElem?_set_self T] at h;rw[List.getElem?_set_self M] at u;injection h with h;injection u with u;subst h;subst u;exact⟨G,H,rfl,W _ _ _ hy⟩}
 {
 rw[List.getElem?_set_ne (λe=>L e.symm)] at u h;obtain⟨T,U,e,O⟩:=I.row i B N u h;exact⟨T,U,e,W _ _ _ O⟩}}
 {
 intro i j B v T u h b J;by_cases L:i=k
 {
 subst L;rw[List.getElem?_set_ne (λe=>T e)] at h;have M:i<vs.length:=by have:=(List.getElem?_eq_some_iff.1 u).1;simpa using this
 rw[List.getElem?_set_self M] at u;injection u with u;subst u;exact R v (qF h) b J}
 {
 rw[List.getElem?_set_ne (λe=>L e.symm)] at u;by_cases U:j=k
 {
 subst U;have M:j<vs.length:=by have:=(List.getElem?_eq_some_iff.1 h).1;simpa using this
 rw[List.getElem?_set_self M] at h;injection h with h;subst h;exact λY=>R B (qF u) b Y J}
 {
 rw[List.getElem?_set_ne (λe=>U e.symm)] at h;exact I.apart i j B v T u h b J}}}}
theorem ap.nil (w:World)(base eo ei:Nat):ap w base eo ei none 0 0 [] []:=⟨World.ownsRow_nil _ _ _ _,rfl,λk v B h=>by simp at h,λi j u v _ h=>by simp at h⟩
theorem ap.empty (w:World)(base eo ei:Nat)(u:base≤w.heap.size):ap (w.alloc (.cells #[] eo)) base eo ei (some ⟨w.heap.size,0,none⟩) 0 0 [] []:=⟨df w base eo u,rfl,λk v F h=>by simp at h,λi j B v _ h=>by simp at h⟩
theorem ap.append {R:World}{U:OA}{V:Nat}(h:ap w base eo ei A n c vs rows)(ar:eo≠ei){I:OA}{J:Nat}{F:LI}(hy:w.ownsRow base ei 1 (.slice I F.length J) F.length (ints F))(W:∀u∈vs,∀b,(Value.slice I F.length J).ownBlock=some b→u.ownBlock≠some b)(o:Obj)(hg:(w.alloc o).grownBy R (Value.slice A n c).ownBlock)(ho:R.ownsRow base eo 1 (.slice U (n+1) V) (n+1) (vs++[.slice I F.length J])):ap R base eo ei U (n+1) V (vs++[.slice I F.length J]) (rows++[F]):=by{
 have Z:∀(u:Value) (m:Nat) (N:List Value),w.ownsRow base ei 1 u m N→R.ownsRow base ei 1 u m N:=by{
 intro u m N M;refine(M.alloc o).kept hg ?_;rcases L:u.ownBlock with _|b
 {exact .inl rfl}
 {exact .inr (λB=>aJ h.outer M ar b B.symm L)}}
 refine⟨ho,by simp[h.len],?_,?_⟩
 {
 intro i u N B G;by_cases O:i<n
 {
 rw[qU (by rw[h.vlen];exact O)] at B;rw[qU (by rw[h.len];exact O)] at G;obtain⟨H,T,e,Y⟩:=h.row i u N B G;exact⟨H,T,e,Z _ _ _ Y⟩}
 {
 rw[qR (by rw[h.vlen];omega),h.vlen] at B;rw[qR (by rw[h.len];omega),h.len] at G;have T:i-n=0:=by{
 rcases Nat.eq_zero_or_pos (i-n) with h|h
 {exact h}
 {rw[qY (by simp;omega)] at B;cases B}}
 rw[T] at B G;simp at B G;subst B;subst G;exact⟨I,J,rfl,Z _ _ _ hy⟩}}
 {
 intro i j u v ad B G b L;have split:∀(q:Nat) (x:Value),(vs++[Value.slice I F.length J])[q]?=some x→(q<n∧vs[q]?=some x)∨(q=n∧x=.slice I F.length J):=by{
 intro q x H;by_cases Y:q<n
 {rw[qU (by rw[h.vlen];exact Y)] at H;exact .inl ⟨Y,H⟩}
 {
 rw[qR (by rw[h.vlen];omega),h.vlen] at H;have T:q-n=0:=by{
 rcases Nat.eq_zero_or_pos (q-n) with h|h
 {exact h}
 {rw[qY (by simp;omega)] at H;cases H}}
 rw[T] at H;simp at H;exact .inr ⟨by omega,H.symm⟩}}
 rcases split i u B with⟨O,M⟩|⟨O,rfl⟩<;>rcases split j v G with⟨hj,H⟩|⟨hj,rfl⟩
 {exact h.apart i j u v ad M H b L}
 {exact λY=>W u (qF M) b Y L}
 {exact W v (qF H) b L}
 {omega}}}
end
section
variable {P : Program} {ops : Array Oper} {Q : Exit → Act → World → Prop} {md : Region.Mode}
theorem vF {l n:Nat}{u:String}{args:Array Value}{w:World}{h:Value→World→Prop}(F:Rows P u args w h):Go.RowsIn (Fence.wide.inRound l) n P u args w h:=λc B _=>let ⟨v,w',r,s⟩:=F c B;⟨v,w',r,stepsIn_wide.2 s⟩
theorem tQ {l n:Nat}{f:FuncId}{args:Array Value}{w:World}{h:Ending→World→Prop}(u:Calls P f args w h):CallsIn (Fence.wide.inRound l) n P f args w h:=(callsIn_wide (n:=n)).2 u
theorem la (l n:Nat):(Fence.wide.inRound l).depth.isSome=true→1≤n:=λh=>by simp[Fence.wide] at h
theorem Oper.wp_round {l n:Nat}{o:Oper}{a:Act}{w:World}{K:Act→World→Prop}(u:∀c,o.op≠.defer c)(h:o.wp P a w K Q):o.wpIn (Fence.wide.inRound l) n P a w K Q:=by{
 unfold Go.Oper.wp at h;unfold Go.Oper.wpIn;refine⟨λ_ _=>trivial,?_⟩;rw[Oper.semAt_eq _ _ _ u];generalize (execOp a.eval o).run P w=r at *
 cases r with
 | ok x w'=>{cases x<;>simp only[Oper.upon,Oper.uponIn] at h ⊢<;>first|exact h|exact⟨la l n,tQ h⟩|exact⟨la l n,vF h⟩|exact h.elim}
 | halt x w'=>cases x<;>simp only[Oper.upon,Oper.uponIn] at h ⊢<;>exact h}
theorem Bq {l n i:Nat}{a:Act}{w:World}{K:Act→World→Prop}(F:¬LetsOut Q)(G:∀o,ops[i]?=some o→∀c,o.op≠.defer c)(h:wpOp P ops Q i K a w):wpOpIn (Fence.wide.inRound l) n P ops Q i K a w:=by{
 unfold wpOp at h;unfold wpOpIn
 cases B:ops[i]? with
 | none=>simpa[B] using h
 | some o=>{
 simp only[B] at h ⊢;by_cases u:Region.wanted o (yielded ops a.tmps)=true
 {
 rw[if_pos u] at h;rw[if_pos u];rcases h with h|h
 {exact Oper.wp_round (G o B) h}
 {exact absurd h.2 F}}
 {
 rw[if_neg u] at h;rw[if_neg u];exact⟨λ_ _=>trivial,h⟩}}}
theorem qr {l n:Nat}(F:¬LetsOut Q)(G:∀(i:Nat) o,ops[i]?=some o→∀c,o.op≠.defer c):∀(h:Nat) (B:Array Bool) (a:Act) (w:World),wpAny P md ops Q h B a w→wpAnyIn (Fence.wide.inRound l) n P md ops Q h B a w|0,_,_,_,u=>u|h+1,B,a,w,u=>⟨u.1,λi J=>wpOpIn_mono (λH w' I=>qr F G h _ H w' I) (Bq F (G i) (u.2 i J))⟩
def Jm (ops:Array Oper):Bool:=ops.all λo=>match o.op with|.defer _=>false|_=>true
theorem Fm (h:Jm ops=true):∀(i:Nat) o,ops[i]?=some o→∀c,o.op≠.defer c:=by{
 intro i o F c B;unfold Jm at h;have u:=(Array.all_eq_true'.1 h) o (Array.mem_of_getElem? F);rw[B] at u
 cases u}
def mV (Q:Exit→Act→World→Prop):Exit→Act→World→Prop:=λe a w=>match e with|.normal=>Q .normal a w|_=>False
theorem Hu {c:Code}{a:Act}{w:World}(u:c.wp P (mV Q) a w):c.wp P Q a w:=Code.wp_mono (λe a w h=>by cases e<;>first|exact h|exact h.elim) u
theorem Dj:¬LetsOut (mV Q):=λ⟨_,_,h⟩=>h
theorem ej (S:World→Prop)(late:Nat→Bool){l m n:Nat}{id:Nat}{a:Act}{w:World}(F:P.follows .mixedOrders=true)(G:ops.size=n)(H:Jm ops=true)(B:∀u,Hid (u=ops)→wpAnyT P .any u (mV Q) S late n (Array.replicate n false) a w.drew):(Code.region id ops true).wpIn (Fence.wide.inRound l) m P Q a w:=by{
 subst G;exact Go.wpIn_mono (wpIn_region_any F (qr Dj (Fm H) _ _ _ _ (nv _ _ _ _ (B ops (hI rfl))))) (λe a w h=>by cases e<;>first|exact h|exact h.elim)}
theorem wpAnyT_weaken {S:World→Prop}{late:Nat→Bool}:∀(h:Nat) (B:Array Bool) (a:Act) (w:World),wpAnyT P md ops Q S late h B a w→wpAnyT P md ops Q (λ_=>True) (λ_=>false) h B a w|0,_,_,_,u=>u|h+1,_,_,_,u=>⟨u.1,λi H=>wpOp_mono (λF w' G=>⟨.inr trivial,wpAnyT_weaken h _ F w' G.2⟩) (u.2 i H)⟩
end
end Go.Proofs.YtnpldahkhaacnaaGreatDoor

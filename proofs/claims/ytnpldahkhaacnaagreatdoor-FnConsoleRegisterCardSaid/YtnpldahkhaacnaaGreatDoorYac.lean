/- Texts of the walk: Qe. -/
import Derived.Test.YtnpldahkhaacnaaGreatDoorYab
set_option linter.unusedVariables false
set_option linter.unusedSimpArgs false
set_option maxRecDepth 100000
set_option maxHeartbeats 32000000
namespace Go.Proofs.YtnpldahkhaacnaaGreatDoor
open Go.RowKit Go.Sort Go.Proofs.Tryz
theorem kH (t:Nat)(T:t≤1000000000)(w:World)(B:∀u,BL w u→Pow u):Calls prog 63 #[t] w λe u=>e=.returned (.string (ag (aX t)))∧BL w u:=by{
 have H:=hI (nM t w);rw[show af (t:Int) 0 1000000000=true from ai.2 (by omega)] at H;have J:=hI (λu h=>ii (t/60000) (by omega) u (B u h));have L:=hI (λu (h:BL w u)=>td (t/1000%60) 2 (by omega) (by omega) u (λF G=>B F (h.trans (G.mono h.size))));have M:=hI (λu (h:BL w u)=>td (t%1000) 3 (by omega) (by omega) u (λF G=>B F (h.trans (G.mono h.size))));have R:=hI (show ag (aX t)=ag (aP (t/60000))++ag [58]++ag (BW 2 (t/1000%60))++ag [46]++ag (BW 3 (t%1000)) from by rw[zY,Dg]);have I:=bd 9 (t/60000) (by omega);have Y:(ag (aP (t/60000))).size≤10:=by rw[aj];exact I
 have Z:(ag (BW 2 (t/1000%60))).size≤2:=by rw[Ct (by omega),aj,bV];exact qA _
 have z3:(ag (BW 3 (t%1000))).size≤3:=by rw[uR (by omega),aj,bV];exact qA _
 generalize aP (t/60000)=a at *;generalize BW 2 (t/1000%60)=b at *;generalize BW 3 (t%1000)=c at *;clear I B;go_enter func63,ntmps63;go_wp2_with fail
 refine H.mono ?_;rintro e U⟨rfl,rfl⟩;have N:=hI (qB w.heap.size w);go_wp2_with fail
 refine(J _ N).mono ?_;rintro e V⟨rfl,h⟩;have B:=hI h;clear h;go_wp2_with fail
 refine(L _ B).mono ?_;rintro e F⟨rfl,h⟩;have I:=zb B h;clear h;go_wp2_with fail
 refine(M _ I).mono ?_;rintro e W⟨rfl,h⟩;have O:=zb I h;clear h;go_wp2_with fail
 go_ret;exact⟨by rw[R.out];rfl,O⟩}
theorem mL (c:Int)(w:World):Calls prog 62 #[c] w λe F=>e=.returned (.string (ag (aD c)))∧BL w F:=by{
 have u:=hI (λF=>bc c 0 9 F);have G:=hI (λo=>(qB w.heap.size w).alloc (qA _) o)
 cases h:af c 0 9 with
 | false=>{
 rw[h] at u;have B:¬(0≤c∧c≤9):=λI=>by have:=ai.2 I;rw[this] at h;cases h
 have H:=hI (show aD c=[] from by unfold aD;rw[if_neg B]);clear h B;go_enter func62,ntmps62;go_wp2_with fail
 refine(u _).mono ?_;rintro e J⟨rfl,rfl⟩;go_wp2_with fail
 go_ret;exact⟨by rw[H.out];rfl,G _⟩}
 | true=>{
 rw[h] at u;have B:=ai.1 h;have H:c=0∨c=1∨c=2∨c=3∨c=4∨c=5∨c=6∨c=7∨c=8∨c=9:=by omega
 clear h B;rcases H with rfl|rfl|rfl|rfl|rfl|rfl|rfl|rfl|rfl|rfl
 all_goals{
 go_enter func62,ntmps62;go_wp2_with fail
 refine(u _).mono ?_;rintro e J⟨rfl,rfl⟩;go_wp2_with fail
 go_ret;exact⟨rfl,G _⟩}}}
theorem mP (c:Int)(w:World):Calls prog 64 #[c] w λe F=>e=.returned (.string (ag (aD c)))∧BL w F:=by{
 have u:=hI (λF=>bi c 0 9 F);have G:=hI (λo=>(qB w.heap.size w).alloc (qA _) o)
 cases h:af c 0 9 with
 | false=>{
 rw[h] at u;have B:¬(0≤c∧c≤9):=λI=>by have:=ai.2 I;rw[this] at h;cases h
 have H:=hI (show aD c=[] from by unfold aD;rw[if_neg B]);clear h B;go_enter func64,ntmps64;go_wp2_with fail
 refine(u _).mono ?_;rintro e J⟨rfl,rfl⟩;go_wp2_with fail
 go_ret;exact⟨by rw[H.out];rfl,qB _ _⟩}
 | true=>{
 rw[h] at u;have B:=ai.1 h;have H:c=0∨c=1∨c=2∨c=3∨c=4∨c=5∨c=6∨c=7∨c=8∨c=9:=by omega
 clear h B;rcases H with rfl|rfl|rfl|rfl|rfl|rfl|rfl|rfl|rfl|rfl
 all_goals{
 go_enter func64,ntmps64;go_wp2_with fail
 refine(u _).mono ?_;rintro e J⟨rfl,rfl⟩;go_wp2_with fail
 go_ret;exact⟨rfl,G _⟩}}}
end Go.Proofs.YtnpldahkhaacnaaGreatDoor

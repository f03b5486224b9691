/- Texts of the walk: Nc. -/
import Derived.Test.YtnpldahkhaacnaaGreatDoorYai
set_option linter.unusedVariables false
set_option linter.unusedSimpArgs false
set_option maxRecDepth 100000
set_option maxHeartbeats 32000000
namespace Go.Proofs.YtnpldahkhaacnaaGreatDoor
open Go.RowKit Go.Proofs.Tryz
theorem br (w:World)(a b c:Obj):BL w (((w.alloc a).alloc b).alloc c):=((za _ _).alloc (by simp) _).alloc (by simp;omega) _
theorem aI (w:World)(a b c:Obj):BL w (((w.alloc a).alloc b).alloc c).drew:=(br w a b c).trans ((ac _ _ 1).mono (br w a b c).size)
theorem cZ {a b:Int}(h:a≠b):(a==b)=false:=by simpa using h
theorem b_ {a b:Int}(h:a≠b):(a !=b)=true:=by simpa using h
theorem Dr (B h k t:Int)(T:1≤k∧k≤8)(h0:0≤h∧h≤1000000000)(h1:0≤t∧t≤1000000000)(w:World):Calls prog 310 #[.agg #[B,h],.agg #[k,t]] w λe U=>e=.returned (.tuple #[.agg #[.int .i64 (aV (B,h) (k,t)).1.1,.int .i64 (aV (B,h) (k,t)).1.2],.bool (aV (B,h) (k,t)).2])∧BL w U:=by{
 have e1:IntKind.i64.wrap (t-h)=t-h:=IntWalk.i64_in _ (by omega);rcases cX T with rfl|rfl|rfl|rfl|rfl|rfl|rfl|rfl
 {
 by_cases a0:B=0
 {
 subst a0;have u:aV (0,h) (1,t)=((1,t),true):=by simp[aV]
 rw[u];go_enter func310,ntmps310;go_wp2_with fail
 refine bodyPost_ret (v:=.tuple #[.agg #[.int .i64 (1),.int .i64 (t)],.bool true]) (by simp[results,results310,go_sem]) rfl ⟨rfl,br _ _ _ _⟩}
 by_cases I:B=6
 {
 subst I;have u:aV (6,h) (1,t)=((1,t),(t-h==60000)):=by simp[aV]
 rw[u];go_enter func310,ntmps310;go_wp2_with fail
 refine bodyPost_ret (v:=.tuple #[.agg #[.int .i64 (1),.int .i64 (t)],.bool (t-h==60000)]) (by simp[results,results310,go_sem]) rfl ⟨rfl,br _ _ _ _⟩}
 by_cases J:B=7
 {
 subst J;have u:aV (7,h) (1,t)=((1,t),(t-h==60000)):=by simp[aV]
 rw[u];go_enter func310,ntmps310;go_wp2_with fail
 refine bodyPost_ret (v:=.tuple #[.agg #[.int .i64 (1),.int .i64 (t)],.bool (t-h==60000)]) (by simp[results,results310,go_sem]) rfl ⟨rfl,br _ _ _ _⟩}
 have V:=cZ a0;have c0:=b_ a0;have b6:=cZ I;have c6:=b_ I;have b7:=cZ J;have c7:=b_ J;have u:aV (B,h) (1,t)=((1,t),false):=by simp[aV, *]
 rw[u];go_enter func310,ntmps310;go_wp2_with fail
 refine bodyPost_ret (v:=.tuple #[.agg #[.int .i64 (1),.int .i64 (t)],.bool false]) (by simp[results,results310,go_sem]) rfl ⟨rfl,br _ _ _ _⟩}
 {
 by_cases G:B=1
 {
 subst G;have u:aV (1,h) (2,t)=((2,h),(t-h==60000)):=by simp[aV]
 rw[u];go_enter func310,ntmps310;go_wp2_with fail
 refine bodyPost_ret (v:=.tuple #[.agg #[.int .i64 (2),.int .i64 (h)],.bool (t-h==60000)]) (by simp[results,results310,go_sem]) rfl ⟨rfl,br _ _ _ _⟩}
 have W:=cZ G;have c1:=b_ G;have u:aV (B,h) (2,t)=((2,h),false):=by simp[aV, *]
 rw[u];go_enter func310,ntmps310;go_wp2_with fail
 refine bodyPost_ret (v:=.tuple #[.agg #[.int .i64 (2),.int .i64 (h)],.bool false]) (by simp[results,results310,go_sem]) rfl ⟨rfl,br _ _ _ _⟩}
 {
 by_cases H:B=2
 {
 subst H;have u:aV (2,h) (3,t)=((3,h),(t-h==240000)):=by simp[aV]
 rw[u];go_enter func310,ntmps310;go_wp2_with fail
 refine bodyPost_ret (v:=.tuple #[.agg #[.int .i64 (3),.int .i64 (h)],.bool (t-h==240000)]) (by simp[results,results310,go_sem]) rfl ⟨rfl,br _ _ _ _⟩}
 have Y:=cZ H;have c2:=b_ H;have u:aV (B,h) (3,t)=((3,h),false):=by simp[aV, *]
 rw[u];go_enter func310,ntmps310;go_wp2_with fail
 refine bodyPost_ret (v:=.tuple #[.agg #[.int .i64 (3),.int .i64 (h)],.bool false]) (by simp[results,results310,go_sem]) rfl ⟨rfl,br _ _ _ _⟩}
 {
 by_cases a3:B=3
 {
 subst a3;have u:aV (3,h) (4,t)=((4,t),(t-h==300000)):=by simp[aV]
 rw[u];go_enter func310,ntmps310;go_wp2_with fail
 refine bodyPost_ret (v:=.tuple #[.agg #[.int .i64 (4),.int .i64 (t)],.bool (t-h==300000)]) (by simp[results,results310,go_sem]) rfl ⟨rfl,br _ _ _ _⟩}
 have Z:=cZ a3;have c3:=b_ a3;have u:aV (B,h) (4,t)=((4,t),false):=by simp[aV, *]
 rw[u];go_enter func310,ntmps310;go_wp2_with fail
 refine bodyPost_ret (v:=.tuple #[.agg #[.int .i64 (4),.int .i64 (t)],.bool false]) (by simp[results,results310,go_sem]) rfl ⟨rfl,br _ _ _ _⟩}
 {
 by_cases a4:B=4
 {
 subst a4;have u:aV (4,h) (5,t)=((5,t),false):=by simp[aV]
 rw[u];go_enter func310,ntmps310;go_wp2_with fail
 go_region
 (try go_wp2_with fail);refine bodyPost_ret (v:=.tuple #[.agg #[.int .i64 (5),.int .i64 (t)],.bool false]) (by simp[results,results310,go_sem]) rfl ⟨rfl,aI _ _ _ _⟩}
 by_cases a5:B=5
 {
 subst a5;have u:aV (5,h) (5,t)=((5,t),false):=by simp[aV]
 rw[u];go_enter func310,ntmps310;go_wp2_with fail
 go_region
 (try go_wp2_with fail);refine bodyPost_ret (v:=.tuple #[.agg #[.int .i64 (5),.int .i64 (t)],.bool false]) (by simp[results,results310,go_sem]) rfl ⟨rfl,aI _ _ _ _⟩}
 by_cases F:B=8
 {
 subst F;have u:aV (8,h) (5,t)=((5,t),false):=by simp[aV]
 rw[u];go_enter func310,ntmps310;go_wp2_with fail
 go_region
 (try go_wp2_with fail);refine bodyPost_ret (v:=.tuple #[.agg #[.int .i64 (5),.int .i64 (t)],.bool false]) (by simp[results,results310,go_sem]) rfl ⟨rfl,aI _ _ _ _⟩}
 have L:=cZ a4;have N:=b_ a4;have M:=cZ a5;have O:=b_ a5;have b8:=cZ F;have R:=b_ F;have u:aV (B,h) (5,t)=((5,t),true):=by simp[aV, *]
 rw[u];go_enter func310,ntmps310;go_wp2_with fail
 go_region
 (try go_wp2_with fail);refine bodyPost_ret (v:=.tuple #[.agg #[.int .i64 (5),.int .i64 (t)],.bool true]) (by simp[results,results310,go_sem]) rfl ⟨rfl,aI _ _ _ _⟩}
 {
 by_cases a5:B=5
 {
 subst a5;have u:aV (5,h) (6,t)=((6,t),true):=by simp[aV]
 rw[u];go_enter func310,ntmps310;go_wp2_with fail
 go_region
 (try go_wp2_with fail);refine bodyPost_ret (v:=.tuple #[.agg #[.int .i64 (6),.int .i64 (t)],.bool true]) (by simp[results,results310,go_sem]) rfl ⟨rfl,aI _ _ _ _⟩}
 have M:=cZ a5;have O:=b_ a5;have u:aV (B,h) (6,t)=((6,t),false):=by simp[aV, *]
 rw[u];go_enter func310,ntmps310;go_wp2_with fail
 go_region
 (try go_wp2_with fail);refine bodyPost_ret (v:=.tuple #[.agg #[.int .i64 (6),.int .i64 (t)],.bool false]) (by simp[results,results310,go_sem]) rfl ⟨rfl,aI _ _ _ _⟩}
 {
 by_cases a4:B=4
 {
 subst a4;have u:aV (4,h) (7,t)=((7,t),(decide (t-h≤60000))):=by simp[aV]
 rw[u];go_enter func310,ntmps310;go_wp2_with fail
 refine bodyPost_ret (v:=.tuple #[.agg #[.int .i64 (7),.int .i64 (t)],.bool (decide (t-h≤60000))]) (by simp[results,results310,go_sem]) rfl ⟨rfl,br _ _ _ _⟩}
 have L:=cZ a4;have N:=b_ a4;have u:aV (B,h) (7,t)=((7,t),false):=by simp[aV, *]
 rw[u];go_enter func310,ntmps310;go_wp2_with fail
 refine bodyPost_ret (v:=.tuple #[.agg #[.int .i64 (7),.int .i64 (t)],.bool false]) (by simp[results,results310,go_sem]) rfl ⟨rfl,br _ _ _ _⟩}
 {
 by_cases F:B=8
 {
 subst F;have u:aV (8,h) (8,t)=((8,t),false):=by simp[aV]
 rw[u];go_enter func310,ntmps310;go_wp2_with fail
 go_region
 (try go_wp2_with fail);refine bodyPost_ret (v:=.tuple #[.agg #[.int .i64 (8),.int .i64 (t)],.bool false]) (by simp[results,results310,go_sem]) rfl ⟨rfl,aI _ _ _ _⟩}
 have b8:=cZ F;have R:=b_ F;have u:aV (B,h) (8,t)=((8,t),true):=by simp[aV, *]
 rw[u];go_enter func310,ntmps310;go_wp2_with fail
 go_region
 (try go_wp2_with fail);refine bodyPost_ret (v:=.tuple #[.agg #[.int .i64 (8),.int .i64 (t)],.bool true]) (by simp[results,results310,go_sem]) rfl ⟨rfl,aI _ _ _ _⟩}}
theorem sL (u p m k t:Int)(R:1≤k∧k≤8)(hp:0≤p∧p≤1000000000)(h0:0≤m∧m≤1000000000)(h1:0≤t∧t≤1000000000)(w:World):Calls prog 175 #[.agg #[u,p,m],.agg #[k,t]] w λe T=>e=.returned (.tuple #[.agg #[.int .i64 (aM (u,p,m) (k,t)).1.1,.int .i64 (aM (u,p,m) (k,t)).1.2.1,.int .i64 (aM (u,p,m) (k,t)).1.2.2],.bool (aM (u,p,m) (k,t)).2])∧BL w T:=by{
 have e1:IntKind.i64.wrap (m+60000)=m+60000:=IntWalk.i64_in _ (by omega);have e2:IntKind.i64.wrap (p+60000)=p+60000:=IntWalk.i64_in _ (by omega);have e3:IntKind.i64.wrap (p+240000)=p+240000:=IntWalk.i64_in _ (by omega);have e4:IntKind.i64.wrap (p+300000)=p+300000:=IntWalk.i64_in _ (by omega);rcases cX R with rfl|rfl|rfl|rfl|rfl|rfl|rfl|rfl
 {
 by_cases a0:u=0
 {
 subst a0;have h:aM (0,p,m) (1,t)=((1,t,0),true):=by simp[aM]
 rw[h];go_enter func175,ntmps175;go_wp2_with fail
 refine bodyPost_ret (v:=.tuple #[.agg #[.int .i64 (1),.int .i64 (t),.int .i64 (0)],.bool true]) (by simp[results,results175,go_sem]) rfl ⟨rfl,br _ _ _ _⟩}
 by_cases H:u=6
 {
 subst H;have h:aM (6,p,m) (1,t)=((1,t,0),(t==m+60000)):=by simp[aM]
 rw[h];go_enter func175,ntmps175;go_wp2_with fail
 refine bodyPost_ret (v:=.tuple #[.agg #[.int .i64 (1),.int .i64 (t),.int .i64 (0)],.bool (t==m+60000)]) (by simp[results,results175,go_sem]) rfl ⟨rfl,br _ _ _ _⟩}
 by_cases I:u=7
 {
 subst I;have h:aM (7,p,m) (1,t)=((1,t,0),(t==m+60000)):=by simp[aM]
 rw[h];go_enter func175,ntmps175;go_wp2_with fail
 refine bodyPost_ret (v:=.tuple #[.agg #[.int .i64 (1),.int .i64 (t),.int .i64 (0)],.bool (t==m+60000)]) (by simp[results,results175,go_sem]) rfl ⟨rfl,br _ _ _ _⟩}
 have U:=cZ a0;have c0:=b_ a0;have Z:=cZ H;have c6:=b_ H;have b7:=cZ I;have c7:=b_ I;have h:aM (u,p,m) (1,t)=((1,t,0),false):=by simp[aM, *]
 rw[h];go_enter func175,ntmps175;go_wp2_with fail
 refine bodyPost_ret (v:=.tuple #[.agg #[.int .i64 (1),.int .i64 (t),.int .i64 (0)],.bool false]) (by simp[results,results175,go_sem]) rfl ⟨rfl,br _ _ _ _⟩}
 {
 by_cases F:u=1
 {
 subst F;have h:aM (1,p,m) (2,t)=((2,p,0),(t==p+60000)):=by simp[aM]
 rw[h];go_enter func175,ntmps175;go_wp2_with fail
 go_region
 (try go_wp2_with fail);refine bodyPost_ret (v:=.tuple #[.agg #[.int .i64 (2),.int .i64 (p),.int .i64 (0)],.bool (t==p+60000)]) (by simp[results,results175,go_sem]) rfl ⟨rfl,aI _ _ _ _⟩}
 have V:=cZ F;have c1:=b_ F;have h:aM (u,p,m) (2,t)=((2,p,0),false):=by simp[aM, *]
 rw[h];go_enter func175,ntmps175;go_wp2_with fail
 go_region
 (try go_wp2_with fail);refine bodyPost_ret (v:=.tuple #[.agg #[.int .i64 (2),.int .i64 (p),.int .i64 (0)],.bool false]) (by simp[results,results175,go_sem]) rfl ⟨rfl,aI _ _ _ _⟩}
 {
 by_cases G:u=2
 {
 subst G;have h:aM (2,p,m) (3,t)=((3,p,0),(t==p+240000)):=by simp[aM]
 rw[h];go_enter func175,ntmps175;go_wp2_with fail
 go_region
 (try go_wp2_with fail);refine bodyPost_ret (v:=.tuple #[.agg #[.int .i64 (3),.int .i64 (p),.int .i64 (0)],.bool (t==p+240000)]) (by simp[results,results175,go_sem]) rfl ⟨rfl,aI _ _ _ _⟩}
 have W:=cZ G;have c2:=b_ G;have h:aM (u,p,m) (3,t)=((3,p,0),false):=by simp[aM, *]
 rw[h];go_enter func175,ntmps175;go_wp2_with fail
 go_region
 (try go_wp2_with fail);refine bodyPost_ret (v:=.tuple #[.agg #[.int .i64 (3),.int .i64 (p),.int .i64 (0)],.bool false]) (by simp[results,results175,go_sem]) rfl ⟨rfl,aI _ _ _ _⟩}
 {
 by_cases a3:u=3
 {
 subst a3;have h:aM (3,p,m) (4,t)=((4,p,t),(t==p+300000)):=by simp[aM]
 rw[h];go_enter func175,ntmps175;go_wp2_with fail
 go_region
 (try go_wp2_with fail);refine bodyPost_ret (v:=.tuple #[.agg #[.int .i64 (4),.int .i64 (p),.int .i64 (t)],.bool (t==p+300000)]) (by simp[results,results175,go_sem]) rfl ⟨rfl,aI _ _ _ _⟩}
 have Y:=cZ a3;have c3:=b_ a3;have h:aM (u,p,m) (4,t)=((4,p,t),false):=by simp[aM, *]
 rw[h];go_enter func175,ntmps175;go_wp2_with fail
 go_region
 (try go_wp2_with fail);refine bodyPost_ret (v:=.tuple #[.agg #[.int .i64 (4),.int .i64 (p),.int .i64 (t)],.bool false]) (by simp[results,results175,go_sem]) rfl ⟨rfl,aI _ _ _ _⟩}
 {
 by_cases a4:u=4
 {
 subst a4;have h:aM (4,p,m) (5,t)=((5,0,0),false):=by simp[aM]
 rw[h];go_enter func175,ntmps175;go_wp2_with fail
 go_region
 (try go_wp2_with fail);refine bodyPost_ret (v:=.tuple #[.agg #[.int .i64 (5),.int .i64 (0),.int .i64 (0)],.bool false]) (by simp[results,results175,go_sem]) rfl ⟨rfl,aI _ _ _ _⟩}
 by_cases a5:u=5
 {
 subst a5;have h:aM (5,p,m) (5,t)=((5,0,0),false):=by simp[aM]
 rw[h];go_enter func175,ntmps175;go_wp2_with fail
 go_region
 (try go_wp2_with fail);refine bodyPost_ret (v:=.tuple #[.agg #[.int .i64 (5),.int .i64 (0),.int .i64 (0)],.bool false]) (by simp[results,results175,go_sem]) rfl ⟨rfl,aI _ _ _ _⟩}
 by_cases B:u=8
 {
 subst B;have h:aM (8,p,m) (5,t)=((5,0,0),false):=by simp[aM]
 rw[h];go_enter func175,ntmps175;go_wp2_with fail
 go_region
 (try go_wp2_with fail);refine bodyPost_ret (v:=.tuple #[.agg #[.int .i64 (5),.int .i64 (0),.int .i64 (0)],.bool false]) (by simp[results,results175,go_sem]) rfl ⟨rfl,aI _ _ _ _⟩}
 have J:=cZ a4;have M:=b_ a4;have L:=cZ a5;have N:=b_ a5;have b8:=cZ B;have O:=b_ B;have h:aM (u,p,m) (5,t)=((5,0,0),true):=by simp[aM, *]
 rw[h];go_enter func175,ntmps175;go_wp2_with fail
 go_region
 (try go_wp2_with fail);refine bodyPost_ret (v:=.tuple #[.agg #[.int .i64 (5),.int .i64 (0),.int .i64 (0)],.bool true]) (by simp[results,results175,go_sem]) rfl ⟨rfl,aI _ _ _ _⟩}
 {
 by_cases a5:u=5
 {
 subst a5;have h:aM (5,p,m) (6,t)=((6,0,t),true):=by simp[aM]
 rw[h];go_enter func175,ntmps175;go_wp2_with fail
 go_region
 (try go_wp2_with fail);refine bodyPost_ret (v:=.tuple #[.agg #[.int .i64 (6),.int .i64 (0),.int .i64 (t)],.bool true]) (by simp[results,results175,go_sem]) rfl ⟨rfl,aI _ _ _ _⟩}
 have L:=cZ a5;have N:=b_ a5;have h:aM (u,p,m) (6,t)=((6,0,t),false):=by simp[aM, *]
 rw[h];go_enter func175,ntmps175;go_wp2_with fail
 go_region
 (try go_wp2_with fail);refine bodyPost_ret (v:=.tuple #[.agg #[.int .i64 (6),.int .i64 (0),.int .i64 (t)],.bool false]) (by simp[results,results175,go_sem]) rfl ⟨rfl,aI _ _ _ _⟩}
 {
 by_cases a4:u=4
 {
 subst a4;have h:aM (4,p,m) (7,t)=((7,0,t),(decide (t≤m+60000))):=by simp[aM]
 rw[h];go_enter func175,ntmps175;go_wp2_with fail
 go_region
 (try go_wp2_with fail);refine bodyPost_ret (v:=.tuple #[.agg #[.int .i64 (7),.int .i64 (0),.int .i64 (t)],.bool (decide (t≤m+60000))]) (by simp[results,results175,go_sem]) rfl ⟨rfl,aI _ _ _ _⟩}
 have J:=cZ a4;have M:=b_ a4;have h:aM (u,p,m) (7,t)=((7,0,t),false):=by simp[aM, *]
 rw[h];go_enter func175,ntmps175;go_wp2_with fail
 go_region
 (try go_wp2_with fail);refine bodyPost_ret (v:=.tuple #[.agg #[.int .i64 (7),.int .i64 (0),.int .i64 (t)],.bool false]) (by simp[results,results175,go_sem]) rfl ⟨rfl,aI _ _ _ _⟩}
 {
 by_cases B:u=8
 {
 subst B;have h:aM (8,p,m) (8,t)=((8,0,0),false):=by simp[aM]
 rw[h];go_enter func175,ntmps175;go_wp2_with fail
 go_region
 (try go_wp2_with fail);refine bodyPost_ret (v:=.tuple #[.agg #[.int .i64 (8),.int .i64 (0),.int .i64 (0)],.bool false]) (by simp[results,results175,go_sem]) rfl ⟨rfl,aI _ _ _ _⟩}
 have b8:=cZ B;have O:=b_ B;have h:aM (u,p,m) (8,t)=((8,0,0),true):=by simp[aM, *]
 rw[h];go_enter func175,ntmps175;go_wp2_with fail
 go_region
 (try go_wp2_with fail);refine bodyPost_ret (v:=.tuple #[.agg #[.int .i64 (8),.int .i64 (0),.int .i64 (0)],.bool true]) (by simp[results,results175,go_sem]) rfl ⟨rfl,aI _ _ _ _⟩}}
end Go.Proofs.YtnpldahkhaacnaaGreatDoor

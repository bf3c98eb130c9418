/- What the functions that FnExactSureAll reaches compute: further. -/
import Derived.Test.YtapikgcgahomlaaFExactSureAllC
namespace Go.Proofs.Ytapikgcgahomlaa.Eng
open Go Go.RowKit
set_option linter.unusedSimpArgs false
set_option linter.unusedVariables false
set_option maxRecDepth 10000
noncomputable abbrev tq6:Ty:=.pair (.int .i64) (.pair (.int .i64) (.pair (.int .i64) (.pair (.sl (.pair (.int .i64) (.pair (.sl (.pair (.int .i64) (.pair .str .str))) (.pair (.int .i64) (.sl (.int .i64)))))) (.pair (.sl (.pair (.int .i64) .bool)) (.int .i64)))))
noncomputable abbrev P_lFnExactSureAll:List PSh:=[.agg [(.int .i64),(.int .i64),(.int .i64),tq2,tq3,(.int .i64)]]
noncomputable def k1_lFnExactSureAll (a0:Int) (a1:Int) (a2:Int) (a3:List (Int×(Lq1)×Int×List Int)) (a4:LIbe) (a5:Int):=sSureAll ((ltoCoord a0 a1 a2 a3 a4 a5).1) ((ltoCoord a0 a1 a2 a3 a4 a5).2.1) ((ltoCoord a0 a1 a2 a3 a4 a5).2.2.1) ((ltoCoord a0 a1 a2 a3 a4 a5).2.2.2.2.1) ((ltoCoord a0 a1 a2 a3 a4 a5).2.2.2.2.2) ((ltoCoord a0 a1 a2 a3 a4 a5).2.2.2.1)
noncomputable def k2_lFnExactSureAll (a0:Int) (a1:Int) (a2:Int) (a3:List (Int×(Lq1)×Int×List Int)) (a4:LIbe) (a5:Int):=iSureAll ((ltoCoord a0 a1 a2 a3 a4 a5).1) ((ltoCoord a0 a1 a2 a3 a4 a5).2.1) ((ltoCoord a0 a1 a2 a3 a4 a5).2.2.1) ((ltoCoord a0 a1 a2 a3 a4 a5).2.2.2.2.1) ((ltoCoord a0 a1 a2 a3 a4 a5).2.2.2.2.2) ((ltoCoord a0 a1 a2 a3 a4 a5).2.2.2.1)
noncomputable def k3_lFnExactSureAll (a0:Int) (a1:Int) (a2:Int) (a3:List (Int×(Lq1)×Int×List Int)) (a4:LIbe) (a5:Int):=leqCoord ((k2_lFnExactSureAll a0 a1 a2 a3 a4 a5).1) ((k2_lFnExactSureAll a0 a1 a2 a3 a4 a5).2.1) ((k2_lFnExactSureAll a0 a1 a2 a3 a4 a5).2.2.1) ((k2_lFnExactSureAll a0 a1 a2 a3 a4 a5).2.2.2.2.1) ((k2_lFnExactSureAll a0 a1 a2 a3 a4 a5).2.2.2.2.2) ((k2_lFnExactSureAll a0 a1 a2 a3 a4 a5).2.2.2.1) ((k1_lFnExactSureAll a0 a1 a2 a3 a4 a5).1) ((k1_lFnExactSureAll a0 a1 a2 a3 a4 a5).2.1) ((k1_lFnExactSureAll a0 a1 a2 a3 a4 a5).2.2.1) ((k1_lFnExactSureAll a0 a1 a2 a3 a4 a5).2.2.2.1) ((k1_lFnExactSureAll a0 a1 a2 a3 a4 a5).2.2.2.2.1) ((k1_lFnExactSureAll a0 a1 a2 a3 a4 a5).2.2.2.2.2)
noncomputable def k4_lFnExactSureAll (a0:Int) (a1:Int) (a2:Int) (a3:List (Int×(Lq1)×Int×List Int)) (a4:LIbe) (a5:Int):=leqCoord ((ltoCoord a0 a1 a2 a3 a4 a5).1) ((ltoCoord a0 a1 a2 a3 a4 a5).2.1) ((ltoCoord a0 a1 a2 a3 a4 a5).2.2.1) ((ltoCoord a0 a1 a2 a3 a4 a5).2.2.2.2.1) ((ltoCoord a0 a1 a2 a3 a4 a5).2.2.2.2.2) ((ltoCoord a0 a1 a2 a3 a4 a5).2.2.2.1) ((ltoCoord a0 a1 a2 a3 a4 a5).1) ((ltoCoord a0 a1 a2 a3 a4 a5).2.1) ((ltoCoord a0 a1 a2 a3 a4 a5).2.2.1) ((ltoCoord a0 a1 a2 a3 a4 a5).2.2.2.2.1) ((ltoCoord a0 a1 a2 a3 a4 a5).2.2.2.2.2) ((ltoCoord a0 a1 a2 a3 a4 a5).2.2.2.1)
noncomputable def k5_lFnExactSureAll (a0:Int) (a1:Int) (a2:Int) (a3:List (Int×(Lq1)×Int×List Int)) (a4:LIbe) (a5:Int):=lmarkCoord ((ltoCoord a0 a1 a2 a3 a4 a5).1) ((ltoCoord a0 a1 a2 a3 a4 a5).2.1) ((ltoCoord a0 a1 a2 a3 a4 a5).2.2.1) ((ltoCoord a0 a1 a2 a3 a4 a5).2.2.2.1) (1:Int) ((ltoCoord a0 a1 a2 a3 a4 a5).2.2.2.2.1) ((ltoCoord a0 a1 a2 a3 a4 a5).2.2.2.2.2)
noncomputable def k6_lFnExactSureAll (a0:Int) (a1:Int) (a2:Int) (a3:List (Int×(Lq1)×Int×List Int)) (a4:LIbe) (a5:Int):=lmarkCoord ((k2_lFnExactSureAll a0 a1 a2 a3 a4 a5).1) ((k2_lFnExactSureAll a0 a1 a2 a3 a4 a5).2.1) ((k2_lFnExactSureAll a0 a1 a2 a3 a4 a5).2.2.1) ((k2_lFnExactSureAll a0 a1 a2 a3 a4 a5).2.2.2.1) (1:Int) ((k2_lFnExactSureAll a0 a1 a2 a3 a4 a5).2.2.2.2.1) ((k2_lFnExactSureAll a0 a1 a2 a3 a4 a5).2.2.2.2.2)
noncomputable def k7_lFnExactSureAll (a0:Int) (a1:Int) (a2:Int) (a3:List (Int×(Lq1)×Int×List Int)) (a4:LIbe) (a5:Int):=lheldCoord ((k2_lFnExactSureAll a0 a1 a2 a3 a4 a5).1) ((k2_lFnExactSureAll a0 a1 a2 a3 a4 a5).2.1) ((k2_lFnExactSureAll a0 a1 a2 a3 a4 a5).2.2.1) ((k6_lFnExactSureAll a0 a1 a2 a3 a4 a5).2.1) ((k6_lFnExactSureAll a0 a1 a2 a3 a4 a5).2.2) ((k2_lFnExactSureAll a0 a1 a2 a3 a4 a5).2.2.2.1) (1:Int)
noncomputable def lFnExactSureAll (a0:Int) (a1:Int) (a2:Int) (a3:List (Int×(Lq1)×Int×List Int)) (a4:LIbe) (a5:Int):Bool:=(cond (decide ((lszCoord a0 a1 a2 a3 a4 a5 (1048576:Int))<(0:Int))) true (cond (!(k3_lFnExactSureAll a0 a1 a2 a3 a4 a5)) false (cond (!(k4_lFnExactSureAll a0 a1 a2 a3 a4 a5)) false (cond (decide (((k5_lFnExactSureAll a0 a1 a2 a3 a4 a5).1)<(0:Int))) false (cond (!(k3_lFnExactSureAll a0 a1 a2 a3 a4 a5)) false (cond (decide ((k7_lFnExactSureAll a0 a1 a2 a3 a4 a5)<(0:Int))) false (cond ((k7_lFnExactSureAll a0 a1 a2 a3 a4 a5) != ((k6_lFnExactSureAll a0 a1 a2 a3 a4 a5).1)) false (cond (!(k3_lFnExactSureAll a0 a1 a2 a3 a4 a5)) false (cond (decide ((k7_lFnExactSureAll a0 a1 a2 a3 a4 a5)<(0:Int))) false (cond ((k7_lFnExactSureAll a0 a1 a2 a3 a4 a5) != ((k6_lFnExactSureAll a0 a1 a2 a3 a4 a5).1)) false true))))))))))
noncomputable abbrev e_lFnExactSureAll (r:Bool):AV×List AObj:=((.t true .bool r),[])
noncomputable abbrev g_lFnExactSureAll:pshsDen P_lFnExactSureAll→AV×List AObj:=fun d=>e_lFnExactSureAll (lFnExactSureAll d.1.1 d.1.2.1 d.1.2.2.1 d.1.2.2.2.1 d.1.2.2.2.2.1 d.1.2.2.2.2.2.1)
noncomputable def q_lFnExactSureAll (a0:Int) (a1:Int) (a2:Int) (a3:List (Int×(Lq1)×Int×List Int)) (a4:LIbe) (a5:Int):Bool:=(q_lszCoord a0 a1 a2 a3 a4 a5 (1048576:Int))&&(cond (decide ((lszCoord a0 a1 a2 a3 a4 a5 (1048576:Int))<(0:Int))) true ((q_ltoCoord a0 a1 a2 a3 a4 a5)&&((q_sSureAll ((ltoCoord a0 a1 a2 a3 a4 a5).1) ((ltoCoord a0 a1 a2 a3 a4 a5).2.1) ((ltoCoord a0 a1 a2 a3 a4 a5).2.2.1) ((ltoCoord a0 a1 a2 a3 a4 a5).2.2.2.2.1) ((ltoCoord a0 a1 a2 a3 a4 a5).2.2.2.2.2) ((ltoCoord a0 a1 a2 a3 a4 a5).2.2.2.1))&&((q_ltoCoord a0 a1 a2 a3 a4 a5)&&((q_iSureAll ((ltoCoord a0 a1 a2 a3 a4 a5).1) ((ltoCoord a0 a1 a2 a3 a4 a5).2.1) ((ltoCoord a0 a1 a2 a3 a4 a5).2.2.1) ((ltoCoord a0 a1 a2 a3 a4 a5).2.2.2.2.1) ((ltoCoord a0 a1 a2 a3 a4 a5).2.2.2.2.2) ((ltoCoord a0 a1 a2 a3 a4 a5).2.2.2.1))&&((q_leqCoord ((k2_lFnExactSureAll a0 a1 a2 a3 a4 a5).1) ((k2_lFnExactSureAll a0 a1 a2 a3 a4 a5).2.1) ((k2_lFnExactSureAll a0 a1 a2 a3 a4 a5).2.2.1) ((k2_lFnExactSureAll a0 a1 a2 a3 a4 a5).2.2.2.2.1) ((k2_lFnExactSureAll a0 a1 a2 a3 a4 a5).2.2.2.2.2) ((k2_lFnExactSureAll a0 a1 a2 a3 a4 a5).2.2.2.1) ((k1_lFnExactSureAll a0 a1 a2 a3 a4 a5).1) ((k1_lFnExactSureAll a0 a1 a2 a3 a4 a5).2.1) ((k1_lFnExactSureAll a0 a1 a2 a3 a4 a5).2.2.1) ((k1_lFnExactSureAll a0 a1 a2 a3 a4 a5).2.2.2.1) ((k1_lFnExactSureAll a0 a1 a2 a3 a4 a5).2.2.2.2.1) ((k1_lFnExactSureAll a0 a1 a2 a3 a4 a5).2.2.2.2.2))&&(cond (!(k3_lFnExactSureAll a0 a1 a2 a3 a4 a5)) true ((q_ltoCoord a0 a1 a2 a3 a4 a5)&&((q_leqCoord ((ltoCoord a0 a1 a2 a3 a4 a5).1) ((ltoCoord a0 a1 a2 a3 a4 a5).2.1) ((ltoCoord a0 a1 a2 a3 a4 a5).2.2.1) ((ltoCoord a0 a1 a2 a3 a4 a5).2.2.2.2.1) ((ltoCoord a0 a1 a2 a3 a4 a5).2.2.2.2.2) ((ltoCoord a0 a1 a2 a3 a4 a5).2.2.2.1) ((ltoCoord a0 a1 a2 a3 a4 a5).1) ((ltoCoord a0 a1 a2 a3 a4 a5).2.1) ((ltoCoord a0 a1 a2 a3 a4 a5).2.2.1) ((ltoCoord a0 a1 a2 a3 a4 a5).2.2.2.2.1) ((ltoCoord a0 a1 a2 a3 a4 a5).2.2.2.2.2) ((ltoCoord a0 a1 a2 a3 a4 a5).2.2.2.1))&&(cond (!(k4_lFnExactSureAll a0 a1 a2 a3 a4 a5)) true ((q_lmarkCoord ((ltoCoord a0 a1 a2 a3 a4 a5).1) ((ltoCoord a0 a1 a2 a3 a4 a5).2.1) ((ltoCoord a0 a1 a2 a3 a4 a5).2.2.1) ((ltoCoord a0 a1 a2 a3 a4 a5).2.2.2.1) (1:Int) ((ltoCoord a0 a1 a2 a3 a4 a5).2.2.2.2.1) ((ltoCoord a0 a1 a2 a3 a4 a5).2.2.2.2.2))&&(cond (decide (((k5_lFnExactSureAll a0 a1 a2 a3 a4 a5).1)<(0:Int))) true ((q_leqCoord ((k2_lFnExactSureAll a0 a1 a2 a3 a4 a5).1) ((k2_lFnExactSureAll a0 a1 a2 a3 a4 a5).2.1) ((k2_lFnExactSureAll a0 a1 a2 a3 a4 a5).2.2.1) ((k2_lFnExactSureAll a0 a1 a2 a3 a4 a5).2.2.2.2.1) ((k2_lFnExactSureAll a0 a1 a2 a3 a4 a5).2.2.2.2.2) ((k2_lFnExactSureAll a0 a1 a2 a3 a4 a5).2.2.2.1) ((k1_lFnExactSureAll a0 a1 a2 a3 a4 a5).1) ((k1_lFnExactSureAll a0 a1 a2 a3 a4 a5).2.1) ((k1_lFnExactSureAll a0 a1 a2 a3 a4 a5).2.2.1) ((k1_lFnExactSureAll a0 a1 a2 a3 a4 a5).2.2.2.1) ((k1_lFnExactSureAll a0 a1 a2 a3 a4 a5).2.2.2.2.1) ((k1_lFnExactSureAll a0 a1 a2 a3 a4 a5).2.2.2.2.2))&&(cond (!(k3_lFnExactSureAll a0 a1 a2 a3 a4 a5)) true ((q_lmarkCoord ((k2_lFnExactSureAll a0 a1 a2 a3 a4 a5).1) ((k2_lFnExactSureAll a0 a1 a2 a3 a4 a5).2.1) ((k2_lFnExactSureAll a0 a1 a2 a3 a4 a5).2.2.1) ((k2_lFnExactSureAll a0 a1 a2 a3 a4 a5).2.2.2.1) (1:Int) ((k2_lFnExactSureAll a0 a1 a2 a3 a4 a5).2.2.2.2.1) ((k2_lFnExactSureAll a0 a1 a2 a3 a4 a5).2.2.2.2.2))&&((q_lheldCoord ((k2_lFnExactSureAll a0 a1 a2 a3 a4 a5).1) ((k2_lFnExactSureAll a0 a1 a2 a3 a4 a5).2.1) ((k2_lFnExactSureAll a0 a1 a2 a3 a4 a5).2.2.1) ((k6_lFnExactSureAll a0 a1 a2 a3 a4 a5).2.1) ((k6_lFnExactSureAll a0 a1 a2 a3 a4 a5).2.2) ((k2_lFnExactSureAll a0 a1 a2 a3 a4 a5).2.2.2.1) (1:Int))&&(cond (decide ((k7_lFnExactSureAll a0 a1 a2 a3 a4 a5)<(0:Int))) true (cond ((k7_lFnExactSureAll a0 a1 a2 a3 a4 a5) != ((k6_lFnExactSureAll a0 a1 a2 a3 a4 a5).1)) true ((q_ltoCoord a0 a1 a2 a3 a4 a5)&&((q_iSureAll ((ltoCoord a0 a1 a2 a3 a4 a5).1) ((ltoCoord a0 a1 a2 a3 a4 a5).2.1) ((ltoCoord a0 a1 a2 a3 a4 a5).2.2.1) ((ltoCoord a0 a1 a2 a3 a4 a5).2.2.2.2.1) ((ltoCoord a0 a1 a2 a3 a4 a5).2.2.2.2.2) ((ltoCoord a0 a1 a2 a3 a4 a5).2.2.2.1))&&((q_leqCoord ((k2_lFnExactSureAll a0 a1 a2 a3 a4 a5).1) ((k2_lFnExactSureAll a0 a1 a2 a3 a4 a5).2.1) ((k2_lFnExactSureAll a0 a1 a2 a3 a4 a5).2.2.1) ((k2_lFnExactSureAll a0 a1 a2 a3 a4 a5).2.2.2.2.1) ((k2_lFnExactSureAll a0 a1 a2 a3 a4 a5).2.2.2.2.2) ((k2_lFnExactSureAll a0 a1 a2 a3 a4 a5).2.2.2.1) ((k1_lFnExactSureAll a0 a1 a2 a3 a4 a5).1) ((k1_lFnExactSureAll a0 a1 a2 a3 a4 a5).2.1) ((k1_lFnExactSureAll a0 a1 a2 a3 a4 a5).2.2.1) ((k1_lFnExactSureAll a0 a1 a2 a3 a4 a5).2.2.2.1) ((k1_lFnExactSureAll a0 a1 a2 a3 a4 a5).2.2.2.2.1) ((k1_lFnExactSureAll a0 a1 a2 a3 a4 a5).2.2.2.2.2))&&(cond (!(k3_lFnExactSureAll a0 a1 a2 a3 a4 a5)) true (q_lheldCoord ((k2_lFnExactSureAll a0 a1 a2 a3 a4 a5).1) ((k2_lFnExactSureAll a0 a1 a2 a3 a4 a5).2.1) ((k2_lFnExactSureAll a0 a1 a2 a3 a4 a5).2.2.1) ((k6_lFnExactSureAll a0 a1 a2 a3 a4 a5).2.1) ((k6_lFnExactSureAll a0 a1 a2 a3 a4 a5).2.2) ((k2_lFnExactSureAll a0 a1 a2 a3 a4 a5).2.2.2.1) (1:Int))))))))))))))))))))))))
noncomputable abbrev pre_lFnExactSureAll:pshsDen P_lFnExactSureAll→Bool:=fun d=>q_lFnExactSureAll d.1.1 d.1.2.1 d.1.2.2.1 d.1.2.2.2.1 d.1.2.2.2.2.1 d.1.2.2.2.2.2.1
theorem run_lFnExactSureAll:RunP true G75 (fun _ _=>none) Try.f9 P_lFnExactSureAll pre_lFnExactSureAll g_lFnExactSureAll:=by
 rintro ⟨⟨a0,⟨a1,⟨a2,⟨a3,⟨a4,⟨a5,_⟩⟩⟩⟩⟩⟩,_⟩ hp
 change q_lFnExactSureAll a0 a1 a2 a3 a4 a5=true at hp
 unfold q_lFnExactSureAll at hp
 refine Eq.trans (b:=(cond (q_lszCoord a0 a1 a2 a3 a4 a5 (1048576:Int)) (cond (decide ((lszCoord a0 a1 a2 a3 a4 a5 (1048576:Int))<(0:Int))) (some (e_lFnExactSureAll true)) (cond (q_ltoCoord a0 a1 a2 a3 a4 a5) (cond (q_sSureAll ((ltoCoord a0 a1 a2 a3 a4 a5).1) ((ltoCoord a0 a1 a2 a3 a4 a5).2.1) ((ltoCoord a0 a1 a2 a3 a4 a5).2.2.1) ((ltoCoord a0 a1 a2 a3 a4 a5).2.2.2.2.1) ((ltoCoord a0 a1 a2 a3 a4 a5).2.2.2.2.2) ((ltoCoord a0 a1 a2 a3 a4 a5).2.2.2.1)) (cond (q_ltoCoord a0 a1 a2 a3 a4 a5) (cond (q_iSureAll ((ltoCoord a0 a1 a2 a3 a4 a5).1) ((ltoCoord a0 a1 a2 a3 a4 a5).2.1) ((ltoCoord a0 a1 a2 a3 a4 a5).2.2.1) ((ltoCoord a0 a1 a2 a3 a4 a5).2.2.2.2.1) ((ltoCoord a0 a1 a2 a3 a4 a5).2.2.2.2.2) ((ltoCoord a0 a1 a2 a3 a4 a5).2.2.2.1)) (cond (q_leqCoord ((k2_lFnExactSureAll a0 a1 a2 a3 a4 a5).1) ((k2_lFnExactSureAll a0 a1 a2 a3 a4 a5).2.1) ((k2_lFnExactSureAll a0 a1 a2 a3 a4 a5).2.2.1) ((k2_lFnExactSureAll a0 a1 a2 a3 a4 a5).2.2.2.2.1) ((k2_lFnExactSureAll a0 a1 a2 a3 a4 a5).2.2.2.2.2) ((k2_lFnExactSureAll a0 a1 a2 a3 a4 a5).2.2.2.1) ((k1_lFnExactSureAll a0 a1 a2 a3 a4 a5).1) ((k1_lFnExactSureAll a0 a1 a2 a3 a4 a5).2.1) ((k1_lFnExactSureAll a0 a1 a2 a3 a4 a5).2.2.1) ((k1_lFnExactSureAll a0 a1 a2 a3 a4 a5).2.2.2.1) ((k1_lFnExactSureAll a0 a1 a2 a3 a4 a5).2.2.2.2.1) ((k1_lFnExactSureAll a0 a1 a2 a3 a4 a5).2.2.2.2.2)) (cond (!(k3_lFnExactSureAll a0 a1 a2 a3 a4 a5)) (some (e_lFnExactSureAll false)) (cond (q_ltoCoord a0 a1 a2 a3 a4 a5) (cond (q_leqCoord ((ltoCoord a0 a1 a2 a3 a4 a5).1) ((ltoCoord a0 a1 a2 a3 a4 a5).2.1) ((ltoCoord a0 a1 a2 a3 a4 a5).2.2.1) ((ltoCoord a0 a1 a2 a3 a4 a5).2.2.2.2.1) ((ltoCoord a0 a1 a2 a3 a4 a5).2.2.2.2.2) ((ltoCoord a0 a1 a2 a3 a4 a5).2.2.2.1) ((ltoCoord a0 a1 a2 a3 a4 a5).1) ((ltoCoord a0 a1 a2 a3 a4 a5).2.1) ((ltoCoord a0 a1 a2 a3 a4 a5).2.2.1) ((ltoCoord a0 a1 a2 a3 a4 a5).2.2.2.2.1) ((ltoCoord a0 a1 a2 a3 a4 a5).2.2.2.2.2) ((ltoCoord a0 a1 a2 a3 a4 a5).2.2.2.1)) (cond (!(k4_lFnExactSureAll a0 a1 a2 a3 a4 a5)) (some (e_lFnExactSureAll false)) (cond (q_lmarkCoord ((ltoCoord a0 a1 a2 a3 a4 a5).1) ((ltoCoord a0 a1 a2 a3 a4 a5).2.1) ((ltoCoord a0 a1 a2 a3 a4 a5).2.2.1) ((ltoCoord a0 a1 a2 a3 a4 a5).2.2.2.1) (1:Int) ((ltoCoord a0 a1 a2 a3 a4 a5).2.2.2.2.1) ((ltoCoord a0 a1 a2 a3 a4 a5).2.2.2.2.2)) (cond (decide (((k5_lFnExactSureAll a0 a1 a2 a3 a4 a5).1)<(0:Int))) (some (e_lFnExactSureAll false)) (cond (q_leqCoord ((k2_lFnExactSureAll a0 a1 a2 a3 a4 a5).1) ((k2_lFnExactSureAll a0 a1 a2 a3 a4 a5).2.1) ((k2_lFnExactSureAll a0 a1 a2 a3 a4 a5).2.2.1) ((k2_lFnExactSureAll a0 a1 a2 a3 a4 a5).2.2.2.2.1) ((k2_lFnExactSureAll a0 a1 a2 a3 a4 a5).2.2.2.2.2) ((k2_lFnExactSureAll a0 a1 a2 a3 a4 a5).2.2.2.1) ((k1_lFnExactSureAll a0 a1 a2 a3 a4 a5).1) ((k1_lFnExactSureAll a0 a1 a2 a3 a4 a5).2.1) ((k1_lFnExactSureAll a0 a1 a2 a3 a4 a5).2.2.1) ((k1_lFnExactSureAll a0 a1 a2 a3 a4 a5).2.2.2.1) ((k1_lFnExactSureAll a0 a1 a2 a3 a4 a5).2.2.2.2.1) ((k1_lFnExactSureAll a0 a1 a2 a3 a4 a5).2.2.2.2.2)) (cond (!(k3_lFnExactSureAll a0 a1 a2 a3 a4 a5)) (some (e_lFnExactSureAll false)) (cond (q_lmarkCoord ((k2_lFnExactSureAll a0 a1 a2 a3 a4 a5).1) ((k2_lFnExactSureAll a0 a1 a2 a3 a4 a5).2.1) ((k2_lFnExactSureAll a0 a1 a2 a3 a4 a5).2.2.1) ((k2_lFnExactSureAll a0 a1 a2 a3 a4 a5).2.2.2.1) (1:Int) ((k2_lFnExactSureAll a0 a1 a2 a3 a4 a5).2.2.2.2.1) ((k2_lFnExactSureAll a0 a1 a2 a3 a4 a5).2.2.2.2.2)) (cond (q_lheldCoord ((k2_lFnExactSureAll a0 a1 a2 a3 a4 a5).1) ((k2_lFnExactSureAll a0 a1 a2 a3 a4 a5).2.1) ((k2_lFnExactSureAll a0 a1 a2 a3 a4 a5).2.2.1) ((k6_lFnExactSureAll a0 a1 a2 a3 a4 a5).2.1) ((k6_lFnExactSureAll a0 a1 a2 a3 a4 a5).2.2) ((k2_lFnExactSureAll a0 a1 a2 a3 a4 a5).2.2.2.1) (1:Int)) (cond (decide ((k7_lFnExactSureAll a0 a1 a2 a3 a4 a5)<(0:Int))) (some (e_lFnExactSureAll false)) (cond ((k7_lFnExactSureAll a0 a1 a2 a3 a4 a5) != ((k6_lFnExactSureAll a0 a1 a2 a3 a4 a5).1)) (some (e_lFnExactSureAll false)) (cond (q_ltoCoord a0 a1 a2 a3 a4 a5) (cond (q_iSureAll ((ltoCoord a0 a1 a2 a3 a4 a5).1) ((ltoCoord a0 a1 a2 a3 a4 a5).2.1) ((ltoCoord a0 a1 a2 a3 a4 a5).2.2.1) ((ltoCoord a0 a1 a2 a3 a4 a5).2.2.2.2.1) ((ltoCoord a0 a1 a2 a3 a4 a5).2.2.2.2.2) ((ltoCoord a0 a1 a2 a3 a4 a5).2.2.2.1)) (cond (q_leqCoord ((k2_lFnExactSureAll a0 a1 a2 a3 a4 a5).1) ((k2_lFnExactSureAll a0 a1 a2 a3 a4 a5).2.1) ((k2_lFnExactSureAll a0 a1 a2 a3 a4 a5).2.2.1) ((k2_lFnExactSureAll a0 a1 a2 a3 a4 a5).2.2.2.2.1) ((k2_lFnExactSureAll a0 a1 a2 a3 a4 a5).2.2.2.2.2) ((k2_lFnExactSureAll a0 a1 a2 a3 a4 a5).2.2.2.1) ((k1_lFnExactSureAll a0 a1 a2 a3 a4 a5).1) ((k1_lFnExactSureAll a0 a1 a2 a3 a4 a5).2.1) ((k1_lFnExactSureAll a0 a1 a2 a3 a4 a5).2.2.1) ((k1_lFnExactSureAll a0 a1 a2 a3 a4 a5).2.2.2.1) ((k1_lFnExactSureAll a0 a1 a2 a3 a4 a5).2.2.2.2.1) ((k1_lFnExactSureAll a0 a1 a2 a3 a4 a5).2.2.2.2.2)) (cond (!(k3_lFnExactSureAll a0 a1 a2 a3 a4 a5)) (some (e_lFnExactSureAll false)) (cond (q_lheldCoord ((k2_lFnExactSureAll a0 a1 a2 a3 a4 a5).1) ((k2_lFnExactSureAll a0 a1 a2 a3 a4 a5).2.1) ((k2_lFnExactSureAll a0 a1 a2 a3 a4 a5).2.2.1) ((k6_lFnExactSureAll a0 a1 a2 a3 a4 a5).2.1) ((k6_lFnExactSureAll a0 a1 a2 a3 a4 a5).2.2) ((k2_lFnExactSureAll a0 a1 a2 a3 a4 a5).2.2.2.1) (1:Int)) (cond (decide ((k7_lFnExactSureAll a0 a1 a2 a3 a4 a5)<(0:Int))) (some (e_lFnExactSureAll false)) (cond ((k7_lFnExactSureAll a0 a1 a2 a3 a4 a5) != ((k6_lFnExactSureAll a0 a1 a2 a3 a4 a5).1)) (some (e_lFnExactSureAll false)) (some (e_lFnExactSureAll true)))) none)) none) none) none))) none) none)) none)) none)) none) none)) none) none) none) none) none)) none)) (by kernel_rfl) ?_
 exact (cndA hp fun hp=>(cndE e_lFnExactSureAll hp (fun hp=>rfl) (fun hp=>(cndA hp fun hp=>(cndA hp fun hp=>(cndA hp fun hp=>(cndA hp fun hp=>(cndA hp fun hp=>(cndE e_lFnExactSureAll hp (fun hp=>rfl) (fun hp=>(cndA hp fun hp=>(cndA hp fun hp=>(cndE e_lFnExactSureAll hp (fun hp=>rfl) (fun hp=>(cndA hp fun hp=>(cndE e_lFnExactSureAll hp (fun hp=>rfl) (fun hp=>(cndA hp fun hp=>(cndE e_lFnExactSureAll hp (fun hp=>rfl) (fun hp=>(cndA hp fun hp=>(cndA hp fun hp=>(cndE e_lFnExactSureAll hp (fun hp=>rfl) (fun hp=>(cndE e_lFnExactSureAll hp (fun hp=>rfl) (fun hp=>(cndA hp fun hp=>(cndA hp fun hp=>(cndA hp fun hp=>(cndE e_lFnExactSureAll hp (fun hp=>rfl) (fun hp=>(cndT hp fun _h=>(cndG e_lFnExactSureAll (fun _h=>rfl) (fun _h=>(cndG e_lFnExactSureAll (fun _h=>rfl) (fun _h=>rfl))))))))))))))))))))))))))))))))))))
theorem c_lFnExactSureAll:PContract Try.prog 9 (sumOf P_lFnExactSureAll pre_lFnExactSureAll g_lFnExactSureAll):=pcD true G75 hlz run_lFnExactSureAll
noncomputable def S76:Tab:=Tab.add S75 9 (lift (sumOf P_lFnExactSureAll pre_lFnExactSureAll g_lFnExactSureAll))
noncomputable def QF76:FuncId→Bool:=qadd QF75 9
theorem G76:Good Try.prog tt S76 QF76:=G75.addQ c_lFnExactSureAll (cbl Try.f9) (fun _=>rfl)
noncomputable abbrev JobD:=Int×Lq1×Int×List Int
noncomputable def bigJob (j:JobD):Prop:=bigOps j.2.1=true∧j.2.2.2.length≤9223372036854775807
noncomputable def bigJobs (l:List JobD):Prop:=l.length≤9223372036854775807∧∀ j∈l,bigJob j
noncomputable def okJob (j:JobD):Prop:=okOps j.2.1=true∧j.2.2.2.length≤1048576
theorem szOp_spec (k:Int) (s v:ByteArray) (b:Int) (h0:0≤b) (h1:b≤1048576) (hs:bigS s=true) (hv:bigS v=true) (h:0≤lszOp k s v b):lszOp k s v b≤b∧okS s=true∧okS v=true:=by
 simp only [bigS,decide_eq_true_eq] at hs hv
 have e1:=wrap64 (n:=b - ((s.size:Nat):Int)) (by omega) (by omega)
 simp only [lszOp,e1] at h ⊢
 cases hd:decide (b - ((s.size:Nat):Int)<0) with
 | true=>rw [hd] at h;simp at h
 | false =>
  rw [hd] at h
  have:=of_decide_eq_false hd
  have e2:=wrap64 (n:=b - ((s.size:Nat):Int) - ((v.size:Nat):Int)) (by omega) (by omega)
  simp only [cond_false,e2] at h ⊢
  cases hd2:decide (b - ((s.size:Nat):Int) - ((v.size:Nat):Int)<0) with
  | true=>rw [hd2] at h;simp at h
  | false =>
   have:=of_decide_eq_false hd2
   simp only [cond_false,okS,decide_eq_true_eq]
   omega
theorem szOpS_spec (l:Lq1) (b:Int) (h0:0≤b) (h1:b≤1048576) (hb:bigOps l=true) (h:0≤lszOpS l b):lszOpS l b≤b∧okOps l=true:=by
 have hl:l.length≤9223372036854775807:=by simp only [bigOps,Bool.and_eq_true,decide_eq_true_eq] at hb;exact hb.1
 have e1:=wrap64 (n:=b - ((l.length:Nat):Int)) (by omega) (by omega)
 simp only [lszOpS,e1,Int.toNat_zero,Nat.sub_zero] at h ⊢
 cases hd:decide (b - ((l.length:Nat):Int)<0) with
 | true=>rw [hd] at h;simp at h
 | false =>
  rw [hd] at h
  have:=of_decide_eq_false hd
  simp only [cond_false] at h ⊢
  cases hi:isInl (szN (f_lszOpS_0 l) l.length 0 (b - ((l.length:Nat):Int))) with
  | false=>rw [hi] at h;simp at h
  | true =>
   obtain ⟨r1,r2,r3⟩:=szN_all (M:=1048576) (Q:=fun i=>okS (l.getD i dOp).2.1=true∧okS (l.getD i dOp).2.2=true) l.length 0 (b - ((l.length:Nat):Int)) (fun j b' _ hj q0 q1 hf=>by
    obtain ⟨p1,p2⟩:=bigOps_at hb j (by omega)
    obtain ⟨s1,s2,s3⟩:=szOp_spec _ _ _ b' q0 q1 p1 p2 hf
    exact ⟨⟨s2,s3⟩,s1⟩) (by omega) (by omega) hi
   simp only [cond_true]
   exact ⟨by omega,okOps_of (by omega) (fun i hi=>r1 i (Nat.zero_le _) (by omega))⟩
theorem szInts_spec {l:List Int} {b:Int} (hl:l.length≤9223372036854775807) (h0:0≤b) (h1:b≤1048576) (h:0≤lszIntS l b):lszIntS l b≤b∧l.length≤1048576:=by
 have e1:=wrap64 (n:=b - ((l.length:Nat):Int)) (by omega) (by omega)
 simp only [lszIntS,e1] at h ⊢
 by_cases hd:b - ((l.length:Nat):Int)<0
 ·rw [decide_eq_true hd] at h;simp at h
 ·rw [decide_eq_false hd];simp only [cond_false];omega
theorem szJob_spec {j:JobD} {b:Int} (hj:bigJob j) (h0:0≤b) (h1:b≤1048576):q_lszJob j.1 j.2.1 j.2.2.1 j.2.2.2 b=true∧(0≤lszJob j.1 j.2.1 j.2.2.1 j.2.2.2 b→lszJob j.1 j.2.1 j.2.2.1 j.2.2.2 b≤b∧okJob j):=by
 obtain ⟨h2,h3⟩:=hj
 refine ⟨decide_eq_true ⟨h0,h1,bigOps_len h2⟩,fun h=>?_⟩
 simp only [lszJob] at h ⊢
 by_cases hd:lszOpS j.2.1 b<0
 ·rw [decide_eq_true hd] at h;simp at h
 ·obtain ⟨s1,s2⟩:=szOpS_spec _ b h0 h1 h2 (by omega)
  rw [decide_eq_false hd] at h ⊢
  simp only [cond_false] at h ⊢
  by_cases hd2:lszIntS j.2.2.2 (lszOpS j.2.1 b)<0
  ·rw [decide_eq_true hd2] at h;simp at h
  ·obtain ⟨t1,t2⟩:=szInts_spec h3 (by omega) (by omega) (by omega:0≤lszIntS j.2.2.2 (lszOpS j.2.1 b))
   rw [decide_eq_false hd2]
   simp only [cond_false]
   exact ⟨by omega,s2,t2⟩
theorem getD_mem {α:Type} {l:List α} {i:Nat} (h:i<l.length) (d:α):l.getD i d∈l:=by
 simp [List.getD_eq_getElem?_getD,h]
noncomputable def dJob:JobD:=(0,[],0,[])
theorem take_succ_getD {α:Type} {l:List α} {i:Nat} (hi:i<l.length) (d:α):l.take (i+1)=l.take i++[l.getD i d]:=by
 rw [List.take_add_one,List.getElem?_eq_getElem hi];simp [List.getD_eq_getElem?_getD,hi]
theorem szJobs_spec {l:List JobD} {b:Int} (hl:bigJobs l) (h0:0≤b) (h1:b≤1048576):q_lszJobS l b=true∧(0≤lszJobS l b→lszJobS l b≤b∧l.length≤1048576∧∀ j∈l,okJob j):=by
 obtain ⟨h2,h3⟩:=hl
 have e1:=wrap64 (n:=b - ((l.length:Nat):Int)) (by omega) (by omega)
 simp only [q_lszJobS,lszJobS,e1]
 by_cases hd:b - ((l.length:Nat):Int)<0
 ·rw [decide_eq_true hd];simp
 ·rw [decide_eq_false hd]
  simp only [cond_false]
  have key:(it_lszJobS_0 l (b - ((l.length:Nat):Int)) 0=(0,-1,0))∨∃ c,it_lszJobS_0 l (b - ((l.length:Nat):Int)) 0=(1,0,c)∧0≤c∧c≤b∧∀ j∈l,okJob j:=by
   refine itX_inv (fun v:V_lszJobS_0=>∃ (i:Nat) (c:Int),v=(l,c,(i:Int))∧i≤l.length∧0≤c∧c≤b∧∀ j∈l.take i,okJob j) (fun a:A_lszJobS_0=>a=(0,-1,0)∨∃ c,a=(1,0,c)∧0≤c∧c≤b∧∀ j∈l,okJob j) (fun v=>l.length - v.2.2.toNat) ?_ ⟨0,_,rfl,Nat.zero_le _,by omega,by omega,by simp⟩ (by simp;omega)
   rintro v ⟨i,c,rfl,hi,c0,c1,hj⟩
   by_cases hlt:i<l.length
   ·have e1:decide ((i:Int)<((l.length:Nat):Int))=true:=decide_eq_true (by omega)
    have e2:decide (0≤(i:Int)∧(i:Int)<((l.length:Nat):Int))=true:=decide_eq_true (by omega)
    obtain ⟨q1,q2⟩:=szJob_spec (h3 _ (getD_mem hlt dJob)) c0 (by omega)
    have hdj:((0:Int),(([]:Lq1),((0:Int),([]:List Int))))=dJob:=rfl
    simp only [ss_lszJobS_0,hdj,e1,e2,cond_true,Int.toNat_natCast,q1,wrapU i (by omega)]
    by_cases hn:lszJob (l.getD i dJob).1 (l.getD i dJob).2.1 (l.getD i dJob).2.2.1 (l.getD i dJob).2.2.2 c<0
    ·simp only [decide_eq_true hn,cond_true]
     exact .inr ⟨_,rfl,.inl rfl⟩
    ·simp only [decide_eq_false hn,cond_false]
     obtain ⟨r1,r2⟩:=q2 (by omega)
     refine .inl ⟨_,rfl,⟨i+1,_,rfl,by omega,by omega,by omega,fun j hj2=>?_⟩,by simp only [Int.toNat_natCast];omega⟩
     rw [take_succ_getD hlt dJob] at hj2
     rcases List.mem_append.1 hj2 with h | h
     ·exact hj j h
     ·simp only [List.mem_singleton] at h;rw [h];exact r2
   ·obtain rfl:i=l.length:=by omega
    have e1:decide ((l.length:Int)<((l.length:Nat):Int))=false:=decide_eq_false (by omega)
    simp only [ss_lszJobS_0,e1,cond_false]
    rw [List.take_length] at hj
    exact .inr ⟨_,rfl,.inr ⟨c,rfl,c0,c1,hj⟩⟩
  rcases key with h | ⟨c,h,c0,c1,hj⟩
  ·rw [h];exact ⟨rfl,fun h=>by simp at h⟩
  ·rw [h];exact ⟨rfl,fun _=>⟨c1,by omega,hj⟩⟩
/-- What a coordinator is whose size does. -/
theorem szCoord_spec {a3:List JobD} {a4:LIbe} (hb:bigJobs a3) (h4:a4.length≤9223372036854775807) (a0 a1 a2 a5:Int):q_lszCoord a0 a1 a2 a3 a4 a5 1048576=true∧(0≤lszCoord a0 a1 a2 a3 a4 a5 1048576→a3.length≤1048576∧(∀ j∈a3,okJob j)∧a4.length≤1048576):=by
 obtain ⟨z1,z2⟩:=szJobs_spec hb (b:=1048576) (by decide) (by decide)
 refine ⟨z1,fun h=>?_⟩
 simp only [lszCoord] at h
 by_cases hd:lszJobS a3 1048576<0
 ·rw [decide_eq_true hd] at h;simp at h
 ·obtain ⟨y1,y2,y3⟩:=z2 (by omega)
  rw [decide_eq_false hd] at h
  simp only [cond_false] at h
  by_cases hd2:lszChoiceS a4 (lszJobS a3 1048576)<0
  ·rw [decide_eq_true hd2] at h;simp at h
  ·refine ⟨y2,y3,?_⟩
   generalize lszJobS a3 1048576=c at *
   have e1:=wrap64 (n:=c - ((a4.length:Nat):Int)) (by omega) (by omega)
   simp only [lszChoiceS,e1] at hd2
   by_cases hd3:c - ((a4.length:Nat):Int)<0
   ·rw [decide_eq_true hd3] at hd2;simp at hd2
   ·omega
noncomputable def sumW {α:Type} (w:α→Nat) (l:List α):Nat:=(l.map w).sum
noncomputable def wtJob (j:JobD):Nat:=2+3*j.2.1.length+j.2.2.2.length
theorem szOpS_w {l:Lq1} {b:Int} (h0:0≤b) (h1:b≤1048576) (hb:bigOps l=true) (h:0≤lszOpS l b):lszOpS l b+(l.length:Int)≤b:=by
 have hl:l.length≤9223372036854775807:=by simp only [bigOps,Bool.and_eq_true,decide_eq_true_eq] at hb;exact hb.1
 have e1:=wrap64 (n:=b - ((l.length:Nat):Int)) (by omega) (by omega)
 simp only [lszOpS,e1,Int.toNat_zero,Nat.sub_zero] at h ⊢
 cases hd:decide (b - ((l.length:Nat):Int)<0) with
 | true=>rw [hd] at h;simp at h
 | false =>
  rw [hd] at h
  have:=of_decide_eq_false hd
  simp only [cond_false] at h ⊢
  cases hi:isInl (szN (f_lszOpS_0 l) l.length 0 (b - ((l.length:Nat):Int))) with
  | false=>rw [hi] at h;simp at h
  | true =>
   obtain ⟨r1,r2,r3⟩:=szN_all (M:=1048576) (Q:=fun i=>True) l.length 0 (b - ((l.length:Nat):Int)) (fun j b' _ hj q0 q1 hf=>by
    obtain ⟨p1,p2⟩:=bigOps_at hb j (by omega)
    obtain ⟨s1,s2,s3⟩:=szOp_spec _ _ _ b' q0 q1 p1 p2 hf
    exact ⟨trivial,s1⟩) (by omega) (by omega) hi
   simp only [cond_true]
   omega
theorem szInts_w {l:List Int} {b:Int} (hl:l.length≤9223372036854775807) (h0:0≤b) (h1:b≤1048576) (h:0≤lszIntS l b):lszIntS l b+(l.length:Int)≤b:=by
 have e1:=wrap64 (n:=b - ((l.length:Nat):Int)) (by omega) (by omega)
 simp only [lszIntS,e1] at h ⊢
 by_cases hd:b - ((l.length:Nat):Int)<0
 ·rw [decide_eq_true hd] at h;simp at h
 ·rw [decide_eq_false hd];simp only [cond_false];omega
theorem szJob_w {j:JobD} {b:Int} (hj:bigJob j) (h0:0≤b) (h1:b≤1048576) (h:0≤lszJob j.1 j.2.1 j.2.2.1 j.2.2.2 b):3*lszJob j.1 j.2.1 j.2.2.1 j.2.2.2 b+(wtJob j:Int)≤3*b+2:=by
 obtain ⟨h2,h3⟩:=hj
 simp only [lszJob] at h ⊢
 by_cases hd:lszOpS j.2.1 b<0
 ·rw [decide_eq_true hd] at h;simp at h
 ·have s1:=szOpS_w h0 h1 h2 (by omega)
  rw [decide_eq_false hd] at h ⊢
  simp only [cond_false] at h ⊢
  by_cases hd2:lszIntS j.2.2.2 (lszOpS j.2.1 b)<0
  ·rw [decide_eq_true hd2] at h;simp at h
  ·have t1:=szInts_w h3 (by omega) (by omega) (by omega:0≤lszIntS j.2.2.2 (lszOpS j.2.1 b))
   rw [decide_eq_false hd2]
   simp only [cond_false,wtJob]
   omega
theorem sumW_snoc {α:Type} (w:α→Nat) (l:List α) (x:α):sumW w (l++[x])=sumW w l+w x:=by simp [sumW]
theorem szJobs_w {l:List JobD} {b:Int} (hl:bigJobs l) (h0:0≤b) (h1:b≤1048576) (h:0≤lszJobS l b):3*lszJobS l b+(sumW wtJob l:Int)≤3*b:=by
 obtain ⟨h2,h3⟩:=hl
 have e1:=wrap64 (n:=b - ((l.length:Nat):Int)) (by omega) (by omega)
 simp only [lszJobS,e1] at h ⊢
 by_cases hd:b - ((l.length:Nat):Int)<0
 ·rw [decide_eq_true hd] at h;simp at h
 ·rw [decide_eq_false hd] at h ⊢
  simp only [cond_false] at h ⊢
  have key:(it_lszJobS_0 l (b - ((l.length:Nat):Int)) 0=(0,-1,0))∨∃ c,it_lszJobS_0 l (b - ((l.length:Nat):Int)) 0=(1,0,c)∧3*c+(sumW wtJob l:Int)≤3*b:=by
   refine itX_inv (fun v:V_lszJobS_0=>∃ (i:Nat) (c:Int),v=(l,c,(i:Int))∧i≤l.length∧0≤c∧c≤b∧3*c+(sumW wtJob (l.take i):Int)≤3*(b - (l.length:Int))+2*(i:Int)) (fun a:A_lszJobS_0=>a=(0,-1,0)∨∃ c,a=(1,0,c)∧3*c+(sumW wtJob l:Int)≤3*b) (fun v=>l.length - v.2.2.toNat) ?_ ⟨0,_,rfl,Nat.zero_le _,by omega,by omega,by simp [sumW]⟩ (by simp;omega)
   rintro v ⟨i,c,rfl,hi,c0,c1,hj⟩
   by_cases hlt:i<l.length
   ·have e1:decide ((i:Int)<((l.length:Nat):Int))=true:=decide_eq_true (by omega)
    have e2:decide (0≤(i:Int)∧(i:Int)<((l.length:Nat):Int))=true:=decide_eq_true (by omega)
    obtain ⟨q1,q2⟩:=szJob_spec (h3 _ (getD_mem hlt dJob)) c0 (by omega)
    have hdj:((0:Int),(([]:Lq1),((0:Int),([]:List Int))))=dJob:=rfl
    simp only [ss_lszJobS_0,hdj,e1,e2,cond_true,Int.toNat_natCast,q1,wrapU i (by omega)]
    by_cases hn:lszJob (l.getD i dJob).1 (l.getD i dJob).2.1 (l.getD i dJob).2.2.1 (l.getD i dJob).2.2.2 c<0
    ·simp only [decide_eq_true hn,cond_true]
     exact .inr ⟨_,rfl,.inl rfl⟩
    ·simp only [decide_eq_false hn,cond_false]
     obtain ⟨r1,r2⟩:=q2 (by omega)
     have r3:=szJob_w (h3 _ (getD_mem hlt dJob)) c0 (by omega) (by omega)
     refine .inl ⟨_,rfl,⟨i+1,_,rfl,by omega,by omega,by omega,?_⟩,by simp only [Int.toNat_natCast];omega⟩
     rw [take_succ_getD hlt dJob,sumW_snoc,Int.natCast_add]
     omega
   ·obtain rfl:i=l.length:=by omega
    have e1:decide ((l.length:Int)<((l.length:Nat):Int))=false:=decide_eq_false (by omega)
    simp only [ss_lszJobS_0,e1,cond_false]
    rw [List.take_length] at hj
    exact .inr ⟨_,rfl,.inr ⟨_,rfl,by omega⟩⟩
  rcases key with e | ⟨c,e,hc⟩
  ·rw [e] at h;simp at h
  ·rw [e];exact hc
theorem szCoord_w {a3:List JobD} {a4:LIbe} (hb:bigJobs a3) (h4:a4.length≤9223372036854775807) (a0 a1 a2 a5:Int) (h:0≤lszCoord a0 a1 a2 a3 a4 a5 1048576):sumW wtJob a3+2*a4.length≤3145728:=by
 simp only [lszCoord] at h
 by_cases hd:lszJobS a3 1048576<0
 ·rw [decide_eq_true hd] at h;simp at h
 ·have y1:=szJobs_w hb (b:=1048576) (by decide) (by decide) (by omega)
  obtain ⟨z1,_,_⟩:=(szJobs_spec hb (b:=1048576) (by decide) (by decide)).2 (by omega)
  rw [decide_eq_false hd] at h
  simp only [cond_false] at h
  by_cases hd2:lszChoiceS a4 (lszJobS a3 1048576)<0
  ·rw [decide_eq_true hd2] at h;simp at h
  ·generalize lszJobS a3 1048576=c at *
   have e1:=wrap64 (n:=c - ((a4.length:Nat):Int)) (by omega) (by omega)
   simp only [lszChoiceS,e1] at hd2
   by_cases hd3:c - ((a4.length:Nat):Int)<0
   ·rw [decide_eq_true hd3] at hd2;simp at hd2
   ·omega
/-- The first answer of places in order. -/
noncomputable def scanA {A:Type} (f:Nat→Option A) (last:A):Nat→Nat→A
 | 0,_=>last
 | k+1,i=>match f i with
  | some a=>a
  | none=>scanA f last k (i+1)
theorem itX_scan {V A:Type} {ss:V→V ⊕ A} {fa:A} (pk:Nat→V) (n:Nat) (f:Nat→Option A) (last:A) (hn:n<4611686018427387904)
  (h:∀ i,i<n→ss (pk i)=(match f i with | some a=>.inr a | none=>.inl (pk (i+1)))) (hl:ss (pk n)=.inr last):itX ss fa (pk 0)=scanA f last n 0:=by
 rw [itX_eq]
 have key:∀ k N i,i+k=n→k<N→itN ss fa N (pk i)=scanA f last k i:=by
  intro k
  induction k with
  | zero =>
   intro N i hi hN
   obtain ⟨M,rfl⟩:∃ M,N=M+1:=⟨N - 1,by omega⟩
   obtain rfl:i=n:=by omega
   rw [itN_one,hl];rfl
  | succ k ih =>
   intro N i hi hN
   obtain ⟨M,rfl⟩:∃ M,N=M+1:=⟨N - 1,by omega⟩
   rw [itN_one,h i (by omega)]
   simp only [scanA]
   cases hf:f i with
   | some a=>rfl
   | none=>exact ih M (i+1) (by omega) (by omega)
 exact key n _ 0 (by omega) hn
theorem eqOp_same (k:Int) (s v:ByteArray):leqOp k s v k s v=true:=by simp [leqOp]
theorem eqOpS_same (l:Lq1):leqOpS l l=true:=by
 have e:allF (f_leqOpS_0 l l) (l.length - (0:Int).toNat) (0:Int).toNat=true:=allF_same _ _ (fun j _ _=>by simp [f_leqOpS_0,eqOp_same])
 simp only [leqOpS,e,cond_true]
 simp
theorem eqInts_same (l:List Int):leqIntS l l=true:=by
 have e:allF (f_leqIntS_0 l l) (l.length - (0:Int).toNat) (0:Int).toNat=true:=allF_same _ _ fun j _ _=>by simp [f_leqIntS_0]
 simp only [leqIntS,e,cond_true]
 simp
theorem scanA_cases {A:Type} (f:Nat→Option A) (last:A):∀ k i,(∃ j a,i≤j∧j<i+k∧f j=some a∧(∀ m,i≤m→m<j→f m=none)∧scanA f last k i=a)∨((∀ j,i≤j→j<i+k→f j=none)∧scanA f last k i=last):=by
 intro k
 induction k with
 | zero=>intro i;exact .inr ⟨fun j h1 h2=>by omega,rfl⟩
 | succ k ih =>
  intro i
  simp only [scanA]
  cases hf:f i with
  | some a=>exact .inl ⟨i,a,Nat.le_refl _,by omega,hf,fun m h1 h2=>by omega,rfl⟩
  | none =>
   rcases ih (i+1) with ⟨j,a,h1,h2,h3,h4,h5⟩ | ⟨h1,h2⟩
   ·refine .inl ⟨j,a,by omega,by omega,h3,fun m m1 m2=>?_,h5⟩
    by_cases hm:m=i
    ·rw [hm];exact hf
    ·exact h4 m (by omega) m2
   ·refine .inr ⟨fun j j1 j2=>?_,h2⟩
    by_cases hj:j=i
    ·rw [hj];exact hf
    ·exact h1 j (by omega) (by omega)
theorem eqJobs_same {l:List JobD} (hl:l.length≤1048576) (h:∀ j∈l,okJob j):q_leqJobS l l=true∧leqJobS l l=true:=by
 have key:it_leqJobS_0 l l 0=scanA (fun _=>none) (1,false) l.length 0:=by
  refine itX_scan (fun i=>(l,l,(i:Int))) l.length _ _ (by omega) (fun i hi=>?_) ?_
  ·have e1:decide ((i:Int)<((l.length:Nat):Int))=true:=decide_eq_true (by omega)
   have e2:decide (0≤(i:Int)∧(i:Int)<((l.length:Nat):Int))=true:=decide_eq_true (by omega)
   obtain ⟨o1,o2⟩:=h _ (getD_mem hi dJob)
   have hdj:((0:Int),(([]:Lq1),((0:Int),([]:List Int))))=dJob:=rfl
   have q1:okL (l.getD i dJob).2.2.2=true:=decide_eq_true o2
   have e0:∀ x:Int,(x != x)=false:=fun x=>by simp
   simp only [ss_leqJobS_0,hdj,e1,e2,cond_true,Int.toNat_natCast,q_leqJob,leqJob,q_leqOpS,q_leqIntS,e0,eqOpS_same,eqInts_same,okOps_okL o1,q1,cond_false,Bool.not_true,Bool.true_and,wrapU i (by omega)]
  ·have e1:decide ((l.length:Int)<((l.length:Nat):Int))=false:=decide_eq_false (by omega)
   simp only [ss_leqJobS_0,e1,cond_false]
 have k2:scanA (fun _=>none) ((1,false):A_leqJobS_0) l.length 0=(1,false):=by
  rcases scanA_cases (fun _=>none) ((1,false):A_leqJobS_0) l.length 0 with ⟨j,a,_,_,h3,_⟩ | ⟨_,h⟩
  ·cases h3
  ·exact h
 rw [k2] at key
 have e0:∀ x:Int,(x != x)=false:=fun x=>by simp
 simp only [q_leqJobS,leqJobS,key,e0,cond_false]
 exact ⟨rfl,rfl⟩
theorem toOpS_same (l:Lq1):ltoOpS l=l:=by
 have e:=mapN (fun o:Int×ByteArray×ByteArray=>(ltoOp o.1 o.2.1 o.2.2)) dOp l l.length 0 (List.replicate l.length dOp) (by simp) (by simp)
 simp only [List.take_zero,List.nil_append,List.drop_zero] at e
 have e2:l.map (fun o:Int×ByteArray×ByteArray=>(ltoOp o.1 o.2.1 o.2.2))=l:=by
  rw [show (fun o:Int×ByteArray×ByteArray=>(ltoOp o.1 o.2.1 o.2.2))=id from funext fun _=>rfl,List.map_id]
 rw [e2] at e
 exact e
theorem toInts_same (l:List Int):ltoIntS l=l:=by
 have e:=mapN (fun o:Int=>o) (0:Int) l l.length 0 (List.replicate l.length 0) (by simp) (by simp)
 simp only [List.take_zero,List.nil_append,List.drop_zero] at e
 have e2:l.map (fun o:Int=>o)=l:=by
  rw [show (fun o:Int=>o)=id from funext fun _=>rfl,List.map_id]
 rw [e2] at e
 exact e
theorem getD_set {α:Type} {l:List α} {i:Nat} (hi:i<l.length) (x d:α):(l.set i x).getD i d=x:=by
 simp [List.getD_eq_getElem?_getD,hi]
theorem toJobs_same {l:List JobD} (hl:l.length≤1048576) (h:∀ j∈l,okJob j):q_ltoJobS l=true∧ltoJobS l=l:=by
 have key:it_ltoJobS_0 l 0 (List.replicate l.length dJob)=(0,l):=by
  refine itX_inv (fun v:V_ltoJobS_0=>∃ (i:Nat) (r:List JobD),v=(l,(i:Int),r)∧i≤l.length∧r.length=l.length∧r.take i=l.take i) (fun a:A_ltoJobS_0=>a=(0,l)) (fun v=>l.length - v.2.1.toNat) ?_ ⟨0,_,rfl,Nat.zero_le _,by simp,by simp⟩ (by simp;omega)
  rintro v ⟨i,r,rfl,hi,hr,ht⟩
  by_cases hlt:i<l.length
  ·have e1:decide ((i:Int)<((l.length:Nat):Int))=true:=decide_eq_true (by omega)
   have e2:decide (0≤(i:Int)∧(i:Int)<((l.length:Nat):Int))=true:=decide_eq_true (by omega)
   have e3:decide (0≤(i:Int)∧(i:Int)<((r.length:Nat):Int))=true:=decide_eq_true (by omega)
   obtain ⟨o1,o2⟩:=h _ (getD_mem hlt dJob)
   have hdj:((0:Int),(([]:Lq1),((0:Int),([]:List Int))))=dJob:=rfl
   have q1:q_ltoJob (l.getD i dJob).1 (l.getD i dJob).2.1 (l.getD i dJob).2.2.1 (l.getD i dJob).2.2.2=true:=by
    simp only [q_ltoJob,q_ltoOpS,q_ltoIntS,okOps_okL o1,Bool.true_and]
    exact decide_eq_true o2
   simp only [ss_ltoJobS_0,hdj,e1,e2,e3,cond_true,Int.toNat_natCast,q1,wrapU i (by omega),ltoJob,toOpS_same,toInts_same]
   refine .inl ⟨_,rfl,⟨i+1,_,rfl,by omega,by rw [List.length_set];exact hr,?_⟩,by simp only [Int.toNat_natCast];omega⟩
   rw [take_succ_getD (by rw [List.length_set];omega) dJob,take_succ_getD hlt dJob,getD_set (by omega),List.take_set_of_le (Nat.le_refl _),ht]
  ·obtain rfl:i=l.length:=by omega
   have e1:decide ((l.length:Int)<((l.length:Nat):Int))=false:=decide_eq_false (by omega)
   simp only [ss_ltoJobS_0,e1,cond_false]
   rw [← hr,List.take_length,hr,List.take_length] at ht
   exact .inr ⟨_,rfl,by rw [ht]⟩
 have hdj:((0:Int),(([]:Lq1),((0:Int),([]:List Int))))=dJob:=rfl
 simp only [q_ltoJobS,ltoJobS,hdj,Int.toNat_natCast,key]
 refine ⟨?_,trivial⟩
 rw [Bool.and_eq_true]
 exact ⟨decide_eq_true ⟨by omega,trivial,by simp only [MAXB];omega,by omega⟩,rfl⟩
theorem toChoices_same (l:LIbe):ltoChoiceS l=l:=by
 have e:=mapN (fun o:Int×Bool=>(ltoChoice o.1 o.2)) ((0:Int),false) l l.length 0 (List.replicate l.length ((0:Int),false)) (by simp) (by simp)
 simp only [List.take_zero,List.nil_append,List.drop_zero] at e
 have e2:l.map (fun o:Int×Bool=>(ltoChoice o.1 o.2))=l:=by
  rw [show (fun o:Int×Bool=>(ltoChoice o.1 o.2))=id from funext fun _=>rfl,List.map_id]
 rw [e2] at e
 exact e
theorem eqChoices_same (l:LIbe):leqChoiceS l l=true:=by
 have e:allF (f_leqChoiceS_0 l l) (l.length - (0:Int).toNat) (0:Int).toNat=true:=allF_same _ _ fun j _ _=>by simp [f_leqChoiceS_0,leqChoice]
 simp only [leqChoiceS,e,cond_true]
 simp
theorem eqCoord_own {a3:List JobD} {a4:LIbe} (h3:a3.length≤1048576) (hj:∀ j∈a3,okJob j) (h4:a4.length≤1048576) (a0 a1 a2 a5:Int):q_leqCoord a0 a1 a2 a3 a4 a5 a0 a1 a2 a3 a4 a5=true∧leqCoord a0 a1 a2 a3 a4 a5 a0 a1 a2 a3 a4 a5=true∧q_ltoCoord a0 a1 a2 a3 a4 a5=true∧ltoCoord a0 a1 a2 a3 a4 a5=(a0,a1,a2,a5,a3,a4):=by
 obtain ⟨e1,e2⟩:=eqJobs_same h3 hj
 obtain ⟨t1,t2⟩:=toJobs_same h3 hj
 have e0:∀ x:Int,(x != x)=false:=fun x=>by simp
 have e3:okL a4=true:=decide_eq_true h4
 simp only [q_leqCoord,leqCoord,q_ltoCoord,ltoCoord,e0,e1,e2,t1,t2,toChoices_same,eqChoices_same,q_leqChoiceS,q_ltoChoiceS,e3,cond_false,Bool.not_true,Bool.and_self]
 exact ⟨trivial,trivial,trivial,trivial⟩
noncomputable def dCh:Int×Bool:=(0,false)
/-- Where a transaction's choice lies. -/
noncomputable def chP (log:LIbe) (tx:Int):Nat×Int:=scanA (fun i=>cond ((log.getD i dCh).1==tx) (some (0,(i:Int))) none) (1,0) log.length 0
noncomputable def chAt (log:LIbe) (tx:Int):Int:=cond ((chP log tx).1==0) (chP log tx).2 (-1)
theorem chP_cases (log:LIbe) (tx:Int):(∃ j:Nat,j<log.length∧chP log tx=(0,(j:Int)))∨chP log tx=(1,0):=by
 rcases scanA_cases (fun i=>cond ((log.getD i dCh).1==tx) (some ((0:Nat),(i:Int))) none) (1,0) log.length 0 with ⟨j,a,_,h2,h3,_,h5⟩ | ⟨_,h⟩
 ·refine .inl ⟨j,by omega,?_⟩
  rw [chP,h5]
  cases hc:((log.getD j dCh).1==tx) with
  | true=>simp only [hc,cond_true,Option.some.injEq] at h3;exact h3.symm
  | false=>simp only [hc,cond_false] at h3;cases h3
 ·exact .inr h
theorem chP_q (log:LIbe) (tx:Int):(cond ((chP log tx).1==0) true ((chP log tx).1==1))=true:=by
 rcases chP_cases log tx with ⟨j,h1,h2⟩ | h
 ·rw [h2];rfl
 ·rw [h];rfl
theorem sChosen_is (a0 a1 a2:Int) (a3:List JobD) {a4:LIbe} (a5:Int) (hl:a4.length≤1048576) (tx:Int):q_sl11Chosen a0 a1 a2 a3 a4 a5 tx=true∧sl11Chosen a0 a1 a2 a3 a4 a5 tx=chAt a4 tx:=by
 have e:it_sl11Chosen_0 tx 0 a0 a1 a2 a3 a4 a5=chP a4 tx:=by
  refine itX_scan (fun i=>(tx,(i:Int))) a4.length _ _ (by omega) (fun i hi=>?_) ?_
  ·have e1:decide ((i:Int)<((a4.length:Nat):Int))=true:=decide_eq_true (by omega)
   have e2:decide (0≤(i:Int)∧(i:Int)<((a4.length:Nat):Int))=true:=decide_eq_true (by omega)
   simp only [ss_sl11Chosen_0,e1,e2,cond_true,Int.toNat_natCast,wrapU i (by omega),dCh]
   cases ((a4.getD i (0,false)).1==tx)<;>rfl
  ·have e1:decide ((a4.length:Int)<((a4.length:Nat):Int))=false:=decide_eq_false (by omega)
   simp only [ss_sl11Chosen_0,e1,cond_false]
 simp only [q_sl11Chosen,sl11Chosen,e]
 exact ⟨chP_q a4 tx,rfl⟩
theorem iChosen_is (a0 a1 a2:Int) (a3:List JobD) {a4:LIbe} (a5:Int) (hl:a4.length≤1048576) (tx:Int):q_iCoord_choiceAt tx a0 a1 a2 a3 a4 a5=true∧iCoord_choiceAt tx a0 a1 a2 a3 a4 a5=chAt a4 tx:=by
 have e:it_slices_IndexFunc_iChoice_0 a4 ((a4.length:Nat):Int) 0 tx=chP a4 tx:=by
  refine itX_scan (fun i=>(a4,((a4.length:Nat):Int),(i:Int))) a4.length _ _ (by omega) (fun i hi=>?_) ?_
  ·have e1:decide ((i:Int)<((a4.length:Nat):Int))=true:=decide_eq_true (by omega)
   have e2:decide (0≤(i:Int)∧(i:Int)<((a4.length:Nat):Int))=true:=decide_eq_true (by omega)
   simp only [ss_slices_IndexFunc_iChoice_0,k1_slices_IndexFunc_iChoice,iCoord_choiceAt_1,e1,e2,cond_true,Int.toNat_natCast,wrapU i (by omega),dCh]
   cases ((a4.getD i (0,false)).1==tx)<;>rfl
  ·have e1:decide ((a4.length:Int)<((a4.length:Nat):Int))=false:=decide_eq_false (by omega)
   simp only [ss_slices_IndexFunc_iChoice_0,e1,cond_false]
 simp only [q_iCoord_choiceAt,iCoord_choiceAt,q_slices_IndexFunc_iChoice,slices_IndexFunc_iChoice,e]
 exact ⟨chP_q a4 tx,rfl⟩
/-- What of a job's votes is wrong first. -/
noncomputable def yesF (L ys:List Int) (i:Nat):Option (Nat×Bool):=cond (!decide (ys.getD i 0∈L)) (some (0,false)) (cond (decide ((i:Int) > 0)) (cond (decide (ys.getD (i - 1) 0 ≥ ys.getD i 0)) (some (0,false)) none) none)
noncomputable def yesP (L ys:List Int):Nat×Bool:=scanA (yesF L ys) (1,false) ys.length 0
/-- A job's state and its choice. -/
noncomputable def finF (log:LIbe) (st ch:Int):Bool:=cond (st==1) (decide (ch<0)) (cond (st==2) (cond (decide (ch ≥ 0)) (log.getD ch.toNat dCh).2 false) (cond (st==3) (cond (decide (ch ≥ 0)) (!(log.getD ch.toNat dCh).2) false) false))
/-- What a job must be, but for its place. -/
noncomputable def jobB (a0 a1 a2:Int) (a4:LIbe) (j:JobD):Bool:=sl1In j.1 (IntKind.wrap .i64 (a1*1000)) (IntKind.wrap .i64 (IntKind.wrap .i64 (IntKind.wrap .i64 (a1*1000)+a2) - 1))&&(sOpsOk j.2.1&&((yesP (sShardsOf j.2.1 a0) j.2.2.2).1==1&&finF a4 j.2.2.1 (chAt a4 j.1)))
/-- A job's place among the others. -/
noncomputable def ordB (a3:List JobD) (i:Nat):Bool:=cond (decide ((i:Int) > 0)) (!decide ((a3.getD (i - 1) dJob).1 ≥ (a3.getD i dJob).1)) true
noncomputable def shO (n:Int) (o:Int×ByteArray×ByteArray):Int:=iShardOf o.2.1 n
theorem okOps_key {l:Lq1} (h:okOps l=true) {o:Int×ByteArray×ByteArray} (ho:o∈l):o.2.1.size≤1048576:=(okOps_mem h o ho).1
theorem bt_nat (s:ByteArray) (i:Int):∃ n:Nat,bt s i=(n:Int)∧n<256:=by
 unfold bt
 split
 ·exact ⟨_,rfl,UInt8.toNat_lt _⟩
 ·exact ⟨0,rfl,by decide⟩
theorem wrapU32 (n:Nat):IntKind.wrap .u32 (n:Int)=((n % 4294967296:Nat):Int):=by
 show (if (false&&decide ((n:Int) % (2 ^ 32:Int) ≥ (2 ^ 31:Int)))=true then (n:Int) % (2 ^ 32:Int) - (2 ^ 32:Int) else (n:Int) % (2 ^ 32:Int))=_
 simp only [Bool.false_and,Bool.false_eq_true,if_false];omega
theorem xor_lt32 {a b:Nat} (ha:a<4294967296) (hb:b<4294967296):a ^^^ b<4294967296:=Nat.xor_lt_two_pow (n:=32) ha hb
theorem ofInt32 (n:Nat) (h:n<4294967296):(BitVec.ofInt 32 (n:Int)).toNat=n:=by
 simp [BitVec.toNat_ofInt];omega
theorem ixor32 {a b:Nat} (ha:a<4294967296) (hb:b<4294967296):ixor .u32 (a:Int) (b:Int)=((a ^^^ b:Nat):Int):=by
 have h:=xor_lt32 ha hb
 show IntKind.wrap .u32 (((BitVec.ofInt 32 (a:Int) ^^^ BitVec.ofInt 32 (b:Int)).toNat:Nat):Int)=_
 rw [BitVec.toNat_xor,ofInt32 a ha,ofInt32 b hb,wrapU32,Nat.mod_eq_of_lt h]
theorem ofInt_nat (n:Nat) (h:n<18446744073709551616):(BitVec.ofInt 64 (n:Int)).toNat=n:=by
 simp [BitVec.toNat_ofInt];omega
theorem ixor64 {a b:Nat} (ha:a<4294967296) (hb:b<4294967296):ixor .i64 (a:Int) (b:Int)=((a ^^^ b:Nat):Int):=by
 have h:=xor_lt32 ha hb
 show IntKind.wrap .i64 (((BitVec.ofInt 64 (a:Int) ^^^ BitVec.ofInt 64 (b:Int)).toNat:Nat):Int)=_
 rw [BitVec.toNat_xor,ofInt_nat a (by omega),ofInt_nat b (by omega)]
 exact wrap64 (by omega) (by omega)
theorem iand32 (n:Nat) (h:n<9223372036854775808):iand .i64 (n:Int) 4294967295=((n % 4294967296:Nat):Int):=by
 show IntKind.wrap .i64 (((BitVec.ofInt 64 (n:Int) &&& BitVec.ofInt 64 ((4294967295:Nat):Int)).toNat:Nat):Int)=_
 rw [BitVec.toNat_and,ofInt_nat n (by omega),ofInt_nat 4294967295 (by omega),show (4294967295:Nat)=2 ^ 32 - 1 from rfl,Nat.and_two_pow_sub_one_eq_mod]
 exact wrap64 (by omega) (by omega)
/-- The two hashes, side by side. -/
theorem hash_sim {s:ByteArray} (hs:s.size≤1048576):∃ h:Nat,h<4294967296∧it_iHash_0 s 2166136261 0=(0,(h:Int))∧it_sHash_0 s 2166136261 0=(0,(h:Int)):=by
 have key:=itX_sim (ss:=fun v:V_iHash_0=>ss_iHash_0 v.1 v.2.1 v.2.2) (fa:=fl_iHash_0) (tt:=fun v:V_sHash_0=>ss_sHash_0 v.1 v.2.1 v.2.2) (fb:=fl_sHash_0) (v:=(s,2166136261,0)) (w:=(s,2166136261,0))
  (fun v w=>∃ h i:Nat,v=(s,(h:Int),(i:Int))∧w=(s,(h:Int),(i:Int))∧h<4294967296∧i≤s.size) (fun a b=>∃ h:Nat,h<4294967296∧a=(0,(h:Int))∧b=(0,(h:Int))) (fun v=>s.size - v.2.2.toNat) (fun v w hr=>by
   obtain ⟨h,i,rfl,rfl,h1,h2⟩:=hr
   by_cases hi:i<s.size
   ·have e1:decide ((i:Int)<((s.size:Nat):Int))=true:=decide_eq_true (by omega)
    have e2:decide (0≤(i:Int)∧(i:Int)<((s.size:Nat):Int))=true:=decide_eq_true (by omega)
    obtain ⟨b,hb,hb2⟩:=bt_nat s (i:Int)
    have w1:IntKind.wrap .u32 (b:Int)=(b:Int):=by rw [wrapU32];omega
    have w2:IntKind.wrap .i64 (b:Int)=(b:Int):=wrap64 (by omega) (by omega)
    have hx:=xor_lt32 h1 (show b<4294967296 by omega)
    have c1:((h ^^^ b:Nat):Int)*16777619=(((h ^^^ b)*16777619:Nat):Int):=by simp
    have w3:IntKind.wrap .i64 ((((h ^^^ b)*16777619:Nat):Int))=(((h ^^^ b)*16777619:Nat):Int):=wrap64 (by omega) (by omega)
    refine .inl ⟨(s,(((h ^^^ b)*16777619 % 4294967296:Nat):Int),((i+1:Nat):Int)),(s,(((h ^^^ b)*16777619 % 4294967296:Nat):Int),((i+1:Nat):Int)),?_,?_,⟨_,i+1,rfl,rfl,Nat.mod_lt _ (by decide),by omega⟩,by simp only [Int.toNat_natCast];omega⟩
    ·simp only [ss_iHash_0,e1,e2,cond_true,hb,w1,ixor32 h1 (show b<4294967296 by omega),c1,wrapU32,wrapU i (by omega)]
    ·simp only [ss_sHash_0,e1,e2,cond_true,hb,w2,ixor64 h1 (show b<4294967296 by omega),c1,w3,iand32 _ (show (h ^^^ b)*16777619<9223372036854775808 by omega),wrapU i (by omega)]
   ·have e1:decide ((i:Int)<((s.size:Nat):Int))=false:=decide_eq_false (by omega)
    exact .inr ⟨_,_,by simp only [ss_iHash_0,e1,cond_false],by simp only [ss_sHash_0,e1,cond_false],h,h1,rfl,rfl⟩) ⟨2166136261,0,rfl,rfl,by decide,Nat.zero_le _⟩ (by simp;omega)
 obtain ⟨h,h1,h2,h3⟩:=key
 exact ⟨h,h1,h2,h3⟩
/-- The shard of a key. -/
theorem shardOf_spec {s:ByteArray} (hs:s.size≤1048576) (n:Int):q_iShardOf s n=true∧q_sShardOf s n=true∧iShardOf s n=sShardOf s n∧0≤iShardOf s n∧(1≤n→iShardOf s n<n):=by
 obtain ⟨h,h1,h2,h3⟩:=hash_sim hs
 have w:IntKind.wrap .i64 (h:Int)=(h:Int):=wrap64 (by omega) (by omega)
 simp only [q_iShardOf,q_sShardOf,iShardOf,sShardOf,q_iHash,q_sHash,iHash,sHash,h2,h3,w]
 by_cases hn:n<1
 ·simp only [decide_eq_true hn,cond_true]
  exact ⟨trivial,trivial,trivial,Int.le_refl _,fun h=>by omega⟩
 ·have e:decide (n ≠ 0)=true:=decide_eq_true (by omega)
  simp only [decide_eq_false hn,cond_false,e]
  exact ⟨rfl,rfl,trivial,Int.tmod_nonneg _ (by omega),fun _=>Int.tmod_lt_of_pos _ (by omega)⟩
theorem l7Has_spec {l:List Int} (hl:l.length≤1048576) (x:Int):q_sl7Has l x=true∧sl7Has l x=decide (x∈l):=by
 have key:it_sl7Has_0 l x 0=(0,true)∧x∈l∨it_sl7Has_0 l x 0=(1,false)∧x ∉ l:=by
  refine itX_inv (fun v:V_sl7Has_0=>∃ i:Nat,v=(l,x,(i:Int))∧i≤l.length∧x ∉ l.take i) (fun a:A_sl7Has_0=>a=(0,true)∧x∈l∨a=(1,false)∧x ∉ l) (fun v=>l.length - v.2.2.toNat) ?_ ⟨0,rfl,Nat.zero_le _,by simp⟩ (by simp;omega)
  rintro v ⟨i,rfl,hi,hx⟩
  by_cases hlt:i<l.length
  ·have e1:decide ((i:Int)<((l.length:Nat):Int))=true:=decide_eq_true (by omega)
   have e2:decide (0≤(i:Int)∧(i:Int)<((l.length:Nat):Int))=true:=decide_eq_true (by omega)
   simp only [ss_sl7Has_0,e1,e2,cond_true,Int.toNat_natCast,wrapU i (by omega)]
   cases hc:(l.getD i 0==x) with
   | true=>exact .inr ⟨_,rfl,.inl ⟨rfl,by have:=getD_mem hlt 0;simp only [beq_iff_eq] at hc;rw [hc] at this;exact this⟩⟩
   | false =>
    refine .inl ⟨_,rfl,⟨i+1,rfl,by omega,?_⟩,by simp only [Int.toNat_natCast];omega⟩
    rw [take_succ_getD hlt 0]
    simp only [beq_eq_false_iff_ne] at hc
    simp only [List.mem_append,List.mem_singleton,not_or]
    exact ⟨hx,fun h=>hc h.symm⟩
  ·obtain rfl:i=l.length:=by omega
   have e1:decide ((l.length:Int)<((l.length:Nat):Int))=false:=decide_eq_false (by omega)
   simp only [ss_sl7Has_0,e1,cond_false]
   rw [List.take_length] at hx
   exact .inr ⟨_,rfl,.inr ⟨rfl,hx⟩⟩
 simp only [q_sl7Has,sl7Has]
 rcases key with ⟨h1,h2⟩ | ⟨h1,h2⟩
 ·rw [h1,decide_eq_true h2];exact ⟨rfl,rfl⟩
 ·rw [h1,decide_eq_false h2];exact ⟨rfl,rfl⟩
theorem set_mid {α:Type} (a b:List α) (y x:α):(a++y::b).set a.length x=a++x::b:=by
 rw [List.set_append_right _ _ (Nat.le_refl _),Nat.sub_self];rfl
theorem pw_take {α:Type} {R:α→α→Prop} {l:List α} (h:l.Pairwise R) (i:Nat) (hi:i<l.length) (d:α):∀ x∈l.take i,R x (l.getD i d):=by
 intro x hx
 obtain ⟨j,hj,rfl⟩:=List.getElem_of_mem hx
 rw [List.length_take] at hj
 have:=List.pairwise_iff_getElem.1 h j i (by omega) hi (by omega)
 simpa [List.getD_eq_getElem?_getD,hi] using this
theorem l7Put_spec {l:List Int} (hl:l.length≤1048576) (hs:l.Pairwise (·<·)) (x:Int):q_sl7Put_w1 l x=true∧(sl7Put_w1 l x).Pairwise (·<·)∧(sl7Put_w1 l x).length≤l.length+1∧∀ z,z∈sl7Put_w1 l x↔z∈l∨z=x:=by
 obtain ⟨h1,h2⟩:=l7Has_spec hl x
 by_cases hx:x∈l
 ·simp only [q_sl7Put_w1,sl7Put_w1,h1,h2,decide_eq_true hx,cond_true,Bool.true_and]
  exact ⟨trivial,hs,by omega,fun z=>⟨.inl,fun h=>h.elim id (fun h=>h ▸ hx)⟩⟩
 ·have key : ∃ (k : Nat) (y : Int), it_sl7Put_w1_0 x (l.length : Int) (l ++ [x]) = (0, x, (k : Int), l.take k ++ y :: l.drop k) ∧ k ≤ l.length ∧ (∀ z ∈ l.drop k, x < z) ∧ ∀ z ∈ l.take k, z < x := by
   refine itX_inv (fun v:V_sl7Put_w1_0=>∃ (k:Nat) (y:Int),v=(x,(k:Int),l.take k++y::l.drop k)∧k≤l.length∧∀ z∈l.drop k,x<z) (fun a:A_sl7Put_w1_0=>∃ (k:Nat) (y:Int),a=(0,x,(k:Int),l.take k++y::l.drop k)∧k≤l.length∧(∀ z∈l.drop k,x<z)∧∀ z∈l.take k,z<x) (fun v=>v.2.1.toNat) ?_ ⟨l.length,x,by rw [List.take_length,List.drop_length],Nat.le_refl _,by simp⟩ (by simp;omega)
   rintro v ⟨k,y,rfl,hk,hd⟩
   have hlen:(l.take k++y::l.drop k).length=l.length+1:=by simp;omega
   cases k with
   | zero =>
    have e1:decide (((0:Nat):Int) > 0)=false:=by decide
    simp only [ss_sl7Put_w1_0,e1,cond_false]
    exact .inr ⟨_,rfl,0,y,rfl,Nat.zero_le _,hd,by simp⟩
   | succ k =>
    have hlt:k<l.length:=by omega
    have w:IntKind.wrap .i64 (((k+1:Nat):Int) - 1)=((k:Nat):Int):=by rw [wrap64 (by omega) (by omega)];omega
    have e1:decide (((k+1:Nat):Int) > 0)=true:=decide_eq_true (by omega)
    have e2:decide (0≤((k:Nat):Int)∧((k:Nat):Int)<(((l.take (k+1)++y::l.drop (k+1)).length:Nat):Int))=true:=decide_eq_true (by omega)
    have e3:decide (0≤((k+1:Nat):Int)∧((k+1:Nat):Int)<(((l.take (k+1)++y::l.drop (k+1)).length:Nat):Int))=true:=decide_eq_true (by omega)
    have hg:(l.take (k+1)++y::l.drop (k+1)).getD k 0=l.getD k 0:=by
     rw [List.getD_eq_getElem?_getD,List.getElem?_append_left (by rw [List.length_take];omega),List.getElem?_take_of_lt (by omega),← List.getD_eq_getElem?_getD]
    have hset:(l.take (k+1)++y::l.drop (k+1)).set (k+1) (l.getD k 0)=l.take k++l.getD k 0::l.drop k:=by
     have hk1:(l.take (k+1)).length=k+1:=by rw [List.length_take];omega
     have:=set_mid (l.take (k+1)) (l.drop (k+1)) y (l.getD k 0)
     rw [hk1] at this
     rw [this,take_succ_getD hlt 0,List.append_assoc]
     have hd2:l.drop k=l.getD k 0::l.drop (k+1):=by
      rw [List.drop_eq_getElem_cons hlt];simp [List.getD_eq_getElem?_getD,hlt]
     rw [hd2];rfl
    simp only [ss_sl7Put_w1_0,w,e1,e2,e3,hg,hset,cond_true,Int.toNat_natCast]
    by_cases hgt:l.getD k 0 > x
    ·simp only [decide_eq_true hgt,cond_true]
     refine .inl ⟨_,rfl,⟨k,l.getD k 0,rfl,by omega,fun z hz=>?_⟩,by simp only [Int.toNat_natCast];omega⟩
     have hd2:l.drop k=l.getD k 0::l.drop (k+1):=by
      rw [List.drop_eq_getElem_cons hlt];simp [List.getD_eq_getElem?_getD,hlt]
     rw [hd2] at hz
     rcases List.mem_cons.1 hz with rfl | hz
     ·exact hgt
     ·exact hd z hz
    ·simp only [decide_eq_false hgt,cond_false]
     refine .inr ⟨_,rfl,k+1,y,rfl,hk,hd,fun z hz=>?_⟩
     have hzl:z∈l:=List.mem_of_mem_take hz
     have hne:z ≠ x:=fun h=>hx (h ▸ hzl)
     rw [take_succ_getD hlt 0] at hz
     rcases List.mem_append.1 hz with hz | hz
     ·have:=pw_take hs k hlt 0 z hz;omega
     ·simp only [List.mem_singleton] at hz;omega
  obtain ⟨k,y,e,hk,hd,ht⟩:=key
  have hlen:(l.take k++y::l.drop k).length=l.length+1:=by simp;omega
  have w:IntKind.wrap .i64 ((((([]:List Int)++l)++[x]).length:Int) - 1)=(l.length:Int):=by rw [List.nil_append,List.length_append,List.length_singleton,wrap64 (by omega) (by omega)];omega
  have hk1:(l.take k).length=k:=by rw [List.length_take];omega
  have hset:=set_mid (l.take k) (l.drop k) y x
  rw [hk1] at hset
  have m1:decide ((([]:List Int).length+l.length)*8≤MAXB)=true:=decide_eq_true (by simp only [List.length_nil,MAXB];omega)
  have m2:decide (((([]:List Int)++l).length+[x].length)*8≤MAXB)=true:=decide_eq_true (by simp only [List.nil_append,List.length_singleton,MAXB];omega)
  have m3:decide (0≤(k:Int)∧(k:Int)<(((l.take k++y::l.drop k).length:Nat):Int))=true:=decide_eq_true (by omega)
  have k1:k1_sl7Put_w1 l x=(0,x,(k:Int),l.take k++y::l.drop k):=by rw [k1_sl7Put_w1,w,List.nil_append,e]
  simp only [q_sl7Put_w1,sl7Put_w1,h1,h2,decide_eq_false hx,cond_false,m1,m2,k1,m3,Int.toNat_natCast,hset,Bool.true_and]
  have hs':=hs
  rw [← List.take_append_drop k l,List.pairwise_append] at hs'
  obtain ⟨p1,p2,p3⟩:=hs'
  refine ⟨rfl,List.pairwise_append.2 ⟨p1,List.pairwise_cons.2 ⟨hd,p2⟩,fun a ha b hb=>?_⟩,by simp;omega,fun z=>?_⟩
  ·rcases List.mem_cons.1 hb with rfl | hb
   ·exact ht a ha
   ·exact p3 a ha b hb
  ·have : z ∈ l ↔ z ∈ l.take k ∨ z ∈ l.drop k := by
    rw [← List.mem_append,List.take_append_drop]
   rw [this,List.mem_append,List.mem_cons]
   constructor
   ·rintro (h | h | h)
    ·exact .inl (.inl h)
    ·exact .inr h
    ·exact .inl (.inr h)
   ·rintro ((h | h) | h)
    ·exact .inl h
    ·exact .inr (.inr h)
    ·exact .inr (.inl h)
theorem sShardsOf_spec {l:Lq1} (ho:okOps l=true) (n:Int):q_sShardsOf l n=true∧(sShardsOf l n).Pairwise (·<·)∧∀ z,z∈sShardsOf l n↔z∈l.map (shO n):=by
 have hl:=okOps_len ho
 have key:∃ r:List Int,it_sShardsOf_0 l n [] 0=(0,r)∧r.Pairwise (·<·)∧∀ z,z∈r↔z∈l.map (shO n):=by
  refine itX_inv (fun v:V_sShardsOf_0=>∃ (i:Nat) (r:List Int),v=(l,n,r,(i:Int))∧i≤l.length∧r.Pairwise (·<·)∧r.length≤i∧∀ z,z∈r↔z∈(l.take i).map (shO n)) (fun a:A_sShardsOf_0=>∃ r:List Int,a=(0,r)∧r.Pairwise (·<·)∧∀ z,z∈r↔z∈l.map (shO n)) (fun v=>l.length - v.2.2.2.toNat) ?_ ⟨0,[],rfl,Nat.zero_le _,.nil,Nat.le_refl _,by simp⟩ (by simp;omega)
  rintro v ⟨i,r,rfl,hi,hp,hr,hm⟩
  by_cases hlt:i<l.length
  ·have e1:decide ((i:Int)<((l.length:Nat):Int))=true:=decide_eq_true (by omega)
   have e2:decide (0≤(i:Int)∧(i:Int)<((l.length:Nat):Int))=true:=decide_eq_true (by omega)
   have hk:=okOps_key ho (getD_mem hlt dOp)
   obtain ⟨_,q1,q2,_⟩:=shardOf_spec hk n
   obtain ⟨p1,p2,p3,p4⟩:=l7Put_spec (l:=r) (by omega) hp (sShardOf (l.getD i dOp).2.1 n)
   have hd:((0:Int),((⟨#[]⟩:ByteArray),(⟨#[]⟩:ByteArray)))=dOp:=rfl
   simp only [ss_sShardsOf_0,k1_sShardsOf,hd,e1,e2,cond_true,Int.toNat_natCast,q1,p1,wrapU i (by omega)]
   refine .inl ⟨_,rfl,⟨i+1,_,rfl,by omega,p2,by omega,fun z=>?_⟩,by simp only [Int.toNat_natCast];omega⟩
   rw [p4,hm,take_succ_getD hlt dOp,List.map_append,List.mem_append,← q2]
   simp only [List.map_cons,List.map_nil,List.mem_singleton,shO]
  ·obtain rfl:i=l.length:=by omega
   have e1:decide ((l.length:Int)<((l.length:Nat):Int))=false:=decide_eq_false (by omega)
   simp only [ss_sShardsOf_0,e1,cond_false]
   rw [List.take_length] at hm
   exact .inr ⟨_,rfl,r,rfl,hp,hm⟩
 obtain ⟨r,e,h1,h2⟩:=key
 simp only [q_sShardsOf,sShardsOf,e]
 exact ⟨rfl,h1,h2⟩
theorem iShardsOf_it {l:Lq1} (ho:okOps l=true) (n:Int):it_iShardsOf_0 n l ((l.length:Nat):Int) 0 []=(0,l.map (shO n)):=by
 have hl:=okOps_len ho
 refine itX_inv (fun v:V_iShardsOf_0=>∃ i:Nat,v=(n,l,(l.length:Int),(i:Int),(l.take i).map (shO n))∧i≤l.length) (fun a:A_iShardsOf_0=>a=(0,l.map (shO n))) (fun v=>l.length - v.2.2.2.1.toNat) ?_ ⟨0,by simp,Nat.zero_le _⟩ (by simp;omega)
 rintro v ⟨i,rfl,hi⟩
 by_cases hlt:i<l.length
 ·have e1:decide ((i:Int)<(l.length:Int))=true:=decide_eq_true (by omega)
  have e2:decide (0≤(i:Int)∧(i:Int)<((l.length:Nat):Int))=true:=decide_eq_true (by omega)
  have hm:∀ x:Int,decide ((((l.take i).map (shO n)).length+[x].length)*8≤MAXB)=true:=fun x=>decide_eq_true (by simp only [List.length_map,List.length_take,List.length_singleton,MAXB];omega)
  have hk:=okOps_key ho (getD_mem hlt dOp)
  have hq:=(shardOf_spec hk n).1
  simp only [dOp] at hq
  simp only [ss_iShardsOf_0,e1,e2,cond_true,Int.toNat_natCast,hq,hm,k1_iShardsOf,wrapU i (by omega)]
  refine .inl ⟨_,rfl,⟨i+1,?_,by omega⟩,by simp only [Int.toNat_natCast];omega⟩
  rw [take_succ_getD hlt dOp,List.map_append]
  rfl
 ·obtain rfl:i=l.length:=by omega
  have e1:decide ((l.length:Int)<(l.length:Int))=false:=decide_eq_false (by omega)
  simp only [ss_iShardsOf_0,e1,cond_false]
  exact .inr ⟨_,rfl,by rw [List.take_length]⟩
theorem iShardsOf_spec {l:Lq1} (ho:okOps l=true) (n:Int):q_iShardsOf l n=true∧iShardsOf l n=Lib.compact (sortL (l.map (shO n))):=by
 have hl:=okOps_len ho
 have q1:∀ x:List Int,x.length=l.length→q_sortL x=true:=fun x hx=>decide_eq_true (by omega)
 simp only [q_iShardsOf,iShardsOf,k2_iShardsOf,iShardsOf_it ho n,slices_Clip_int,q_slices_Clip_int,q1 _ (by simp:(l.map (shO n)).length=l.length),q1 (sortL (l.map (shO n))) (by simp [sortL]),compactP]
 refine ⟨?_,?_⟩
 ·simp
 ·rw [Int.toNat_natCast,List.drop_zero,List.take_left]
theorem pw_snoc {α:Type} {R:α→α→Prop} {h:List α} {x:α} (h1:h.Pairwise R) (h2:∀ y∈h,R y x):(h++[x]).Pairwise R:=by
 rw [List.pairwise_append]
 exact ⟨h1,by simp,fun a ha b hb=>by simp at hb;subst hb;exact h2 a ha⟩
/-- What compacting leaves of numbers in order. -/
theorem compact_inv {zs:List Int} (hs:zs.Pairwise (·≤·)):∀ m,m≤zs.length→(∀ x∈Lib.compactUpTo zs.toArray m,x∈zs)∧(∀ j,j<m→zs.getD j 0∈Lib.compactUpTo zs.toArray m)∧(Lib.compactUpTo zs.toArray m).Pairwise (·<·)∧(∀ x∈Lib.compactUpTo zs.toArray m,x≤zs.getD (m - 1) 0):=by
 have hg:∀ j,j<zs.length→zs.toArray[j]! = zs.getD j 0:=fun j hj=>by
  rw [getElem!_pos zs.toArray j (by simpa using hj)];simp [List.getD_eq_getElem?_getD,hj]
 intro m
 induction m with
 | zero=>intro _;exact ⟨fun x hx=>by simp [Lib.compactUpTo] at hx,fun j hj=>by omega,by simp [Lib.compactUpTo],fun x hx=>by simp [Lib.compactUpTo] at hx⟩
 | succ m ih =>
  intro hm
  obtain ⟨i1,i2,i3,i4⟩:=ih (by omega)
  rw [Lib.compactUpTo_succ]
  have hmz:zs.getD m 0∈zs:=getD_mem (by omega) _
  by_cases hk:Lib.keeps zs.toArray m=true
  ·rw [if_pos hk,hg m (by omega)]
   have hlt:∀ x∈Lib.compactUpTo zs.toArray m,x<zs.getD m 0:=by
    intro x hx
    have hm0:0<m:=by
     cases m with
     | zero=>simp [Lib.compactUpTo] at hx
     | succ m=>omega
    have h1:=i4 x hx
    have h2:=List.pairwise_iff_getElem.1 hs (m - 1) m (by omega) (by omega) (by omega)
    have e1:zs.getD (m - 1) 0=zs[m - 1]:=by simp [List.getD_eq_getElem?_getD,show m - 1<zs.length by omega]
    have e2:zs.getD m 0=zs[m]:=by simp [List.getD_eq_getElem?_getD,show m<zs.length by omega]
    have h3:zs.getD m 0 ≠ zs.getD (m - 1) 0:=by
     simp only [Lib.keeps,decide_eq_true_eq] at hk
     rcases hk with hk | hk
     ·omega
     ·rw [hg m (by omega),hg (m - 1) (by omega)] at hk;exact hk
    rw [e1] at h1 h3
    rw [e2] at h3 ⊢
    omega
   refine ⟨fun x hx=>?_,fun j hj=>?_,pw_snoc i3 hlt,fun x hx=>?_⟩
   ·rcases List.mem_append.1 hx with hx | hx
    ·exact i1 x hx
    ·simp at hx;rw [hx];simpa using hmz
   ·by_cases e:j=m
    ·subst e;simp
    ·exact List.mem_append_left _ (i2 j (by omega))
   ·rw [Nat.add_sub_cancel]
    rcases List.mem_append.1 hx with hx | hx
    ·exact Int.le_of_lt (hlt x hx)
    ·simp only [List.mem_singleton] at hx;rw [hx];exact Int.le_refl _
  ·have hk':Lib.keeps zs.toArray m=false:=by simpa using hk
   have hm0:¬ m=0:=by
    intro e;subst e;simp [Lib.keeps] at hk
   have heq:zs.getD m 0=zs.getD (m - 1) 0:=by
    simp only [Lib.keeps,decide_eq_false_iff_not,not_or,Classical.not_not] at hk'
    rw [hg m (by omega),hg (m - 1) (by omega)] at hk'
    exact hk'.2
   rw [if_neg hk,List.append_nil]
   refine ⟨i1,fun j hj=>?_,i3,fun x hx=>?_⟩
   ·by_cases e:j=m
    ·subst e;rw [heq];exact i2 (j - 1) (by omega)
    ·exact i2 j (by omega)
   ·rw [Nat.add_sub_cancel,heq];exact i4 x hx
theorem sortL_sorted (l:List Int):(sortL l).Pairwise (·≤·):=by
 have h:=List.pairwise_mergeSort (le:=fun x y:Int=>decide (x≤y)) (fun a b c h1 h2=>by simp at *;omega) (fun a b=>by simp;omega) l
 exact h.imp (fun h=>by simpa using h)
theorem sortL_mem (l:List Int) (x:Int):x∈sortL l↔x∈l:=by simp [sortL]
theorem compact_spec (l:List Int):(Lib.compact (sortL l)).Pairwise (·<·)∧∀ x,x∈Lib.compact (sortL l)↔x∈l:=by
 obtain ⟨i1,i2,i3,_⟩:=compact_inv (sortL_sorted l) (sortL l).length (Nat.le_refl _)
 refine ⟨i3,fun x=>⟨fun h=>(sortL_mem l x).1 (i1 x h),fun h=>?_⟩⟩
 obtain ⟨j,hj,e⟩:=List.getElem_of_mem ((sortL_mem l x).2 h)
 have:=i2 j hj
 rw [List.getD_eq_getElem?_getD,List.getElem?_eq_getElem hj,Option.getD_some,e] at this
 exact this
theorem sorted_ext:∀ a b:List Int,a.Pairwise (·<·)→b.Pairwise (·<·)→(∀ x,x∈a↔x∈b)→a=b
 | [],[],_,_,_=>rfl
 | [],y::b,_,_,h=>absurd ((h y).2 List.mem_cons_self) (by simp)
 | x::a,[],_,_,h=>absurd ((h x).1 List.mem_cons_self) (by simp)
 | x::a,y::b,ha,hb,h=>by
  obtain ⟨a1,a2⟩:=List.pairwise_cons.1 ha
  obtain ⟨b1,b2⟩:=List.pairwise_cons.1 hb
  have hxy:x=y:=by
   rcases List.mem_cons.1 ((h x).1 List.mem_cons_self) with h1 | h1
   ·exact h1
   ·rcases List.mem_cons.1 ((h y).2 List.mem_cons_self) with h2 | h2
    ·exact h2.symm
    ·have:=b1 x h1;have:=a1 y h2;omega
  subst hxy
  rw [sorted_ext a b a2 b2 fun z=>⟨fun hz=>?_,fun hz=>?_⟩]
  ·rcases List.mem_cons.1 ((h z).1 (List.mem_cons_of_mem _ hz)) with h1 | h1
   ·have:=a1 z hz;omega
   ·exact h1
  ·rcases List.mem_cons.1 ((h z).2 (List.mem_cons_of_mem _ hz)) with h1 | h1
   ·have:=b1 z hz;omega
   ·exact h1
theorem compactUpTo_len (zs:Array Int):∀ m,(Lib.compactUpTo zs m).length≤m
 | 0=>by simp [Lib.compactUpTo]
 | m+1=>by
  have:=compactUpTo_len zs m
  rw [Lib.compactUpTo_succ]
  by_cases hk:Lib.keeps zs m=true
  ·rw [if_pos hk,List.length_append];simp;omega
  ·rw [if_neg hk,List.append_nil];omega
theorem compact_len (l:List Int):(Lib.compact (sortL l)).length≤l.length:=by
 have h:=compactUpTo_len (sortL l).toArray (sortL l).length
 have e:(sortL l).length=l.length:=by simp [sortL]
 rw [e] at h
 exact Nat.le_trans (Nat.le_of_eq (by simp [Lib.compact,e])) h
theorem shardsOf_same {l:Lq1} (ho:okOps l=true) (n:Int):q_sShardsOf l n=true∧q_iShardsOf l n=true∧iShardsOf l n=sShardsOf l n∧(sShardsOf l n).length≤1048576:=by
 obtain ⟨s1,s2,s3⟩:=sShardsOf_spec ho n
 obtain ⟨i1,i2⟩:=iShardsOf_spec ho n
 obtain ⟨c1,c2⟩:=compact_spec (l.map (shO n))
 have e:iShardsOf l n=sShardsOf l n:=by rw [i2];exact sorted_ext _ _ c1 s2 (fun z=>by rw [c2,s3])
 refine ⟨s1,i1,e,?_⟩
 have hc:=compact_len (l.map (shO n))
 have hl:=okOps_len ho
 rw [← e,i2]
 rw [List.length_map] at hc
 omega
theorem chAt_range (log:LIbe) (tx:Int):chAt log tx=-1∨0≤chAt log tx∧chAt log tx<(log.length:Int):=by
 rcases chP_cases log tx with ⟨j,h1,h2⟩ | h
 ·right;simp only [chAt,h2];show 0≤(j:Int)∧(j:Int)<_;omega
 ·left;simp only [chAt,h];rfl
theorem sYes_is {L ys:List Int} (hL:L.length≤1048576) (hy:ys.length≤1048576) (a0 a1 a2:Int) (a3:List JobD) (a4:LIbe) (a5 b0:Int) (b1:Lq1) (b2:Int):it_sl11Job_0 L 0 a0 a1 a2 a3 a4 a5 b0 b1 b2 ys=yesP L ys:=by
 refine itX_scan (fun i=>(L,(i:Int))) ys.length _ _ (by omega) (fun i hi=>?_) ?_
 ·have e1:decide ((i:Int)<((ys.length:Nat):Int))=true:=decide_eq_true (by omega)
  have e2:decide (0≤(i:Int)∧(i:Int)<((ys.length:Nat):Int))=true:=decide_eq_true (by omega)
  obtain ⟨q1,q2⟩:=l7Has_spec hL (ys.getD i 0)
  simp only [ss_sl11Job_0,e1,e2,cond_true,Int.toNat_natCast,q1,q2,wrapU i (by omega),yesF]
  cases i with
  | zero=>cases decide (ys.getD 0 0∈L)<;>rfl
  | succ k =>
   have w:IntKind.wrap .i64 (((k+1:Nat):Int) - 1)=((k:Nat):Int):=by rw [wrap64 (by omega) (by omega)];omega
   have e3:decide (((k+1:Nat):Int) > 0)=true:=decide_eq_true (by omega)
   have e4:decide (0≤((k:Nat):Int)∧((k:Nat):Int)<((ys.length:Nat):Int))=true:=decide_eq_true (by omega)
   simp only [w,e3,e4,cond_true,Int.toNat_natCast,Nat.add_sub_cancel]
   cases decide (ys.getD (k+1) 0∈L)<;>cases decide (ys.getD k 0 ≥ ys.getD (k+1) 0)<;>rfl
 ·have e1:decide ((ys.length:Int)<((ys.length:Nat):Int))=false:=decide_eq_false (by omega)
  simp only [ss_sl11Job_0,e1,cond_false]
theorem st_cases (x:Int):((x==1)=true∧(x==2)=false∧(x==3)=false∧sl1In x 1 3=true)∨((x==1)=false∧(x==2)=true∧(x==3)=false∧sl1In x 1 3=true)∨((x==1)=false∧(x==2)=false∧(x==3)=true∧sl1In x 1 3=true)∨((x==1)=false∧(x==2)=false∧(x==3)=false∧sl1In x 1 3=false):=by
 by_cases h1:x=1
 ·subst h1;exact .inl ⟨rfl,rfl,rfl,rfl⟩
 by_cases h2:x=2
 ·subst h2;exact .inr (.inl ⟨rfl,rfl,rfl,rfl⟩)
 by_cases h3:x=3
 ·subst h3;exact .inr (.inr (.inl ⟨rfl,rfl,rfl,rfl⟩))
 refine .inr (.inr (.inr ⟨by simpa using h1,by simpa using h2,by simpa using h3,?_⟩))
 simp only [sl1In]
 by_cases h4:x ≥ 1
 ·rw [decide_eq_true h4,decide_eq_false (by omega)];rfl
 ·rw [decide_eq_false h4];rfl
theorem yesP_cases (L ys:List Int):yesP L ys=(0,false)∨yesP L ys=(1,false):=by
 rcases scanA_cases (yesF L ys) (1,false) ys.length 0 with ⟨j,a,_,h2,h3,_,h5⟩ | ⟨_,h⟩
 ·left
  rw [yesP,h5]
  simp only [yesF] at h3
  revert h3
  cases (!decide (ys.getD j 0∈L))<;>cases decide ((j:Int) > 0)<;>cases decide (ys.getD (j - 1) 0 ≥ ys.getD j 0)<;>simp [eq_comm]
 ·exact .inr h
theorem sJob_is (a0 a1 a2:Int) {a3:List JobD} {a4:LIbe} (a5:Int) (hl:a4.length≤1048576) (h3:a3.length≤1048576) {i:Nat} (hi:i<a3.length) (hj:okJob (a3.getD i dJob)):q_sl11Job a0 a1 a2 a3 a4 a5 (i:Int)=true∧sl11Job a0 a1 a2 a3 a4 a5 (i:Int)=(jobB a0 a1 a2 a4 (a3.getD i dJob)&&ordB a3 i):=by
 have hdj:((0:Int),(([]:Lq1),((0:Int),([]:List Int))))=dJob:=rfl
 have e2:decide (0≤(i:Int)∧(i:Int)<((a3.length:Nat):Int))=true:=decide_eq_true (by omega)
 have hw:decide ((i:Int) > 0)=true→decide (0≤IntKind.wrap .i64 ((i:Int) - 1)∧IntKind.wrap .i64 ((i:Int) - 1)<((a3.length:Nat):Int))=true∧(IntKind.wrap .i64 ((i:Int) - 1)).toNat=i - 1:=fun h=>by
  have:=of_decide_eq_true h
  have w:IntKind.wrap .i64 ((i:Int) - 1)=(i:Int) - 1:=wrap64 (by omega) (by omega)
  rw [w]
  exact ⟨decide_eq_true (by omega),by omega⟩
 obtain ⟨o1,o2⟩:=hj
 obtain ⟨s1,s2,s3,s4⟩:=shardsOf_same o1 a0
 obtain ⟨c1,c2⟩:=sChosen_is a0 a1 a2 a3 a5 hl (a3.getD i dJob).1
 have hr:=chAt_range a4 (a3.getD i dJob).1
 have hy:=sYes_is s4 o2 a0 a1 a2 a3 a4 a5 (a3.getD i dJob).1 (a3.getD i dJob).2.1 (a3.getD i dJob).2.2.1
 simp only [q_sl11Job,sl11Job,k1_sl11Job,k2_sl11Job,k3_sl11Job,q_sOpsOk,hdj,Int.toNat_natCast,e2,s1,c1,c2,o1,hy,jobB,finF,ordB,dCh,Bool.true_and]
 generalize a3.getD i dJob=j at *
 generalize chAt a4 j.1=ch at *
 have hneg:decide (ch<0)=!decide (ch ≥ 0):=by
  by_cases h:ch<0
  ·rw [decide_eq_true h,decide_eq_false (by omega)];rfl
  ·rw [decide_eq_false h,decide_eq_true (by omega)];rfl
 rw [hneg]
 have hrd:decide (ch ≥ 0)=true→decide (0≤ch∧ch<((a4.length:Nat):Int))=true:=fun h=>by
  have:=of_decide_eq_true h
  exact decide_eq_true (by omega)
 generalize decide (0≤ch∧ch<((a4.length:Nat):Int))=q at hrd
 generalize decide (ch ≥ 0)=g at hrd
 generalize (a4.getD ch.toNat (0,false)).2=b
 generalize sl1In j.1 (IntKind.wrap .i64 (a1*1000)) (IntKind.wrap .i64 (IntKind.wrap .i64 (IntKind.wrap .i64 (a1*1000)+a2) - 1))=r
 generalize sOpsOk j.2.1=p
 have hst:=st_cases j.2.2.1
 generalize (j.2.2.1==1)=t1 at hst ⊢
 generalize (j.2.2.1==2)=t2 at hst ⊢
 generalize (j.2.2.1==3)=t3 at hst ⊢
 generalize sl1In j.2.2.1 1 3=t4 at hst ⊢
 generalize hz:decide ((i:Int) > 0)=z at hw
 generalize decide (0≤IntKind.wrap .i64 ((i:Int) - 1)∧IntKind.wrap .i64 ((i:Int) - 1)<((a3.length:Nat):Int))=wq at hw
 generalize (IntKind.wrap .i64 ((i:Int) - 1)).toNat=wn at hw
 rcases yesP_cases (sShardsOf j.2.1 a0) j.2.2.2 with e | e<;>rw [e]
 all_goals cases z with
  | true =>
   obtain ⟨rfl,rfl⟩:=hw rfl
   generalize decide ((a3.getD (i - 1) dJob).1 ≥ j.1)=od
   cases g with
   | true=>obtain rfl:=hrd rfl;rcases hst with ⟨rfl,rfl,rfl,rfl⟩ | ⟨rfl,rfl,rfl,rfl⟩ | ⟨rfl,rfl,rfl,rfl⟩ | ⟨rfl,rfl,rfl,rfl⟩<;>cases r<;>cases p<;>cases od<;>cases b<;>exact ⟨rfl,rfl⟩
   | false=>rcases hst with ⟨rfl,rfl,rfl,rfl⟩ | ⟨rfl,rfl,rfl,rfl⟩ | ⟨rfl,rfl,rfl,rfl⟩ | ⟨rfl,rfl,rfl,rfl⟩<;>cases r<;>cases p<;>cases od<;>cases b<;>exact ⟨rfl,rfl⟩
  | false =>
   cases g with
   | true=>obtain rfl:=hrd rfl;rcases hst with ⟨rfl,rfl,rfl,rfl⟩ | ⟨rfl,rfl,rfl,rfl⟩ | ⟨rfl,rfl,rfl,rfl⟩ | ⟨rfl,rfl,rfl,rfl⟩<;>cases r<;>cases p<;>cases b<;>exact ⟨rfl,rfl⟩
   | false=>rcases hst with ⟨rfl,rfl,rfl,rfl⟩ | ⟨rfl,rfl,rfl,rfl⟩ | ⟨rfl,rfl,rfl,rfl⟩ | ⟨rfl,rfl,rfl,rfl⟩<;>cases r<;>cases p<;>cases b<;>exact ⟨rfl,rfl⟩
theorem contains_spec {l:List Int} (hl:l.length≤1048576) (x:Int):q_slices_Contains_int l x=true∧slices_Contains_int l x=decide (x∈l):=by
 have e:it_slices_Index_int_0 l x ((l.length:Nat):Int) 0=scanA (fun i=>cond (x==l.getD i 0) (some (0,(i:Int))) none) (1,0) l.length 0:=by
  refine itX_scan (fun i=>(l,x,((l.length:Nat):Int),(i:Int))) l.length _ _ (by omega) (fun i hi=>?_) ?_
  ·have e1:decide ((i:Int)<((l.length:Nat):Int))=true:=decide_eq_true (by omega)
   have e2:decide (0≤(i:Int)∧(i:Int)<((l.length:Nat):Int))=true:=decide_eq_true (by omega)
   simp only [ss_slices_Index_int_0,e1,e2,cond_true,Int.toNat_natCast,wrapU i (by omega)]
   cases (x==l.getD i 0)<;>rfl
  ·have e1:decide ((l.length:Int)<((l.length:Nat):Int))=false:=decide_eq_false (by omega)
   simp only [ss_slices_Index_int_0,e1,cond_false]
 simp only [q_slices_Contains_int,slices_Contains_int,q_slices_Index_int,slices_Index_int,e]
 rcases scanA_cases (fun i=>cond (x==l.getD i 0) (some ((0:Nat),(i:Int))) none) (1,0) l.length 0 with ⟨j,a,_,h2,h3,_,h5⟩ | ⟨h1,h2⟩
 ·cases hc:(x==l.getD j 0) with
  | true =>
   simp only [hc,cond_true,Option.some.injEq] at h3
   rw [h5,← h3]
   have hm:x∈l:=by
    simp only [beq_iff_eq] at hc
    rw [hc];exact getD_mem (by omega) 0
   rw [decide_eq_true hm]
   exact ⟨rfl,decide_eq_true (by show (j:Int) ≥ 0;omega)⟩
  | false=>simp only [hc,cond_false] at h3;cases h3
 ·rw [h2]
  have hm:x ∉ l:=by
   intro hm
   obtain ⟨j,hj,e⟩:=List.getElem_of_mem hm
   have:=h1 j (Nat.zero_le _) (by omega)
   have hg:l.getD j 0=x:=by simp [List.getD_eq_getElem?_getD,hj,e]
   simp only [hg,beq_self_eq_true,cond_true] at this
   cases this
  rw [decide_eq_false hm]
  exact ⟨rfl,rfl⟩
theorem iYes_is {L ys:List Int} (hL:L.length≤1048576) (hy:ys.length≤1048576) (a0 a1 a2:Int) (a3:List JobD) (a4:LIbe) (a5 b0:Int) (b1:Lq1) (b2:Int):it_iCoord_jobOk_0 L ys ((ys.length:Nat):Int) 0 a0 a1 a2 a3 a4 a5 b0 b1 b2 ys=yesP L ys:=by
 refine itX_scan (fun i=>(L,ys,((ys.length:Nat):Int),(i:Int))) ys.length _ _ (by omega) (fun i hi=>?_) ?_
 ·have e1:decide ((i:Int)<((ys.length:Nat):Int))=true:=decide_eq_true (by omega)
  have e2:decide (0≤(i:Int)∧(i:Int)<((ys.length:Nat):Int))=true:=decide_eq_true (by omega)
  obtain ⟨q1,q2⟩:=contains_spec hL (ys.getD i 0)
  simp only [ss_iCoord_jobOk_0,e1,e2,cond_true,Int.toNat_natCast,q1,q2,wrapU i (by omega),yesF]
  cases i with
  | zero=>cases decide (ys.getD 0 0∈L)<;>rfl
  | succ k =>
   have w:IntKind.wrap .i64 (((k+1:Nat):Int) - 1)=((k:Nat):Int):=by rw [wrap64 (by omega) (by omega)];omega
   have e3:decide (((k+1:Nat):Int) > 0)=true:=decide_eq_true (by omega)
   have e4:decide (0≤((k:Nat):Int)∧((k:Nat):Int)<((ys.length:Nat):Int))=true:=decide_eq_true (by omega)
   have e5:decide (ys.getD (k+1) 0≤ys.getD k 0)=decide (ys.getD k 0 ≥ ys.getD (k+1) 0):=rfl
   simp only [w,e3,e4,e5,cond_true,Int.toNat_natCast,Nat.add_sub_cancel]
   cases decide (ys.getD (k+1) 0∈L)<;>cases decide (ys.getD k 0 ≥ ys.getD (k+1) 0)<;>rfl
 ·have e1:decide ((ys.length:Int)<((ys.length:Nat):Int))=false:=decide_eq_false (by omega)
  simp only [ss_iCoord_jobOk_0,e1,cond_false]
theorem keyAt_same (s:ByteArray) (i:Nat):sKeyAt s i=iKeyAt s i:=by
 have hb:0≤bt s (i:Int)∧bt s (i:Int)<256:=by
  unfold bt
  split
  ·have:=UInt8.toNat_lt s[(i:Int).toNat];omega
  ·simp
 have e:=wrap64 (n:=bt s (i:Int)) (by omega) (by omega)
 simp only [sKeyAt,iKeyAt,sl1In,iisKeyByte,e]
 generalize bt s (i:Int)=c
 by_cases h1:c ≥ 97<;>by_cases h2:c≤122<;>by_cases h3:c ≥ 48<;>by_cases h4:c≤57<;>simp [h1,h2,h3,h4]
theorem keyOk_same (s:ByteArray):sKeyOk s=iKeyOk s:=by
 have e:allF (sKeyAt s) (s.size - (0:Int).toNat) (0:Int).toNat=allF (iKeyAt s) (s.size - (0:Int).toNat) (0:Int).toNat:=allF_congr _ _ (fun j _ _=>keyAt_same s j)
 simp only [sKeyOk,iKeyOk,iisWord,iinRange,sl1In,e]
 cases allF (iKeyAt s) (s.size - (0:Int).toNat) (0:Int).toNat<;>cases decide (((s.size:Nat):Int) ≥ 1)<;>cases decide (((s.size:Nat):Int)≤12)<;>rfl
theorem opOk_same (k:Int) (s v:ByteArray):sl7Op k s v=iopOk k s v:=by
 simp only [sl7Op,iopOk,keyOk_same,ba_beq,sl1In]
 cases iKeyOk s with
 | false =>
  by_cases h1:k=1<;>by_cases h2:k=2<;>by_cases h3:k=3<;>by_cases h4:v=⟨#[]⟩<;>by_cases h5:k ≥ 1<;>by_cases h6:k≤3<;>simp [h1,h2,h3,h4,h5,h6]<;>omega
 | true =>
  by_cases h2:k=2
  ·subst h2
   by_cases h4:v=⟨#[]⟩
   ·subst h4;simp [ByteArray.size]
   ·simp [h4]
  ·by_cases h1:k=1
   ·subst h1;simp
   ·by_cases h3:k=3
    ·subst h3;simp
    ·by_cases h5:k ≥ 1<;>by_cases h6:k≤3<;>simp [h1,h2,h3,h5,h6]<;>omega
theorem opAt_same (l:Lq1) (i:Nat):sOpAt l i=iOpAt l i:=by
 simp only [sOpAt,iOpAt,opOk_same]
 rw [← bytesLess_ge,Bool.not_not]
theorem opsOk_same (l:Lq1):sOpsOk l=iOpsOk l:=by
 have e:allF (sOpAt l) (l.length - (0:Int).toNat) (0:Int).toNat=allF (iOpAt l) (l.length - (0:Int).toNat) (0:Int).toNat:=allF_congr _ _ (fun j _ _=>opAt_same l j)
 simp only [sOpsOk,iOpsOk,e]
 rfl
theorem iJob_is (a0 a1 a2:Int) (a3:List JobD) {a4:LIbe} (a5:Int) (hl:a4.length≤1048576) {j:JobD} (hj:okJob j):q_iCoord_jobOk j.1 j.2.1 j.2.2.1 j.2.2.2 a0 a1 a2 a3 a4 a5=true∧iCoord_jobOk j.1 j.2.1 j.2.2.1 j.2.2.2 a0 a1 a2 a3 a4 a5=jobB a0 a1 a2 a4 j:=by
 obtain ⟨o1,o2⟩:=hj
 obtain ⟨s1,s2,s3,s4⟩:=shardsOf_same o1 a0
 obtain ⟨c1,c2⟩:=iChosen_is a0 a1 a2 a3 a5 hl j.1
 have hr:=chAt_range a4 j.1
 have hin:∀ x y z:Int,iinRange x y z=sl1In x y z:=fun _ _ _=>rfl
 have hy:=iYes_is s4 o2 a0 a1 a2 a3 a4 a5 j.1 j.2.1 j.2.2.1
 simp only [q_iCoord_jobOk,iCoord_jobOk,k1_iCoord_jobOk,k2_iCoord_jobOk,q_iOpsOk,iCoord_nextTx,hin,← opsOk_same,s2,s3,c1,c2,o1,hy,jobB,finF,dCh]
 generalize chAt a4 j.1=ch at *
 have hrd:decide (ch ≥ 0)=true→decide (0≤ch∧ch<((a4.length:Nat):Int))=true:=fun h=>by
  have:=of_decide_eq_true h
  exact decide_eq_true (by omega)
 generalize hq:decide (0≤ch∧ch<((a4.length:Nat):Int))=q at hrd
 generalize decide (ch ≥ 0)=g at hrd
 generalize decide (ch<0)=g2
 generalize (a4.getD ch.toNat (0,false)).2=b
 generalize sl1In j.1 (IntKind.wrap .i64 (a1*1000)) (IntKind.wrap .i64 (IntKind.wrap .i64 (IntKind.wrap .i64 (a1*1000)+a2) - 1))=r
 generalize sOpsOk j.2.1=p
 generalize (j.2.2.1==1)=t1
 generalize (j.2.2.1==2)=t2
 generalize (j.2.2.1==3)=t3
 rcases yesP_cases (sShardsOf j.2.1 a0) j.2.2.2 with e | e<;>rw [e]
 ·cases r<;>cases p<;>exact ⟨rfl,rfl⟩
 ·cases g with
  | true=>obtain rfl:=hrd rfl;cases r<;>cases p<;>cases t1<;>cases t2<;>cases t3<;>exact ⟨rfl,rfl⟩
  | false=>cases r<;>cases p<;>cases t1<;>cases t2<;>cases t3<;>exact ⟨rfl,rfl⟩
theorem coordOk_same (a0 a1 a2:Int) {a3:List JobD} {a4:LIbe} (a5:Int) (h3:a3.length≤1048576) (hj:∀ j∈a3,okJob j) (h4:a4.length≤1048576):q_sCoordOk a0 a1 a2 a3 a4 a5=true∧q_iCoordOk a0 a1 a2 a3 a4 a5=true∧iCoordOk a0 a1 a2 a3 a4 a5=sCoordOk a0 a1 a2 a3 a4 a5:=by
 have hin:∀ x y z:Int,iinRange x y z=sl1In x y z:=fun _ _ _=>rfl
 have nb:∀ x y:Int,(x != y)=!(x==y):=fun _ _=>rfl
 -- choices
 have f0:∃ f:Nat→Option (Nat×Bool),it_sCoordOk_0 0 a0 a1 a2 a3 a4 a5=scanA f (1,false) a4.length 0∧it_iCoordOk_0 a4 ((a4.length:Nat):Int) 0 a0 a1 a2 a3 a4 a5=scanA f (1,false) a4.length 0∧∀ i,f i=none∨f i=some (0,false):=by
  refine ⟨fun i=>cond (!sl1In (a4.getD i dCh).1 1000 (IntKind.wrap .i64 (IntKind.wrap .i64 (IntKind.wrap .i64 (a1*1000)+a2) - 1))) (some (0,false)) (cond (chAt a4 (a4.getD i dCh).1 != (i:Int)) (some (0,false)) none),?_,?_,fun i=>?_⟩
  ·refine itX_scan (fun i=>((i:Int))) a4.length _ _ (by omega) (fun i hi=>?_) ?_
   ·have e1:decide ((i:Int)<((a4.length:Nat):Int))=true:=decide_eq_true (by omega)
    have e2:decide (0≤(i:Int)∧(i:Int)<((a4.length:Nat):Int))=true:=decide_eq_true (by omega)
    obtain ⟨c1,c2⟩:=sChosen_is a0 a1 a2 a3 a5 h4 (a4.getD i dCh).1
    simp only [dCh] at c1 c2
    simp only [ss_sCoordOk_0,k1_sCoordOk,e1,e2,cond_true,Int.toNat_natCast,c1,c2,wrapU i (by omega),dCh]
    cases sl1In (a4.getD i (0,false)).1 1000 (IntKind.wrap .i64 (IntKind.wrap .i64 (IntKind.wrap .i64 (a1*1000)+a2) - 1))<;>cases (chAt a4 (a4.getD i (0,false)).1 != (i:Int))<;>rfl
   ·have e1:decide ((a4.length:Int)<((a4.length:Nat):Int))=false:=decide_eq_false (by omega)
    simp only [ss_sCoordOk_0,e1,cond_false]
  ·refine itX_scan (fun i=>(a4,((a4.length:Nat):Int),(i:Int))) a4.length _ _ (by omega) (fun i hi=>?_) ?_
   ·have e1:decide ((i:Int)<((a4.length:Nat):Int))=true:=decide_eq_true (by omega)
    have e2:decide (0≤(i:Int)∧(i:Int)<((a4.length:Nat):Int))=true:=decide_eq_true (by omega)
    obtain ⟨c1,c2⟩:=iChosen_is a0 a1 a2 a3 a5 h4 (a4.getD i dCh).1
    simp only [dCh] at c1 c2
    simp only [ss_iCoordOk_0,k1_iCoordOk,iCoord_nextTx,hin,e1,e2,cond_true,Int.toNat_natCast,c1,c2,wrapU i (by omega),dCh]
    cases sl1In (a4.getD i (0,false)).1 1000 (IntKind.wrap .i64 (IntKind.wrap .i64 (IntKind.wrap .i64 (a1*1000)+a2) - 1))<;>cases (chAt a4 (a4.getD i (0,false)).1 != (i:Int))<;>rfl
   ·have e1:decide ((a4.length:Int)<((a4.length:Nat):Int))=false:=decide_eq_false (by omega)
    simp only [ss_iCoordOk_0,e1,cond_false]
  ·dsimp only
   generalize sl1In (a4.getD i dCh).1 1000 (IntKind.wrap .i64 (IntKind.wrap .i64 (IntKind.wrap .i64 (a1*1000)+a2) - 1))=u
   generalize (chAt a4 (a4.getD i dCh).1 != (i:Int))=u2
   cases u<;>cases u2<;>first | exact .inl rfl | exact .inr rfl
 have f1:∃ f:Nat→Option (Nat×Bool),it_sCoordOk_1 0 a0 a1 a2 a3 a4 a5=scanA f (1,false) a3.length 0∧it_iCoordOk_1 a3 ((a3.length:Nat):Int) 0 a0 a1 a2 a3 a4 a5=scanA f (1,false) a3.length 0∧∀ i,f i=none∨f i=some (0,false):=by
  have hdj:((0:Int),(([]:Lq1),((0:Int),([]:List Int))))=dJob:=rfl
  refine ⟨fun i=>cond (jobB a0 a1 a2 a4 (a3.getD i dJob)&&ordB a3 i) none (some (0,false)),?_,?_,fun i=>?_⟩
  ·refine itX_scan (fun i=>((i:Int))) a3.length _ _ (by omega) (fun i hi=>?_) ?_
   ·have e1:decide ((i:Int)<((a3.length:Nat):Int))=true:=decide_eq_true (by omega)
    obtain ⟨c1,c2⟩:=sJob_is a0 a1 a2 a5 h4 h3 hi (hj _ (getD_mem hi dJob))
    simp only [ss_sCoordOk_1,e1,cond_true,c1,c2,wrapU i (by omega)]
    cases (jobB a0 a1 a2 a4 (a3.getD i dJob)&&ordB a3 i)<;>rfl
   ·have e1:decide ((a3.length:Int)<((a3.length:Nat):Int))=false:=decide_eq_false (by omega)
    simp only [ss_sCoordOk_1,e1,cond_false]
  ·refine itX_scan (fun i=>(a3,((a3.length:Nat):Int),(i:Int))) a3.length _ _ (by omega) (fun i hi=>?_) ?_
   ·have e1:decide ((i:Int)<((a3.length:Nat):Int))=true:=decide_eq_true (by omega)
    have e2:decide (0≤(i:Int)∧(i:Int)<((a3.length:Nat):Int))=true:=decide_eq_true (by omega)
    obtain ⟨c1,c2⟩:=iJob_is a0 a1 a2 a3 a5 h4 (hj _ (getD_mem hi dJob))
    simp only [ss_iCoordOk_1,k2_iCoordOk,hdj,e1,e2,cond_true,Int.toNat_natCast,c1,c2,wrapU i (by omega),ordB]
    generalize jobB a0 a1 a2 a4 (a3.getD i dJob)=jb
    cases i with
    | zero=>cases jb<;>rfl
    | succ k =>
     have w:IntKind.wrap .i64 (((k+1:Nat):Int) - 1)=((k:Nat):Int):=by rw [wrap64 (by omega) (by omega)];omega
     have e3:decide (((k+1:Nat):Int) > 0)=true:=decide_eq_true (by omega)
     have e4:decide (0≤((k:Nat):Int)∧((k:Nat):Int)<((a3.length:Nat):Int))=true:=decide_eq_true (by omega)
     have e5:decide ((a3.getD (k+1) dJob).1≤(a3.getD k dJob).1)=decide ((a3.getD k dJob).1 ≥ (a3.getD (k+1) dJob).1):=rfl
     simp only [w,e3,e4,e5,cond_true,Int.toNat_natCast,Nat.add_sub_cancel]
     cases jb<;>cases decide ((a3.getD k dJob).1 ≥ (a3.getD (k+1) dJob).1)<;>rfl
   ·have e1:decide ((a3.length:Int)<((a3.length:Nat):Int))=false:=decide_eq_false (by omega)
    simp only [ss_iCoordOk_1,e1,cond_false]
  ·dsimp only
   generalize (jobB a0 a1 a2 a4 (a3.getD i dJob)&&ordB a3 i)=u
   cases u<;>first | exact .inl rfl | exact .inr rfl
 have two:∀ (f:Nat→Option (Nat×Bool)) (n:Nat),(∀ i,f i=none∨f i=some (0,false))→scanA f (1,false) n 0=(0,false)∨scanA f (1,false) n 0=(1,false):=by
  intro f n h
  rcases scanA_cases f (1,false) n 0 with ⟨j,a,_,_,h3,_,h5⟩ | ⟨_,h5⟩
  ·rcases h j with h | h
   ·rw [h] at h3;cases h3
   ·rw [h] at h3;exact .inl (by rw [h5];exact (Option.some.inj h3).symm)
  ·exact .inr h5
 obtain ⟨f,s0,i0,r0⟩:=f0
 obtain ⟨g,s1,i1,r1⟩:=f1
 have t0:=two f a4.length r0
 have t1:=two g a3.length r1
 simp only [q_sCoordOk,q_iCoordOk,sCoordOk,iCoordOk,hin,s0,i0,s1,i1]
 generalize sl1In a0 1 8=b0
 generalize sl1In a1 1 900=b1
 generalize sl1In a2 0 999=b2
 generalize decide (((a4.length:Nat):Int) > 1000)=b3
 generalize sl1In a5 0 ((a4.length:Nat):Int)=b4
 generalize scanA f (1,false) a4.length 0=x0 at t0
 generalize scanA g (1,false) a3.length 0=x1 at t1
 rcases t0 with rfl | rfl<;>rcases t1 with rfl | rfl<;>cases b0<;>cases b1<;>cases b2<;>cases b3<;>cases b4<;>exact ⟨rfl,rfl,trivial⟩
theorem iCopyO_spec (n life next:Int) {jobs:List JobD} {log:LIbe} (sure:Int) (h3:jobs.length≤1048576) (hj:∀ j∈jobs,okJob j) (h4:log.length≤1048577):q_icopyCoord n life next jobs log sure=true∧icopyCoord n life next jobs log sure=(n,life,next,sure,jobs,log):=by
 have hdj:((0:Int),(([]:Lq1),((0:Int),([]:List Int))))=dJob:=rfl
 have key:it_icopyCoord_0 jobs ((jobs.length:Nat):Int) 0 n life next jobs log sure 0 0 0 0 n life next log sure []=(0,jobs):=by
  refine itX_inv (fun v:V_icopyCoord_0=>∃ i:Nat,v=(jobs,((jobs.length:Nat):Int),(i:Int),jobs.take i)∧i≤jobs.length) (fun a:A_icopyCoord_0=>a=(0,jobs)) (fun v=>jobs.length - v.2.2.1.toNat) ?_ ⟨0,by simp,Nat.zero_le _⟩ (by simp;omega)
  rintro v ⟨i,rfl,hi⟩
  by_cases hlt:i<jobs.length
  ·have e1:decide ((i:Int)<((jobs.length:Nat):Int))=true:=decide_eq_true (by omega)
   have e2:decide (0≤(i:Int)∧(i:Int)<((jobs.length:Nat):Int))=true:=decide_eq_true (by omega)
   obtain ⟨o1,o2⟩:=hj _ (getD_mem hlt dJob)
   have o3:=okOps_len o1
   have f3:q_slices_Clone_iOp (jobs.getD i dJob).2.1=true:=decide_eq_true (by simp only [List.length_nil,MAXB];omega)
   have f4:slices_Clone_iOp (jobs.getD i dJob).2.1=(jobs.getD i dJob).2.1:=rfl
   have f5:q_slices_Clone_int (jobs.getD i dJob).2.2.2=true:=decide_eq_true (by simp only [List.length_nil,MAXB];omega)
   have f6:slices_Clone_int (jobs.getD i dJob).2.2.2=(jobs.getD i dJob).2.2.2:=rfl
   have f7:∀ x:JobD,decide (((jobs.take i).length+[x].length)*64≤MAXB)=true:=fun x=>decide_eq_true (by simp only [List.length_singleton,List.length_take,MAXB];omega)
   simp only [ss_icopyCoord_0,hdj,e1,e2,cond_true,Int.toNat_natCast,f3,f4,f5,f6,f7,wrapU i (by omega)]
   refine .inl ⟨_,rfl,⟨i+1,?_,by omega⟩,by simp only [Int.toNat_natCast];omega⟩
   rw [take_succ_getD hlt dJob]
  ·obtain rfl:i=jobs.length:=by omega
   have e1:decide ((jobs.length:Int)<((jobs.length:Nat):Int))=false:=decide_eq_false (by omega)
   simp only [ss_icopyCoord_0,e1,cond_false]
   exact .inr ⟨_,rfl,by rw [List.take_length]⟩
 have c1:q_slices_Clone_iChoice log=true:=decide_eq_true (by simp only [List.length_nil,MAXB];omega)
 have c2:slices_Clone_iChoice log=log:=rfl
 simp only [q_icopyCoord,icopyCoord,k1_icopyCoord,key,c1,c2]
 exact ⟨rfl,trivial⟩
theorem sCopyE_spec (n life next:Int) {jobs:List JobD} {log:LIbe} (sure:Int) (h3:jobs.length≤1048576) (hj:∀ j∈jobs,okJob j) (h4:log.length≤1048577):q_sl11Copy n life next jobs log sure=true∧sl11Copy n life next jobs log sure=(n,life,next,jobs,log,sure):=by
 have hdj:((0:Int),(([]:Lq1),((0:Int),([]:List Int))))=dJob:=rfl
 have key:it_sl11Copy_0 0 n life next jobs log sure 0 0 0 0 n life next sure [] log=(0,jobs,log):=by
  refine itX_inv (fun v:V_sl11Copy_0=>∃ i:Nat,v=((i:Int),jobs.take i,log)∧i≤jobs.length) (fun a:A_sl11Copy_0=>a=(0,jobs,log)) (fun v=>jobs.length - v.1.toNat) ?_ ⟨0,by simp,Nat.zero_le _⟩ (by simp;omega)
  rintro v ⟨i,rfl,hi⟩
  by_cases hlt:i<jobs.length
  ·have e1:decide ((i:Int)<((jobs.length:Nat):Int))=true:=decide_eq_true (by omega)
   have e2:decide (0≤(i:Int)∧(i:Int)<((jobs.length:Nat):Int))=true:=decide_eq_true (by omega)
   obtain ⟨o1,o2⟩:=hj _ (getD_mem hlt dJob)
   have o3:=okOps_len o1
   have f3:q_sl7CopyOps (jobs.getD i dJob).2.1=true:=decide_eq_true (by simp only [List.length_nil,MAXB];omega)
   have f4:sl7CopyOps (jobs.getD i dJob).2.1=(jobs.getD i dJob).2.1:=by simp [sl7CopyOps]
   have f5:decide ((([]:List Int).length+(jobs.getD i dJob).2.2.2.length)*8≤MAXB)=true:=decide_eq_true (by simp only [List.length_nil,MAXB];omega)
   have f7:∀ x:JobD,decide (((jobs.take i).length+[x].length)*64≤MAXB)=true:=fun x=>decide_eq_true (by simp only [List.length_singleton,List.length_take,MAXB];omega)
   simp only [ss_sl11Copy_0,hdj,e1,e2,cond_true,Int.toNat_natCast,f3,f4,f5,f7,wrapU i (by omega),List.nil_append]
   refine .inl ⟨_,rfl,⟨i+1,?_,by omega⟩,by simp only [Int.toNat_natCast];omega⟩
   rw [take_succ_getD hlt dJob]
  ·obtain rfl:i=jobs.length:=by omega
   have e1:decide ((jobs.length:Int)<((jobs.length:Nat):Int))=false:=decide_eq_false (by omega)
   simp only [ss_sl11Copy_0,e1,cond_false]
   exact .inr ⟨_,rfl,by rw [List.take_length]⟩
 have m:decide ((([]:LIbe).length+log.length)*16≤MAXB)=true:=decide_eq_true (by simp only [List.length_nil,MAXB];omega)
 have e0:k1_sl11Copy n life next jobs log sure=(0,jobs,log):=key
 simp only [q_sl11Copy,sl11Copy,e0,m]
 exact ⟨rfl,trivial⟩
noncomputable def shJob (j:JobD):Prop:=j.2.1.length≤1048576∧j.2.2.2.length≤1048576
noncomputable def markL {α:Type} (mk:Int→α→Int×α):Int→List α→Int×List α
 | k,[]=>(k,[])
 | k,x::r=>((markL mk (mk k x).1 r).1,(mk k x).2::(markL mk (mk k x).1 r).2)
noncomputable def mkJob (k:Int) (j:JobD):Int×JobD:=((lmarkIntS ((lmarkOpS (k+1) j.2.1).1+1) j.2.2.2).1,(k,(lmarkOpS (k+1) j.2.1).2,(lmarkOpS (k+1) j.2.1).1,(lmarkIntS ((lmarkOpS (k+1) j.2.1).1+1) j.2.2.2).2))
theorem markL_len {α:Type} (mk:Int→α→Int×α):∀ (l:List α) (k:Int),(markL mk k l).2.length=l.length:=by
 intro l
 induction l with
 | nil=>intro k;rfl
 | cons y l ih=>intro k;simp only [markL,List.length_cons,ih]
theorem markL_fst {α:Type} (mk:Int→α→Int×α) (wt:α→Nat) (ok:α→Prop) (hw:∀ k x,0≤k→k+(wt x:Int)≤10000000→ok x→(mk k x).1=k+(wt x:Int)) :
  ∀ (l:List α) (k:Int),(∀ x∈l,ok x)→0≤k→k+(sumW wt l:Int)≤10000000→(markL mk k l).1=k+(sumW wt l:Int):=by
 intro l
 induction l with
 | nil=>intro k _ _ _;simp [markL,sumW]
 | cons y l ih =>
  intro k ho h0 h1
  have e:sumW wt (y::l)=wt y+sumW wt l:=by simp [sumW]
  rw [e,Int.natCast_add] at h1
  simp only [markL]
  rw [hw k y h0 (by omega) (ho y (by simp)),ih _ (fun x hx=>ho x (by simp [hx])) (by omega) (by omega),e,Int.natCast_add]
  omega
theorem sumW_split {α:Type} (w:α→Nat) (l:List α) (i:Nat):sumW w l=sumW w (l.take i)+sumW w (l.drop i):=by
 simp only [sumW]
 rw [← List.sum_append,← List.map_append,List.take_append_drop]
theorem drop_cons_getD {α:Type} {l:List α} {i:Nat} (h:i<l.length) (d:α):l.drop i=l.getD i d::l.drop (i+1):=by
 rw [List.drop_eq_getElem_cons h]
 simp [List.getD_eq_getElem?_getD,h]
theorem markL_snoc {α:Type} (mk:Int→α→Int×α) (x:α):∀ (l:List α) (k:Int),markL mk k (l++[x])=((mk (markL mk k l).1 x).1,(markL mk k l).2++[(mk (markL mk k l).1 x).2]):=by
 intro l
 induction l with
 | nil=>intro k;rfl
 | cons y l ih=>intro k;simp only [List.cons_append,markL,ih]
/-- Marks on a list, one element behind the other. -/
theorem mark_it {α:Type} (d:α) (mk:Int→α→Int×α) (wt:α→Nat) (ok:α→Prop) {ss:Int→Int→List α→(Int×Int×List α) ⊕ (Nat×Int×List α)} {fl:Nat×Int×List α}
  (hw:∀ k x,0≤k→k+(wt x:Int)≤10000000→ok x→(mk k x).1=k+(wt x:Int))
  (hs:∀ (k:Int) (i:Nat) (h:List α),i<h.length→h.length≤1048576→0≤k→k+(wt (h.getD i d):Int)≤10000000→ok (h.getD i d)→ss k (i:Int) h=.inl ((mk k (h.getD i d)).1,((i+1:Nat):Int),h.set i (mk k (h.getD i d)).2))
  (he:∀ (k:Int) (h:List α),h.length≤1048576→ss k ((h.length:Nat):Int) h=.inr (0,k,h))
  {l:List α} (hl:l.length≤1048576) (hok:∀ x∈l,ok x) {k:Int} (h0:0≤k) (h1:k+(sumW wt l:Int)≤10000000) :
  itX (fun v=>ss v.1 v.2.1 v.2.2) fl (k,0,l)=(0,markL mk k l):=by
 refine itX_inv (fun v:Int×Int×List α=>∃ i:Nat,i≤l.length∧v=((markL mk k (l.take i)).1,(i:Int),(markL mk k (l.take i)).2++l.drop i)) (fun a=>a=(0,markL mk k l)) (fun v=>l.length - v.2.1.toNat) ?_ ⟨0,Nat.zero_le _,by simp [markL]⟩ (by simp;omega)
 rintro v ⟨i,hi,rfl⟩
 have hlen:((markL mk k (l.take i)).2++l.drop i).length=l.length:=by rw [List.length_append,markL_len,List.length_take,List.length_drop];omega
 have hlm:(markL mk k (l.take i)).2.length=i:=by rw [markL_len,List.length_take];omega
 have hf:(markL mk k (l.take i)).1=k+(sumW wt (l.take i):Int):=markL_fst mk wt ok hw _ k (fun x hx=>hok x (List.mem_of_mem_take hx)) h0 (by have:=sumW_split wt l i;omega)
 by_cases hlt:i<l.length
 ·have hg : ((markL mk k (l.take i)).2 ++ l.drop i).getD i d = l.getD i d := by
   rw [drop_cons_getD hlt d]
   simp [List.getD_eq_getElem?_getD,hlm]
  have hsum:sumW wt l=sumW wt (l.take i)+(wt (l.getD i d)+sumW wt (l.drop (i+1))):=by
   rw [sumW_split wt l i,drop_cons_getD hlt d];simp [sumW]
  have:=hs (markL mk k (l.take i)).1 i ((markL mk k (l.take i)).2++l.drop i) (by omega) (by omega) (by rw [hf];omega) (by rw [hg,hf];omega) (by rw [hg];exact hok _ (getD_mem hlt d))
  rw [hg] at this
  refine .inl ⟨_,this,⟨i+1,by omega,?_⟩,by simp only [Int.toNat_natCast];omega⟩
  rw [take_succ_getD hlt d,markL_snoc,drop_cons_getD hlt d]
  have e:=set_mid (markL mk k (l.take i)).2 (l.drop (i+1)) (l.getD i d) (mk (markL mk k (l.take i)).1 (l.getD i d)).2
  rw [hlm] at e
  rw [e]
  simp only [List.append_assoc,List.cons_append,List.nil_append]
 ·obtain rfl:i=l.length:=by omega
  have:=he (markL mk k (l.take l.length)).1 ((markL mk k (l.take l.length)).2++l.drop l.length) (by omega)
  rw [hlen] at this
  refine .inr ⟨_,this,?_⟩
  simp [List.take_length]
theorem markN {α:Type} (el:Int→α) (c:Int) (hc:0≤c∧c≤100000) (d:α) (f:Nat→Int×List α→Int×List α)
  (hf:∀ i k (h:List α),i<h.length→0≤k→k≤100000*((i:Int)+100)→h.length≤1048576→f i (k,h)=(k+c,h.set i (el k))) :
  ∀ n i k (h:List α),i+n=h.length→0≤k→k≤100000*((i:Int)+100)→h.length≤1048576 →
   (foldN f n i (k,h)).1=k+c*(n:Int)∧(foldN f n i (k,h)).2.length=h.length∧(∀ j,i≤j→j<h.length→(foldN f n i (k,h)).2.getD j d=el (k+c*((j - i:Nat):Int)))∧∀ j,j<i→(foldN f n i (k,h)).2.getD j d=h.getD j d:=by
 intro n
 induction n with
 | zero=>intro i k h hi h0 h1 h2;exact ⟨by simp [foldN],rfl,fun j hj hl=>by omega,fun j _=>rfl⟩
 | succ n ih =>
  intro i k h hi h0 h1 h2
  simp only [foldN]
  rw [hf i k h (by omega) h0 h1 h2]
  obtain ⟨q1,q2,q3,q4⟩:=ih (i+1) (k+c) (h.set i (el k)) (by simp;omega) (by omega) (by omega) (by simpa using h2)
  refine ⟨?_,by rw [q2];simp,fun j hj hl=>?_,fun j hj=>?_⟩
  ·rw [q1,Int.natCast_add,Int.mul_add];simp;omega
  ·by_cases e:j=i
   ·subst e
    rw [q4 j (by omega)]
    have:j<h.length:=hl
    simp [List.getD_eq_getElem?_getD,this]
   ·rw [q3 j (by omega) (by simpa using hl)]
    congr 1
    have:((j - i:Nat):Int)=((j - (i+1):Nat):Int)+1:=by omega
    rw [this,Int.mul_add];omega
  ·rw [q4 j (by omega)]
   have:i ≠ j:=by omega
   simp [List.getD_eq_getElem?_getD,List.getElem?_set_ne this]
theorem opsS_marksK (l:Lq1) (k:Int) (h:l.length≤1048576) (h0:0≤k) (h1:k≤10000000):(lmarkOpS k l).1=k+3*(l.length:Int)∧(lmarkOpS k l).2.length=l.length:=by
 obtain ⟨q1,q2,_⟩:=markN (fun k=>(k,lmarkText (k+1),lmarkText (k+1+1))) 3 (by omega) dOp f_lmarkOpS_0 (fun i k h hi h0 h1 h2=>by
  have w1:IntKind.wrap .i64 (k+(1:Int))=k+1:=wrap64 (by omega) (by omega)
  have w2:IntKind.wrap .i64 (k+1+(1:Int))=k+1+1:=wrap64 (by omega) (by omega)
  have w3:IntKind.wrap .i64 (k+1+1+(1:Int))=k+3:=by rw [wrap64 (by omega) (by omega)];omega
  simp only [f_lmarkOpS_0,w1,w2,w3,List.set_set,getD_set hi]) l.length 0 k l (by omega) h0 (by omega) h
 have e1:lmarkOpS k l=foldN f_lmarkOpS_0 l.length 0 (k,l):=rfl
 rw [e1];exact ⟨q1,q2⟩
theorem heldN {α:Type} (el:Int→α) (c:Int) (hc:0≤c∧c≤100000) (d:α) (x:List α) (hx:x.length≤1048576) (g:Nat→Int→Int ⊕ Unit)
  (hg:∀ i k,i<x.length→0≤k→k≤100000*((i:Int)+100)→x.getD i d=el k→g i k=.inl (k+c)) :
  ∀ n i k,i+n=x.length→0≤k→k≤100000*((i:Int)+100)→(∀ j,i≤j→j<x.length→x.getD j d=el (k+c*((j - i:Nat):Int)))→loopN g n i k=.inl (k+c*(n:Int)):=by
 intro n
 induction n with
 | zero=>intro i k hi h0 h1 he;simp [loopN]
 | succ n ih =>
  intro i k hi h0 h1 he
  have h2:=he i (Nat.le_refl _) (by omega)
  rw [Nat.sub_self] at h2
  simp only [loopN]
  rw [hg i k (by omega) h0 h1 (by simpa using h2)]
  simp only
  rw [ih (i+1) (k+c) (by omega) (by omega) (by omega) (fun j hj hl=>by
   rw [he j (by omega) hl]
   congr 1
   have:((j - i:Nat):Int)=((j - (i+1):Nat):Int)+1:=by omega
   rw [this,Int.mul_add];omega)]
  rw [Int.natCast_add,Int.mul_add];congr 1;simp;omega
theorem heldmark {α:Type} (el:Int→α) (c:Int) (hc:0≤c∧c≤100000) (d:α) (f:Nat→Int×List α→Int×List α) (g:List α→Nat→Int→Int ⊕ Unit)
  (hf:∀ i k (h:List α),i<h.length→0≤k→k≤100000*((i:Int)+100)→h.length≤1048576→f i (k,h)=(k+c,h.set i (el k)))
  (hg:∀ (x:List α) i k,x.length≤1048576→i<x.length→0≤k→k≤100000*((i:Int)+100)→x.getD i d=el k→g x i k=.inl (k+c)) (h:List α) (hh:h.length≤1048576) (k:Int) (h0:0≤k) (h1:k≤10000000) :
  (foldN f h.length 0 (k,h)).1=k+c*(h.length:Int)∧(foldN f h.length 0 (k,h)).2.length=h.length∧loopN (g (foldN f h.length 0 (k,h)).2) (foldN f h.length 0 (k,h)).2.length 0 k=.inl (k+c*(h.length:Int)):=by
 obtain ⟨q1,q2,q3,_⟩:=markN el c hc d f hf h.length 0 k h (by omega) h0 (by omega) hh
 refine ⟨q1,q2,?_⟩
 have:=heldN el c hc d (foldN f h.length 0 (k,h)).2 (by rw [q2];exact hh) (g (foldN f h.length 0 (k,h)).2) (fun i k hi=>hg _ i k (by rw [q2];exact hh) hi) (foldN f h.length 0 (k,h)).2.length 0 k (by omega) h0 (by omega) (fun j hj hl=>q3 j hj (by rw [q2] at hl;exact hl))
 rw [this,q2]
theorem intsS_marksK (l:List Int) (k:Int) (h:l.length≤1048576) (h0:0≤k) (h1:k≤10000000):(lmarkIntS k l).1=k+(l.length:Int)∧(lmarkIntS k l).2.length=l.length∧lheldIntS (lmarkIntS k l).2 k=(lmarkIntS k l).1∧q_lmarkIntS k l=true∧q_lheldIntS (lmarkIntS k l).2 k=true:=by
 obtain ⟨q1,q2,q3⟩:=heldmark (fun k=>k) 1 (by omega) (0:Int) f_lmarkIntS_0 f_lheldIntS_0 (fun i k h hi h0 h1 h2=>by
  have w1:IntKind.wrap .i64 (k+(1:Int))=k+1:=wrap64 (by omega) (by omega)
  simp only [f_lmarkIntS_0,w1]) (fun x i k hx hi h0 h1 he=>by
  have w1:IntKind.wrap .i64 (k+(1:Int))=k+1:=wrap64 (by omega) (by omega)
  have e:(k != k)=false:=by simp
  simp only [f_lheldIntS_0,he,e,cond_false,w1]) l h k h0 h1
 have e1:lmarkIntS k l=foldN f_lmarkIntS_0 l.length 0 (k,l):=rfl
 have e2:∀ x,lheldIntS x k=cond (isInl (loopN (f_lheldIntS_0 x) x.length 0 k)) (getInl (-1) (loopN (f_lheldIntS_0 x) x.length 0 k)) (-1:Int):=fun x=>rfl
 rw [e1]
 refine ⟨by rw [q1];omega,q2,by rw [e2,q3,q1];rfl,by simp only [q_lmarkIntS,okL];simp;omega,by simp only [q_lheldIntS,okL,q2];simp;omega⟩
theorem mkJob_fst (k:Int) (j:JobD) (h0:0≤k) (h1:k+(wtJob j:Int)≤10000000) (hj:shJob j):(mkJob k j).1=k+(wtJob j:Int):=by
 obtain ⟨s1,s2⟩:=hj
 simp only [wtJob] at h1 ⊢
 have m1:=(opsS_marksK j.2.1 (k+1) s1 (by omega) (by omega)).1
 have m2:=(intsS_marksK j.2.2.2 ((lmarkOpS (k+1) j.2.1).1+1) s2 (by omega) (by omega)).1
 simp only [mkJob]
 rw [m2,m1]
 omega
theorem opsS_q {k:Int} {l:Lq1} (h:l.length≤1048576) (h0:0≤k) (h1:k≤10000000):q_lmarkOpS k l=true∧q_lheldOpS (lmarkOpS k l).2 k=true:=by
 have h2:=(opsS_marksK l k h h0 h1).2
 exact ⟨by simp only [q_lmarkOpS,okL];simp;omega,by simp only [q_lheldOpS,okL,h2];simp;omega⟩
theorem markL_getD {α:Type} (mk:Int→α→Int×α) (d:α):∀ (l:List α) (k:Int) (i:Nat),i<l.length→(markL mk k l).2.getD i d=(mk (markL mk k (l.take i)).1 (l.getD i d)).2:=by
 intro l
 induction l with
 | nil=>intro k i h;simp at h
 | cons y l ih =>
  intro k i h
  cases i with
  | zero=>simp [markL]
  | succ i =>
   simp only [markL,List.getD_cons_succ,List.take_succ_cons]
   exact ih _ i (by simpa using h)
/-- What is marked is held. -/
theorem held_it {α:Type} (d:α) (mk:Int→α→Int×α) (wt:α→Nat) (ok:α→Prop) {ss:List α→Int→Int→(List α×Int×Int) ⊕ (Nat×Int×Int)} {fl:Nat×Int×Int} {z:Int}
  (hw:∀ k x,0≤k→k+(wt x:Int)≤10000000→ok x→(mk k x).1=k+(wt x:Int))
  (hs:∀ (k:Int) (i:Nat) (h:List α) (x:α),i<h.length→h.length≤1048576→0≤k→k+(wt x:Int)≤10000000→ok x→h.getD i d=(mk k x).2→ss h k (i:Int)=.inl (h,(mk k x).1,((i+1:Nat):Int)))
  (he:∀ (k:Int) (h:List α),h.length≤1048576→ss h k ((h.length:Nat):Int)=.inr (1,z,k))
  {l:List α} (hl:l.length≤1048576) (hok:∀ x∈l,ok x) {k:Int} (h0:0≤k) (h1:k+(sumW wt l:Int)≤10000000) :
  itX (fun v=>ss v.1 v.2.1 v.2.2) fl ((markL mk k l).2,k,0)=(1,z,(markL mk k l).1):=by
 have hl2:=markL_len mk l k
 refine itX_inv (fun v:List α×Int×Int=>∃ i:Nat,i≤l.length∧v=((markL mk k l).2,(markL mk k (l.take i)).1,(i:Int))) (fun a=>a=(1,z,(markL mk k l).1)) (fun v=>l.length - v.2.2.toNat) ?_ ⟨0,Nat.zero_le _,by simp [markL]⟩ (by simp;omega)
 rintro v ⟨i,hi,rfl⟩
 have hf:(markL mk k (l.take i)).1=k+(sumW wt (l.take i):Int):=markL_fst mk wt ok hw _ k (fun x hx=>hok x (List.mem_of_mem_take hx)) h0 (by have:=sumW_split wt l i;omega)
 by_cases hlt:i<l.length
 ·have hsum : sumW wt l = sumW wt (l.take i) + (wt (l.getD i d) + sumW wt (l.drop (i + 1))) := by
   rw [sumW_split wt l i,drop_cons_getD hlt d];simp [sumW]
  have:=hs (markL mk k (l.take i)).1 i (markL mk k l).2 (l.getD i d) (by omega) (by omega) (by rw [hf];omega) (by rw [hf];omega) (hok _ (getD_mem hlt d)) (markL_getD mk d l k i hlt)
  refine .inl ⟨_,this,⟨i+1,by omega,?_⟩,by simp only [Int.toNat_natCast];omega⟩
  rw [take_succ_getD hlt d,markL_snoc]
 ·obtain rfl:i=l.length:=by omega
  have:=he (markL mk k (l.take l.length)).1 (markL mk k l).2 (by omega)
  rw [hl2] at this
  refine .inr ⟨_,this,?_⟩
  rw [List.take_length]
theorem opsS_heldK (l:Lq1) (k:Int) (h:l.length≤1048576) (h0:0≤k) (h1:k≤10000000):lheldOpS (lmarkOpS k l).2 k=(lmarkOpS k l).1:=by
 obtain ⟨q1,q2,q3⟩:=heldmark (fun k=>(k,lmarkText (k+1),lmarkText (k+1+1))) 3 (by omega) dOp f_lmarkOpS_0 f_lheldOpS_0 (fun i k h hi h0 h1 h2=>by
  have w1:IntKind.wrap .i64 (k+(1:Int))=k+1:=wrap64 (by omega) (by omega)
  have w2:IntKind.wrap .i64 (k+1+(1:Int))=k+1+1:=wrap64 (by omega) (by omega)
  have w3:IntKind.wrap .i64 (k+1+1+(1:Int))=k+3:=by rw [wrap64 (by omega) (by omega)];omega
  simp only [f_lmarkOpS_0,w1,w2,w3,List.set_set,getD_set hi]) (fun x i k hx hi h0 h1 he=>by
  have w1:IntKind.wrap .i64 (k+(1:Int))=k+1:=wrap64 (by omega) (by omega)
  have w2:IntKind.wrap .i64 (k+1+(1:Int))=k+1+1:=wrap64 (by omega) (by omega)
  have w3:IntKind.wrap .i64 (k+1+1+(1:Int))=k+3:=by rw [wrap64 (by omega) (by omega)];omega
  simp only [dOp] at he
  have e:(k != k)=false:=by simp
  simp only [f_lheldOpS_0,he,e,cond_false,w1,w2,w3,beq_self_eq_true,Bool.not_true]) l h k h0 h1
 have e1:lmarkOpS k l=foldN f_lmarkOpS_0 l.length 0 (k,l):=rfl
 have e2:∀ x,lheldOpS x k=cond (isInl (loopN (f_lheldOpS_0 x) x.length 0 k)) (getInl (-1) (loopN (f_lheldOpS_0 x) x.length 0 k)) (-1:Int):=fun x=>rfl
 rw [e1,e2,q3,q1];rfl
theorem markJobs_spec {l:List JobD} (hl:l.length≤1048576) (ho:∀ j∈l,shJob j) {k:Int} (h0:0≤k) (h1:k+(sumW wtJob l:Int)≤10000000) :
  q_lmarkJobS k l=true∧lmarkJobS k l=markL mkJob k l∧(markL mkJob k l).1=k+(sumW wtJob l:Int)∧q_lheldJobS (markL mkJob k l).2 k=true∧lheldJobS (markL mkJob k l).2 k=(markL mkJob k l).1:=by
 have hdj:((0:Int),(([]:Lq1),((0:Int),([]:List Int))))=dJob:=rfl
 have e1:it_lmarkJobS_0 k 0 l=(0,markL mkJob k l):=by
  refine mark_it dJob mkJob wtJob shJob mkJob_fst (fun k i h hi hl h0 h1 ho=>?_) (fun k h hl=>?_) hl ho h0 h1
  ·have c1:decide ((i:Int)<((h.length:Nat):Int))=true:=decide_eq_true (by omega)
   have c2:decide (0≤(i:Int)∧(i:Int)<((h.length:Nat):Int))=true:=decide_eq_true (by omega)
   obtain ⟨s1,s2⟩:=ho
   have hw:=mkJob_fst k _ h0 h1 ⟨s1,s2⟩
   simp only [wtJob] at h1
   have w1:IntKind.wrap .i64 (k+(1:Int))=k+1:=wrap64 (by omega) (by omega)
   have m1:=(opsS_marksK (h.getD i dJob).2.1 (k+1) s1 (by omega) (by omega)).1
   have w2:IntKind.wrap .i64 ((lmarkOpS (k+1) (h.getD i dJob).2.1).1+(1:Int))=(lmarkOpS (k+1) (h.getD i dJob).2.1).1+1:=wrap64 (by omega) (by omega)
   have q1:=(opsS_q s1 (k:=k+1) (by omega) (by omega)).1
   have q2:=(intsS_marksK (h.getD i dJob).2.2.2 ((lmarkOpS (k+1) (h.getD i dJob).2.1).1+1) s2 (by omega) (by omega)).2.2.2.1
   simp only [ss_lmarkJobS_0,hdj,c1,c2,cond_true,Int.toNat_natCast,List.length_set,getD_set hi,List.set_set,w1,w2,q1,q2,wrapU i (by omega)]
   rfl
  ·have c1:decide (((h.length:Nat):Int)<((h.length:Nat):Int))=false:=decide_eq_false (by omega)
   simp only [ss_lmarkJobS_0,c1,cond_false]
 have e2:it_lheldJobS_0 (markL mkJob k l).2 k 0=(1,0,(markL mkJob k l).1):=by
  refine held_it dJob mkJob wtJob shJob mkJob_fst (fun k i h x hi hl h0 h1 ho hg=>?_) (fun k h hl=>?_) hl ho h0 h1
  ·have c1:decide ((i:Int)<((h.length:Nat):Int))=true:=decide_eq_true (by omega)
   have c2:decide (0≤(i:Int)∧(i:Int)<((h.length:Nat):Int))=true:=decide_eq_true (by omega)
   obtain ⟨s1,s2⟩:=ho
   simp only [wtJob] at h1
   have w1:IntKind.wrap .i64 (k+(1:Int))=k+1:=wrap64 (by omega) (by omega)
   have m1:=(opsS_marksK x.2.1 (k+1) s1 (by omega) (by omega)).1
   have w2:IntKind.wrap .i64 ((lmarkOpS (k+1) x.2.1).1+(1:Int))=(lmarkOpS (k+1) x.2.1).1+1:=wrap64 (by omega) (by omega)
   have q1:=(opsS_q s1 (k:=k+1) (by omega) (by omega)).2
   have q3:=opsS_heldK x.2.1 (k+1) s1 (by omega) (by omega)
   obtain ⟨t1,_,t3,_,t5⟩:=intsS_marksK x.2.2.2 ((lmarkOpS (k+1) x.2.1).1+1) s2 (by omega) (by omega)
   have n1:(k != k)=false:=by simp
   have n2:∀ y:Int,(y != y)=false:=fun y=>by simp
   have d1:decide ((lmarkOpS (k+1) x.2.1).1<0)=false:=decide_eq_false (by omega)
   have d2:decide ((lmarkIntS ((lmarkOpS (k+1) x.2.1).1+1) x.2.2.2).1<0)=false:=decide_eq_false (by omega)
   simp only [mkJob] at hg
   simp only [ss_lheldJobS_0,hdj,c1,c2,cond_true,Int.toNat_natCast,hg,n2,cond_false,w1,w2,q1,q3,t3,t5,d1,d2,wrapU i (by omega)]
   rfl
  ·have c1:decide (((h.length:Nat):Int)<((h.length:Nat):Int))=false:=decide_eq_false (by omega)
   simp only [ss_lheldJobS_0,c1,cond_false]
 refine ⟨by simp only [q_lmarkJobS,e1];rfl,by simp only [lmarkJobS,e1],markL_fst mkJob wtJob shJob mkJob_fst l k ho h0 h1,by simp only [q_lheldJobS,e2];rfl,by simp only [lheldJobS,e2];rfl⟩
theorem choices_marksK (l:LIbe) (k:Int) (h:l.length≤1048576) (h0:0≤k) (h1:k≤10000000):(lmarkChoiceS k l).1=k+2*(l.length:Int)∧(lmarkChoiceS k l).2.length=l.length∧lheldChoiceS (lmarkChoiceS k l).2 k=(lmarkChoiceS k l).1∧q_lmarkChoiceS k l=true∧q_lheldChoiceS (lmarkChoiceS k l).2 k=true:=by
 obtain ⟨q1,q2,q3⟩:=heldmark (fun k=>(k,Int.tmod (k+1) 3==0)) 2 (by omega) ((0:Int),false) f_lmarkChoiceS_0 f_lheldChoiceS_0 (fun i k h hi h0 h1 h2=>by
  have w1:IntKind.wrap .i64 (k+(1:Int))=k+1:=wrap64 (by omega) (by omega)
  have w2:IntKind.wrap .i64 (k+1+(1:Int))=k+2:=by rw [wrap64 (by omega) (by omega)];omega
  simp only [f_lmarkChoiceS_0,w1,w2,List.set_set,getD_set hi]) (fun x i k hx hi h0 h1 he=>by
  have w1:IntKind.wrap .i64 (k+(1:Int))=k+1:=wrap64 (by omega) (by omega)
  have w2:IntKind.wrap .i64 (k+1+(1:Int))=k+2:=by rw [wrap64 (by omega) (by omega)];omega
  have e:(k != k)=false:=by simp
  simp only [f_lheldChoiceS_0,he,e,cond_false,w1,w2,beq_self_eq_true,Bool.not_true]) l h k h0 h1
 have e1:lmarkChoiceS k l=foldN f_lmarkChoiceS_0 l.length 0 (k,l):=rfl
 have e2:∀ x,lheldChoiceS x k=cond (isInl (loopN (f_lheldChoiceS_0 x) x.length 0 k)) (getInl (-1) (loopN (f_lheldChoiceS_0 x) x.length 0 k)) (-1:Int):=fun x=>rfl
 rw [e1]
 refine ⟨q1,q2,by rw [e2,q3,q1];rfl,by simp only [q_lmarkChoiceS,okL];simp;omega,by simp only [q_lheldChoiceS,okL,q2];simp;omega⟩
theorem coord_marks (a b c d a' b' c' d':Int) {jobs:List JobD} {log:LIbe} (h3:jobs.length≤1048576) (hj:∀ j∈jobs,shJob j) (h4:log.length≤1048576) (hw:sumW wtJob jobs+2*log.length≤9000000) :
  q_lmarkCoord a b c d 1 jobs log=true∧0≤(lmarkCoord a b c d 1 jobs log).1∧q_lheldCoord a' b' c' (lmarkCoord a b c d 1 jobs log).2.1 (lmarkCoord a b c d 1 jobs log).2.2 d' 1=true ∧
   lheldCoord a' b' c' (lmarkCoord a b c d 1 jobs log).2.1 (lmarkCoord a b c d 1 jobs log).2.2 d' 1=(lmarkCoord a b c d 1 jobs log).1:=by
 obtain ⟨m1,m2,m3,m4,m5⟩:=markJobs_spec h3 hj (k:=1) (by decide) (by omega)
 have key:∀ k:Int,0≤k→k≤10000000→(lmarkChoiceS k log).1=k+2*(log.length:Int)∧lheldChoiceS (lmarkChoiceS k log).2 k=(lmarkChoiceS k log).1∧q_lmarkChoiceS k log=true∧q_lheldChoiceS (lmarkChoiceS k log).2 k=true:=by
  intro k k0 k1
  obtain ⟨t1,_,t3,t4,t5⟩:=choices_marksK log k (by omega) k0 k1
  exact ⟨t1,t3,t4,t5⟩
 obtain ⟨t1,t3,t4,t5⟩:=key (markL mkJob 1 jobs).1 (by omega) (by omega)
 have d1:decide ((markL mkJob 1 jobs).1<0)=false:=decide_eq_false (by omega)
 have d2:decide ((lmarkChoiceS (markL mkJob 1 jobs).1 log).1<0)=false:=decide_eq_false (by omega)
 simp only [q_lmarkCoord,lmarkCoord,q_lheldCoord,lheldCoord,m1,m2,m4,m5,t3,t4,t5,d1,d2,cond_false,Bool.and_self]
 refine ⟨trivial,by omega,trivial,trivial⟩
theorem shJob_of {j:JobD} (h:okJob j):shJob j:=⟨okOps_len h.1,h.2⟩
theorem bigJobs_of {l:List JobD} (h:bigT tq2 l=true):bigJobs l:=by
 have h:(decide (l.length≤maxLen)&&l.all fun j=>(Lit.int .i64 j.1).wf&&(bigT tq4 j.2.1&&((Lit.int .i64 j.2.2.1).wf&&(decide (j.2.2.2.length≤maxLen)&&j.2.2.2.all fun x=>(Lit.int .i64 x).wf))))=true:=h
 have hm:maxLen=9223372036854775807:=by decide
 rw [hm] at h
 simp only [Bool.and_eq_true,decide_eq_true_eq,List.all_eq_true] at h
 exact ⟨h.1,fun j hj=>⟨bigOps_of (h.2 j hj).2.1,(h.2 j hj).2.2.2.1⟩⟩
theorem bigLog_of {l:LIbe} (h:bigT tq3 l=true):l.length≤9223372036854775807:=by
 have h:(decide (l.length≤maxLen)&&l.all fun j=>(Lit.int .i64 j.1).wf&&true)=true:=h
 have hm:maxLen=9223372036854775807:=by decide
 rw [hm] at h
 simp only [Bool.and_eq_true,decide_eq_true_eq] at h
 exact h.1
theorem bigCoord_of {a0 a1 a2:Int} {a3:List JobD} {a4:LIbe} {a5:Int} (h:bigT tq6 (a0,(a1,(a2,(a3,(a4,a5)))))=true):bigJobs a3∧a4.length≤9223372036854775807:=by
 have h:((Lit.int .i64 a0).wf&&((Lit.int .i64 a1).wf&&((Lit.int .i64 a2).wf&&(bigT tq2 a3&&(bigT tq3 a4&&(Lit.int .i64 a5).wf)))))=true:=h
 simp only [Bool.and_eq_true] at h
 exact ⟨bigJobs_of h.2.2.2.1,bigLog_of h.2.2.2.2.1⟩
theorem sureAll_all (a0 a1 a2:Int) {a3:List JobD} {a4:LIbe} (a5:Int) (hb:bigJobs a3∧a4.length≤9223372036854775807):q_lFnExactSureAll a0 a1 a2 a3 a4 a5=true∧lFnExactSureAll a0 a1 a2 a3 a4 a5=true:=by
 obtain ⟨z1,z2⟩:=szCoord_spec hb.1 hb.2 a0 a1 a2 a5
 by_cases hd:lszCoord a0 a1 a2 a3 a4 a5 1048576<0
 ·simp only [q_lFnExactSureAll,lFnExactSureAll,z1,decide_eq_true hd,cond_true]
  exact ⟨rfl,trivial⟩
 ·obtain ⟨y1,y2,y3⟩:=z2 (by omega)
  have hw:=szCoord_w hb.1 hb.2 a0 a1 a2 a5 (by omega)
  have y4:a4.length≤1048577:=by omega
  have eq:=fun n l x s=>eqCoord_own y1 y2 y3 n l x s
  obtain ⟨e1,e2,e3,e4⟩:=eq a0 a1 a2 a5
  obtain ⟨c1,c2,c3⟩:=coordOk_same a0 a1 a2 a5 y1 y2 y3
  obtain ⟨i1,i2⟩:=iCopyO_spec a0 a1 a2 a5 y1 y2 y4
  obtain ⟨s1,s2⟩:=sCopyE_spec a0 a1 a2 a5 y1 y2 y4
  obtain ⟨m1,m2,m3,m4⟩:=coord_marks a0 a1 a2 a5 a0 a1 a2 a5 y1 (fun j h=>shJob_of (y2 j h)) y3 (by omega)
  have hs:q_sSureAll a0 a1 a2 a3 a4 a5=true∧q_iSureAll a0 a1 a2 a3 a4 a5=true∧∃ s:Int,sSureAll a0 a1 a2 a3 a4 a5=(a0,a1,a2,a3,a4,s)∧iSureAll a0 a1 a2 a3 a4 a5=(a0,a1,a2,s,a3,a4):=by
   simp only [q_sSureAll,q_iSureAll,sSureAll,iSureAll,c1,c2,c3,i1,i2,s1,s2]
   refine ⟨rfl,rfl,?_⟩
   cases sCoordOk a0 a1 a2 a3 a4 a5
   ·exact ⟨a5,rfl,rfl⟩
   ·exact ⟨_,rfl,rfl⟩
  obtain ⟨q1,q2,s,r1,r2⟩:=hs
  obtain ⟨f1,f2,_,_⟩:=eq a0 a1 a2 s
  obtain ⟨n1,n2,n3,n4⟩:=coord_marks a0 a1 a2 s a0 a1 a2 s y1 (fun j h=>shJob_of (y2 j h)) y3 (by omega)
  have d1:decide ((lmarkCoord a0 a1 a2 a5 1 a3 a4).1<0)=false:=decide_eq_false (by omega)
  have d2:decide ((lmarkCoord a0 a1 a2 s 1 a3 a4).1<0)=false:=decide_eq_false (by omega)
  have nn:∀ x:Int,(x != x)=false:=fun x=>by simp
  simp only [q_lFnExactSureAll,lFnExactSureAll,k1_lFnExactSureAll,k2_lFnExactSureAll,k3_lFnExactSureAll,k4_lFnExactSureAll,k5_lFnExactSureAll,k6_lFnExactSureAll,k7_lFnExactSureAll,z1,decide_eq_false hd,e1,e2,e3,e4,q1,q2,r1,r2,f1,f2,m1,n1,n3,n4,d1,d2,nn,cond_false,Bool.not_true,Bool.and_self]
  exact ⟨trivial,trivial⟩
theorem pre_of_lFnExactSureAll (a0 a1 a2:Int) (a3:List JobD) (a4:LIbe) (a5:Int) (h:bigT tq6 (a0,(a1,(a2,(a3,(a4,a5)))))=true):pre_lFnExactSureAll ((a0,a1,a2,a3,a4,a5,()),())=true:=(sureAll_all a0 a1 a2 a5 (bigCoord_of h)).1
theorem exact_lFnExactSureAll (a0 a1 a2:Int) (a3:List JobD) (a4:LIbe) (a5:Int) (h:bigT tq6 (a0,(a1,(a2,(a3,(a4,a5)))))=true):lFnExactSureAll a0 a1 a2 a3 a4 a5=true:=(sureAll_all a0 a1 a2 a5 (bigCoord_of h)).2

end Go.Proofs.Ytapikgcgahomlaa.Eng

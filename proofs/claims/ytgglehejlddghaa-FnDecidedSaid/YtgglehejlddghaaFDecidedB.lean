/- What the functions that FnDecided reaches compute: further. -/
import Derived.Test.YtgglehejlddghaaFDecidedA
namespace Go.Proofs.Ytgglehejlddghaa.Eng
open Go Go.RowKit
set_option linter.unusedSimpArgs false
set_option linter.unusedVariables false
set_option maxRecDepth 10000
noncomputable abbrev SM_sl9Crash:SS:=⟨[.ptr 0 0 1 0,.t true (.int .i64)],[.box [.t true (.int .i64),.all 1 3,.t true (.int .i64),.all 2 2,.all 3 3],.rows 32 true tq4,.rows 70 true t_ptt,.rows 32 true tq4]⟩
noncomputable def k1_sl9Crash (p2:Int) (h1:Lq1):=sReplayRecs (h1.take ((IntKind.wrap .i64 (p2+(IntKind.wrap .i64 (((h1.length:Nat):Int) - p2)))).toNat))
noncomputable def sl9Crash (x1:Int) (p0:Int) (p2:Int) (h1:Lq1) (h2:LBBe) (h3:Lq1):Int×Int×(Lq1)×(LBBe)×Lq1:=(cond (decide (x1<(0:Int))) (cond (decide ((0:Int) > (IntKind.wrap .i64 (((h1.length:Nat):Int) - p2)))) (p0,(((IntKind.wrap .i64 (p2+(IntKind.wrap .i64 (((h1.length:Nat):Int) - p2)))).toNat:Nat):Int),h1.take ((IntKind.wrap .i64 (p2+(IntKind.wrap .i64 (((h1.length:Nat):Int) - p2)))).toNat),((k1_sl9Crash p2 h1).2.1),((k1_sl9Crash p2 h1).2.2)) (p0,(((IntKind.wrap .i64 (p2+(0:Int))).toNat:Nat):Int),h1.take ((IntKind.wrap .i64 (p2+(0:Int))).toNat),((sReplayRecs (h1.take ((IntKind.wrap .i64 (p2+(0:Int))).toNat))).2.1),((sReplayRecs (h1.take ((IntKind.wrap .i64 (p2+(0:Int))).toNat))).2.2))) (cond (decide (x1 > (IntKind.wrap .i64 (((h1.length:Nat):Int) - p2)))) (p0,(((IntKind.wrap .i64 (p2+(IntKind.wrap .i64 (((h1.length:Nat):Int) - p2)))).toNat:Nat):Int),h1.take ((IntKind.wrap .i64 (p2+(IntKind.wrap .i64 (((h1.length:Nat):Int) - p2)))).toNat),((k1_sl9Crash p2 h1).2.1),((k1_sl9Crash p2 h1).2.2)) (p0,(((IntKind.wrap .i64 (p2+x1)).toNat:Nat):Int),h1.take ((IntKind.wrap .i64 (p2+x1)).toNat),((sReplayRecs (h1.take ((IntKind.wrap .i64 (p2+x1)).toNat))).2.1),((sReplayRecs (h1.take ((IntKind.wrap .i64 (p2+x1)).toNat))).2.2))))
noncomputable abbrev e_sl9Crash (r:Int×Int×(Lq1)×(LBBe)×Lq1):AV×List AObj×List Nat:=((.tup []),[(.box [(.t true (.int .i64) r.1),(.all 1 3),(.t true (.int .i64) r.2.1),(.all 2 2),(.all 3 3)]),(.rows 32 true tq4 r.2.2.1),(.rows 70 true t_ptt r.2.2.2.1),(.rows 32 true tq4 r.2.2.2.2)],[1,2,3])
noncomputable abbrev F_sl9Crash (r:Int×Int×(Lq1)×(LBBe)×Lq1):=some (e_sl9Crash r)
noncomputable abbrev g_sl9Crash:SM_sl9Crash.den→AV×List AObj×List Nat:=fun d=>e_sl9Crash (sl9Crash d.1.2.1 d.2.1.1 d.2.1.2.2.1 d.2.2.1 d.2.2.2.1 d.2.2.2.2.1)
noncomputable def q_sl9Crash (x1:Int) (p0:Int) (p2:Int) (h1:Lq1) (h2:LBBe) (h3:Lq1):Bool:=cond (decide (x1<(0:Int))) (cond (decide ((0:Int) > (IntKind.wrap .i64 (((h1.length:Nat):Int) - p2)))) ((decide (0≤(0:Int)∧(0:Int)≤(IntKind.wrap .i64 (p2+(IntKind.wrap .i64 (((h1.length:Nat):Int) - p2))))∧(IntKind.wrap .i64 (p2+(IntKind.wrap .i64 (((h1.length:Nat):Int) - p2))))≤((h1.length:Nat):Int)))&&(q_sReplayRecs (h1.take ((IntKind.wrap .i64 (p2+(IntKind.wrap .i64 (((h1.length:Nat):Int) - p2)))).toNat)))) ((decide (0≤(0:Int)∧(0:Int)≤(IntKind.wrap .i64 (p2+(0:Int)))∧(IntKind.wrap .i64 (p2+(0:Int)))≤((h1.length:Nat):Int)))&&(q_sReplayRecs (h1.take ((IntKind.wrap .i64 (p2+(0:Int))).toNat))))) (cond (decide (x1 > (IntKind.wrap .i64 (((h1.length:Nat):Int) - p2)))) ((decide (0≤(0:Int)∧(0:Int)≤(IntKind.wrap .i64 (p2+(IntKind.wrap .i64 (((h1.length:Nat):Int) - p2))))∧(IntKind.wrap .i64 (p2+(IntKind.wrap .i64 (((h1.length:Nat):Int) - p2))))≤((h1.length:Nat):Int)))&&(q_sReplayRecs (h1.take ((IntKind.wrap .i64 (p2+(IntKind.wrap .i64 (((h1.length:Nat):Int) - p2)))).toNat)))) ((decide (0≤(0:Int)∧(0:Int)≤(IntKind.wrap .i64 (p2+x1))∧(IntKind.wrap .i64 (p2+x1))≤((h1.length:Nat):Int)))&&(q_sReplayRecs (h1.take ((IntKind.wrap .i64 (p2+x1)).toNat)))))
noncomputable abbrev pre_sl9Crash:SM_sl9Crash.den→Bool:=fun d=>q_sl9Crash d.1.2.1 d.2.1.1 d.2.1.2.2.1 d.2.2.1 d.2.2.2.1 d.2.2.2.2.1
theorem run_sl9Crash:RunE false [] [1,2,3] [(0,1,1,32,tq4),(0,3,2,70,t_ptt),(0,4,3,32,tq4)] G36 (fun _ _=>none) Try.f56 SM_sl9Crash pre_sl9Crash g_sl9Crash:=by
 rintro ⟨⟨_,x1,_⟩,⟨⟨p0,_,p2,_,_,_⟩,h1,h2,h3,_⟩⟩ hp
 change q_sl9Crash x1 p0 p2 h1 h2 h3=true at hp
 unfold q_sl9Crash at hp
 refine Eq.trans (b:=(cond (decide (x1<(0:Int))) (cond (decide ((0:Int) > (IntKind.wrap .i64 (((h1.length:Nat):Int) - p2)))) (cond (decide (0≤(0:Int)∧(0:Int)≤(IntKind.wrap .i64 (p2+(IntKind.wrap .i64 (((h1.length:Nat):Int) - p2))))∧(IntKind.wrap .i64 (p2+(IntKind.wrap .i64 (((h1.length:Nat):Int) - p2))))≤((h1.length:Nat):Int))) (cond (q_sReplayRecs (h1.take ((IntKind.wrap .i64 (p2+(IntKind.wrap .i64 (((h1.length:Nat):Int) - p2)))).toNat))) (some (e_sl9Crash (p0,(((IntKind.wrap .i64 (p2+(IntKind.wrap .i64 (((h1.length:Nat):Int) - p2)))).toNat:Nat):Int),h1.take ((IntKind.wrap .i64 (p2+(IntKind.wrap .i64 (((h1.length:Nat):Int) - p2)))).toNat),((k1_sl9Crash p2 h1).2.1),((k1_sl9Crash p2 h1).2.2)))) none) none) (cond (decide (0≤(0:Int)∧(0:Int)≤(IntKind.wrap .i64 (p2+(0:Int)))∧(IntKind.wrap .i64 (p2+(0:Int)))≤((h1.length:Nat):Int))) (cond (q_sReplayRecs (h1.take ((IntKind.wrap .i64 (p2+(0:Int))).toNat))) (some (e_sl9Crash (p0,(((IntKind.wrap .i64 (p2+(0:Int))).toNat:Nat):Int),h1.take ((IntKind.wrap .i64 (p2+(0:Int))).toNat),((sReplayRecs (h1.take ((IntKind.wrap .i64 (p2+(0:Int))).toNat))).2.1),((sReplayRecs (h1.take ((IntKind.wrap .i64 (p2+(0:Int))).toNat))).2.2)))) none) none)) (cond (decide (x1 > (IntKind.wrap .i64 (((h1.length:Nat):Int) - p2)))) (cond (decide (0≤(0:Int)∧(0:Int)≤(IntKind.wrap .i64 (p2+(IntKind.wrap .i64 (((h1.length:Nat):Int) - p2))))∧(IntKind.wrap .i64 (p2+(IntKind.wrap .i64 (((h1.length:Nat):Int) - p2))))≤((h1.length:Nat):Int))) (cond (q_sReplayRecs (h1.take ((IntKind.wrap .i64 (p2+(IntKind.wrap .i64 (((h1.length:Nat):Int) - p2)))).toNat))) (some (e_sl9Crash (p0,(((IntKind.wrap .i64 (p2+(IntKind.wrap .i64 (((h1.length:Nat):Int) - p2)))).toNat:Nat):Int),h1.take ((IntKind.wrap .i64 (p2+(IntKind.wrap .i64 (((h1.length:Nat):Int) - p2)))).toNat),((k1_sl9Crash p2 h1).2.1),((k1_sl9Crash p2 h1).2.2)))) none) none) (cond (decide (0≤(0:Int)∧(0:Int)≤(IntKind.wrap .i64 (p2+x1))∧(IntKind.wrap .i64 (p2+x1))≤((h1.length:Nat):Int))) (cond (q_sReplayRecs (h1.take ((IntKind.wrap .i64 (p2+x1)).toNat))) (some (e_sl9Crash (p0,(((IntKind.wrap .i64 (p2+x1)).toNat:Nat):Int),h1.take ((IntKind.wrap .i64 (p2+x1)).toNat),((sReplayRecs (h1.take ((IntKind.wrap .i64 (p2+x1)).toNat))).2.1),((sReplayRecs (h1.take ((IntKind.wrap .i64 (p2+x1)).toNat))).2.2)))) none) none)))) (by kernel_rfl) ?_
 exact (cndQ (F:=F_sl9Crash) hp (fun hp=>(cndQ (F:=F_sl9Crash) hp (fun hp=>(cndA hp fun hp=>(cndT hp fun _h=>rfl))) (fun hp=>(cndA hp fun hp=>(cndT hp fun _h=>rfl))))) (fun hp=>(cndQ (F:=F_sl9Crash) hp (fun hp=>(cndA hp fun hp=>(cndT hp fun _h=>rfl))) (fun hp=>(cndA hp fun hp=>(cndT hp fun _h=>rfl))))))
noncomputable abbrev m_sl9Crash:=win winIds (msum SM_sl9Crash pre_sl9Crash g_sl9Crash)
theorem c_sl9Crash:MContract Try.prog 56 m_sl9Crash:=(MContract.of_dataE false [] [1,2,3] [(0,1,1,32,tq4),(0,3,2,70,t_ptt),(0,4,3,32,tq4)]  G36 (by kernel_rfl) (hl0 (by kernel_rfl)) _ _ _ run_sl9Crash).win winIds
noncomputable def S37:Tab:=Tab.add S36 56 (m_sl9Crash)
noncomputable def QF37:FuncId→Bool:=QF36
theorem G37:Good Try.prog tt S37 QF37:=G36.addM c_sl9Crash (win_local _) ⟨Try.f56,by kernel_rfl,by kernel_rfl,by kernel_rfl⟩ (by kernel_rfl)

noncomputable abbrev jS57:List Sh:=.junk::.junk::jS55
noncomputable abbrev jS58:List Sh:=.junk::jS57
noncomputable abbrev u58:=((),(),(),(),u54)
noncomputable abbrev u65:=((),(),u63)
noncomputable abbrev jA57:List AV:=.junk::.junk::jA55
noncomputable abbrev jA58:List AV:=.junk::jA57
noncomputable abbrev SM_sl9Draw:SS:=⟨[.ptr 0 0 1 0,.t true (.int .i64)],[.box [.t false t_sy,.t true (.int .i64),.t true (.int .i64)]]⟩
noncomputable abbrev S_sl9Draw_0:SS:=⟨(.ptr 0 0 1 0::.junk::.junk::.junk::.ptr 1 0 1 0::.ptr 2 0 1 0::.t true (.int .i64)::jS57),[.box [.t false t_sy,.t true (.int .i64),.t true (.int .i64)],.box [.t true (.int .i64),.nil,.t true (.int .i64),.nil,.nil],.box [.t true (.int .i64),.all 3 3,.t true (.int .i64),.all 4 2,.all 5 3],.rows 32 true tq4,.rows 70 true t_ptt,.rows 32 true tq4]⟩
noncomputable abbrev E_sl9Draw_0_0:SS:=⟨(.junk::.junk::.junk::.junk::.ptr 1 0 1 0::.ptr 2 0 1 0::jS58),[.box [.t false t_sy,.t true (.int .i64),.t true (.int .i64)],.box [.t true (.int .i64),.nil,.t true (.int .i64),.nil,.nil],.box [.t true (.int .i64),.all 3 3,.t true (.int .i64),.all 4 2,.all 5 3],.rows 32 true tq4,.rows 70 true t_ptt,.rows 32 true tq4]⟩
noncomputable def k2_sl9Draw (p0:List Int) (p1:Int) (p2:Int):=sl1Below (8:Int) ((sl1Below (6:Int) p0 p1 p2).2.1) ((sl1Below (6:Int) p0 p1 p2).2.2.1) ((sl1Below (6:Int) p0 p1 p2).2.2.2)
noncomputable def k3_sl9Draw (p0:List Int) (p1:Int) (p2:Int):=sl7Draw ((k2_sl9Draw p0 p1 p2).2.1) ((k2_sl9Draw p0 p1 p2).2.2.1) ((k2_sl9Draw p0 p1 p2).2.2.2)
noncomputable def k4_sl9Draw (p0:List Int) (p1:Int) (p2:Int) (r0:Int) (r2:Int) (h3:Lq1) (h4:LBBe) (h5:Lq1):=sl9Hold (IntKind.wrap .i64 ((1:Int)+((sl1Below (6:Int) p0 p1 p2).1))) r0 r2 ((k3_sl9Draw p0 p1 p2).2.2.2) h3 h4 h5
noncomputable def k5_sl9Draw (p0:List Int) (p1:Int) (p2:Int) (h5:Lq1):=sl1Below ((h5.length:Nat):Int) ((k2_sl9Draw p0 p1 p2).2.1) ((k2_sl9Draw p0 p1 p2).2.2.1) ((k2_sl9Draw p0 p1 p2).2.2.2)
noncomputable def k6_sl9Draw (p0:List Int) (p1:Int) (p2:Int) (h5:Lq1):=sl1Once (4:Int) ((k5_sl9Draw p0 p1 p2 h5).2.1) ((k5_sl9Draw p0 p1 p2 h5).2.2.1) ((k5_sl9Draw p0 p1 p2 h5).2.2.2)
noncomputable def k7_sl9Draw (p0:List Int) (p1:Int) (p2:Int) (r0:Int) (r2:Int) (h3:Lq1) (h4:LBBe) (h5:Lq1):=sl9Decide (((h5.getD (((k5_sl9Draw p0 p1 p2 h5).1).toNat) ((0:Int),((0:Int),[]))).2).1) (!((k6_sl9Draw p0 p1 p2 h5).1)) r0 r2 h3 h4 h5
noncomputable def k8_sl9Draw (p0:List Int) (p1:Int) (p2:Int):=sl1Once (4:Int) ((k2_sl9Draw p0 p1 p2).2.1) ((k2_sl9Draw p0 p1 p2).2.2.1) ((k2_sl9Draw p0 p1 p2).2.2.2)
noncomputable def k9_sl9Draw (p0:List Int) (p1:Int) (p2:Int) (r0:Int) (r2:Int) (h3:Lq1) (h4:LBBe) (h5:Lq1):=sl9Decide (IntKind.wrap .i64 ((1:Int)+((sl1Below (6:Int) p0 p1 p2).1))) (!((k8_sl9Draw p0 p1 p2).1)) r0 r2 h3 h4 h5
noncomputable def k10_sl9Draw (p0:List Int) (p1:Int) (p2:Int):=sl1Below (3:Int) ((k2_sl9Draw p0 p1 p2).2.1) ((k2_sl9Draw p0 p1 p2).2.2.1) ((k2_sl9Draw p0 p1 p2).2.2.2)
noncomputable def st_sl9Draw_0 (x6:Int) (p0:List Int) (p1:Int) (p2:Int) (q0:Int) (q2:Int) (r0:Int) (r2:Int) (h3:Lq1) (h4:LBBe) (h5:Lq1):RT S_sl9Draw_0.den:=(.br (decide (x6 > (0:Int))) (.br (q_sl1Below (6:Int) p0 p1 p2) (.br (q_sl1Below (8:Int) ((sl1Below (6:Int) p0 p1 p2).2.1) ((sl1Below (6:Int) p0 p1 p2).2.2.1) ((sl1Below (6:Int) p0 p1 p2).2.2.2)) (.br (((k2_sl9Draw p0 p1 p2).1)==(0:Int)) (.br (q_sl7Draw ((k2_sl9Draw p0 p1 p2).2.1) ((k2_sl9Draw p0 p1 p2).2.2.1) ((k2_sl9Draw p0 p1 p2).2.2.2)) (.br (q_sl9Hold (IntKind.wrap .i64 ((1:Int)+((sl1Below (6:Int) p0 p1 p2).1))) r0 r2 ((k3_sl9Draw p0 p1 p2).2.2.2) h3 h4 h5) (.next (((),(),(),(),(),(),IntKind.wrap .i64 (x6 - (1:Int)),u58),((((k3_sl9Draw p0 p1 p2).1),((k3_sl9Draw p0 p1 p2).2.1),((k3_sl9Draw p0 p1 p2).2.2.1),()),(q0,(),q2,(),(),()),(((k4_sl9Draw p0 p1 p2 r0 r2 h3 h4 h5).2.1),(),((k4_sl9Draw p0 p1 p2 r0 r2 h3 h4 h5).2.2.1),(),(),()),((k4_sl9Draw p0 p1 p2 r0 r2 h3 h4 h5).2.2.2.2.1),((k4_sl9Draw p0 p1 p2 r0 r2 h3 h4 h5).2.2.2.2.2.1),((k4_sl9Draw p0 p1 p2 r0 r2 h3 h4 h5).2.2.2.2.2.2),()))) .fail) .fail) (.br (((k2_sl9Draw p0 p1 p2).1)==(1:Int)) (.br (q_sl7Draw ((k2_sl9Draw p0 p1 p2).2.1) ((k2_sl9Draw p0 p1 p2).2.2.1) ((k2_sl9Draw p0 p1 p2).2.2.2)) (.br (q_sl9Hold (IntKind.wrap .i64 ((1:Int)+((sl1Below (6:Int) p0 p1 p2).1))) r0 r2 ((k3_sl9Draw p0 p1 p2).2.2.2) h3 h4 h5) (.next (((),(),(),(),(),(),IntKind.wrap .i64 (x6 - (1:Int)),u58),((((k3_sl9Draw p0 p1 p2).1),((k3_sl9Draw p0 p1 p2).2.1),((k3_sl9Draw p0 p1 p2).2.2.1),()),(q0,(),q2,(),(),()),(((k4_sl9Draw p0 p1 p2 r0 r2 h3 h4 h5).2.1),(),((k4_sl9Draw p0 p1 p2 r0 r2 h3 h4 h5).2.2.1),(),(),()),((k4_sl9Draw p0 p1 p2 r0 r2 h3 h4 h5).2.2.2.2.1),((k4_sl9Draw p0 p1 p2 r0 r2 h3 h4 h5).2.2.2.2.2.1),((k4_sl9Draw p0 p1 p2 r0 r2 h3 h4 h5).2.2.2.2.2.2),()))) .fail) .fail) (.br (((k2_sl9Draw p0 p1 p2).1)==(2:Int)) (.br (q_sl7Draw ((k2_sl9Draw p0 p1 p2).2.1) ((k2_sl9Draw p0 p1 p2).2.2.1) ((k2_sl9Draw p0 p1 p2).2.2.2)) (.br (q_sl9Hold (IntKind.wrap .i64 ((1:Int)+((sl1Below (6:Int) p0 p1 p2).1))) r0 r2 ((k3_sl9Draw p0 p1 p2).2.2.2) h3 h4 h5) (.next (((),(),(),(),(),(),IntKind.wrap .i64 (x6 - (1:Int)),u58),((((k3_sl9Draw p0 p1 p2).1),((k3_sl9Draw p0 p1 p2).2.1),((k3_sl9Draw p0 p1 p2).2.2.1),()),(q0,(),q2,(),(),()),(((k4_sl9Draw p0 p1 p2 r0 r2 h3 h4 h5).2.1),(),((k4_sl9Draw p0 p1 p2 r0 r2 h3 h4 h5).2.2.1),(),(),()),((k4_sl9Draw p0 p1 p2 r0 r2 h3 h4 h5).2.2.2.2.1),((k4_sl9Draw p0 p1 p2 r0 r2 h3 h4 h5).2.2.2.2.2.1),((k4_sl9Draw p0 p1 p2 r0 r2 h3 h4 h5).2.2.2.2.2.2),()))) .fail) .fail) (.br (((k2_sl9Draw p0 p1 p2).1)==(3:Int)) (.br (q_sl7Draw ((k2_sl9Draw p0 p1 p2).2.1) ((k2_sl9Draw p0 p1 p2).2.2.1) ((k2_sl9Draw p0 p1 p2).2.2.2)) (.br (q_sl9Hold (IntKind.wrap .i64 ((1:Int)+((sl1Below (6:Int) p0 p1 p2).1))) r0 r2 ((k3_sl9Draw p0 p1 p2).2.2.2) h3 h4 h5) (.next (((),(),(),(),(),(),IntKind.wrap .i64 (x6 - (1:Int)),u58),((((k3_sl9Draw p0 p1 p2).1),((k3_sl9Draw p0 p1 p2).2.1),((k3_sl9Draw p0 p1 p2).2.2.1),()),(q0,(),q2,(),(),()),(((k4_sl9Draw p0 p1 p2 r0 r2 h3 h4 h5).2.1),(),((k4_sl9Draw p0 p1 p2 r0 r2 h3 h4 h5).2.2.1),(),(),()),((k4_sl9Draw p0 p1 p2 r0 r2 h3 h4 h5).2.2.2.2.1),((k4_sl9Draw p0 p1 p2 r0 r2 h3 h4 h5).2.2.2.2.2.1),((k4_sl9Draw p0 p1 p2 r0 r2 h3 h4 h5).2.2.2.2.2.2),()))) .fail) .fail) (.br (((k2_sl9Draw p0 p1 p2).1)==(4:Int)) (.br (decide (((h5.length:Nat):Int) > (0:Int))) (.br (q_sl1Below ((h5.length:Nat):Int) ((k2_sl9Draw p0 p1 p2).2.1) ((k2_sl9Draw p0 p1 p2).2.2.1) ((k2_sl9Draw p0 p1 p2).2.2.2)) (.br (decide (0≤((k5_sl9Draw p0 p1 p2 h5).1)∧((k5_sl9Draw p0 p1 p2 h5).1)<((h5.length:Nat):Int))) (.br (q_sl1Once (4:Int) ((k5_sl9Draw p0 p1 p2 h5).2.1) ((k5_sl9Draw p0 p1 p2 h5).2.2.1) ((k5_sl9Draw p0 p1 p2 h5).2.2.2)) (.br (q_sl9Decide (((h5.getD (((k5_sl9Draw p0 p1 p2 h5).1).toNat) ((0:Int),((0:Int),[]))).2).1) (!((k6_sl9Draw p0 p1 p2 h5).1)) r0 r2 h3 h4 h5) (.next (((),(),(),(),(),(),IntKind.wrap .i64 (x6 - (1:Int)),u58),((((k6_sl9Draw p0 p1 p2 h5).2.1),((k6_sl9Draw p0 p1 p2 h5).2.2.1),((k6_sl9Draw p0 p1 p2 h5).2.2.2),()),(q0,(),q2,(),(),()),(((k7_sl9Draw p0 p1 p2 r0 r2 h3 h4 h5).2.1),(),((k7_sl9Draw p0 p1 p2 r0 r2 h3 h4 h5).2.2.1),(),(),()),((k7_sl9Draw p0 p1 p2 r0 r2 h3 h4 h5).2.2.2.1),((k7_sl9Draw p0 p1 p2 r0 r2 h3 h4 h5).2.2.2.2.1),((k7_sl9Draw p0 p1 p2 r0 r2 h3 h4 h5).2.2.2.2.2),()))) .fail) .fail) .fail) .fail) (.br (q_sl1Once (4:Int) ((k2_sl9Draw p0 p1 p2).2.1) ((k2_sl9Draw p0 p1 p2).2.2.1) ((k2_sl9Draw p0 p1 p2).2.2.2)) (.br (q_sl9Decide (IntKind.wrap .i64 ((1:Int)+((sl1Below (6:Int) p0 p1 p2).1))) (!((k8_sl9Draw p0 p1 p2).1)) r0 r2 h3 h4 h5) (.next (((),(),(),(),(),(),IntKind.wrap .i64 (x6 - (1:Int)),u58),((((k8_sl9Draw p0 p1 p2).2.1),((k8_sl9Draw p0 p1 p2).2.2.1),((k8_sl9Draw p0 p1 p2).2.2.2),()),(q0,(),q2,(),(),()),(((k9_sl9Draw p0 p1 p2 r0 r2 h3 h4 h5).2.1),(),((k9_sl9Draw p0 p1 p2 r0 r2 h3 h4 h5).2.2.1),(),(),()),((k9_sl9Draw p0 p1 p2 r0 r2 h3 h4 h5).2.2.2.1),((k9_sl9Draw p0 p1 p2 r0 r2 h3 h4 h5).2.2.2.2.1),((k9_sl9Draw p0 p1 p2 r0 r2 h3 h4 h5).2.2.2.2.2),()))) .fail) .fail)) (.br (((k2_sl9Draw p0 p1 p2).1)==(5:Int)) (.br (decide (((h5.length:Nat):Int) > (0:Int))) (.br (q_sl1Below ((h5.length:Nat):Int) ((k2_sl9Draw p0 p1 p2).2.1) ((k2_sl9Draw p0 p1 p2).2.2.1) ((k2_sl9Draw p0 p1 p2).2.2.2)) (.br (decide (0≤((k5_sl9Draw p0 p1 p2 h5).1)∧((k5_sl9Draw p0 p1 p2 h5).1)<((h5.length:Nat):Int))) (.br (q_sl1Once (4:Int) ((k5_sl9Draw p0 p1 p2 h5).2.1) ((k5_sl9Draw p0 p1 p2 h5).2.2.1) ((k5_sl9Draw p0 p1 p2 h5).2.2.2)) (.br (q_sl9Decide (((h5.getD (((k5_sl9Draw p0 p1 p2 h5).1).toNat) ((0:Int),((0:Int),[]))).2).1) (!((k6_sl9Draw p0 p1 p2 h5).1)) r0 r2 h3 h4 h5) (.next (((),(),(),(),(),(),IntKind.wrap .i64 (x6 - (1:Int)),u58),((((k6_sl9Draw p0 p1 p2 h5).2.1),((k6_sl9Draw p0 p1 p2 h5).2.2.1),((k6_sl9Draw p0 p1 p2 h5).2.2.2),()),(q0,(),q2,(),(),()),(((k7_sl9Draw p0 p1 p2 r0 r2 h3 h4 h5).2.1),(),((k7_sl9Draw p0 p1 p2 r0 r2 h3 h4 h5).2.2.1),(),(),()),((k7_sl9Draw p0 p1 p2 r0 r2 h3 h4 h5).2.2.2.1),((k7_sl9Draw p0 p1 p2 r0 r2 h3 h4 h5).2.2.2.2.1),((k7_sl9Draw p0 p1 p2 r0 r2 h3 h4 h5).2.2.2.2.2),()))) .fail) .fail) .fail) .fail) (.br (q_sl1Once (4:Int) ((k2_sl9Draw p0 p1 p2).2.1) ((k2_sl9Draw p0 p1 p2).2.2.1) ((k2_sl9Draw p0 p1 p2).2.2.2)) (.br (q_sl9Decide (IntKind.wrap .i64 ((1:Int)+((sl1Below (6:Int) p0 p1 p2).1))) (!((k8_sl9Draw p0 p1 p2).1)) r0 r2 h3 h4 h5) (.next (((),(),(),(),(),(),IntKind.wrap .i64 (x6 - (1:Int)),u58),((((k8_sl9Draw p0 p1 p2).2.1),((k8_sl9Draw p0 p1 p2).2.2.1),((k8_sl9Draw p0 p1 p2).2.2.2),()),(q0,(),q2,(),(),()),(((k9_sl9Draw p0 p1 p2 r0 r2 h3 h4 h5).2.1),(),((k9_sl9Draw p0 p1 p2 r0 r2 h3 h4 h5).2.2.1),(),(),()),((k9_sl9Draw p0 p1 p2 r0 r2 h3 h4 h5).2.2.2.1),((k9_sl9Draw p0 p1 p2 r0 r2 h3 h4 h5).2.2.2.2.1),((k9_sl9Draw p0 p1 p2 r0 r2 h3 h4 h5).2.2.2.2.2),()))) .fail) .fail)) (.br (((k2_sl9Draw p0 p1 p2).1)==(6:Int)) (.next (((),(),(),(),(),(),IntKind.wrap .i64 (x6 - (1:Int)),u58),((((k2_sl9Draw p0 p1 p2).2.1),((k2_sl9Draw p0 p1 p2).2.2.1),((k2_sl9Draw p0 p1 p2).2.2.2),()),(q0,(),q2,(),(),()),(r0,(),((h3.length:Nat):Int),(),(),()),h3,h4,h5,()))) (.br (q_sl1Below (3:Int) ((k2_sl9Draw p0 p1 p2).2.1) ((k2_sl9Draw p0 p1 p2).2.2.1) ((k2_sl9Draw p0 p1 p2).2.2.2)) (.br (q_sl9Crash ((k10_sl9Draw p0 p1 p2).1) r0 r2 h3 h4 h5) (.next (((),(),(),(),(),(),IntKind.wrap .i64 (x6 - (1:Int)),u58),((((k10_sl9Draw p0 p1 p2).2.1),((k10_sl9Draw p0 p1 p2).2.2.1),((k10_sl9Draw p0 p1 p2).2.2.2),()),(q0,(),q2,(),(),()),(((sl9Crash ((k10_sl9Draw p0 p1 p2).1) r0 r2 h3 h4 h5).1),(),((sl9Crash ((k10_sl9Draw p0 p1 p2).1) r0 r2 h3 h4 h5).2.1),(),(),()),((sl9Crash ((k10_sl9Draw p0 p1 p2).1) r0 r2 h3 h4 h5).2.2.1),((sl9Crash ((k10_sl9Draw p0 p1 p2).1) r0 r2 h3 h4 h5).2.2.2.1),((sl9Crash ((k10_sl9Draw p0 p1 p2).1) r0 r2 h3 h4 h5).2.2.2.2),()))) .fail) .fail)))))))) .fail) .fail) (.done (.exit 0) E_sl9Draw_0_0 ((u65),((p0,p1,p2,()),(q0,(),q2,(),(),()),(r0,(),r2,(),(),()),h3,h4,h5,()))))
noncomputable abbrev V_sl9Draw_0:=(Int)×(List Int)×(Int)×(Int)×(Int)×(Int)×(Lq1)×(LBBe)×(Lq1)
noncomputable abbrev A_sl9Draw_0:=Nat×(List Int)×(Int)×(Int)×(Int)×(Int)×(Lq1)×(LBBe)×(Lq1)
noncomputable def fl_sl9Draw_0:A_sl9Draw_0:=(99,([]:List Int),((0:Int):Int),((0:Int):Int),((0:Int):Int),((0:Int):Int),([]:Lq1),([]:LBBe),([]:Lq1))
noncomputable def ss_sl9Draw_0 (x6:Int) (p0:List Int) (p1:Int) (p2:Int) (q0:Int) (q2:Int) (r0:Int) (r2:Int) (h3:Lq1) (h4:LBBe) (h5:Lq1):V_sl9Draw_0 ⊕ A_sl9Draw_0:=(cond (decide (x6 > (0:Int))) (cond (q_sl1Below (6:Int) p0 p1 p2) (cond (q_sl1Below (8:Int) ((sl1Below (6:Int) p0 p1 p2).2.1) ((sl1Below (6:Int) p0 p1 p2).2.2.1) ((sl1Below (6:Int) p0 p1 p2).2.2.2)) (cond (((k2_sl9Draw p0 p1 p2).1)==(0:Int)) (cond (q_sl7Draw ((k2_sl9Draw p0 p1 p2).2.1) ((k2_sl9Draw p0 p1 p2).2.2.1) ((k2_sl9Draw p0 p1 p2).2.2.2)) (cond (q_sl9Hold (IntKind.wrap .i64 ((1:Int)+((sl1Below (6:Int) p0 p1 p2).1))) r0 r2 ((k3_sl9Draw p0 p1 p2).2.2.2) h3 h4 h5) (.inl (IntKind.wrap .i64 (x6 - (1:Int)),((k3_sl9Draw p0 p1 p2).1),((k3_sl9Draw p0 p1 p2).2.1),((k3_sl9Draw p0 p1 p2).2.2.1),((k4_sl9Draw p0 p1 p2 r0 r2 h3 h4 h5).2.1),((k4_sl9Draw p0 p1 p2 r0 r2 h3 h4 h5).2.2.1),((k4_sl9Draw p0 p1 p2 r0 r2 h3 h4 h5).2.2.2.2.1),((k4_sl9Draw p0 p1 p2 r0 r2 h3 h4 h5).2.2.2.2.2.1),((k4_sl9Draw p0 p1 p2 r0 r2 h3 h4 h5).2.2.2.2.2.2))) (.inr fl_sl9Draw_0)) (.inr fl_sl9Draw_0)) (cond (((k2_sl9Draw p0 p1 p2).1)==(1:Int)) (cond (q_sl7Draw ((k2_sl9Draw p0 p1 p2).2.1) ((k2_sl9Draw p0 p1 p2).2.2.1) ((k2_sl9Draw p0 p1 p2).2.2.2)) (cond (q_sl9Hold (IntKind.wrap .i64 ((1:Int)+((sl1Below (6:Int) p0 p1 p2).1))) r0 r2 ((k3_sl9Draw p0 p1 p2).2.2.2) h3 h4 h5) (.inl (IntKind.wrap .i64 (x6 - (1:Int)),((k3_sl9Draw p0 p1 p2).1),((k3_sl9Draw p0 p1 p2).2.1),((k3_sl9Draw p0 p1 p2).2.2.1),((k4_sl9Draw p0 p1 p2 r0 r2 h3 h4 h5).2.1),((k4_sl9Draw p0 p1 p2 r0 r2 h3 h4 h5).2.2.1),((k4_sl9Draw p0 p1 p2 r0 r2 h3 h4 h5).2.2.2.2.1),((k4_sl9Draw p0 p1 p2 r0 r2 h3 h4 h5).2.2.2.2.2.1),((k4_sl9Draw p0 p1 p2 r0 r2 h3 h4 h5).2.2.2.2.2.2))) (.inr fl_sl9Draw_0)) (.inr fl_sl9Draw_0)) (cond (((k2_sl9Draw p0 p1 p2).1)==(2:Int)) (cond (q_sl7Draw ((k2_sl9Draw p0 p1 p2).2.1) ((k2_sl9Draw p0 p1 p2).2.2.1) ((k2_sl9Draw p0 p1 p2).2.2.2)) (cond (q_sl9Hold (IntKind.wrap .i64 ((1:Int)+((sl1Below (6:Int) p0 p1 p2).1))) r0 r2 ((k3_sl9Draw p0 p1 p2).2.2.2) h3 h4 h5) (.inl (IntKind.wrap .i64 (x6 - (1:Int)),((k3_sl9Draw p0 p1 p2).1),((k3_sl9Draw p0 p1 p2).2.1),((k3_sl9Draw p0 p1 p2).2.2.1),((k4_sl9Draw p0 p1 p2 r0 r2 h3 h4 h5).2.1),((k4_sl9Draw p0 p1 p2 r0 r2 h3 h4 h5).2.2.1),((k4_sl9Draw p0 p1 p2 r0 r2 h3 h4 h5).2.2.2.2.1),((k4_sl9Draw p0 p1 p2 r0 r2 h3 h4 h5).2.2.2.2.2.1),((k4_sl9Draw p0 p1 p2 r0 r2 h3 h4 h5).2.2.2.2.2.2))) (.inr fl_sl9Draw_0)) (.inr fl_sl9Draw_0)) (cond (((k2_sl9Draw p0 p1 p2).1)==(3:Int)) (cond (q_sl7Draw ((k2_sl9Draw p0 p1 p2).2.1) ((k2_sl9Draw p0 p1 p2).2.2.1) ((k2_sl9Draw p0 p1 p2).2.2.2)) (cond (q_sl9Hold (IntKind.wrap .i64 ((1:Int)+((sl1Below (6:Int) p0 p1 p2).1))) r0 r2 ((k3_sl9Draw p0 p1 p2).2.2.2) h3 h4 h5) (.inl (IntKind.wrap .i64 (x6 - (1:Int)),((k3_sl9Draw p0 p1 p2).1),((k3_sl9Draw p0 p1 p2).2.1),((k3_sl9Draw p0 p1 p2).2.2.1),((k4_sl9Draw p0 p1 p2 r0 r2 h3 h4 h5).2.1),((k4_sl9Draw p0 p1 p2 r0 r2 h3 h4 h5).2.2.1),((k4_sl9Draw p0 p1 p2 r0 r2 h3 h4 h5).2.2.2.2.1),((k4_sl9Draw p0 p1 p2 r0 r2 h3 h4 h5).2.2.2.2.2.1),((k4_sl9Draw p0 p1 p2 r0 r2 h3 h4 h5).2.2.2.2.2.2))) (.inr fl_sl9Draw_0)) (.inr fl_sl9Draw_0)) (cond (((k2_sl9Draw p0 p1 p2).1)==(4:Int)) (cond (decide (((h5.length:Nat):Int) > (0:Int))) (cond (q_sl1Below ((h5.length:Nat):Int) ((k2_sl9Draw p0 p1 p2).2.1) ((k2_sl9Draw p0 p1 p2).2.2.1) ((k2_sl9Draw p0 p1 p2).2.2.2)) (cond (decide (0≤((k5_sl9Draw p0 p1 p2 h5).1)∧((k5_sl9Draw p0 p1 p2 h5).1)<((h5.length:Nat):Int))) (cond (q_sl1Once (4:Int) ((k5_sl9Draw p0 p1 p2 h5).2.1) ((k5_sl9Draw p0 p1 p2 h5).2.2.1) ((k5_sl9Draw p0 p1 p2 h5).2.2.2)) (cond (q_sl9Decide (((h5.getD (((k5_sl9Draw p0 p1 p2 h5).1).toNat) ((0:Int),((0:Int),[]))).2).1) (!((k6_sl9Draw p0 p1 p2 h5).1)) r0 r2 h3 h4 h5) (.inl (IntKind.wrap .i64 (x6 - (1:Int)),((k6_sl9Draw p0 p1 p2 h5).2.1),((k6_sl9Draw p0 p1 p2 h5).2.2.1),((k6_sl9Draw p0 p1 p2 h5).2.2.2),((k7_sl9Draw p0 p1 p2 r0 r2 h3 h4 h5).2.1),((k7_sl9Draw p0 p1 p2 r0 r2 h3 h4 h5).2.2.1),((k7_sl9Draw p0 p1 p2 r0 r2 h3 h4 h5).2.2.2.1),((k7_sl9Draw p0 p1 p2 r0 r2 h3 h4 h5).2.2.2.2.1),((k7_sl9Draw p0 p1 p2 r0 r2 h3 h4 h5).2.2.2.2.2))) (.inr fl_sl9Draw_0)) (.inr fl_sl9Draw_0)) (.inr fl_sl9Draw_0)) (.inr fl_sl9Draw_0)) (cond (q_sl1Once (4:Int) ((k2_sl9Draw p0 p1 p2).2.1) ((k2_sl9Draw p0 p1 p2).2.2.1) ((k2_sl9Draw p0 p1 p2).2.2.2)) (cond (q_sl9Decide (IntKind.wrap .i64 ((1:Int)+((sl1Below (6:Int) p0 p1 p2).1))) (!((k8_sl9Draw p0 p1 p2).1)) r0 r2 h3 h4 h5) (.inl (IntKind.wrap .i64 (x6 - (1:Int)),((k8_sl9Draw p0 p1 p2).2.1),((k8_sl9Draw p0 p1 p2).2.2.1),((k8_sl9Draw p0 p1 p2).2.2.2),((k9_sl9Draw p0 p1 p2 r0 r2 h3 h4 h5).2.1),((k9_sl9Draw p0 p1 p2 r0 r2 h3 h4 h5).2.2.1),((k9_sl9Draw p0 p1 p2 r0 r2 h3 h4 h5).2.2.2.1),((k9_sl9Draw p0 p1 p2 r0 r2 h3 h4 h5).2.2.2.2.1),((k9_sl9Draw p0 p1 p2 r0 r2 h3 h4 h5).2.2.2.2.2))) (.inr fl_sl9Draw_0)) (.inr fl_sl9Draw_0))) (cond (((k2_sl9Draw p0 p1 p2).1)==(5:Int)) (cond (decide (((h5.length:Nat):Int) > (0:Int))) (cond (q_sl1Below ((h5.length:Nat):Int) ((k2_sl9Draw p0 p1 p2).2.1) ((k2_sl9Draw p0 p1 p2).2.2.1) ((k2_sl9Draw p0 p1 p2).2.2.2)) (cond (decide (0≤((k5_sl9Draw p0 p1 p2 h5).1)∧((k5_sl9Draw p0 p1 p2 h5).1)<((h5.length:Nat):Int))) (cond (q_sl1Once (4:Int) ((k5_sl9Draw p0 p1 p2 h5).2.1) ((k5_sl9Draw p0 p1 p2 h5).2.2.1) ((k5_sl9Draw p0 p1 p2 h5).2.2.2)) (cond (q_sl9Decide (((h5.getD (((k5_sl9Draw p0 p1 p2 h5).1).toNat) ((0:Int),((0:Int),[]))).2).1) (!((k6_sl9Draw p0 p1 p2 h5).1)) r0 r2 h3 h4 h5) (.inl (IntKind.wrap .i64 (x6 - (1:Int)),((k6_sl9Draw p0 p1 p2 h5).2.1),((k6_sl9Draw p0 p1 p2 h5).2.2.1),((k6_sl9Draw p0 p1 p2 h5).2.2.2),((k7_sl9Draw p0 p1 p2 r0 r2 h3 h4 h5).2.1),((k7_sl9Draw p0 p1 p2 r0 r2 h3 h4 h5).2.2.1),((k7_sl9Draw p0 p1 p2 r0 r2 h3 h4 h5).2.2.2.1),((k7_sl9Draw p0 p1 p2 r0 r2 h3 h4 h5).2.2.2.2.1),((k7_sl9Draw p0 p1 p2 r0 r2 h3 h4 h5).2.2.2.2.2))) (.inr fl_sl9Draw_0)) (.inr fl_sl9Draw_0)) (.inr fl_sl9Draw_0)) (.inr fl_sl9Draw_0)) (cond (q_sl1Once (4:Int) ((k2_sl9Draw p0 p1 p2).2.1) ((k2_sl9Draw p0 p1 p2).2.2.1) ((k2_sl9Draw p0 p1 p2).2.2.2)) (cond (q_sl9Decide (IntKind.wrap .i64 ((1:Int)+((sl1Below (6:Int) p0 p1 p2).1))) (!((k8_sl9Draw p0 p1 p2).1)) r0 r2 h3 h4 h5) (.inl (IntKind.wrap .i64 (x6 - (1:Int)),((k8_sl9Draw p0 p1 p2).2.1),((k8_sl9Draw p0 p1 p2).2.2.1),((k8_sl9Draw p0 p1 p2).2.2.2),((k9_sl9Draw p0 p1 p2 r0 r2 h3 h4 h5).2.1),((k9_sl9Draw p0 p1 p2 r0 r2 h3 h4 h5).2.2.1),((k9_sl9Draw p0 p1 p2 r0 r2 h3 h4 h5).2.2.2.1),((k9_sl9Draw p0 p1 p2 r0 r2 h3 h4 h5).2.2.2.2.1),((k9_sl9Draw p0 p1 p2 r0 r2 h3 h4 h5).2.2.2.2.2))) (.inr fl_sl9Draw_0)) (.inr fl_sl9Draw_0))) (cond (((k2_sl9Draw p0 p1 p2).1)==(6:Int)) (.inl (IntKind.wrap .i64 (x6 - (1:Int)),((k2_sl9Draw p0 p1 p2).2.1),((k2_sl9Draw p0 p1 p2).2.2.1),((k2_sl9Draw p0 p1 p2).2.2.2),r0,((h3.length:Nat):Int),h3,h4,h5)) (cond (q_sl1Below (3:Int) ((k2_sl9Draw p0 p1 p2).2.1) ((k2_sl9Draw p0 p1 p2).2.2.1) ((k2_sl9Draw p0 p1 p2).2.2.2)) (cond (q_sl9Crash ((k10_sl9Draw p0 p1 p2).1) r0 r2 h3 h4 h5) (.inl (IntKind.wrap .i64 (x6 - (1:Int)),((k10_sl9Draw p0 p1 p2).2.1),((k10_sl9Draw p0 p1 p2).2.2.1),((k10_sl9Draw p0 p1 p2).2.2.2),((sl9Crash ((k10_sl9Draw p0 p1 p2).1) r0 r2 h3 h4 h5).1),((sl9Crash ((k10_sl9Draw p0 p1 p2).1) r0 r2 h3 h4 h5).2.1),((sl9Crash ((k10_sl9Draw p0 p1 p2).1) r0 r2 h3 h4 h5).2.2.1),((sl9Crash ((k10_sl9Draw p0 p1 p2).1) r0 r2 h3 h4 h5).2.2.2.1),((sl9Crash ((k10_sl9Draw p0 p1 p2).1) r0 r2 h3 h4 h5).2.2.2.2))) (.inr fl_sl9Draw_0)) (.inr fl_sl9Draw_0))))))))) (.inr fl_sl9Draw_0)) (.inr fl_sl9Draw_0)) (.inr (0,p0,p1,p2,r0,r2,h3,h4,h5)))
noncomputable def it_sl9Draw_0 (x6:Int) (p0:List Int) (p1:Int) (p2:Int) (q0:Int) (q2:Int) (r0:Int) (r2:Int) (h3:Lq1) (h4:LBBe) (h5:Lq1):A_sl9Draw_0:=itX (fun v:V_sl9Draw_0=>ss_sl9Draw_0 v.1 v.2.1 v.2.2.1 v.2.2.2.1 q0 q2 v.2.2.2.2.1 v.2.2.2.2.2.1 v.2.2.2.2.2.2.1 v.2.2.2.2.2.2.2.1 v.2.2.2.2.2.2.2.2) fl_sl9Draw_0 (x6,p0,p1,p2,r0,r2,h3,h4,h5)
noncomputable def ct_sl9Draw_0 (q0:Int) (q2:Int) (a:A_sl9Draw_0):CT:=(.br (a.1==0) (.done (.exit 0) E_sl9Draw_0_0 ((u65),((a.2.1,a.2.2.1,a.2.2.2.1,()),(q0,(),q2,(),(),()),(a.2.2.2.2.1,(),a.2.2.2.2.2.1,(),(),()),a.2.2.2.2.2.2.1,a.2.2.2.2.2.2.2.1,a.2.2.2.2.2.2.2.2,()))) .fail)
noncomputable def T_sl9Draw_0 (x6:Int) (p0:List Int) (p1:Int) (p2:Int) (q0:Int) (q2:Int) (r0:Int) (r2:Int) (h3:Lq1) (h4:LBBe) (h5:Lq1):CT:=(ct_sl9Draw_0 q0 q2) (it_sl9Draw_0 x6 p0 p1 p2 q0 q2 r0 r2 h3 h4 h5)
noncomputable abbrev sp_sl9Draw_0:S_sl9Draw_0.den→RT S_sl9Draw_0.den:=fun d=>st_sl9Draw_0 d.1.2.2.2.2.2.2.1 d.2.1.1 d.2.1.2.1 d.2.1.2.2.1 d.2.2.1.1 d.2.2.1.2.2.1 d.2.2.2.1.1 d.2.2.2.1.2.2.1 d.2.2.2.2.1 d.2.2.2.2.2.1 d.2.2.2.2.2.2.1
noncomputable abbrev pk_sl9Draw_0 (x6:Int) (p0:List Int) (p1:Int) (p2:Int) (q0:Int) (q2:Int) (r0:Int) (r2:Int) (h3:Lq1) (h4:LBBe) (h5:Lq1):S_sl9Draw_0.den:=(((),(),(),(),(),(),x6,u58),((p0,p1,p2,()),(q0,(),q2,(),(),()),(r0,(),r2,(),(),()),h3,h4,h5,()))
noncomputable def body_sl9Draw_0:Code:=((loopsIn 0 (bodyOf Try.f37)).getD 0 (0,.skip)).2
noncomputable abbrev pv_sl9Draw_0 (q0:Int) (q2:Int) (v:V_sl9Draw_0):S_sl9Draw_0.den:=pk_sl9Draw_0 v.1 v.2.1 v.2.2.1 v.2.2.2.1 q0 q2 v.2.2.2.2.1 v.2.2.2.2.2.1 v.2.2.2.2.2.2.1 v.2.2.2.2.2.2.2.1 v.2.2.2.2.2.2.2.2
noncomputable def ox_sl9Draw_0 (x6:Int) (p0:List Int) (p1:Int) (p2:Int) (q0:Int) (q2:Int) (r0:Int) (r2:Int) (h3:Lq1) (h4:LBBe) (h5:Lq1):Option (Ex×St):=(cond (decide (x6 > (0:Int))) (cond (q_sl1Below (6:Int) p0 p1 p2) (cond (q_sl1Below (8:Int) ((sl1Below (6:Int) p0 p1 p2).2.1) ((sl1Below (6:Int) p0 p1 p2).2.2.1) ((sl1Below (6:Int) p0 p1 p2).2.2.2)) (cond (((k2_sl9Draw p0 p1 p2).1)==(0:Int)) (cond (q_sl7Draw ((k2_sl9Draw p0 p1 p2).2.1) ((k2_sl9Draw p0 p1 p2).2.2.1) ((k2_sl9Draw p0 p1 p2).2.2.2)) (cond (q_sl9Hold (IntKind.wrap .i64 ((1:Int)+((sl1Below (6:Int) p0 p1 p2).1))) r0 r2 ((k3_sl9Draw p0 p1 p2).2.2.2) h3 h4 h5) (some (.normal,(⟨((.ptr 0 0 1 0)::.junk::.junk::.junk::(.ptr 1 0 1 0)::(.ptr 2 0 1 0)::(.t true (.int .i64) (IntKind.wrap .i64 (x6 - (1:Int))))::jA57),[(.box [(.t false t_sy ((k3_sl9Draw p0 p1 p2).1)),(.t true (.int .i64) ((k3_sl9Draw p0 p1 p2).2.1)),(.t true (.int .i64) ((k3_sl9Draw p0 p1 p2).2.2.1))]),(.box [(.t true (.int .i64) q0),(.raw (.slice none 0 0)),(.t true (.int .i64) q2),(.raw (.slice none 0 0)),(.raw (.slice none 0 0))]),(.box [(.t true (.int .i64) ((k4_sl9Draw p0 p1 p2 r0 r2 h3 h4 h5).2.1)),(.all 3 3),(.t true (.int .i64) ((k4_sl9Draw p0 p1 p2 r0 r2 h3 h4 h5).2.2.1)),(.all 4 2),(.all 5 3)]),(.rows 32 true tq4 ((k4_sl9Draw p0 p1 p2 r0 r2 h3 h4 h5).2.2.2.2.1)),(.rows 70 true t_ptt ((k4_sl9Draw p0 p1 p2 r0 r2 h3 h4 h5).2.2.2.2.2.1)),(.rows 32 true tq4 ((k4_sl9Draw p0 p1 p2 r0 r2 h3 h4 h5).2.2.2.2.2.2))],1,[]⟩:St))) none) none) (cond (((k2_sl9Draw p0 p1 p2).1)==(1:Int)) (cond (q_sl7Draw ((k2_sl9Draw p0 p1 p2).2.1) ((k2_sl9Draw p0 p1 p2).2.2.1) ((k2_sl9Draw p0 p1 p2).2.2.2)) (cond (q_sl9Hold (IntKind.wrap .i64 ((1:Int)+((sl1Below (6:Int) p0 p1 p2).1))) r0 r2 ((k3_sl9Draw p0 p1 p2).2.2.2) h3 h4 h5) (some (.normal,(⟨((.ptr 0 0 1 0)::.junk::.junk::.junk::(.ptr 1 0 1 0)::(.ptr 2 0 1 0)::(.t true (.int .i64) (IntKind.wrap .i64 (x6 - (1:Int))))::jA57),[(.box [(.t false t_sy ((k3_sl9Draw p0 p1 p2).1)),(.t true (.int .i64) ((k3_sl9Draw p0 p1 p2).2.1)),(.t true (.int .i64) ((k3_sl9Draw p0 p1 p2).2.2.1))]),(.box [(.t true (.int .i64) q0),(.raw (.slice none 0 0)),(.t true (.int .i64) q2),(.raw (.slice none 0 0)),(.raw (.slice none 0 0))]),(.box [(.t true (.int .i64) ((k4_sl9Draw p0 p1 p2 r0 r2 h3 h4 h5).2.1)),(.all 3 3),(.t true (.int .i64) ((k4_sl9Draw p0 p1 p2 r0 r2 h3 h4 h5).2.2.1)),(.all 4 2),(.all 5 3)]),(.rows 32 true tq4 ((k4_sl9Draw p0 p1 p2 r0 r2 h3 h4 h5).2.2.2.2.1)),(.rows 70 true t_ptt ((k4_sl9Draw p0 p1 p2 r0 r2 h3 h4 h5).2.2.2.2.2.1)),(.rows 32 true tq4 ((k4_sl9Draw p0 p1 p2 r0 r2 h3 h4 h5).2.2.2.2.2.2))],1,[]⟩:St))) none) none) (cond (((k2_sl9Draw p0 p1 p2).1)==(2:Int)) (cond (q_sl7Draw ((k2_sl9Draw p0 p1 p2).2.1) ((k2_sl9Draw p0 p1 p2).2.2.1) ((k2_sl9Draw p0 p1 p2).2.2.2)) (cond (q_sl9Hold (IntKind.wrap .i64 ((1:Int)+((sl1Below (6:Int) p0 p1 p2).1))) r0 r2 ((k3_sl9Draw p0 p1 p2).2.2.2) h3 h4 h5) (some (.normal,(⟨((.ptr 0 0 1 0)::.junk::.junk::.junk::(.ptr 1 0 1 0)::(.ptr 2 0 1 0)::(.t true (.int .i64) (IntKind.wrap .i64 (x6 - (1:Int))))::jA57),[(.box [(.t false t_sy ((k3_sl9Draw p0 p1 p2).1)),(.t true (.int .i64) ((k3_sl9Draw p0 p1 p2).2.1)),(.t true (.int .i64) ((k3_sl9Draw p0 p1 p2).2.2.1))]),(.box [(.t true (.int .i64) q0),(.raw (.slice none 0 0)),(.t true (.int .i64) q2),(.raw (.slice none 0 0)),(.raw (.slice none 0 0))]),(.box [(.t true (.int .i64) ((k4_sl9Draw p0 p1 p2 r0 r2 h3 h4 h5).2.1)),(.all 3 3),(.t true (.int .i64) ((k4_sl9Draw p0 p1 p2 r0 r2 h3 h4 h5).2.2.1)),(.all 4 2),(.all 5 3)]),(.rows 32 true tq4 ((k4_sl9Draw p0 p1 p2 r0 r2 h3 h4 h5).2.2.2.2.1)),(.rows 70 true t_ptt ((k4_sl9Draw p0 p1 p2 r0 r2 h3 h4 h5).2.2.2.2.2.1)),(.rows 32 true tq4 ((k4_sl9Draw p0 p1 p2 r0 r2 h3 h4 h5).2.2.2.2.2.2))],1,[]⟩:St))) none) none) (cond (((k2_sl9Draw p0 p1 p2).1)==(3:Int)) (cond (q_sl7Draw ((k2_sl9Draw p0 p1 p2).2.1) ((k2_sl9Draw p0 p1 p2).2.2.1) ((k2_sl9Draw p0 p1 p2).2.2.2)) (cond (q_sl9Hold (IntKind.wrap .i64 ((1:Int)+((sl1Below (6:Int) p0 p1 p2).1))) r0 r2 ((k3_sl9Draw p0 p1 p2).2.2.2) h3 h4 h5) (some (.normal,(⟨((.ptr 0 0 1 0)::.junk::.junk::.junk::(.ptr 1 0 1 0)::(.ptr 2 0 1 0)::(.t true (.int .i64) (IntKind.wrap .i64 (x6 - (1:Int))))::jA57),[(.box [(.t false t_sy ((k3_sl9Draw p0 p1 p2).1)),(.t true (.int .i64) ((k3_sl9Draw p0 p1 p2).2.1)),(.t true (.int .i64) ((k3_sl9Draw p0 p1 p2).2.2.1))]),(.box [(.t true (.int .i64) q0),(.raw (.slice none 0 0)),(.t true (.int .i64) q2),(.raw (.slice none 0 0)),(.raw (.slice none 0 0))]),(.box [(.t true (.int .i64) ((k4_sl9Draw p0 p1 p2 r0 r2 h3 h4 h5).2.1)),(.all 3 3),(.t true (.int .i64) ((k4_sl9Draw p0 p1 p2 r0 r2 h3 h4 h5).2.2.1)),(.all 4 2),(.all 5 3)]),(.rows 32 true tq4 ((k4_sl9Draw p0 p1 p2 r0 r2 h3 h4 h5).2.2.2.2.1)),(.rows 70 true t_ptt ((k4_sl9Draw p0 p1 p2 r0 r2 h3 h4 h5).2.2.2.2.2.1)),(.rows 32 true tq4 ((k4_sl9Draw p0 p1 p2 r0 r2 h3 h4 h5).2.2.2.2.2.2))],1,[]⟩:St))) none) none) (cond (((k2_sl9Draw p0 p1 p2).1)==(4:Int)) (cond (decide (((h5.length:Nat):Int) > (0:Int))) (cond (q_sl1Below ((h5.length:Nat):Int) ((k2_sl9Draw p0 p1 p2).2.1) ((k2_sl9Draw p0 p1 p2).2.2.1) ((k2_sl9Draw p0 p1 p2).2.2.2)) (cond (decide (0≤((k5_sl9Draw p0 p1 p2 h5).1)∧((k5_sl9Draw p0 p1 p2 h5).1)<((h5.length:Nat):Int))) (cond (q_sl1Once (4:Int) ((k5_sl9Draw p0 p1 p2 h5).2.1) ((k5_sl9Draw p0 p1 p2 h5).2.2.1) ((k5_sl9Draw p0 p1 p2 h5).2.2.2)) (cond (q_sl9Decide (((h5.getD (((k5_sl9Draw p0 p1 p2 h5).1).toNat) ((0:Int),((0:Int),[]))).2).1) (!((k6_sl9Draw p0 p1 p2 h5).1)) r0 r2 h3 h4 h5) (some (.normal,(⟨((.ptr 0 0 1 0)::.junk::.junk::.junk::(.ptr 1 0 1 0)::(.ptr 2 0 1 0)::(.t true (.int .i64) (IntKind.wrap .i64 (x6 - (1:Int))))::jA57),[(.box [(.t false t_sy ((k6_sl9Draw p0 p1 p2 h5).2.1)),(.t true (.int .i64) ((k6_sl9Draw p0 p1 p2 h5).2.2.1)),(.t true (.int .i64) ((k6_sl9Draw p0 p1 p2 h5).2.2.2))]),(.box [(.t true (.int .i64) q0),(.raw (.slice none 0 0)),(.t true (.int .i64) q2),(.raw (.slice none 0 0)),(.raw (.slice none 0 0))]),(.box [(.t true (.int .i64) ((k7_sl9Draw p0 p1 p2 r0 r2 h3 h4 h5).2.1)),(.all 3 3),(.t true (.int .i64) ((k7_sl9Draw p0 p1 p2 r0 r2 h3 h4 h5).2.2.1)),(.all 4 2),(.all 5 3)]),(.rows 32 true tq4 ((k7_sl9Draw p0 p1 p2 r0 r2 h3 h4 h5).2.2.2.1)),(.rows 70 true t_ptt ((k7_sl9Draw p0 p1 p2 r0 r2 h3 h4 h5).2.2.2.2.1)),(.rows 32 true tq4 ((k7_sl9Draw p0 p1 p2 r0 r2 h3 h4 h5).2.2.2.2.2))],1,[]⟩:St))) none) none) none) none) (cond (q_sl1Once (4:Int) ((k2_sl9Draw p0 p1 p2).2.1) ((k2_sl9Draw p0 p1 p2).2.2.1) ((k2_sl9Draw p0 p1 p2).2.2.2)) (cond (q_sl9Decide (IntKind.wrap .i64 ((1:Int)+((sl1Below (6:Int) p0 p1 p2).1))) (!((k8_sl9Draw p0 p1 p2).1)) r0 r2 h3 h4 h5) (some (.normal,(⟨((.ptr 0 0 1 0)::.junk::.junk::.junk::(.ptr 1 0 1 0)::(.ptr 2 0 1 0)::(.t true (.int .i64) (IntKind.wrap .i64 (x6 - (1:Int))))::jA57),[(.box [(.t false t_sy ((k8_sl9Draw p0 p1 p2).2.1)),(.t true (.int .i64) ((k8_sl9Draw p0 p1 p2).2.2.1)),(.t true (.int .i64) ((k8_sl9Draw p0 p1 p2).2.2.2))]),(.box [(.t true (.int .i64) q0),(.raw (.slice none 0 0)),(.t true (.int .i64) q2),(.raw (.slice none 0 0)),(.raw (.slice none 0 0))]),(.box [(.t true (.int .i64) ((k9_sl9Draw p0 p1 p2 r0 r2 h3 h4 h5).2.1)),(.all 3 3),(.t true (.int .i64) ((k9_sl9Draw p0 p1 p2 r0 r2 h3 h4 h5).2.2.1)),(.all 4 2),(.all 5 3)]),(.rows 32 true tq4 ((k9_sl9Draw p0 p1 p2 r0 r2 h3 h4 h5).2.2.2.1)),(.rows 70 true t_ptt ((k9_sl9Draw p0 p1 p2 r0 r2 h3 h4 h5).2.2.2.2.1)),(.rows 32 true tq4 ((k9_sl9Draw p0 p1 p2 r0 r2 h3 h4 h5).2.2.2.2.2))],1,[]⟩:St))) none) none)) (cond (((k2_sl9Draw p0 p1 p2).1)==(5:Int)) (cond (decide (((h5.length:Nat):Int) > (0:Int))) (cond (q_sl1Below ((h5.length:Nat):Int) ((k2_sl9Draw p0 p1 p2).2.1) ((k2_sl9Draw p0 p1 p2).2.2.1) ((k2_sl9Draw p0 p1 p2).2.2.2)) (cond (decide (0≤((k5_sl9Draw p0 p1 p2 h5).1)∧((k5_sl9Draw p0 p1 p2 h5).1)<((h5.length:Nat):Int))) (cond (q_sl1Once (4:Int) ((k5_sl9Draw p0 p1 p2 h5).2.1) ((k5_sl9Draw p0 p1 p2 h5).2.2.1) ((k5_sl9Draw p0 p1 p2 h5).2.2.2)) (cond (q_sl9Decide (((h5.getD (((k5_sl9Draw p0 p1 p2 h5).1).toNat) ((0:Int),((0:Int),[]))).2).1) (!((k6_sl9Draw p0 p1 p2 h5).1)) r0 r2 h3 h4 h5) (some (.normal,(⟨((.ptr 0 0 1 0)::.junk::.junk::.junk::(.ptr 1 0 1 0)::(.ptr 2 0 1 0)::(.t true (.int .i64) (IntKind.wrap .i64 (x6 - (1:Int))))::jA57),[(.box [(.t false t_sy ((k6_sl9Draw p0 p1 p2 h5).2.1)),(.t true (.int .i64) ((k6_sl9Draw p0 p1 p2 h5).2.2.1)),(.t true (.int .i64) ((k6_sl9Draw p0 p1 p2 h5).2.2.2))]),(.box [(.t true (.int .i64) q0),(.raw (.slice none 0 0)),(.t true (.int .i64) q2),(.raw (.slice none 0 0)),(.raw (.slice none 0 0))]),(.box [(.t true (.int .i64) ((k7_sl9Draw p0 p1 p2 r0 r2 h3 h4 h5).2.1)),(.all 3 3),(.t true (.int .i64) ((k7_sl9Draw p0 p1 p2 r0 r2 h3 h4 h5).2.2.1)),(.all 4 2),(.all 5 3)]),(.rows 32 true tq4 ((k7_sl9Draw p0 p1 p2 r0 r2 h3 h4 h5).2.2.2.1)),(.rows 70 true t_ptt ((k7_sl9Draw p0 p1 p2 r0 r2 h3 h4 h5).2.2.2.2.1)),(.rows 32 true tq4 ((k7_sl9Draw p0 p1 p2 r0 r2 h3 h4 h5).2.2.2.2.2))],1,[]⟩:St))) none) none) none) none) (cond (q_sl1Once (4:Int) ((k2_sl9Draw p0 p1 p2).2.1) ((k2_sl9Draw p0 p1 p2).2.2.1) ((k2_sl9Draw p0 p1 p2).2.2.2)) (cond (q_sl9Decide (IntKind.wrap .i64 ((1:Int)+((sl1Below (6:Int) p0 p1 p2).1))) (!((k8_sl9Draw p0 p1 p2).1)) r0 r2 h3 h4 h5) (some (.normal,(⟨((.ptr 0 0 1 0)::.junk::.junk::.junk::(.ptr 1 0 1 0)::(.ptr 2 0 1 0)::(.t true (.int .i64) (IntKind.wrap .i64 (x6 - (1:Int))))::jA57),[(.box [(.t false t_sy ((k8_sl9Draw p0 p1 p2).2.1)),(.t true (.int .i64) ((k8_sl9Draw p0 p1 p2).2.2.1)),(.t true (.int .i64) ((k8_sl9Draw p0 p1 p2).2.2.2))]),(.box [(.t true (.int .i64) q0),(.raw (.slice none 0 0)),(.t true (.int .i64) q2),(.raw (.slice none 0 0)),(.raw (.slice none 0 0))]),(.box [(.t true (.int .i64) ((k9_sl9Draw p0 p1 p2 r0 r2 h3 h4 h5).2.1)),(.all 3 3),(.t true (.int .i64) ((k9_sl9Draw p0 p1 p2 r0 r2 h3 h4 h5).2.2.1)),(.all 4 2),(.all 5 3)]),(.rows 32 true tq4 ((k9_sl9Draw p0 p1 p2 r0 r2 h3 h4 h5).2.2.2.1)),(.rows 70 true t_ptt ((k9_sl9Draw p0 p1 p2 r0 r2 h3 h4 h5).2.2.2.2.1)),(.rows 32 true tq4 ((k9_sl9Draw p0 p1 p2 r0 r2 h3 h4 h5).2.2.2.2.2))],1,[]⟩:St))) none) none)) (cond (((k2_sl9Draw p0 p1 p2).1)==(6:Int)) (some (.normal,(⟨((.ptr 0 0 1 0)::.junk::.junk::.junk::(.ptr 1 0 1 0)::(.ptr 2 0 1 0)::(.t true (.int .i64) (IntKind.wrap .i64 (x6 - (1:Int))))::jA57),[(.box [(.t false t_sy ((k2_sl9Draw p0 p1 p2).2.1)),(.t true (.int .i64) ((k2_sl9Draw p0 p1 p2).2.2.1)),(.t true (.int .i64) ((k2_sl9Draw p0 p1 p2).2.2.2))]),(.box [(.t true (.int .i64) q0),(.raw (.slice none 0 0)),(.t true (.int .i64) q2),(.raw (.slice none 0 0)),(.raw (.slice none 0 0))]),(.box [(.t true (.int .i64) r0),(.all 3 3),(.t true (.int .i64) ((h3.length:Nat):Int)),(.all 4 2),(.all 5 3)]),(.rows 32 true tq4 h3),(.rows 70 true t_ptt h4),(.rows 32 true tq4 h5)],1,[]⟩:St))) (cond (q_sl1Below (3:Int) ((k2_sl9Draw p0 p1 p2).2.1) ((k2_sl9Draw p0 p1 p2).2.2.1) ((k2_sl9Draw p0 p1 p2).2.2.2)) (cond (q_sl9Crash ((k10_sl9Draw p0 p1 p2).1) r0 r2 h3 h4 h5) (some (.normal,(⟨((.ptr 0 0 1 0)::.junk::.junk::.junk::(.ptr 1 0 1 0)::(.ptr 2 0 1 0)::(.t true (.int .i64) (IntKind.wrap .i64 (x6 - (1:Int))))::jA57),[(.box [(.t false t_sy ((k10_sl9Draw p0 p1 p2).2.1)),(.t true (.int .i64) ((k10_sl9Draw p0 p1 p2).2.2.1)),(.t true (.int .i64) ((k10_sl9Draw p0 p1 p2).2.2.2))]),(.box [(.t true (.int .i64) q0),(.raw (.slice none 0 0)),(.t true (.int .i64) q2),(.raw (.slice none 0 0)),(.raw (.slice none 0 0))]),(.box [(.t true (.int .i64) ((sl9Crash ((k10_sl9Draw p0 p1 p2).1) r0 r2 h3 h4 h5).1)),(.all 3 3),(.t true (.int .i64) ((sl9Crash ((k10_sl9Draw p0 p1 p2).1) r0 r2 h3 h4 h5).2.1)),(.all 4 2),(.all 5 3)]),(.rows 32 true tq4 ((sl9Crash ((k10_sl9Draw p0 p1 p2).1) r0 r2 h3 h4 h5).2.2.1)),(.rows 70 true t_ptt ((sl9Crash ((k10_sl9Draw p0 p1 p2).1) r0 r2 h3 h4 h5).2.2.2.1)),(.rows 32 true tq4 ((sl9Crash ((k10_sl9Draw p0 p1 p2).1) r0 r2 h3 h4 h5).2.2.2.2))],1,[]⟩:St))) none) none)))))))) none) none) (some ((.exit 0),(⟨(.junk::.junk::.junk::.junk::(.ptr 1 0 1 0)::(.ptr 2 0 1 0)::jA58),[(.box [(.t false t_sy p0),(.t true (.int .i64) p1),(.t true (.int .i64) p2)]),(.box [(.t true (.int .i64) q0),(.raw (.slice none 0 0)),(.t true (.int .i64) q2),(.raw (.slice none 0 0)),(.raw (.slice none 0 0))]),(.box [(.t true (.int .i64) r0),(.all 3 3),(.t true (.int .i64) r2),(.all 4 2),(.all 5 3)]),(.rows 32 true tq4 h3),(.rows 70 true t_ptt h4),(.rows 32 true tq4 h5)],1,[]⟩:St))))
theorem rdA_sl9Draw_0:RdA G37 (fun _ _=>none) 0 body_sl9Draw_0 S_sl9Draw_0 1 [] (kepts [] [(0,[4,5])]) (fun d=>ox_sl9Draw_0 d.1.2.2.2.2.2.2.1 d.2.1.1 d.2.1.2.1 d.2.1.2.2.1 d.2.2.1.1 d.2.2.1.2.2.1 d.2.2.2.1.1 d.2.2.2.1.2.2.1 d.2.2.2.2.1 d.2.2.2.2.2.1 d.2.2.2.2.2.2.1):=by
 intro d
 kernel_rfl
theorem rdB_sl9Draw_0:∀ d:S_sl9Draw_0.den,ox_sl9Draw_0 d.1.2.2.2.2.2.2.1 d.2.1.1 d.2.1.2.1 d.2.1.2.2.1 d.2.2.1.1 d.2.2.1.2.2.1 d.2.2.2.1.1 d.2.2.2.1.2.2.1 d.2.2.2.2.1 d.2.2.2.2.2.1 d.2.2.2.2.2.2.1=(sp_sl9Draw_0 d).opt 1 []:=by
 intro d
 kernel_rfl
noncomputable abbrev say_sl9Draw_0:St→Option Tree:=S_sl9Draw_0.say 1 [] [] (fun d=>T_sl9Draw_0 d.1.2.2.2.2.2.2.1 d.2.1.1 d.2.1.2.1 d.2.1.2.2.1 d.2.2.1.1 d.2.2.1.2.2.1 d.2.2.2.1.1 d.2.2.2.1.2.2.1 d.2.2.2.2.1 d.2.2.2.2.2.1 d.2.2.2.2.2.2.1)
theorem lw_sl9Draw_0:LoopWp Try.prog say_sl9Draw_0 body_sl9Draw_0:=SS.wp2 (hl0 (by kernel_rfl)) [] sp_sl9Draw_0 rdA_sl9Draw_0 rdB_sl9Draw_0 _ (fun d=>Runs.ofIt (step:=sp_sl9Draw_0) (pv_sl9Draw_0 d.2.2.1.1 d.2.2.1.2.2.1) (ct:=(ct_sl9Draw_0 d.2.2.1.1 d.2.2.1.2.2.1)) rfl (fun v=>((relB (relB (relB (relB (relB (relB rfl rfl) rfl) (relB (relB (relB rfl rfl) rfl) (relB (relB (relB rfl rfl) rfl) (relB (relB (relB rfl rfl) rfl) (relB (relB (relB (relB (relB (relB rfl rfl) rfl) rfl) rfl) (relB (relB rfl rfl) rfl)) (relB (relB (relB (relB (relB (relB rfl rfl) rfl) rfl) rfl) (relB (relB rfl rfl) rfl)) (relB rfl (relB (relB rfl rfl) rfl)))))))) rfl) rfl) rfl):(st_sl9Draw_0 v.1 v.2.1 v.2.2.1 v.2.2.2.1 d.2.2.1.1 d.2.2.1.2.2.1 v.2.2.2.2.1 v.2.2.2.2.2.1 v.2.2.2.2.2.2.1 v.2.2.2.2.2.2.2.1 v.2.2.2.2.2.2.2.2).val=relS (pv_sl9Draw_0 d.2.2.1.1 d.2.2.1.2.2.1) (ct_sl9Draw_0 d.2.2.1.1 d.2.2.1.2.2.1) (ss_sl9Draw_0 v.1 v.2.1 v.2.2.1 v.2.2.2.1 d.2.2.1.1 d.2.2.1.2.2.1 v.2.2.2.2.1 v.2.2.2.2.2.1 v.2.2.2.2.2.2.1 v.2.2.2.2.2.2.2.1 v.2.2.2.2.2.2.2.2))) (fun a=>((cendB (cendD (by simp)) cendF):CEnd _ ((ct_sl9Draw_0 d.2.2.1.1 d.2.2.1.2.2.1) a))) (d.1.2.2.2.2.2.2.1,d.2.1.1,d.2.1.2.1,d.2.1.2.2.1,d.2.2.2.1.1,d.2.2.2.1.2.2.1,d.2.2.2.2.1,d.2.2.2.2.2.1,d.2.2.2.2.2.2.1))
noncomputable def k1_sl9Draw (x1:Int) (p0:List Int) (p1:Int) (p2:Int):=sl1Below x1 ((sl1Below (4:Int) p0 p1 p2).2.1) ((sl1Below (4:Int) p0 p1 p2).2.2.1) ((sl1Below (4:Int) p0 p1 p2).2.2.2)
noncomputable def k11_sl9Draw (x1:Int) (p0:List Int) (p1:Int) (p2:Int):=it_sl9Draw_0 ((k1_sl9Draw x1 p0 p1 p2).1) ((k1_sl9Draw x1 p0 p1 p2).2.1) ((k1_sl9Draw x1 p0 p1 p2).2.2.1) ((k1_sl9Draw x1 p0 p1 p2).2.2.2) (0:Int) (0:Int) ((sShardNew ((sl1Below (4:Int) p0 p1 p2).1)).1) ((sShardNew ((sl1Below (4:Int) p0 p1 p2).1)).2.1) ((sShardNew ((sl1Below (4:Int) p0 p1 p2).1)).2.2.1) ((sShardNew ((sl1Below (4:Int) p0 p1 p2).1)).2.2.2.1) ((sShardNew ((sl1Below (4:Int) p0 p1 p2).1)).2.2.2.2)
noncomputable def sl9Draw (x1:Int) (p0:List Int) (p1:Int) (p2:Int):Int×Int×(List Int)×Int×Int×Int×Int×(Lq1)×(LBBe)×Lq1:=(((k11_sl9Draw x1 p0 p1 p2).2.2.2.2.1),((k11_sl9Draw x1 p0 p1 p2).2.2.2.2.2.1),((k11_sl9Draw x1 p0 p1 p2).2.1),((k11_sl9Draw x1 p0 p1 p2).2.2.1),((k11_sl9Draw x1 p0 p1 p2).2.2.2.1),((k11_sl9Draw x1 p0 p1 p2).2.2.2.2.1),((k11_sl9Draw x1 p0 p1 p2).2.2.2.2.2.1),((k11_sl9Draw x1 p0 p1 p2).2.2.2.2.2.2.1),((k11_sl9Draw x1 p0 p1 p2).2.2.2.2.2.2.2.1),((k11_sl9Draw x1 p0 p1 p2).2.2.2.2.2.2.2.2))
noncomputable abbrev e_sl9Draw (r:Int×Int×(List Int)×Int×Int×Int×Int×(Lq1)×(LBBe)×Lq1):AV×List AObj×List Nat:=((.agg [(.t true (.int .i64) r.1),(.all 2 3),(.t true (.int .i64) r.2.1),(.all 3 2),(.all 4 3)]),[(.box [(.t false t_sy r.2.2.1),(.t true (.int .i64) r.2.2.2.1),(.t true (.int .i64) r.2.2.2.2.1)]),(.box [(.t true (.int .i64) r.2.2.2.2.2.1),(.all 2 3),(.t true (.int .i64) r.2.2.2.2.2.2.1),(.all 3 2),(.all 4 3)]),(.rows 32 true tq4 r.2.2.2.2.2.2.2.1),(.rows 70 true t_ptt r.2.2.2.2.2.2.2.2.1),(.rows 32 true tq4 r.2.2.2.2.2.2.2.2.2)],[])
noncomputable abbrev F_sl9Draw (r:Int×Int×(List Int)×Int×Int×Int×Int×(Lq1)×(LBBe)×Lq1):=some (e_sl9Draw r)
noncomputable abbrev g_sl9Draw:SM_sl9Draw.den→AV×List AObj×List Nat:=fun d=>e_sl9Draw (sl9Draw d.1.2.1 d.2.1.1 d.2.1.2.1 d.2.1.2.2.1)
noncomputable def q_sl9Draw (x1:Int) (p0:List Int) (p1:Int) (p2:Int):Bool:=(q_sl1Below (4:Int) p0 p1 p2)&&((q_sl1Below x1 ((sl1Below (4:Int) p0 p1 p2).2.1) ((sl1Below (4:Int) p0 p1 p2).2.2.1) ((sl1Below (4:Int) p0 p1 p2).2.2.2))&&((k11_sl9Draw x1 p0 p1 p2).1==0))
noncomputable abbrev pre_sl9Draw:SM_sl9Draw.den→Bool:=fun d=>q_sl9Draw d.1.2.1 d.2.1.1 d.2.1.2.1 d.2.1.2.2.1
noncomputable abbrev L_sl9Draw:Nat→St→Option Tree:=fun b=>match b with | 0=>say_sl9Draw_0 | _=>fun _=>none
theorem run_sl9Draw:RunM G37 (L_sl9Draw) Try.f37 SM_sl9Draw pre_sl9Draw g_sl9Draw:=by
 rintro ⟨⟨_,x1,_⟩,⟨⟨p0,p1,p2,_⟩,_⟩⟩ hp
 change q_sl9Draw x1 p0 p1 p2=true at hp
 unfold q_sl9Draw at hp
 refine Eq.trans (b:=(cond (q_sl1Below (4:Int) p0 p1 p2) (cond (q_sl1Below x1 ((sl1Below (4:Int) p0 p1 p2).2.1) ((sl1Below (4:Int) p0 p1 p2).2.2.1) ((sl1Below (4:Int) p0 p1 p2).2.2.2)) (cond ((k11_sl9Draw x1 p0 p1 p2).1==0) (some (e_sl9Draw (((k11_sl9Draw x1 p0 p1 p2).2.2.2.2.1),((k11_sl9Draw x1 p0 p1 p2).2.2.2.2.2.1),((k11_sl9Draw x1 p0 p1 p2).2.1),((k11_sl9Draw x1 p0 p1 p2).2.2.1),((k11_sl9Draw x1 p0 p1 p2).2.2.2.1),((k11_sl9Draw x1 p0 p1 p2).2.2.2.2.1),((k11_sl9Draw x1 p0 p1 p2).2.2.2.2.2.1),((k11_sl9Draw x1 p0 p1 p2).2.2.2.2.2.2.1),((k11_sl9Draw x1 p0 p1 p2).2.2.2.2.2.2.2.1),((k11_sl9Draw x1 p0 p1 p2).2.2.2.2.2.2.2.2)))) none) none) none)) (by kernel_rfl) ?_
 exact (cndA hp fun hp=>(cndA hp fun hp=>(cndT hp fun _h=>rfl)))
noncomputable abbrev m_sl9Draw:=win winIds (msum SM_sl9Draw pre_sl9Draw g_sl9Draw)
theorem c_sl9Draw:MContract Try.prog 37 m_sl9Draw:=(MContract.of_data G37 (by kernel_rfl) (hl1 (i:=0) (by kernel_rfl) lw_sl9Draw_0) _ _ _ run_sl9Draw).win winIds
noncomputable def S38:Tab:=Tab.add S37 37 (m_sl9Draw)
noncomputable def QF38:FuncId→Bool:=QF37
theorem G38:Good Try.prog tt S38 QF38:=G37.addM c_sl9Draw (win_local _) ⟨Try.f37,by kernel_rfl,by kernel_rfl,by kernel_rfl⟩ (by kernel_rfl)

noncomputable abbrev SM_sl8Rec:SS:=⟨[.ptr 0 0 1 0],[.box [.t false t_sy,.t true (.int .i64),.t true (.int .i64)]]⟩
noncomputable def k1_sl8Rec (p0:List Int) (p1:Int) (p2:Int):=sl1Below (4:Int) ((sl1Int p0 p1 p2 [(1:Int),(1:Int),(2:Int),(3:Int)]).2.1) ((sl1Int p0 p1 p2 [(1:Int),(1:Int),(2:Int),(3:Int)]).2.2.1) ((sl1Int p0 p1 p2 [(1:Int),(1:Int),(2:Int),(3:Int)]).2.2.2.1)
noncomputable def k2_sl8Rec (p0:List Int) (p1:Int) (p2:Int):=sl7Draw ((k1_sl8Rec p0 p1 p2).2.1) ((k1_sl8Rec p0 p1 p2).2.2.1) ((k1_sl8Rec p0 p1 p2).2.2.2)
noncomputable def sl8Rec (p0:List Int) (p1:Int) (p2:Int):Int×Int×(Lq2)×(List Int)×Int×Int:=(cond (((sl1Int p0 p1 p2 [(1:Int),(1:Int),(2:Int),(3:Int)]).1)==(1:Int)) (((sl1Int p0 p1 p2 [(1:Int),(1:Int),(2:Int),(3:Int)]).1),IntKind.wrap .i64 ((1:Int)+((k1_sl8Rec p0 p1 p2).1)),((k2_sl8Rec p0 p1 p2).2.2.2),((k2_sl8Rec p0 p1 p2).1),((k2_sl8Rec p0 p1 p2).2.1),((k2_sl8Rec p0 p1 p2).2.2.1)) (((sl1Int p0 p1 p2 [(1:Int),(1:Int),(2:Int),(3:Int)]).1),IntKind.wrap .i64 ((1:Int)+((k1_sl8Rec p0 p1 p2).1)),[],((k1_sl8Rec p0 p1 p2).2.1),((k1_sl8Rec p0 p1 p2).2.2.1),((k1_sl8Rec p0 p1 p2).2.2.2)))
noncomputable abbrev e_sl8Rec (r:Int×Int×(Lq2)×(List Int)×Int×Int):AV×List AObj×List Nat:=((.agg [(.t true (.int .i64) r.1),(.t true (.int .i64) r.2.1),(.t true tq5 r.2.2.1)]),[(.box [(.t false t_sy r.2.2.2.1),(.t true (.int .i64) r.2.2.2.2.1),(.t true (.int .i64) r.2.2.2.2.2)])],[])
noncomputable abbrev F_sl8Rec (r:Int×Int×(Lq2)×(List Int)×Int×Int):=some (e_sl8Rec r)
noncomputable abbrev g_sl8Rec:SM_sl8Rec.den→AV×List AObj×List Nat:=fun d=>e_sl8Rec (sl8Rec d.2.1.1 d.2.1.2.1 d.2.1.2.2.1)
noncomputable def q_sl8Rec (p0:List Int) (p1:Int) (p2:Int):Bool:=(q_sl1Int p0 p1 p2 [(1:Int),(1:Int),(2:Int),(3:Int)])&&((q_sl1Below (4:Int) ((sl1Int p0 p1 p2 [(1:Int),(1:Int),(2:Int),(3:Int)]).2.1) ((sl1Int p0 p1 p2 [(1:Int),(1:Int),(2:Int),(3:Int)]).2.2.1) ((sl1Int p0 p1 p2 [(1:Int),(1:Int),(2:Int),(3:Int)]).2.2.2.1))&&(cond (((sl1Int p0 p1 p2 [(1:Int),(1:Int),(2:Int),(3:Int)]).1)==(1:Int)) (q_sl7Draw ((k1_sl8Rec p0 p1 p2).2.1) ((k1_sl8Rec p0 p1 p2).2.2.1) ((k1_sl8Rec p0 p1 p2).2.2.2)) true))
noncomputable abbrev pre_sl8Rec:SM_sl8Rec.den→Bool:=fun d=>q_sl8Rec d.2.1.1 d.2.1.2.1 d.2.1.2.2.1
theorem run_sl8Rec:RunMRD [] G38 (fun _ _=>none) Try.f120 SM_sl8Rec pre_sl8Rec g_sl8Rec:=by
 rintro ⟨⟨_,_⟩,⟨⟨p0,p1,p2,_⟩,_⟩⟩ hp
 change q_sl8Rec p0 p1 p2=true at hp
 unfold q_sl8Rec at hp
 refine Eq.trans (b:=(cond (q_sl1Int p0 p1 p2 [(1:Int),(1:Int),(2:Int),(3:Int)]) (cond (q_sl1Below (4:Int) ((sl1Int p0 p1 p2 [(1:Int),(1:Int),(2:Int),(3:Int)]).2.1) ((sl1Int p0 p1 p2 [(1:Int),(1:Int),(2:Int),(3:Int)]).2.2.1) ((sl1Int p0 p1 p2 [(1:Int),(1:Int),(2:Int),(3:Int)]).2.2.2.1)) (cond (((sl1Int p0 p1 p2 [(1:Int),(1:Int),(2:Int),(3:Int)]).1)==(1:Int)) (cond (q_sl7Draw ((k1_sl8Rec p0 p1 p2).2.1) ((k1_sl8Rec p0 p1 p2).2.2.1) ((k1_sl8Rec p0 p1 p2).2.2.2)) (some (e_sl8Rec (((sl1Int p0 p1 p2 [(1:Int),(1:Int),(2:Int),(3:Int)]).1),IntKind.wrap .i64 ((1:Int)+((k1_sl8Rec p0 p1 p2).1)),((k2_sl8Rec p0 p1 p2).2.2.2),((k2_sl8Rec p0 p1 p2).1),((k2_sl8Rec p0 p1 p2).2.1),((k2_sl8Rec p0 p1 p2).2.2.1)))) none) (some (e_sl8Rec (((sl1Int p0 p1 p2 [(1:Int),(1:Int),(2:Int),(3:Int)]).1),IntKind.wrap .i64 ((1:Int)+((k1_sl8Rec p0 p1 p2).1)),[],((k1_sl8Rec p0 p1 p2).2.1),((k1_sl8Rec p0 p1 p2).2.2.1),((k1_sl8Rec p0 p1 p2).2.2.2))))) none) none)) (by kernel_rfl) ?_
 exact (cndA hp fun hp=>(cndA hp fun hp=>(cndQ (F:=F_sl8Rec) hp (fun hp=>(cndT hp fun _h=>rfl)) (fun hp=>rfl))))
noncomputable abbrev m_sl8Rec:=win winIds (msum SM_sl8Rec pre_sl8Rec g_sl8Rec)
theorem c_sl8Rec:MContract Try.prog 120 m_sl8Rec:=(MContract.of_dataRD []  G38 (by kernel_rfl) (hl0 (by kernel_rfl)) _ _ _ run_sl8Rec).win winIds
noncomputable def S39:Tab:=Tab.add S38 120 (m_sl8Rec)
noncomputable def QF39:FuncId→Bool:=QF38
theorem G39:Good Try.prog tt S39 QF39:=G38.addM c_sl8Rec (win_local _) ⟨Try.f120,by kernel_rfl,by kernel_rfl,by kernel_rfl⟩ (by kernel_rfl)

noncomputable abbrev SM_sl3KeyAny:SS:=⟨[.ptr 0 0 1 0],[.box [.t false t_sy,.t true (.int .i64),.t true (.int .i64)]]⟩
noncomputable def k1_sl3KeyAny (p0:List Int) (p1:Int) (p2:Int):=sl1Str ((sl1Once (6:Int) p0 p1 p2).2.1) ((sl1Once (6:Int) p0 p1 p2).2.2.1) ((sl1Once (6:Int) p0 p1 p2).2.2.2) ([bE,(⟨#[65]⟩:ByteArray),(⟨#[97,32,98]⟩:ByteArray),(⟨#[116,104,105,114,116,101,101,110,98,121,116,101,115]⟩:ByteArray),(⟨#[116,119,101,108,118,101,98,121,116,101,115,49]⟩:ByteArray)])
noncomputable def k2_sl3KeyAny (p0:List Int) (p1:Int) (p2:Int):=sl3Key ((sl1Once (6:Int) p0 p1 p2).2.1) ((sl1Once (6:Int) p0 p1 p2).2.2.1) ((sl1Once (6:Int) p0 p1 p2).2.2.2)
noncomputable def sl3KeyAny (p0:List Int) (p1:Int) (p2:Int):ByteArray×(List Int)×Int×Int:=(cond ((sl1Once (6:Int) p0 p1 p2).1) (((k1_sl3KeyAny p0 p1 p2).1),((k1_sl3KeyAny p0 p1 p2).2.1),((k1_sl3KeyAny p0 p1 p2).2.2.1),((k1_sl3KeyAny p0 p1 p2).2.2.2.1)) (((k2_sl3KeyAny p0 p1 p2).1),((k2_sl3KeyAny p0 p1 p2).2.1),((k2_sl3KeyAny p0 p1 p2).2.2.1),((k2_sl3KeyAny p0 p1 p2).2.2.2)))
noncomputable abbrev e_sl3KeyAny (r:ByteArray×(List Int)×Int×Int):AV×List AObj×List Nat:=((.t true .str r.1),[(.box [(.t false t_sy r.2.1),(.t true (.int .i64) r.2.2.1),(.t true (.int .i64) r.2.2.2)])],[])
noncomputable abbrev F_sl3KeyAny (r:ByteArray×(List Int)×Int×Int):=some (e_sl3KeyAny r)
noncomputable abbrev g_sl3KeyAny:SM_sl3KeyAny.den→AV×List AObj×List Nat:=fun d=>e_sl3KeyAny (sl3KeyAny d.2.1.1 d.2.1.2.1 d.2.1.2.2.1)
noncomputable def q_sl3KeyAny (p0:List Int) (p1:Int) (p2:Int):Bool:=(q_sl1Once (6:Int) p0 p1 p2)&&(cond ((sl1Once (6:Int) p0 p1 p2).1) (q_sl1Str ((sl1Once (6:Int) p0 p1 p2).2.1) ((sl1Once (6:Int) p0 p1 p2).2.2.1) ((sl1Once (6:Int) p0 p1 p2).2.2.2) ([bE,(⟨#[65]⟩:ByteArray),(⟨#[97,32,98]⟩:ByteArray),(⟨#[116,104,105,114,116,101,101,110,98,121,116,101,115]⟩:ByteArray),(⟨#[116,119,101,108,118,101,98,121,116,101,115,49]⟩:ByteArray)])) (q_sl3Key ((sl1Once (6:Int) p0 p1 p2).2.1) ((sl1Once (6:Int) p0 p1 p2).2.2.1) ((sl1Once (6:Int) p0 p1 p2).2.2.2)))
noncomputable abbrev pre_sl3KeyAny:SM_sl3KeyAny.den→Bool:=fun d=>q_sl3KeyAny d.2.1.1 d.2.1.2.1 d.2.1.2.2.1
theorem run_sl3KeyAny:RunM G39 (fun _ _=>none) Try.f90 SM_sl3KeyAny pre_sl3KeyAny g_sl3KeyAny:=by
 rintro ⟨⟨_,_⟩,⟨⟨p0,p1,p2,_⟩,_⟩⟩ hp
 change q_sl3KeyAny p0 p1 p2=true at hp
 unfold q_sl3KeyAny at hp
 refine Eq.trans (b:=(cond (q_sl1Once (6:Int) p0 p1 p2) (cond ((sl1Once (6:Int) p0 p1 p2).1) (cond (q_sl1Str ((sl1Once (6:Int) p0 p1 p2).2.1) ((sl1Once (6:Int) p0 p1 p2).2.2.1) ((sl1Once (6:Int) p0 p1 p2).2.2.2) ([(⟨#[]⟩:ByteArray),(⟨#[65]⟩:ByteArray),(⟨#[97,32,98]⟩:ByteArray),(⟨#[116,104,105,114,116,101,101,110,98,121,116,101,115]⟩:ByteArray),(⟨#[116,119,101,108,118,101,98,121,116,101,115,49]⟩:ByteArray)])) (some (e_sl3KeyAny (((k1_sl3KeyAny p0 p1 p2).1),((k1_sl3KeyAny p0 p1 p2).2.1),((k1_sl3KeyAny p0 p1 p2).2.2.1),((k1_sl3KeyAny p0 p1 p2).2.2.2.1)))) none) (cond (q_sl3Key ((sl1Once (6:Int) p0 p1 p2).2.1) ((sl1Once (6:Int) p0 p1 p2).2.2.1) ((sl1Once (6:Int) p0 p1 p2).2.2.2)) (some (e_sl3KeyAny (((k2_sl3KeyAny p0 p1 p2).1),((k2_sl3KeyAny p0 p1 p2).2.1),((k2_sl3KeyAny p0 p1 p2).2.2.1),((k2_sl3KeyAny p0 p1 p2).2.2.2)))) none)) none)) (by kernel_rfl) ?_
 exact (cndA hp fun hp=>(cndQ (F:=F_sl3KeyAny) hp (fun hp=>(cndT hp fun _h=>rfl)) (fun hp=>(cndT hp fun _h=>rfl))))
noncomputable abbrev m_sl3KeyAny:=win winIds (msum SM_sl3KeyAny pre_sl3KeyAny g_sl3KeyAny)
theorem c_sl3KeyAny:MContract Try.prog 90 m_sl3KeyAny:=(MContract.of_data G39 (by kernel_rfl) (hl0 (by kernel_rfl)) _ _ _ run_sl3KeyAny).win winIds
noncomputable def S40:Tab:=Tab.add S39 90 (m_sl3KeyAny)
noncomputable def QF40:FuncId→Bool:=QF39
theorem G40:Good Try.prog tt S40 QF40:=G39.addM c_sl3KeyAny (win_local _) ⟨Try.f90,by kernel_rfl,by kernel_rfl,by kernel_rfl⟩ (by kernel_rfl)

noncomputable abbrev SM_sl7Any:SS:=⟨[.ptr 0 0 1 0],[.box [.t false t_sy,.t true (.int .i64),.t true (.int .i64)]]⟩
noncomputable def k1_sl7Any (p0:List Int) (p1:Int) (p2:Int):=sl1Below (10:Int) ((sl7Draw p0 p1 p2).1) ((sl7Draw p0 p1 p2).2.1) ((sl7Draw p0 p1 p2).2.2.1)
noncomputable def k2_sl7Any (p0:List Int) (p1:Int) (p2:Int):=sl7Op1 ((k1_sl7Any p0 p1 p2).2.1) ((k1_sl7Any p0 p1 p2).2.2.1) ((k1_sl7Any p0 p1 p2).2.2.2)
noncomputable def k3_sl7Any (p0:List Int) (p1:Int) (p2:Int):=sl1Below (5:Int) ((k1_sl7Any p0 p1 p2).2.1) ((k1_sl7Any p0 p1 p2).2.2.1) ((k1_sl7Any p0 p1 p2).2.2.2)
noncomputable def k4_sl7Any (p0:List Int) (p1:Int) (p2:Int):=sl3KeyAny ((k1_sl7Any p0 p1 p2).2.1) ((k1_sl7Any p0 p1 p2).2.2.1) ((k1_sl7Any p0 p1 p2).2.2.2)
noncomputable def k5_sl7Any (p0:List Int) (p1:Int) (p2:Int):=sl1Below (2:Int) ((k1_sl7Any p0 p1 p2).2.1) ((k1_sl7Any p0 p1 p2).2.2.1) ((k1_sl7Any p0 p1 p2).2.2.2)
noncomputable def sl7Any (p0:List Int) (p1:Int) (p2:Int):(Lq2)×(List Int)×Int×Int:=(cond (((k1_sl7Any p0 p1 p2).1)==(0:Int)) (((sl7Draw p0 p1 p2).2.2.2)++[(((k2_sl7Any p0 p1 p2).1),(((k2_sl7Any p0 p1 p2).2.1),((k2_sl7Any p0 p1 p2).2.2.1)))],((k2_sl7Any p0 p1 p2).2.2.2.1),((k2_sl7Any p0 p1 p2).2.2.2.2.1),((k2_sl7Any p0 p1 p2).2.2.2.2.2.1)) (cond (((k1_sl7Any p0 p1 p2).1)==(1:Int)) (((sl7Draw p0 p1 p2).2.2.2).set ((0:Int).toNat) (((k3_sl7Any p0 p1 p2).1),(((((sl7Draw p0 p1 p2).2.2.2).getD ((0:Int).toNat) ((0:Int),(bE,bE))).2).1,((((sl7Draw p0 p1 p2).2.2.2).getD ((0:Int).toNat) ((0:Int),(bE,bE))).2).2)),((k3_sl7Any p0 p1 p2).2.1),((k3_sl7Any p0 p1 p2).2.2.1),((k3_sl7Any p0 p1 p2).2.2.2)) (cond (((k1_sl7Any p0 p1 p2).1)==(2:Int)) (((sl7Draw p0 p1 p2).2.2.2).set ((0:Int).toNat) ((((sl7Draw p0 p1 p2).2.2.2).getD ((0:Int).toNat) ((0:Int),(bE,bE))).1,(((k4_sl7Any p0 p1 p2).1),((((sl7Draw p0 p1 p2).2.2.2).getD ((0:Int).toNat) ((0:Int),(bE,bE))).2).2)),((k4_sl7Any p0 p1 p2).2.1),((k4_sl7Any p0 p1 p2).2.2.1),((k4_sl7Any p0 p1 p2).2.2.2)) (cond (((k1_sl7Any p0 p1 p2).1)==(3:Int)) (((sl7Draw p0 p1 p2).2.2.2).set ((0:Int).toNat) ((((sl7Draw p0 p1 p2).2.2.2).getD ((0:Int).toNat) ((0:Int),(bE,bE))).1,(((((sl7Draw p0 p1 p2).2.2.2).getD ((0:Int).toNat) ((0:Int),(bE,bE))).2).1,(⟨((List.replicate (IntKind.wrap .i64 ((20:Int)+((k5_sl7Any p0 p1 p2).1))).toNat (0:Int)).map fun n=>UInt8.ofNat n.toNat).toArray⟩:ByteArray))),((k5_sl7Any p0 p1 p2).2.1),((k5_sl7Any p0 p1 p2).2.2.1),((k5_sl7Any p0 p1 p2).2.2.2)) (cond (((k1_sl7Any p0 p1 p2).1)==(4:Int)) (((sl7Draw p0 p1 p2).2.2.2).take ((0:Int).toNat),((k1_sl7Any p0 p1 p2).2.1),((k1_sl7Any p0 p1 p2).2.2.1),((k1_sl7Any p0 p1 p2).2.2.2)) (((sl7Draw p0 p1 p2).2.2.2),((k1_sl7Any p0 p1 p2).2.1),((k1_sl7Any p0 p1 p2).2.2.1),((k1_sl7Any p0 p1 p2).2.2.2)))))))
noncomputable abbrev e_sl7Any (r:(Lq2)×(List Int)×Int×Int):AV×List AObj×List Nat:=((.t true tq5 r.1),[(.box [(.t false t_sy r.2.1),(.t true (.int .i64) r.2.2.1),(.t true (.int .i64) r.2.2.2)])],[])
noncomputable abbrev F_sl7Any (r:(Lq2)×(List Int)×Int×Int):=some (e_sl7Any r)
noncomputable abbrev g_sl7Any:SM_sl7Any.den→AV×List AObj×List Nat:=fun d=>e_sl7Any (sl7Any d.2.1.1 d.2.1.2.1 d.2.1.2.2.1)
noncomputable def q_sl7Any (p0:List Int) (p1:Int) (p2:Int):Bool:=(q_sl7Draw p0 p1 p2)&&((q_sl1Below (10:Int) ((sl7Draw p0 p1 p2).1) ((sl7Draw p0 p1 p2).2.1) ((sl7Draw p0 p1 p2).2.2.1))&&(cond (((k1_sl7Any p0 p1 p2).1)==(0:Int)) ((q_sl7Op1 ((k1_sl7Any p0 p1 p2).2.1) ((k1_sl7Any p0 p1 p2).2.2.1) ((k1_sl7Any p0 p1 p2).2.2.2))&&(decide ((((sl7Draw p0 p1 p2).2.2.2).length+[(((k2_sl7Any p0 p1 p2).1),(((k2_sl7Any p0 p1 p2).2.1),((k2_sl7Any p0 p1 p2).2.2.1)))].length)*40≤MAXB))) (cond (((k1_sl7Any p0 p1 p2).1)==(1:Int)) ((q_sl1Below (5:Int) ((k1_sl7Any p0 p1 p2).2.1) ((k1_sl7Any p0 p1 p2).2.2.1) ((k1_sl7Any p0 p1 p2).2.2.2))&&(decide (0≤(0:Int)∧(0:Int)<((((sl7Draw p0 p1 p2).2.2.2).length:Nat):Int)))) (cond (((k1_sl7Any p0 p1 p2).1)==(2:Int)) ((q_sl3KeyAny ((k1_sl7Any p0 p1 p2).2.1) ((k1_sl7Any p0 p1 p2).2.2.1) ((k1_sl7Any p0 p1 p2).2.2.2))&&(decide (0≤(0:Int)∧(0:Int)<((((sl7Draw p0 p1 p2).2.2.2).length:Nat):Int)))) (cond (((k1_sl7Any p0 p1 p2).1)==(3:Int)) ((q_sl1Below (2:Int) ((k1_sl7Any p0 p1 p2).2.1) ((k1_sl7Any p0 p1 p2).2.2.1) ((k1_sl7Any p0 p1 p2).2.2.2))&&((decide (0≤(IntKind.wrap .i64 ((20:Int)+((k5_sl7Any p0 p1 p2).1)))∧(IntKind.wrap .i64 ((20:Int)+((k5_sl7Any p0 p1 p2).1)))=(IntKind.wrap .i64 ((20:Int)+((k5_sl7Any p0 p1 p2).1)))∧(IntKind.wrap .i64 ((20:Int)+((k5_sl7Any p0 p1 p2).1))).toNat*1≤MAXB∧(IntKind.wrap .i64 ((20:Int)+((k5_sl7Any p0 p1 p2).1)))≤9223372036854775807))&&(decide (0≤(0:Int)∧(0:Int)<((((sl7Draw p0 p1 p2).2.2.2).length:Nat):Int))))) (cond (((k1_sl7Any p0 p1 p2).1)==(4:Int)) (decide (0≤(0:Int)∧(0:Int)≤(0:Int)∧(0:Int)≤((((sl7Draw p0 p1 p2).2.2.2).length:Nat):Int))) true))))))
noncomputable abbrev pre_sl7Any:SM_sl7Any.den→Bool:=fun d=>q_sl7Any d.2.1.1 d.2.1.2.1 d.2.1.2.2.1
theorem run_sl7Any:RunMRD [] G40 (fun _ _=>none) Try.f57 SM_sl7Any pre_sl7Any g_sl7Any:=by
 rintro ⟨⟨_,_⟩,⟨⟨p0,p1,p2,_⟩,_⟩⟩ hp
 change q_sl7Any p0 p1 p2=true at hp
 unfold q_sl7Any at hp
 refine Eq.trans (b:=(cond (q_sl7Draw p0 p1 p2) (cond (q_sl1Below (10:Int) ((sl7Draw p0 p1 p2).1) ((sl7Draw p0 p1 p2).2.1) ((sl7Draw p0 p1 p2).2.2.1)) (cond (((k1_sl7Any p0 p1 p2).1)==(0:Int)) (cond (q_sl7Op1 ((k1_sl7Any p0 p1 p2).2.1) ((k1_sl7Any p0 p1 p2).2.2.1) ((k1_sl7Any p0 p1 p2).2.2.2)) (cond (decide ((((sl7Draw p0 p1 p2).2.2.2).length+[(((k2_sl7Any p0 p1 p2).1),(((k2_sl7Any p0 p1 p2).2.1),((k2_sl7Any p0 p1 p2).2.2.1)))].length)*40≤MAXB)) (some (e_sl7Any (((sl7Draw p0 p1 p2).2.2.2)++[(((k2_sl7Any p0 p1 p2).1),(((k2_sl7Any p0 p1 p2).2.1),((k2_sl7Any p0 p1 p2).2.2.1)))],((k2_sl7Any p0 p1 p2).2.2.2.1),((k2_sl7Any p0 p1 p2).2.2.2.2.1),((k2_sl7Any p0 p1 p2).2.2.2.2.2.1)))) none) none) (cond (((k1_sl7Any p0 p1 p2).1)==(1:Int)) (cond (q_sl1Below (5:Int) ((k1_sl7Any p0 p1 p2).2.1) ((k1_sl7Any p0 p1 p2).2.2.1) ((k1_sl7Any p0 p1 p2).2.2.2)) (cond (decide (0≤(0:Int)∧(0:Int)<((((sl7Draw p0 p1 p2).2.2.2).length:Nat):Int))) (some (e_sl7Any (((sl7Draw p0 p1 p2).2.2.2).set ((0:Int).toNat) (((k3_sl7Any p0 p1 p2).1),(((((sl7Draw p0 p1 p2).2.2.2).getD ((0:Int).toNat) ((0:Int),((⟨#[]⟩:ByteArray),(⟨#[]⟩:ByteArray)))).2).1,((((sl7Draw p0 p1 p2).2.2.2).getD ((0:Int).toNat) ((0:Int),((⟨#[]⟩:ByteArray),(⟨#[]⟩:ByteArray)))).2).2)),((k3_sl7Any p0 p1 p2).2.1),((k3_sl7Any p0 p1 p2).2.2.1),((k3_sl7Any p0 p1 p2).2.2.2)))) none) none) (cond (((k1_sl7Any p0 p1 p2).1)==(2:Int)) (cond (q_sl3KeyAny ((k1_sl7Any p0 p1 p2).2.1) ((k1_sl7Any p0 p1 p2).2.2.1) ((k1_sl7Any p0 p1 p2).2.2.2)) (cond (decide (0≤(0:Int)∧(0:Int)<((((sl7Draw p0 p1 p2).2.2.2).length:Nat):Int))) (some (e_sl7Any (((sl7Draw p0 p1 p2).2.2.2).set ((0:Int).toNat) ((((sl7Draw p0 p1 p2).2.2.2).getD ((0:Int).toNat) ((0:Int),((⟨#[]⟩:ByteArray),(⟨#[]⟩:ByteArray)))).1,(((k4_sl7Any p0 p1 p2).1),((((sl7Draw p0 p1 p2).2.2.2).getD ((0:Int).toNat) ((0:Int),((⟨#[]⟩:ByteArray),(⟨#[]⟩:ByteArray)))).2).2)),((k4_sl7Any p0 p1 p2).2.1),((k4_sl7Any p0 p1 p2).2.2.1),((k4_sl7Any p0 p1 p2).2.2.2)))) none) none) (cond (((k1_sl7Any p0 p1 p2).1)==(3:Int)) (cond (q_sl1Below (2:Int) ((k1_sl7Any p0 p1 p2).2.1) ((k1_sl7Any p0 p1 p2).2.2.1) ((k1_sl7Any p0 p1 p2).2.2.2)) (cond (decide (0≤(IntKind.wrap .i64 ((20:Int)+((k5_sl7Any p0 p1 p2).1)))∧(IntKind.wrap .i64 ((20:Int)+((k5_sl7Any p0 p1 p2).1)))=(IntKind.wrap .i64 ((20:Int)+((k5_sl7Any p0 p1 p2).1)))∧(IntKind.wrap .i64 ((20:Int)+((k5_sl7Any p0 p1 p2).1))).toNat*1≤MAXB∧(IntKind.wrap .i64 ((20:Int)+((k5_sl7Any p0 p1 p2).1)))≤9223372036854775807)) (cond (decide (0≤(0:Int)∧(0:Int)<((((sl7Draw p0 p1 p2).2.2.2).length:Nat):Int))) (some (e_sl7Any (((sl7Draw p0 p1 p2).2.2.2).set ((0:Int).toNat) ((((sl7Draw p0 p1 p2).2.2.2).getD ((0:Int).toNat) ((0:Int),((⟨#[]⟩:ByteArray),(⟨#[]⟩:ByteArray)))).1,(((((sl7Draw p0 p1 p2).2.2.2).getD ((0:Int).toNat) ((0:Int),((⟨#[]⟩:ByteArray),(⟨#[]⟩:ByteArray)))).2).1,(⟨((List.replicate (IntKind.wrap .i64 ((20:Int)+((k5_sl7Any p0 p1 p2).1))).toNat (0:Int)).map fun n=>UInt8.ofNat n.toNat).toArray⟩:ByteArray))),((k5_sl7Any p0 p1 p2).2.1),((k5_sl7Any p0 p1 p2).2.2.1),((k5_sl7Any p0 p1 p2).2.2.2)))) none) none) none) (cond (((k1_sl7Any p0 p1 p2).1)==(4:Int)) (cond (decide (0≤(0:Int)∧(0:Int)≤(0:Int)∧(0:Int)≤((((sl7Draw p0 p1 p2).2.2.2).length:Nat):Int))) (some (e_sl7Any (((sl7Draw p0 p1 p2).2.2.2).take ((0:Int).toNat),((k1_sl7Any p0 p1 p2).2.1),((k1_sl7Any p0 p1 p2).2.2.1),((k1_sl7Any p0 p1 p2).2.2.2)))) none) (some (e_sl7Any (((sl7Draw p0 p1 p2).2.2.2),((k1_sl7Any p0 p1 p2).2.1),((k1_sl7Any p0 p1 p2).2.2.1),((k1_sl7Any p0 p1 p2).2.2.2))))))))) none) none)) (by kernel_rfl) ?_
 exact (cndA hp fun hp=>(cndA hp fun hp=>(cndQ (F:=F_sl7Any) hp (fun hp=>(cndA hp fun hp=>(cndT hp fun _h=>rfl))) (fun hp=>(cndQ (F:=F_sl7Any) hp (fun hp=>(cndA hp fun hp=>(cndT hp fun _h=>rfl))) (fun hp=>(cndQ (F:=F_sl7Any) hp (fun hp=>(cndA hp fun hp=>(cndT hp fun _h=>rfl))) (fun hp=>(cndQ (F:=F_sl7Any) hp (fun hp=>(cndA hp fun hp=>(cndA hp fun hp=>(cndT hp fun _h=>rfl)))) (fun hp=>(cndQ (F:=F_sl7Any) hp (fun hp=>(cndT hp fun _h=>rfl)) (fun hp=>rfl))))))))))))
noncomputable abbrev m_sl7Any:=win winIds (msum SM_sl7Any pre_sl7Any g_sl7Any)
theorem c_sl7Any:MContract Try.prog 57 m_sl7Any:=(MContract.of_dataRD []  G40 (by kernel_rfl) (hl0 (by kernel_rfl)) _ _ _ run_sl7Any).win winIds
noncomputable def S41:Tab:=Tab.add S40 57 (m_sl7Any)
noncomputable def QF41:FuncId→Bool:=QF40
theorem G41:Good Try.prog tt S41 QF41:=G40.addM c_sl7Any (win_local _) ⟨Try.f57,by kernel_rfl,by kernel_rfl,by kernel_rfl⟩ (by kernel_rfl)

noncomputable abbrev SM_sl8Any:SS:=⟨[.ptr 0 0 1 0],[.box [.t false t_sy,.t true (.int .i64),.t true (.int .i64)]]⟩
noncomputable def k1_sl8Any (p0:List Int) (p1:Int) (p2:Int):=sl1Below (8:Int) ((sl8Rec p0 p1 p2).2.2.2.1) ((sl8Rec p0 p1 p2).2.2.2.2.1) ((sl8Rec p0 p1 p2).2.2.2.2.2)
noncomputable def k2_sl8Any (p0:List Int) (p1:Int) (p2:Int):=sl1Below (5:Int) ((k1_sl8Any p0 p1 p2).2.1) ((k1_sl8Any p0 p1 p2).2.2.1) ((k1_sl8Any p0 p1 p2).2.2.2)
noncomputable def k3_sl8Any (p0:List Int) (p1:Int) (p2:Int):=sl1Int ((k1_sl8Any p0 p1 p2).2.1) ((k1_sl8Any p0 p1 p2).2.2.1) ((k1_sl8Any p0 p1 p2).2.2.2) [(0:Int),(1000000:Int),(1000001:Int)]
noncomputable def k4_sl8Any (p0:List Int) (p1:Int) (p2:Int):=sl7Any ((k1_sl8Any p0 p1 p2).2.1) ((k1_sl8Any p0 p1 p2).2.2.1) ((k1_sl8Any p0 p1 p2).2.2.2)
noncomputable def sl8Any (p0:List Int) (p1:Int) (p2:Int):Int×Int×(Lq2)×(List Int)×Int×Int×Int×Int×Lq2:=(cond (((k1_sl8Any p0 p1 p2).1)==(0:Int)) (((k2_sl8Any p0 p1 p2).1),((sl8Rec p0 p1 p2).2.1),((sl8Rec p0 p1 p2).2.2.1),((k2_sl8Any p0 p1 p2).2.1),((k2_sl8Any p0 p1 p2).2.2.1),((k2_sl8Any p0 p1 p2).2.2.2),((k2_sl8Any p0 p1 p2).1),((sl8Rec p0 p1 p2).2.1),((sl8Rec p0 p1 p2).2.2.1)) (cond (((k1_sl8Any p0 p1 p2).1)==(1:Int)) (((sl8Rec p0 p1 p2).1),((k3_sl8Any p0 p1 p2).1),((sl8Rec p0 p1 p2).2.2.1),((k3_sl8Any p0 p1 p2).2.1),((k3_sl8Any p0 p1 p2).2.2.1),((k3_sl8Any p0 p1 p2).2.2.2.1),((sl8Rec p0 p1 p2).1),((k3_sl8Any p0 p1 p2).1),((sl8Rec p0 p1 p2).2.2.1)) (cond (((k1_sl8Any p0 p1 p2).1)==(2:Int)) (((sl8Rec p0 p1 p2).1),((sl8Rec p0 p1 p2).2.1),((k4_sl8Any p0 p1 p2).1),((k4_sl8Any p0 p1 p2).2.1),((k4_sl8Any p0 p1 p2).2.2.1),((k4_sl8Any p0 p1 p2).2.2.2),((sl8Rec p0 p1 p2).1),((sl8Rec p0 p1 p2).2.1),((k4_sl8Any p0 p1 p2).1)) (((sl8Rec p0 p1 p2).1),((sl8Rec p0 p1 p2).2.1),((sl8Rec p0 p1 p2).2.2.1),((k1_sl8Any p0 p1 p2).2.1),((k1_sl8Any p0 p1 p2).2.2.1),((k1_sl8Any p0 p1 p2).2.2.2),((sl8Rec p0 p1 p2).1),((sl8Rec p0 p1 p2).2.1),((sl8Rec p0 p1 p2).2.2.1)))))
noncomputable abbrev e_sl8Any (r:Int×Int×(Lq2)×(List Int)×Int×Int×Int×Int×Lq2):AV×List AObj×List Nat:=((.agg [(.t true (.int .i64) r.1),(.t true (.int .i64) r.2.1),(.t true tq5 r.2.2.1)]),[(.box [(.t false t_sy r.2.2.2.1),(.t true (.int .i64) r.2.2.2.2.1),(.t true (.int .i64) r.2.2.2.2.2.1)]),(.box [(.t true (.int .i64) r.2.2.2.2.2.2.1),(.t true (.int .i64) r.2.2.2.2.2.2.2.1),(.t true tq5 r.2.2.2.2.2.2.2.2)])],[])
noncomputable abbrev F_sl8Any (r:Int×Int×(Lq2)×(List Int)×Int×Int×Int×Int×Lq2):=some (e_sl8Any r)
noncomputable abbrev g_sl8Any:SM_sl8Any.den→AV×List AObj×List Nat:=fun d=>e_sl8Any (sl8Any d.2.1.1 d.2.1.2.1 d.2.1.2.2.1)
noncomputable def q_sl8Any (p0:List Int) (p1:Int) (p2:Int):Bool:=(q_sl8Rec p0 p1 p2)&&((q_sl1Below (8:Int) ((sl8Rec p0 p1 p2).2.2.2.1) ((sl8Rec p0 p1 p2).2.2.2.2.1) ((sl8Rec p0 p1 p2).2.2.2.2.2))&&(cond (((k1_sl8Any p0 p1 p2).1)==(0:Int)) (q_sl1Below (5:Int) ((k1_sl8Any p0 p1 p2).2.1) ((k1_sl8Any p0 p1 p2).2.2.1) ((k1_sl8Any p0 p1 p2).2.2.2)) (cond (((k1_sl8Any p0 p1 p2).1)==(1:Int)) (q_sl1Int ((k1_sl8Any p0 p1 p2).2.1) ((k1_sl8Any p0 p1 p2).2.2.1) ((k1_sl8Any p0 p1 p2).2.2.2) [(0:Int),(1000000:Int),(1000001:Int)]) (cond (((k1_sl8Any p0 p1 p2).1)==(2:Int)) (q_sl7Any ((k1_sl8Any p0 p1 p2).2.1) ((k1_sl8Any p0 p1 p2).2.2.1) ((k1_sl8Any p0 p1 p2).2.2.2)) true))))
noncomputable abbrev pre_sl8Any:SM_sl8Any.den→Bool:=fun d=>q_sl8Any d.2.1.1 d.2.1.2.1 d.2.1.2.2.1
theorem run_sl8Any:RunM G41 (fun _ _=>none) Try.f85 SM_sl8Any pre_sl8Any g_sl8Any:=by
 rintro ⟨⟨_,_⟩,⟨⟨p0,p1,p2,_⟩,_⟩⟩ hp
 change q_sl8Any p0 p1 p2=true at hp
 unfold q_sl8Any at hp
 refine Eq.trans (b:=(cond (q_sl8Rec p0 p1 p2) (cond (q_sl1Below (8:Int) ((sl8Rec p0 p1 p2).2.2.2.1) ((sl8Rec p0 p1 p2).2.2.2.2.1) ((sl8Rec p0 p1 p2).2.2.2.2.2)) (cond (((k1_sl8Any p0 p1 p2).1)==(0:Int)) (cond (q_sl1Below (5:Int) ((k1_sl8Any p0 p1 p2).2.1) ((k1_sl8Any p0 p1 p2).2.2.1) ((k1_sl8Any p0 p1 p2).2.2.2)) (some (e_sl8Any (((k2_sl8Any p0 p1 p2).1),((sl8Rec p0 p1 p2).2.1),((sl8Rec p0 p1 p2).2.2.1),((k2_sl8Any p0 p1 p2).2.1),((k2_sl8Any p0 p1 p2).2.2.1),((k2_sl8Any p0 p1 p2).2.2.2),((k2_sl8Any p0 p1 p2).1),((sl8Rec p0 p1 p2).2.1),((sl8Rec p0 p1 p2).2.2.1)))) none) (cond (((k1_sl8Any p0 p1 p2).1)==(1:Int)) (cond (q_sl1Int ((k1_sl8Any p0 p1 p2).2.1) ((k1_sl8Any p0 p1 p2).2.2.1) ((k1_sl8Any p0 p1 p2).2.2.2) [(0:Int),(1000000:Int),(1000001:Int)]) (some (e_sl8Any (((sl8Rec p0 p1 p2).1),((k3_sl8Any p0 p1 p2).1),((sl8Rec p0 p1 p2).2.2.1),((k3_sl8Any p0 p1 p2).2.1),((k3_sl8Any p0 p1 p2).2.2.1),((k3_sl8Any p0 p1 p2).2.2.2.1),((sl8Rec p0 p1 p2).1),((k3_sl8Any p0 p1 p2).1),((sl8Rec p0 p1 p2).2.2.1)))) none) (cond (((k1_sl8Any p0 p1 p2).1)==(2:Int)) (cond (q_sl7Any ((k1_sl8Any p0 p1 p2).2.1) ((k1_sl8Any p0 p1 p2).2.2.1) ((k1_sl8Any p0 p1 p2).2.2.2)) (some (e_sl8Any (((sl8Rec p0 p1 p2).1),((sl8Rec p0 p1 p2).2.1),((k4_sl8Any p0 p1 p2).1),((k4_sl8Any p0 p1 p2).2.1),((k4_sl8Any p0 p1 p2).2.2.1),((k4_sl8Any p0 p1 p2).2.2.2),((sl8Rec p0 p1 p2).1),((sl8Rec p0 p1 p2).2.1),((k4_sl8Any p0 p1 p2).1)))) none) (some (e_sl8Any (((sl8Rec p0 p1 p2).1),((sl8Rec p0 p1 p2).2.1),((sl8Rec p0 p1 p2).2.2.1),((k1_sl8Any p0 p1 p2).2.1),((k1_sl8Any p0 p1 p2).2.2.1),((k1_sl8Any p0 p1 p2).2.2.2),((sl8Rec p0 p1 p2).1),((sl8Rec p0 p1 p2).2.1),((sl8Rec p0 p1 p2).2.2.1))))))) none) none)) (by kernel_rfl) ?_
 exact (cndA hp fun hp=>(cndA hp fun hp=>(cndQ (F:=F_sl8Any) hp (fun hp=>(cndT hp fun _h=>rfl)) (fun hp=>(cndQ (F:=F_sl8Any) hp (fun hp=>(cndT hp fun _h=>rfl)) (fun hp=>(cndQ (F:=F_sl8Any) hp (fun hp=>(cndT hp fun _h=>rfl)) (fun hp=>rfl))))))))
noncomputable abbrev m_sl8Any:=win winIds (msum SM_sl8Any pre_sl8Any g_sl8Any)
theorem c_sl8Any:MContract Try.prog 85 m_sl8Any:=(MContract.of_data G41 (by kernel_rfl) (hl0 (by kernel_rfl)) _ _ _ run_sl8Any).win winIds
noncomputable def S42:Tab:=Tab.add S41 85 (m_sl8Any)
noncomputable def QF42:FuncId→Bool:=QF41
theorem G42:Good Try.prog tt S42 QF42:=G41.addM c_sl8Any (win_local _) ⟨Try.f85,by kernel_rfl,by kernel_rfl,by kernel_rfl⟩ (by kernel_rfl)

noncomputable abbrev SM_sl9Any:SS:=⟨[.ptr 0 0 1 0,.t true (.int .i64)],[.box [.t false t_sy,.t true (.int .i64),.t true (.int .i64)]]⟩
noncomputable def k1_sl9Any (x1:Int) (p0:List Int) (p1:Int) (p2:Int):=sl1Below (12:Int) ((sl9Draw x1 p0 p1 p2).2.2.1) ((sl9Draw x1 p0 p1 p2).2.2.2.1) ((sl9Draw x1 p0 p1 p2).2.2.2.2.1)
noncomputable def k2_sl9Any (x1:Int) (p0:List Int) (p1:Int) (p2:Int):=sl1Int ((k1_sl9Any x1 p0 p1 p2).2.1) ((k1_sl9Any x1 p0 p1 p2).2.2.1) ((k1_sl9Any x1 p0 p1 p2).2.2.2) [(-1:Int),(7:Int),(8:Int)]
noncomputable def k3_sl9Any (x1:Int) (p0:List Int) (p1:Int) (p2:Int):=sl1Int ((k1_sl9Any x1 p0 p1 p2).2.1) ((k1_sl9Any x1 p0 p1 p2).2.2.1) ((k1_sl9Any x1 p0 p1 p2).2.2.2) [(-1:Int),((((sl9Draw x1 p0 p1 p2).2.2.2.2.2.2.2.1).length:Nat):Int),IntKind.wrap .i64 (((((sl9Draw x1 p0 p1 p2).2.2.2.2.2.2.2.1).length:Nat):Int)+(1:Int))]
noncomputable def k4_sl9Any (x1:Int) (p0:List Int) (p1:Int) (p2:Int):=sl8Any ((k1_sl9Any x1 p0 p1 p2).2.1) ((k1_sl9Any x1 p0 p1 p2).2.2.1) ((k1_sl9Any x1 p0 p1 p2).2.2.2)
noncomputable def sl9Any (x1:Int) (p0:List Int) (p1:Int) (p2:Int):Int×Int×(List Int)×Int×Int×Int×Int×(Lq1)×(LBBe)×Lq1:=(cond (((k1_sl9Any x1 p0 p1 p2).1)==(0:Int)) (((k2_sl9Any x1 p0 p1 p2).1),((sl9Draw x1 p0 p1 p2).2.1),((k2_sl9Any x1 p0 p1 p2).2.1),((k2_sl9Any x1 p0 p1 p2).2.2.1),((k2_sl9Any x1 p0 p1 p2).2.2.2.1),((k2_sl9Any x1 p0 p1 p2).1),((sl9Draw x1 p0 p1 p2).2.1),((sl9Draw x1 p0 p1 p2).2.2.2.2.2.2.2.1),((sl9Draw x1 p0 p1 p2).2.2.2.2.2.2.2.2.1),((sl9Draw x1 p0 p1 p2).2.2.2.2.2.2.2.2.2)) (cond (((k1_sl9Any x1 p0 p1 p2).1)==(1:Int)) (((sl9Draw x1 p0 p1 p2).1),((k3_sl9Any x1 p0 p1 p2).1),((k3_sl9Any x1 p0 p1 p2).2.1),((k3_sl9Any x1 p0 p1 p2).2.2.1),((k3_sl9Any x1 p0 p1 p2).2.2.2.1),((sl9Draw x1 p0 p1 p2).1),((k3_sl9Any x1 p0 p1 p2).1),((sl9Draw x1 p0 p1 p2).2.2.2.2.2.2.2.1),((sl9Draw x1 p0 p1 p2).2.2.2.2.2.2.2.2.1),((sl9Draw x1 p0 p1 p2).2.2.2.2.2.2.2.2.2)) (cond (((k1_sl9Any x1 p0 p1 p2).1)==(2:Int)) (((sl9Draw x1 p0 p1 p2).1),((sl9Draw x1 p0 p1 p2).2.1),((k1_sl9Any x1 p0 p1 p2).2.1),((k1_sl9Any x1 p0 p1 p2).2.2.1),((k1_sl9Any x1 p0 p1 p2).2.2.2),((sl9Draw x1 p0 p1 p2).1),((sl9Draw x1 p0 p1 p2).2.1),((sl9Draw x1 p0 p1 p2).2.2.2.2.2.2.2.1),((sl9Draw x1 p0 p1 p2).2.2.2.2.2.2.2.2.1)++([((⟨#[122,122,122]⟩:ByteArray),bE)]),((sl9Draw x1 p0 p1 p2).2.2.2.2.2.2.2.2.2)) (cond (((k1_sl9Any x1 p0 p1 p2).1)==(3:Int)) (((sl9Draw x1 p0 p1 p2).1),((sl9Draw x1 p0 p1 p2).2.1),((k4_sl9Any x1 p0 p1 p2).2.2.2.1),((k4_sl9Any x1 p0 p1 p2).2.2.2.2.1),((k4_sl9Any x1 p0 p1 p2).2.2.2.2.2.1),((sl9Draw x1 p0 p1 p2).1),((sl9Draw x1 p0 p1 p2).2.1),((sl9Draw x1 p0 p1 p2).2.2.2.2.2.2.2.1)++[(((k4_sl9Any x1 p0 p1 p2).1),(((k4_sl9Any x1 p0 p1 p2).2.1),((k4_sl9Any x1 p0 p1 p2).2.2.1)))],((sl9Draw x1 p0 p1 p2).2.2.2.2.2.2.2.2.1),((sl9Draw x1 p0 p1 p2).2.2.2.2.2.2.2.2.2)) (((sl9Draw x1 p0 p1 p2).1),((sl9Draw x1 p0 p1 p2).2.1),((k1_sl9Any x1 p0 p1 p2).2.1),((k1_sl9Any x1 p0 p1 p2).2.2.1),((k1_sl9Any x1 p0 p1 p2).2.2.2),((sl9Draw x1 p0 p1 p2).1),((sl9Draw x1 p0 p1 p2).2.1),((sl9Draw x1 p0 p1 p2).2.2.2.2.2.2.2.1),((sl9Draw x1 p0 p1 p2).2.2.2.2.2.2.2.2.1),((sl9Draw x1 p0 p1 p2).2.2.2.2.2.2.2.2.2))))))
noncomputable abbrev e_sl9Any (r:Int×Int×(List Int)×Int×Int×Int×Int×(Lq1)×(LBBe)×Lq1):AV×List AObj×List Nat:=((.agg [(.t true (.int .i64) r.1),(.all 2 3),(.t true (.int .i64) r.2.1),(.all 3 2),(.all 4 3)]),[(.box [(.t false t_sy r.2.2.1),(.t true (.int .i64) r.2.2.2.1),(.t true (.int .i64) r.2.2.2.2.1)]),(.box [(.t true (.int .i64) r.2.2.2.2.2.1),(.all 2 3),(.t true (.int .i64) r.2.2.2.2.2.2.1),(.all 3 2),(.all 4 3)]),(.rows 32 true tq4 r.2.2.2.2.2.2.2.1),(.rows 70 true t_ptt r.2.2.2.2.2.2.2.2.1),(.rows 32 true tq4 r.2.2.2.2.2.2.2.2.2)],[])
noncomputable abbrev F_sl9Any (r:Int×Int×(List Int)×Int×Int×Int×Int×(Lq1)×(LBBe)×Lq1):=some (e_sl9Any r)
noncomputable abbrev g_sl9Any:SM_sl9Any.den→AV×List AObj×List Nat:=fun d=>e_sl9Any (sl9Any d.1.2.1 d.2.1.1 d.2.1.2.1 d.2.1.2.2.1)
noncomputable def q_sl9Any (x1:Int) (p0:List Int) (p1:Int) (p2:Int):Bool:=(q_sl9Draw x1 p0 p1 p2)&&((q_sl1Below (12:Int) ((sl9Draw x1 p0 p1 p2).2.2.1) ((sl9Draw x1 p0 p1 p2).2.2.2.1) ((sl9Draw x1 p0 p1 p2).2.2.2.2.1))&&(cond (((k1_sl9Any x1 p0 p1 p2).1)==(0:Int)) (q_sl1Int ((k1_sl9Any x1 p0 p1 p2).2.1) ((k1_sl9Any x1 p0 p1 p2).2.2.1) ((k1_sl9Any x1 p0 p1 p2).2.2.2) [(-1:Int),(7:Int),(8:Int)]) (cond (((k1_sl9Any x1 p0 p1 p2).1)==(1:Int)) (q_sl1Int ((k1_sl9Any x1 p0 p1 p2).2.1) ((k1_sl9Any x1 p0 p1 p2).2.2.1) ((k1_sl9Any x1 p0 p1 p2).2.2.2) [(-1:Int),((((sl9Draw x1 p0 p1 p2).2.2.2.2.2.2.2.1).length:Nat):Int),IntKind.wrap .i64 (((((sl9Draw x1 p0 p1 p2).2.2.2.2.2.2.2.1).length:Nat):Int)+(1:Int))]) (cond (((k1_sl9Any x1 p0 p1 p2).1)==(2:Int)) (decide ((((sl9Draw x1 p0 p1 p2).2.2.2.2.2.2.2.2.1).length+([((⟨#[122,122,122]⟩:ByteArray),bE)]).length)*32≤MAXB)) (cond (((k1_sl9Any x1 p0 p1 p2).1)==(3:Int)) ((q_sl8Any ((k1_sl9Any x1 p0 p1 p2).2.1) ((k1_sl9Any x1 p0 p1 p2).2.2.1) ((k1_sl9Any x1 p0 p1 p2).2.2.2))&&(decide ((((sl9Draw x1 p0 p1 p2).2.2.2.2.2.2.2.1).length+[(((k4_sl9Any x1 p0 p1 p2).1),(((k4_sl9Any x1 p0 p1 p2).2.1),((k4_sl9Any x1 p0 p1 p2).2.2.1)))].length)*40≤MAXB))) true)))))
noncomputable abbrev pre_sl9Any:SM_sl9Any.den→Bool:=fun d=>q_sl9Any d.1.2.1 d.2.1.1 d.2.1.2.1 d.2.1.2.2.1
theorem run_sl9Any:RunM G42 (fun _ _=>none) Try.f49 SM_sl9Any pre_sl9Any g_sl9Any:=by
 rintro ⟨⟨_,x1,_⟩,⟨⟨p0,p1,p2,_⟩,_⟩⟩ hp
 change q_sl9Any x1 p0 p1 p2=true at hp
 unfold q_sl9Any at hp
 refine Eq.trans (b:=(cond (q_sl9Draw x1 p0 p1 p2) (cond (q_sl1Below (12:Int) ((sl9Draw x1 p0 p1 p2).2.2.1) ((sl9Draw x1 p0 p1 p2).2.2.2.1) ((sl9Draw x1 p0 p1 p2).2.2.2.2.1)) (cond (((k1_sl9Any x1 p0 p1 p2).1)==(0:Int)) (cond (q_sl1Int ((k1_sl9Any x1 p0 p1 p2).2.1) ((k1_sl9Any x1 p0 p1 p2).2.2.1) ((k1_sl9Any x1 p0 p1 p2).2.2.2) [(-1:Int),(7:Int),(8:Int)]) (some (e_sl9Any (((k2_sl9Any x1 p0 p1 p2).1),((sl9Draw x1 p0 p1 p2).2.1),((k2_sl9Any x1 p0 p1 p2).2.1),((k2_sl9Any x1 p0 p1 p2).2.2.1),((k2_sl9Any x1 p0 p1 p2).2.2.2.1),((k2_sl9Any x1 p0 p1 p2).1),((sl9Draw x1 p0 p1 p2).2.1),((sl9Draw x1 p0 p1 p2).2.2.2.2.2.2.2.1),((sl9Draw x1 p0 p1 p2).2.2.2.2.2.2.2.2.1),((sl9Draw x1 p0 p1 p2).2.2.2.2.2.2.2.2.2)))) none) (cond (((k1_sl9Any x1 p0 p1 p2).1)==(1:Int)) (cond (q_sl1Int ((k1_sl9Any x1 p0 p1 p2).2.1) ((k1_sl9Any x1 p0 p1 p2).2.2.1) ((k1_sl9Any x1 p0 p1 p2).2.2.2) [(-1:Int),((((sl9Draw x1 p0 p1 p2).2.2.2.2.2.2.2.1).length:Nat):Int),IntKind.wrap .i64 (((((sl9Draw x1 p0 p1 p2).2.2.2.2.2.2.2.1).length:Nat):Int)+(1:Int))]) (some (e_sl9Any (((sl9Draw x1 p0 p1 p2).1),((k3_sl9Any x1 p0 p1 p2).1),((k3_sl9Any x1 p0 p1 p2).2.1),((k3_sl9Any x1 p0 p1 p2).2.2.1),((k3_sl9Any x1 p0 p1 p2).2.2.2.1),((sl9Draw x1 p0 p1 p2).1),((k3_sl9Any x1 p0 p1 p2).1),((sl9Draw x1 p0 p1 p2).2.2.2.2.2.2.2.1),((sl9Draw x1 p0 p1 p2).2.2.2.2.2.2.2.2.1),((sl9Draw x1 p0 p1 p2).2.2.2.2.2.2.2.2.2)))) none) (cond (((k1_sl9Any x1 p0 p1 p2).1)==(2:Int)) (cond (decide ((((sl9Draw x1 p0 p1 p2).2.2.2.2.2.2.2.2.1).length+([((⟨#[122,122,122]⟩:ByteArray),(⟨#[]⟩:ByteArray))]).length)*32≤MAXB)) (some (e_sl9Any (((sl9Draw x1 p0 p1 p2).1),((sl9Draw x1 p0 p1 p2).2.1),((k1_sl9Any x1 p0 p1 p2).2.1),((k1_sl9Any x1 p0 p1 p2).2.2.1),((k1_sl9Any x1 p0 p1 p2).2.2.2),((sl9Draw x1 p0 p1 p2).1),((sl9Draw x1 p0 p1 p2).2.1),((sl9Draw x1 p0 p1 p2).2.2.2.2.2.2.2.1),((sl9Draw x1 p0 p1 p2).2.2.2.2.2.2.2.2.1)++([((⟨#[122,122,122]⟩:ByteArray),(⟨#[]⟩:ByteArray))]),((sl9Draw x1 p0 p1 p2).2.2.2.2.2.2.2.2.2)))) none) (cond (((k1_sl9Any x1 p0 p1 p2).1)==(3:Int)) (cond (q_sl8Any ((k1_sl9Any x1 p0 p1 p2).2.1) ((k1_sl9Any x1 p0 p1 p2).2.2.1) ((k1_sl9Any x1 p0 p1 p2).2.2.2)) (cond (decide ((((sl9Draw x1 p0 p1 p2).2.2.2.2.2.2.2.1).length+[(((k4_sl9Any x1 p0 p1 p2).1),(((k4_sl9Any x1 p0 p1 p2).2.1),((k4_sl9Any x1 p0 p1 p2).2.2.1)))].length)*40≤MAXB)) (some (e_sl9Any (((sl9Draw x1 p0 p1 p2).1),((sl9Draw x1 p0 p1 p2).2.1),((k4_sl9Any x1 p0 p1 p2).2.2.2.1),((k4_sl9Any x1 p0 p1 p2).2.2.2.2.1),((k4_sl9Any x1 p0 p1 p2).2.2.2.2.2.1),((sl9Draw x1 p0 p1 p2).1),((sl9Draw x1 p0 p1 p2).2.1),((sl9Draw x1 p0 p1 p2).2.2.2.2.2.2.2.1)++[(((k4_sl9Any x1 p0 p1 p2).1),(((k4_sl9Any x1 p0 p1 p2).2.1),((k4_sl9Any x1 p0 p1 p2).2.2.1)))],((sl9Draw x1 p0 p1 p2).2.2.2.2.2.2.2.2.1),((sl9Draw x1 p0 p1 p2).2.2.2.2.2.2.2.2.2)))) none) none) (some (e_sl9Any (((sl9Draw x1 p0 p1 p2).1),((sl9Draw x1 p0 p1 p2).2.1),((k1_sl9Any x1 p0 p1 p2).2.1),((k1_sl9Any x1 p0 p1 p2).2.2.1),((k1_sl9Any x1 p0 p1 p2).2.2.2),((sl9Draw x1 p0 p1 p2).1),((sl9Draw x1 p0 p1 p2).2.1),((sl9Draw x1 p0 p1 p2).2.2.2.2.2.2.2.1),((sl9Draw x1 p0 p1 p2).2.2.2.2.2.2.2.2.1),((sl9Draw x1 p0 p1 p2).2.2.2.2.2.2.2.2.2)))))))) none) none)) (by kernel_rfl) ?_
 exact (cndA hp fun hp=>(cndA hp fun hp=>(cndQ (F:=F_sl9Any) hp (fun hp=>(cndT hp fun _h=>rfl)) (fun hp=>(cndQ (F:=F_sl9Any) hp (fun hp=>(cndT hp fun _h=>rfl)) (fun hp=>(cndQ (F:=F_sl9Any) hp (fun hp=>(cndT hp fun _h=>rfl)) (fun hp=>(cndQ (F:=F_sl9Any) hp (fun hp=>(cndA hp fun hp=>(cndT hp fun _h=>rfl))) (fun hp=>rfl))))))))))
noncomputable abbrev m_sl9Any:=win winIds (msum SM_sl9Any pre_sl9Any g_sl9Any)
theorem c_sl9Any:MContract Try.prog 49 m_sl9Any:=(MContract.of_data G42 (by kernel_rfl) (hl0 (by kernel_rfl)) _ _ _ run_sl9Any).win winIds
noncomputable def S43:Tab:=Tab.add S42 49 (m_sl9Any)
noncomputable def QF43:FuncId→Bool:=QF42
theorem G43:Good Try.prog tt S43 QF43:=G42.addM c_sl9Any (win_local _) ⟨Try.f49,by kernel_rfl,by kernel_rfl,by kernel_rfl⟩ (by kernel_rfl)

noncomputable abbrev P_sDrawDecide:List PSh:=[.t t_sy]
noncomputable def k1_sDrawDecide (a0:List Int):=sl1Int ((sl9Any (sl1Size a0 (16:Int)) ((sl1New a0).1) ((sl1New a0).2.1) ((sl1New a0).2.2)).2.2.1) ((sl9Any (sl1Size a0 (16:Int)) ((sl1New a0).1) ((sl1New a0).2.1) ((sl1New a0).2.2)).2.2.2.1) ((sl9Any (sl1Size a0 (16:Int)) ((sl1New a0).1) ((sl1New a0).2.1) ((sl1New a0).2.2)).2.2.2.2.1) [(1:Int),(2:Int),(3:Int),(9:Int),(0:Int)]
noncomputable def k2_sDrawDecide (a0:List Int):=sl1Once (2:Int) ((k1_sDrawDecide a0).2.1) ((k1_sDrawDecide a0).2.2.1) ((k1_sDrawDecide a0).2.2.2.1)
noncomputable def k3_sDrawDecide (a0:List Int):=sl1Below ((((sl9Any (sl1Size a0 (16:Int)) ((sl1New a0).1) ((sl1New a0).2.1) ((sl1New a0).2.2)).2.2.2.2.2.2.2.2.2).length:Nat):Int) ((k2_sDrawDecide a0).2.1) ((k2_sDrawDecide a0).2.2.1) ((k2_sDrawDecide a0).2.2.2)
noncomputable def k4_sDrawDecide (a0:List Int):=sl1Once (2:Int) ((k3_sDrawDecide a0).2.1) ((k3_sDrawDecide a0).2.2.1) ((k3_sDrawDecide a0).2.2.2)
noncomputable def k5_sDrawDecide (a0:List Int):=sl1Once (2:Int) ((k2_sDrawDecide a0).2.1) ((k2_sDrawDecide a0).2.2.1) ((k2_sDrawDecide a0).2.2.2)
noncomputable def sDrawDecide (a0:List Int):Int×(Lq1)×Int×(LBBe)×(Lq1)×Int×Bool:=(cond (decide (((((sl9Any (sl1Size a0 (16:Int)) ((sl1New a0).1) ((sl1New a0).2.1) ((sl1New a0).2.2)).2.2.2.2.2.2.2.2.2).length:Nat):Int) > (0:Int))) (cond ((k2_sDrawDecide a0).1) (((sl9Any (sl1Size a0 (16:Int)) ((sl1New a0).1) ((sl1New a0).2.1) ((sl1New a0).2.2)).1),((sl9Any (sl1Size a0 (16:Int)) ((sl1New a0).1) ((sl1New a0).2.1) ((sl1New a0).2.2)).2.2.2.2.2.2.2.1),((sl9Any (sl1Size a0 (16:Int)) ((sl1New a0).1) ((sl1New a0).2.1) ((sl1New a0).2.2)).2.1),((sl9Any (sl1Size a0 (16:Int)) ((sl1New a0).1) ((sl1New a0).2.1) ((sl1New a0).2.2)).2.2.2.2.2.2.2.2.1),((sl9Any (sl1Size a0 (16:Int)) ((sl1New a0).1) ((sl1New a0).2.1) ((sl1New a0).2.2)).2.2.2.2.2.2.2.2.2),((((sl9Any (sl1Size a0 (16:Int)) ((sl1New a0).1) ((sl1New a0).2.1) ((sl1New a0).2.2)).2.2.2.2.2.2.2.2.2).getD (((k3_sDrawDecide a0).1).toNat) ((0:Int),((0:Int),[]))).2).1,((k4_sDrawDecide a0).1)) (((sl9Any (sl1Size a0 (16:Int)) ((sl1New a0).1) ((sl1New a0).2.1) ((sl1New a0).2.2)).1),((sl9Any (sl1Size a0 (16:Int)) ((sl1New a0).1) ((sl1New a0).2.1) ((sl1New a0).2.2)).2.2.2.2.2.2.2.1),((sl9Any (sl1Size a0 (16:Int)) ((sl1New a0).1) ((sl1New a0).2.1) ((sl1New a0).2.2)).2.1),((sl9Any (sl1Size a0 (16:Int)) ((sl1New a0).1) ((sl1New a0).2.1) ((sl1New a0).2.2)).2.2.2.2.2.2.2.2.1),((sl9Any (sl1Size a0 (16:Int)) ((sl1New a0).1) ((sl1New a0).2.1) ((sl1New a0).2.2)).2.2.2.2.2.2.2.2.2),((k1_sDrawDecide a0).1),((k5_sDrawDecide a0).1))) (((sl9Any (sl1Size a0 (16:Int)) ((sl1New a0).1) ((sl1New a0).2.1) ((sl1New a0).2.2)).1),((sl9Any (sl1Size a0 (16:Int)) ((sl1New a0).1) ((sl1New a0).2.1) ((sl1New a0).2.2)).2.2.2.2.2.2.2.1),((sl9Any (sl1Size a0 (16:Int)) ((sl1New a0).1) ((sl1New a0).2.1) ((sl1New a0).2.2)).2.1),((sl9Any (sl1Size a0 (16:Int)) ((sl1New a0).1) ((sl1New a0).2.1) ((sl1New a0).2.2)).2.2.2.2.2.2.2.2.1),((sl9Any (sl1Size a0 (16:Int)) ((sl1New a0).1) ((sl1New a0).2.1) ((sl1New a0).2.2)).2.2.2.2.2.2.2.2.2),((k1_sDrawDecide a0).1),((k2_sDrawDecide a0).1)))
noncomputable abbrev e_sDrawDecide (r:Int×(Lq1)×Int×(LBBe)×(Lq1)×Int×Bool):AV×List AObj:=((.tup [(.agg [(.t true (.int .i64) r.1),(.t true tq3 r.2.1),(.t true (.int .i64) r.2.2.1),(.t true tq6 r.2.2.2.1),(.t true tq3 r.2.2.2.2.1)]),(.t true (.int .i64) r.2.2.2.2.2.1),(.t true .bool r.2.2.2.2.2.2)]),[])
noncomputable abbrev F_sDrawDecide (r:Int×(Lq1)×Int×(LBBe)×(Lq1)×Int×Bool):=some (e_sDrawDecide r)
noncomputable abbrev g_sDrawDecide:pshsDen P_sDrawDecide→AV×List AObj:=fun d=>e_sDrawDecide (sDrawDecide d.1)
noncomputable def q_sDrawDecide (a0:List Int):Bool:=(q_sl1New a0)&&((q_sl9Any (sl1Size a0 (16:Int)) ((sl1New a0).1) ((sl1New a0).2.1) ((sl1New a0).2.2))&&((q_sl1Int ((sl9Any (sl1Size a0 (16:Int)) ((sl1New a0).1) ((sl1New a0).2.1) ((sl1New a0).2.2)).2.2.1) ((sl9Any (sl1Size a0 (16:Int)) ((sl1New a0).1) ((sl1New a0).2.1) ((sl1New a0).2.2)).2.2.2.1) ((sl9Any (sl1Size a0 (16:Int)) ((sl1New a0).1) ((sl1New a0).2.1) ((sl1New a0).2.2)).2.2.2.2.1) [(1:Int),(2:Int),(3:Int),(9:Int),(0:Int)])&&(cond (decide (((((sl9Any (sl1Size a0 (16:Int)) ((sl1New a0).1) ((sl1New a0).2.1) ((sl1New a0).2.2)).2.2.2.2.2.2.2.2.2).length:Nat):Int) > (0:Int))) ((q_sl1Once (2:Int) ((k1_sDrawDecide a0).2.1) ((k1_sDrawDecide a0).2.2.1) ((k1_sDrawDecide a0).2.2.2.1))&&(cond ((k2_sDrawDecide a0).1) ((q_sl1Below ((((sl9Any (sl1Size a0 (16:Int)) ((sl1New a0).1) ((sl1New a0).2.1) ((sl1New a0).2.2)).2.2.2.2.2.2.2.2.2).length:Nat):Int) ((k2_sDrawDecide a0).2.1) ((k2_sDrawDecide a0).2.2.1) ((k2_sDrawDecide a0).2.2.2))&&((decide (0≤((k3_sDrawDecide a0).1)∧((k3_sDrawDecide a0).1)<((((sl9Any (sl1Size a0 (16:Int)) ((sl1New a0).1) ((sl1New a0).2.1) ((sl1New a0).2.2)).2.2.2.2.2.2.2.2.2).length:Nat):Int)))&&(q_sl1Once (2:Int) ((k3_sDrawDecide a0).2.1) ((k3_sDrawDecide a0).2.2.1) ((k3_sDrawDecide a0).2.2.2)))) (q_sl1Once (2:Int) ((k2_sDrawDecide a0).2.1) ((k2_sDrawDecide a0).2.2.1) ((k2_sDrawDecide a0).2.2.2)))) (q_sl1Once (2:Int) ((k1_sDrawDecide a0).2.1) ((k1_sDrawDecide a0).2.2.1) ((k1_sDrawDecide a0).2.2.2.1)))))
noncomputable abbrev pre_sDrawDecide:pshsDen P_sDrawDecide→Bool:=fun d=>q_sDrawDecide d.1
theorem run_sDrawDecide:RunP true G43 (fun _ _=>none) Try.f26 P_sDrawDecide pre_sDrawDecide g_sDrawDecide:=by
 rintro ⟨a0,_⟩ hp
 change q_sDrawDecide a0=true at hp
 unfold q_sDrawDecide at hp
 refine Eq.trans (b:=(cond (q_sl1New a0) (cond (q_sl9Any (sl1Size a0 (16:Int)) ((sl1New a0).1) ((sl1New a0).2.1) ((sl1New a0).2.2)) (cond (q_sl1Int ((sl9Any (sl1Size a0 (16:Int)) ((sl1New a0).1) ((sl1New a0).2.1) ((sl1New a0).2.2)).2.2.1) ((sl9Any (sl1Size a0 (16:Int)) ((sl1New a0).1) ((sl1New a0).2.1) ((sl1New a0).2.2)).2.2.2.1) ((sl9Any (sl1Size a0 (16:Int)) ((sl1New a0).1) ((sl1New a0).2.1) ((sl1New a0).2.2)).2.2.2.2.1) [(1:Int),(2:Int),(3:Int),(9:Int),(0:Int)]) (cond (decide (((((sl9Any (sl1Size a0 (16:Int)) ((sl1New a0).1) ((sl1New a0).2.1) ((sl1New a0).2.2)).2.2.2.2.2.2.2.2.2).length:Nat):Int) > (0:Int))) (cond (q_sl1Once (2:Int) ((k1_sDrawDecide a0).2.1) ((k1_sDrawDecide a0).2.2.1) ((k1_sDrawDecide a0).2.2.2.1)) (cond ((k2_sDrawDecide a0).1) (cond (q_sl1Below ((((sl9Any (sl1Size a0 (16:Int)) ((sl1New a0).1) ((sl1New a0).2.1) ((sl1New a0).2.2)).2.2.2.2.2.2.2.2.2).length:Nat):Int) ((k2_sDrawDecide a0).2.1) ((k2_sDrawDecide a0).2.2.1) ((k2_sDrawDecide a0).2.2.2)) (cond (decide (0≤((k3_sDrawDecide a0).1)∧((k3_sDrawDecide a0).1)<((((sl9Any (sl1Size a0 (16:Int)) ((sl1New a0).1) ((sl1New a0).2.1) ((sl1New a0).2.2)).2.2.2.2.2.2.2.2.2).length:Nat):Int))) (cond (q_sl1Once (2:Int) ((k3_sDrawDecide a0).2.1) ((k3_sDrawDecide a0).2.2.1) ((k3_sDrawDecide a0).2.2.2)) (some (e_sDrawDecide (((sl9Any (sl1Size a0 (16:Int)) ((sl1New a0).1) ((sl1New a0).2.1) ((sl1New a0).2.2)).1),((sl9Any (sl1Size a0 (16:Int)) ((sl1New a0).1) ((sl1New a0).2.1) ((sl1New a0).2.2)).2.2.2.2.2.2.2.1),((sl9Any (sl1Size a0 (16:Int)) ((sl1New a0).1) ((sl1New a0).2.1) ((sl1New a0).2.2)).2.1),((sl9Any (sl1Size a0 (16:Int)) ((sl1New a0).1) ((sl1New a0).2.1) ((sl1New a0).2.2)).2.2.2.2.2.2.2.2.1),((sl9Any (sl1Size a0 (16:Int)) ((sl1New a0).1) ((sl1New a0).2.1) ((sl1New a0).2.2)).2.2.2.2.2.2.2.2.2),((((sl9Any (sl1Size a0 (16:Int)) ((sl1New a0).1) ((sl1New a0).2.1) ((sl1New a0).2.2)).2.2.2.2.2.2.2.2.2).getD (((k3_sDrawDecide a0).1).toNat) ((0:Int),((0:Int),[]))).2).1,((k4_sDrawDecide a0).1)))) none) none) none) (cond (q_sl1Once (2:Int) ((k2_sDrawDecide a0).2.1) ((k2_sDrawDecide a0).2.2.1) ((k2_sDrawDecide a0).2.2.2)) (some (e_sDrawDecide (((sl9Any (sl1Size a0 (16:Int)) ((sl1New a0).1) ((sl1New a0).2.1) ((sl1New a0).2.2)).1),((sl9Any (sl1Size a0 (16:Int)) ((sl1New a0).1) ((sl1New a0).2.1) ((sl1New a0).2.2)).2.2.2.2.2.2.2.1),((sl9Any (sl1Size a0 (16:Int)) ((sl1New a0).1) ((sl1New a0).2.1) ((sl1New a0).2.2)).2.1),((sl9Any (sl1Size a0 (16:Int)) ((sl1New a0).1) ((sl1New a0).2.1) ((sl1New a0).2.2)).2.2.2.2.2.2.2.2.1),((sl9Any (sl1Size a0 (16:Int)) ((sl1New a0).1) ((sl1New a0).2.1) ((sl1New a0).2.2)).2.2.2.2.2.2.2.2.2),((k1_sDrawDecide a0).1),((k5_sDrawDecide a0).1)))) none)) none) (cond (q_sl1Once (2:Int) ((k1_sDrawDecide a0).2.1) ((k1_sDrawDecide a0).2.2.1) ((k1_sDrawDecide a0).2.2.2.1)) (some (e_sDrawDecide (((sl9Any (sl1Size a0 (16:Int)) ((sl1New a0).1) ((sl1New a0).2.1) ((sl1New a0).2.2)).1),((sl9Any (sl1Size a0 (16:Int)) ((sl1New a0).1) ((sl1New a0).2.1) ((sl1New a0).2.2)).2.2.2.2.2.2.2.1),((sl9Any (sl1Size a0 (16:Int)) ((sl1New a0).1) ((sl1New a0).2.1) ((sl1New a0).2.2)).2.1),((sl9Any (sl1Size a0 (16:Int)) ((sl1New a0).1) ((sl1New a0).2.1) ((sl1New a0).2.2)).2.2.2.2.2.2.2.2.1),((sl9Any (sl1Size a0 (16:Int)) ((sl1New a0).1) ((sl1New a0).2.1) ((sl1New a0).2.2)).2.2.2.2.2.2.2.2.2),((k1_sDrawDecide a0).1),((k2_sDrawDecide a0).1)))) none)) none) none) none)) (by kernel_rfl) ?_
 exact (cndA hp fun hp=>(cndA hp fun hp=>(cndA hp fun hp=>(cndQ (F:=F_sDrawDecide) hp (fun hp=>(cndA hp fun hp=>(cndQ (F:=F_sDrawDecide) hp (fun hp=>(cndA hp fun hp=>(cndA hp fun hp=>(cndT hp fun _h=>rfl)))) (fun hp=>(cndT hp fun _h=>rfl))))) (fun hp=>(cndT hp fun _h=>rfl))))))
theorem c_sDrawDecide:PContract Try.prog 26 (sumOf P_sDrawDecide pre_sDrawDecide g_sDrawDecide):=PContract.of_data true G43 (by kernel_rfl) (hl0 (by kernel_rfl)) _ _ _ run_sDrawDecide
noncomputable def S44:Tab:=Tab.add S43 26 (lift (sumOf P_sDrawDecide pre_sDrawDecide g_sDrawDecide))
noncomputable def QF44:FuncId→Bool:=qadd QF43 26
theorem G44:Good Try.prog tt S44 QF44:=G43.addQ c_sDrawDecide ⟨Try.f26,by kernel_rfl,by kernel_rfl,by kernel_rfl⟩ (fun _=>rfl)

noncomputable abbrev P_slices_Clone_iOp:List PSh:=[.t tq5]
noncomputable def slices_Clone_iOp (a0:Lq2):Lq2:=a0
noncomputable abbrev e_slices_Clone_iOp (r:Lq2):AV×List AObj:=(.all 0 3,[.rows 85 true tq7 r])
noncomputable abbrev g_slices_Clone_iOp:pshsDen P_slices_Clone_iOp→AV×List AObj:=fun d=>e_slices_Clone_iOp (slices_Clone_iOp d.1)
noncomputable def q_slices_Clone_iOp (a0:Lq2):Bool:=decide ((([]:Lq2).length+a0.length)*40≤MAXB)
noncomputable abbrev pre_slices_Clone_iOp:pshsDen P_slices_Clone_iOp→Bool:=fun d=>q_slices_Clone_iOp d.1
theorem r1_slices_Clone_iOp (a0:Lq2) (h0:0<a0.length) (hp:q_slices_Clone_iOp a0=true):runP false Try.prog tt S44 QF44 (fun _ _=>none) Try.f94 [.t (Ty.sl tq7).flat tq5 a0]=some (e_slices_Clone_iOp a0):=by
 refine Eq.trans (b:=cond (decide (0<a0.length)) (cond (q_slices_Clone_iOp a0) (some (e_slices_Clone_iOp a0)) none) none) (by kernel_rfl) ?_
 rw [decide_eq_true h0,hp];rfl
theorem r2_slices_Clone_iOp (A:Option Addr) (c:Nat):runP false Try.prog tt S44 QF44 (fun _ _=>none) Try.f94 [.raw (.slice A 0 c)]=some (e_slices_Clone_iOp []):=by
 cases A<;>kernel_rfl
theorem c_slices_Clone_iOp:PContract Try.prog 94 (sumOf P_slices_Clone_iOp pre_slices_Clone_iOp g_slices_Clone_iOp):=PContract.split (e:=tq7) (pre:=q_slices_Clone_iOp) (g:=fun a0=>e_slices_Clone_iOp (slices_Clone_iOp a0)) (fun l h0 hp=>PCalls.of_run false G44 (fn:=Try.f94) (by kernel_rfl) (L:=fun _ _=>none) (by rw [show loopsIn 0 (bodyOf Try.f94)=[] by kernel_rfl];simp) (r1_slices_Clone_iOp l h0 hp) rfl rfl) (fun A c=>PCalls.of_run false G44 (fn:=Try.f94) (by kernel_rfl) (L:=fun _ _=>none) (by rw [show loopsIn 0 (bodyOf Try.f94)=[] by kernel_rfl];simp) (r2_slices_Clone_iOp A c) rfl rfl)
noncomputable def S45:Tab:=Tab.add S44 94 (lift (sumOf P_slices_Clone_iOp pre_slices_Clone_iOp g_slices_Clone_iOp))
noncomputable def QF45:FuncId→Bool:=QF44
theorem G45:Good Try.prog tt S45 QF45:=G44.add c_slices_Clone_iOp ⟨Try.f94,by kernel_rfl,by kernel_rfl,by kernel_rfl⟩ (by kernel_rfl)

noncomputable abbrev P_icopyRecs:List PSh:=[.t tq3]
noncomputable abbrev S_icopyRecs_0:SS:=⟨(.junk::.junk::.junk::.all 0 3::.junk::.junk::.t false tq3::.t true (.int .i64)::.t true (.int .i64)::jS13),[.rows 32 true tq4]⟩
noncomputable abbrev E_icopyRecs_0_0:SS:=⟨(.junk::.junk::.junk::.all 0 3::jS18),[.rows 32 true tq4]⟩
noncomputable def st_icopyRecs_0 (x6:Lq1) (x7:Int) (x8:Int) (h0:Lq1):RT S_icopyRecs_0.den:=(.br (decide (x8<x7)) (.br (decide (0≤x8∧x8<((x6.length:Nat):Int))) (.br (q_slices_Clone_iOp (((x6.getD x8.toNat ((0:Int),((0:Int),[]))).2).2)) (.br (decide ((h0.length+([((x6.getD x8.toNat ((0:Int),((0:Int),[]))).1,(((x6.getD x8.toNat ((0:Int),((0:Int),[]))).2).1,(slices_Clone_iOp (((x6.getD x8.toNat ((0:Int),((0:Int),[]))).2).2))))]:Lq1).length)*40≤MAXB)) (.next (((),(),(),(),(),(),x6,x7,IntKind.wrap .i64 (x8+(1:Int)),u14),(h0++([((x6.getD x8.toNat ((0:Int),((0:Int),[]))).1,(((x6.getD x8.toNat ((0:Int),((0:Int),[]))).2).1,(slices_Clone_iOp (((x6.getD x8.toNat ((0:Int),((0:Int),[]))).2).2))))]),()))) .fail) .fail) .fail) (.done (.exit 0) E_icopyRecs_0_0 ((u23),(h0,()))))
noncomputable abbrev V_icopyRecs_0:=(Lq1)×(Int)×(Int)×(Lq1)
noncomputable abbrev A_icopyRecs_0:=Nat×(Lq1)
noncomputable def fl_icopyRecs_0:A_icopyRecs_0:=(99,([]:Lq1))
noncomputable def ss_icopyRecs_0 (x6:Lq1) (x7:Int) (x8:Int) (h0:Lq1):V_icopyRecs_0 ⊕ A_icopyRecs_0:=(cond (decide (x8<x7)) (cond (decide (0≤x8∧x8<((x6.length:Nat):Int))) (cond (q_slices_Clone_iOp (((x6.getD x8.toNat ((0:Int),((0:Int),[]))).2).2)) (cond (decide ((h0.length+([((x6.getD x8.toNat ((0:Int),((0:Int),[]))).1,(((x6.getD x8.toNat ((0:Int),((0:Int),[]))).2).1,(slices_Clone_iOp (((x6.getD x8.toNat ((0:Int),((0:Int),[]))).2).2))))]:Lq1).length)*40≤MAXB)) (.inl (x6,x7,IntKind.wrap .i64 (x8+(1:Int)),h0++([((x6.getD x8.toNat ((0:Int),((0:Int),[]))).1,(((x6.getD x8.toNat ((0:Int),((0:Int),[]))).2).1,(slices_Clone_iOp (((x6.getD x8.toNat ((0:Int),((0:Int),[]))).2).2))))]))) (.inr fl_icopyRecs_0)) (.inr fl_icopyRecs_0)) (.inr fl_icopyRecs_0)) (.inr (0,h0)))
noncomputable def it_icopyRecs_0 (x6:Lq1) (x7:Int) (x8:Int) (h0:Lq1):A_icopyRecs_0:=itX (fun v:V_icopyRecs_0=>ss_icopyRecs_0 v.1 v.2.1 v.2.2.1 v.2.2.2) fl_icopyRecs_0 (x6,x7,x8,h0)
noncomputable def ct_icopyRecs_0 (a:A_icopyRecs_0):CT:=(.br (a.1==0) (.done (.exit 0) E_icopyRecs_0_0 ((u23),(a.2,()))) .fail)
noncomputable def T_icopyRecs_0 (x6:Lq1) (x7:Int) (x8:Int) (h0:Lq1):CT:=ct_icopyRecs_0 (it_icopyRecs_0 x6 x7 x8 h0)
noncomputable abbrev sp_icopyRecs_0:S_icopyRecs_0.den→RT S_icopyRecs_0.den:=fun d=>st_icopyRecs_0 d.1.2.2.2.2.2.2.1 d.1.2.2.2.2.2.2.2.1 d.1.2.2.2.2.2.2.2.2.1 d.2.1
noncomputable abbrev pk_icopyRecs_0 (x6:Lq1) (x7:Int) (x8:Int) (h0:Lq1):S_icopyRecs_0.den:=(((),(),(),(),(),(),x6,x7,x8,u14),(h0,()))
noncomputable def body_icopyRecs_0:Code:=((loopsIn 0 (bodyOf Try.f80)).getD 0 (0,.skip)).2
noncomputable abbrev pv_icopyRecs_0 (v:V_icopyRecs_0):S_icopyRecs_0.den:=pk_icopyRecs_0 v.1 v.2.1 v.2.2.1 v.2.2.2
theorem rdA_icopyRecs_0:RdA G45 (fun _ _=>none) 0 body_icopyRecs_0 S_icopyRecs_0 0 [] (kepts [] [(0,[3])]) (fun d=>(sp_icopyRecs_0 d).opt 0 []):=by
 intro d
 kernel_rfl
noncomputable abbrev say_icopyRecs_0:St→Option Tree:=S_icopyRecs_0.say 0 [] [(3,32,tq4)] (fun d=>T_icopyRecs_0 d.1.2.2.2.2.2.2.1 d.1.2.2.2.2.2.2.2.1 d.1.2.2.2.2.2.2.2.2.1 d.2.1)
theorem lw_icopyRecs_0:LoopWp Try.prog say_icopyRecs_0 body_icopyRecs_0:=SS.wp2 (hl0 (by kernel_rfl)) [(3,32,tq4)] sp_icopyRecs_0 rdA_icopyRecs_0 (fun d=>rfl) _ (fun d=>Runs.ofIt (step:=sp_icopyRecs_0) pv_icopyRecs_0 (ct:=ct_icopyRecs_0) rfl (fun v=>((relB (relB (relB (relB rfl rfl) rfl) rfl) rfl):(st_icopyRecs_0 v.1 v.2.1 v.2.2.1 v.2.2.2).val=relS pv_icopyRecs_0 ct_icopyRecs_0 (ss_icopyRecs_0 v.1 v.2.1 v.2.2.1 v.2.2.2))) (fun a=>((cendB (cendD (by simp)) cendF):CEnd _ (ct_icopyRecs_0 a))) (d.1.2.2.2.2.2.2.1,d.1.2.2.2.2.2.2.2.1,d.1.2.2.2.2.2.2.2.2.1,d.2.1))
noncomputable def k1_icopyRecs (a0:Lq1):=it_icopyRecs_0 a0 ((a0.length:Nat):Int) (0:Int) ([]:Lq1)
noncomputable def icopyRecs (a0:Lq1):Lq1:=((k1_icopyRecs a0).2)
noncomputable abbrev e_icopyRecs (r:Lq1):AV×List AObj:=((.all 0 3),[(.rows 32 true tq4 r)])
noncomputable abbrev F_icopyRecs (r:Lq1):=some (e_icopyRecs r)
noncomputable abbrev g_icopyRecs:pshsDen P_icopyRecs→AV×List AObj:=fun d=>e_icopyRecs (icopyRecs d.1)
noncomputable def q_icopyRecs (a0:Lq1):Bool:=((k1_icopyRecs a0).1==0)
noncomputable abbrev pre_icopyRecs:pshsDen P_icopyRecs→Bool:=fun d=>q_icopyRecs d.1
noncomputable abbrev L_icopyRecs:Nat→St→Option Tree:=fun b=>match b with | 0=>say_icopyRecs_0 | _=>fun _=>none
theorem run_icopyRecs:RunP false G45 (L_icopyRecs) Try.f80 P_icopyRecs pre_icopyRecs g_icopyRecs:=by
 rintro ⟨a0,_⟩ hp
 change q_icopyRecs a0=true at hp
 unfold q_icopyRecs at hp
 refine Eq.trans (b:=(cond ((k1_icopyRecs a0).1==0) (some (e_icopyRecs ((k1_icopyRecs a0).2))) none)) (by kernel_rfl) ?_
 exact (cndT hp fun _h=>rfl)
theorem c_icopyRecs:PContract Try.prog 80 (sumOf P_icopyRecs pre_icopyRecs g_icopyRecs):=PContract.of_data false G45 (by kernel_rfl) (hl1 (i:=0) (by kernel_rfl) lw_icopyRecs_0) _ _ _ run_icopyRecs
noncomputable def S46:Tab:=Tab.add S45 80 (lift (sumOf P_icopyRecs pre_icopyRecs g_icopyRecs))
noncomputable def QF46:FuncId→Bool:=QF45
theorem G46:Good Try.prog tt S46 QF46:=G45.add c_icopyRecs ⟨Try.f80,by kernel_rfl,by kernel_rfl,by kernel_rfl⟩ (by kernel_rfl)

noncomputable abbrev P_slices_Clone_iPair:List PSh:=[.t tq6]
noncomputable def slices_Clone_iPair (a0:LBBe):LBBe:=a0
noncomputable abbrev e_slices_Clone_iPair (r:LBBe):AV×List AObj:=(.all 0 2,[.rows 70 true t_ptt r])
noncomputable abbrev g_slices_Clone_iPair:pshsDen P_slices_Clone_iPair→AV×List AObj:=fun d=>e_slices_Clone_iPair (slices_Clone_iPair d.1)
noncomputable def q_slices_Clone_iPair (a0:LBBe):Bool:=decide ((([]:LBBe).length+a0.length)*32≤MAXB)
noncomputable abbrev pre_slices_Clone_iPair:pshsDen P_slices_Clone_iPair→Bool:=fun d=>q_slices_Clone_iPair d.1
theorem r1_slices_Clone_iPair (a0:LBBe) (h0:0<a0.length) (hp:q_slices_Clone_iPair a0=true):runP false Try.prog tt S46 QF46 (fun _ _=>none) Try.f64 [.t (Ty.sl t_ptt).flat tq6 a0]=some (e_slices_Clone_iPair a0):=by
 refine Eq.trans (b:=cond (decide (0<a0.length)) (cond (q_slices_Clone_iPair a0) (some (e_slices_Clone_iPair a0)) none) none) (by kernel_rfl) ?_
 rw [decide_eq_true h0,hp];rfl
theorem r2_slices_Clone_iPair (A:Option Addr) (c:Nat):runP false Try.prog tt S46 QF46 (fun _ _=>none) Try.f64 [.raw (.slice A 0 c)]=some (e_slices_Clone_iPair []):=by
 cases A<;>kernel_rfl
theorem c_slices_Clone_iPair:PContract Try.prog 64 (sumOf P_slices_Clone_iPair pre_slices_Clone_iPair g_slices_Clone_iPair):=PContract.split (e:=t_ptt) (pre:=q_slices_Clone_iPair) (g:=fun a0=>e_slices_Clone_iPair (slices_Clone_iPair a0)) (fun l h0 hp=>PCalls.of_run false G46 (fn:=Try.f64) (by kernel_rfl) (L:=fun _ _=>none) (by rw [show loopsIn 0 (bodyOf Try.f64)=[] by kernel_rfl];simp) (r1_slices_Clone_iPair l h0 hp) rfl rfl) (fun A c=>PCalls.of_run false G46 (fn:=Try.f64) (by kernel_rfl) (L:=fun _ _=>none) (by rw [show loopsIn 0 (bodyOf Try.f64)=[] by kernel_rfl];simp) (r2_slices_Clone_iPair A c) rfl rfl)
noncomputable def S47:Tab:=Tab.add S46 64 (lift (sumOf P_slices_Clone_iPair pre_slices_Clone_iPair g_slices_Clone_iPair))
noncomputable def QF47:FuncId→Bool:=QF46
theorem G47:Good Try.prog tt S47 QF47:=G46.add c_slices_Clone_iPair ⟨Try.f64,by kernel_rfl,by kernel_rfl,by kernel_rfl⟩ (by kernel_rfl)

noncomputable abbrev P_icopyShard:List PSh:=[.agg [(.int .i64),tq3,(.int .i64),tq6,tq3]]
noncomputable def icopyShard (a0:Int) (a1:Lq1) (a2:Int) (a3:LBBe) (a4:Lq1):Int×Int×(Lq1)×(LBBe)×Lq1:=(a0,a2,(icopyRecs a1),(slices_Clone_iPair a3),(icopyRecs a4))
noncomputable abbrev e_icopyShard (r:Int×Int×(Lq1)×(LBBe)×Lq1):AV×List AObj:=((.agg [(.t true (.int .i64) r.1),(.all 0 3),(.t true (.int .i64) r.2.1),(.all 1 2),(.all 2 3)]),[(.rows 32 true tq4 r.2.2.1),(.rows 70 true t_ptt r.2.2.2.1),(.rows 32 true tq4 r.2.2.2.2)])
noncomputable abbrev F_icopyShard (r:Int×Int×(Lq1)×(LBBe)×Lq1):=some (e_icopyShard r)
noncomputable abbrev g_icopyShard:pshsDen P_icopyShard→AV×List AObj:=fun d=>e_icopyShard (icopyShard d.1.1 d.1.2.1 d.1.2.2.1 d.1.2.2.2.1 d.1.2.2.2.2.1)
noncomputable def q_icopyShard (a0:Int) (a1:Lq1) (a2:Int) (a3:LBBe) (a4:Lq1):Bool:=(q_icopyRecs a1)&&((q_slices_Clone_iPair a3)&&(q_icopyRecs a4))
noncomputable abbrev pre_icopyShard:pshsDen P_icopyShard→Bool:=fun d=>q_icopyShard d.1.1 d.1.2.1 d.1.2.2.1 d.1.2.2.2.1 d.1.2.2.2.2.1
theorem run_icopyShard:RunP false G47 (fun _ _=>none) Try.f40 P_icopyShard pre_icopyShard g_icopyShard:=by
 rintro ⟨⟨a0,⟨a1,⟨a2,⟨a3,⟨a4,_⟩⟩⟩⟩⟩,_⟩ hp
 change q_icopyShard a0 a1 a2 a3 a4=true at hp
 unfold q_icopyShard at hp
 refine Eq.trans (b:=(cond (q_icopyRecs a1) (cond (q_slices_Clone_iPair a3) (cond (q_icopyRecs a4) (some (e_icopyShard (a0,a2,(icopyRecs a1),(slices_Clone_iPair a3),(icopyRecs a4)))) none) none) none)) (by kernel_rfl) ?_
 exact (cndA hp fun hp=>(cndA hp fun hp=>(cndT hp fun _h=>rfl)))
theorem c_icopyShard:PContract Try.prog 40 (sumOf P_icopyShard pre_icopyShard g_icopyShard):=PContract.of_data false G47 (by kernel_rfl) (hl0 (by kernel_rfl)) _ _ _ run_icopyShard
noncomputable def S48:Tab:=Tab.add S47 40 (lift (sumOf P_icopyShard pre_icopyShard g_icopyShard))
noncomputable def QF48:FuncId→Bool:=QF47
theorem G48:Good Try.prog tt S48 QF48:=G47.add c_icopyShard ⟨Try.f40,by kernel_rfl,by kernel_rfl,by kernel_rfl⟩ (by kernel_rfl)

noncomputable abbrev P_iinRange:List PSh:=[.t (.int .i64),.t (.int .i64),.t (.int .i64)]
noncomputable def iinRange (a0:Int) (a1:Int) (a2:Int):Bool:=(cond (decide (a0 ≥ a1)) (decide (a0≤a2)) false)
noncomputable abbrev e_iinRange (r:Bool):AV×List AObj:=((.t true .bool r),[])
noncomputable abbrev F_iinRange (r:Bool):=some (e_iinRange r)
noncomputable abbrev g_iinRange:pshsDen P_iinRange→AV×List AObj:=fun d=>e_iinRange (iinRange d.1 d.2.1 d.2.2.1)
noncomputable abbrev pre_iinRange:pshsDen P_iinRange→Bool:=fun d=>true
theorem run_iinRange:RunP true G48 (fun _ _=>none) Try.f44 P_iinRange pre_iinRange g_iinRange:=by
 rintro ⟨a0,⟨a1,⟨a2,_⟩⟩⟩ hp
 refine Eq.trans (b:=(cond (decide (a0 ≥ a1)) (some (e_iinRange (decide (a0≤a2)))) (some (e_iinRange false)))) (by kernel_rfl) ?_
 exact (cnd (F:=F_iinRange) (fun _h=>rfl) (fun _h=>rfl))
theorem c_iinRange:PContract Try.prog 44 (sumOf P_iinRange pre_iinRange g_iinRange):=PContract.of_data true G48 (by kernel_rfl) (hl0 (by kernel_rfl)) _ _ _ run_iinRange
noncomputable def S49:Tab:=Tab.add S48 44 (lift (sumOf P_iinRange pre_iinRange g_iinRange))
noncomputable def QF49:FuncId→Bool:=qadd QF48 44
theorem G49:Good Try.prog tt S49 QF49:=G48.addQ c_iinRange ⟨Try.f44,by kernel_rfl,by kernel_rfl,by kernel_rfl⟩ (fun _=>rfl)

noncomputable abbrev P_iisId:List PSh:=[.t (.int .i64)]
noncomputable def iisId (a0:Int):Bool:=(iinRange a0 (0:Int) (7:Int))
noncomputable abbrev e_iisId (r:Bool):AV×List AObj:=((.t true .bool r),[])
noncomputable abbrev F_iisId (r:Bool):=some (e_iisId r)
noncomputable abbrev g_iisId:pshsDen P_iisId→AV×List AObj:=fun d=>e_iisId (iisId d.1)
noncomputable abbrev pre_iisId:pshsDen P_iisId→Bool:=fun d=>true
theorem run_iisId:RunP true G49 (fun _ _=>none) Try.f43 P_iisId pre_iisId g_iisId:=by
 rintro ⟨a0,_⟩ hp
 kernel_rfl
theorem c_iisId:PContract Try.prog 43 (sumOf P_iisId pre_iisId g_iisId):=PContract.of_data true G49 (by kernel_rfl) (hl0 (by kernel_rfl)) _ _ _ run_iisId
noncomputable def S50:Tab:=Tab.add S49 43 (lift (sumOf P_iisId pre_iisId g_iisId))
noncomputable def QF50:FuncId→Bool:=qadd QF49 43
theorem G50:Good Try.prog tt S50 QF50:=G49.addQ c_iisId ⟨Try.f43,by kernel_rfl,by kernel_rfl,by kernel_rfl⟩ (fun _=>rfl)

noncomputable abbrev P_iisTx:List PSh:=[.t (.int .i64)]
noncomputable def iisTx (a0:Int):Bool:=(iinRange a0 (1:Int) (1000000:Int))
noncomputable abbrev e_iisTx (r:Bool):AV×List AObj:=((.t true .bool r),[])
noncomputable abbrev F_iisTx (r:Bool):=some (e_iisTx r)
noncomputable abbrev g_iisTx:pshsDen P_iisTx→AV×List AObj:=fun d=>e_iisTx (iisTx d.1)
noncomputable abbrev pre_iisTx:pshsDen P_iisTx→Bool:=fun d=>true
theorem run_iisTx:RunP true G50 (fun _ _=>none) Try.f91 P_iisTx pre_iisTx g_iisTx:=by
 rintro ⟨a0,_⟩ hp
 kernel_rfl
theorem c_iisTx:PContract Try.prog 91 (sumOf P_iisTx pre_iisTx g_iisTx):=PContract.of_data true G50 (by kernel_rfl) (hl0 (by kernel_rfl)) _ _ _ run_iisTx
noncomputable def S51:Tab:=Tab.add S50 91 (lift (sumOf P_iisTx pre_iisTx g_iisTx))
noncomputable def QF51:FuncId→Bool:=qadd QF50 91
theorem G51:Good Try.prog tt S51 QF51:=G50.addQ c_iisTx ⟨Try.f91,by kernel_rfl,by kernel_rfl,by kernel_rfl⟩ (fun _=>rfl)

noncomputable abbrev P_iisKeyByte:List PSh:=[.t (.int .u8)]
noncomputable def iisKeyByte (a0:Int):Bool:=(cond (decide (a0 ≥ (97:Int))) (cond (decide (a0≤(122:Int))) true (cond (decide (a0 ≥ (48:Int))) (decide (a0≤(57:Int))) false)) (cond (decide (a0 ≥ (48:Int))) (decide (a0≤(57:Int))) false))
noncomputable abbrev e_iisKeyByte (r:Bool):AV×List AObj:=((.t true .bool r),[])
noncomputable abbrev F_iisKeyByte (r:Bool):=some (e_iisKeyByte r)
noncomputable abbrev g_iisKeyByte:pshsDen P_iisKeyByte→AV×List AObj:=fun d=>e_iisKeyByte (iisKeyByte d.1)
noncomputable abbrev pre_iisKeyByte:pshsDen P_iisKeyByte→Bool:=fun d=>true
theorem run_iisKeyByte:RunP true G51 (fun _ _=>none) Try.f149 P_iisKeyByte pre_iisKeyByte g_iisKeyByte:=by
 rintro ⟨a0,_⟩ hp
 refine Eq.trans (b:=(cond (decide (a0 ≥ (97:Int))) (cond (decide (a0≤(122:Int))) (some (e_iisKeyByte true)) (cond (decide (a0 ≥ (48:Int))) (some (e_iisKeyByte (decide (a0≤(57:Int))))) (some (e_iisKeyByte false)))) (cond (decide (a0 ≥ (48:Int))) (some (e_iisKeyByte (decide (a0≤(57:Int))))) (some (e_iisKeyByte false))))) (by kernel_rfl) ?_
 exact (cnd (F:=F_iisKeyByte) (fun _h=>(cnd (F:=F_iisKeyByte) (fun _h=>rfl) (fun _h=>(cnd (F:=F_iisKeyByte) (fun _h=>rfl) (fun _h=>rfl))))) (fun _h=>(cnd (F:=F_iisKeyByte) (fun _h=>rfl) (fun _h=>rfl))))
theorem c_iisKeyByte:PContract Try.prog 149 (sumOf P_iisKeyByte pre_iisKeyByte g_iisKeyByte):=PContract.of_data true G51 (by kernel_rfl) (hl0 (by kernel_rfl)) _ _ _ run_iisKeyByte
noncomputable def S52:Tab:=Tab.add S51 149 (lift (sumOf P_iisKeyByte pre_iisKeyByte g_iisKeyByte))
noncomputable def QF52:FuncId→Bool:=qadd QF51 149
theorem G52:Good Try.prog tt S52 QF52:=G51.addQ c_iisKeyByte ⟨Try.f149,by kernel_rfl,by kernel_rfl,by kernel_rfl⟩ (fun _=>rfl)

noncomputable abbrev jS11:List Sh:=.junk::.junk::.junk::.junk::.junk::.junk::.junk::.junk::.junk::.junk::.junk::[]
noncomputable abbrev u12:=((),(),(),(),(),(),(),(),(),(),(),())
noncomputable def iKeyAt (s:ByteArray) (i:Nat):Bool:=iisKeyByte (bt s (i:Int))
noncomputable abbrev P_iisWord:List PSh:=[.t .str]
noncomputable abbrev S_iisWord_0:SS:=⟨(.t true .str::.junk::.junk::.t true (.int .i64)::jS11),[]⟩
noncomputable abbrev E_iisWord_0_0:SS:=⟨(.junk::.junk::.t true .bool::jS12),[]⟩
noncomputable abbrev E_iisWord_0_1:SS:=⟨(.junk::jS14),[]⟩
noncomputable def st_iisWord_0 (x0:ByteArray) (x3:Int):RT S_iisWord_0.den:=(.br (decide (x3<((x0.size:Nat):Int))) (.br (decide (0≤x3∧x3<((x0.size:Nat):Int))) (.br (!(iisKeyByte (bt x0 x3))) (.done .ret E_iisWord_0_0 (((),(),false,u13),())) (.next ((x0,(),(),IntKind.wrap .i64 (x3+(1:Int)),u12),()))) .fail) (.done (.exit 0) E_iisWord_0_1 ((u16),())))
noncomputable def T_iisWord_0 (x0:ByteArray) (x3:Int):CT:=(.br (decide (0≤x3)&&okS x0) (.br (allF (iKeyAt x0) (x0.size - x3.toNat) x3.toNat) (.done (.exit 0) E_iisWord_0_1 ((u16),())) (.done .ret E_iisWord_0_0 (((),(),false,u13),()))) .fail)
noncomputable abbrev sp_iisWord_0:S_iisWord_0.den→RT S_iisWord_0.den:=fun d=>st_iisWord_0 d.1.1 d.1.2.2.2.1
noncomputable abbrev pk_iisWord_0 (x0:ByteArray) (x3:Int):S_iisWord_0.den:=((x0,(),(),x3,u12),())
noncomputable def body_iisWord_0:Code:=((loopsIn 0 (bodyOf Try.f147)).getD 0 (0,.skip)).2
theorem R_iisWord_0 (x0:ByteArray) (x3:Int):(T_iisWord_0 x0 x3).val (D:=S_iisWord_0.den)=.fail∨Runs sp_iisWord_0 (pk_iisWord_0 x0 x3) (T_iisWord_0 x0 x3).val:=by
 cases hc:(decide (0≤x3)&&okS x0) with
 | false=>left;simp only [T_iisWord_0,CT.val,hc,cond_false]
 | true =>
  right
  simp only [T_iisWord_0,CT.val,hc,cond_true]
  simp only [Bool.and_eq_true,decide_eq_true_eq] at hc
  obtain ⟨i,rfl⟩:=Int.eq_ofNat_of_zero_le hc.1
  have hs:=okS_le hc.2
  simp only [Int.toNat_natCast]
  refine Runs.scan (fun j=>pk_iisWord_0 x0 (j:Int)) (x0.size) (iKeyAt x0) (fun i hi=>?_) (fun i hi=>?_) ⟨_,_,_,rfl,by simp⟩ ⟨_,_,_,rfl,by simp⟩ _ _ rfl
  ·
   have h0a:decide ((i:Int)<((x0.size:Nat):Int))=true:=decide_eq_true (by omega)
   have h0b:decide (0≤(i:Int)∧(i:Int)<((x0.size:Nat):Int))=true:=decide_eq_true (by omega)
   simp only [sp_iisWord_0,st_iisWord_0,RT.val,h0a,h0b,cond_true,wrapS i (by omega),Int.toNat_natCast]
   simp only [iKeyAt]
   cases iisKeyByte (bt x0 (i:Int))<;>rfl
  ·have h1:decide ((i:Int)<((x0.size:Nat):Int))=false:=decide_eq_false (by omega)
   simp only [sp_iisWord_0,st_iisWord_0,RT.val,h1,cond_false]
theorem rdA_iisWord_0:RdA G52 (fun _ _=>none) 0 body_iisWord_0 S_iisWord_0 0 [] (kepts [2] [(0,[])]) (fun d=>(sp_iisWord_0 d).opt 0 []):=by
 intro d
 kernel_rfl
noncomputable abbrev say_iisWord_0:St→Option Tree:=S_iisWord_0.say 0 [] [] (fun d=>T_iisWord_0 d.1.1 d.1.2.2.2.1)
theorem lw_iisWord_0:LoopWp Try.prog say_iisWord_0 body_iisWord_0:=SS.wp2 (hl0 (by kernel_rfl)) [] sp_iisWord_0 rdA_iisWord_0 (fun d=>rfl) _ (fun d=>R_iisWord_0 d.1.1 d.1.2.2.2.1)
noncomputable def iisWord (a0:ByteArray):Bool:=(cond (allF (iKeyAt a0) (a0.size - (0:Int).toNat) (0:Int).toNat) true false)
noncomputable abbrev e_iisWord (r:Bool):AV×List AObj:=((.t true .bool r),[])
noncomputable abbrev F_iisWord (r:Bool):=some (e_iisWord r)
noncomputable abbrev g_iisWord:pshsDen P_iisWord→AV×List AObj:=fun d=>e_iisWord (iisWord d.1)
noncomputable def q_iisWord (a0:ByteArray):Bool:=okS a0
noncomputable abbrev pre_iisWord:pshsDen P_iisWord→Bool:=fun d=>q_iisWord d.1
noncomputable abbrev L_iisWord:Nat→St→Option Tree:=fun b=>match b with | 0=>say_iisWord_0 | _=>fun _=>none
theorem run_iisWord:RunP true G52 (L_iisWord) Try.f147 P_iisWord pre_iisWord g_iisWord:=by
 rintro ⟨a0,_⟩ hp
 change q_iisWord a0=true at hp
 unfold q_iisWord at hp
 refine Eq.trans (b:=(cond (decide (0≤(0:Int))&&okS a0) (cond (allF (iKeyAt a0) (a0.size - (0:Int).toNat) (0:Int).toNat) (some (e_iisWord true)) (some (e_iisWord false))) none)) (by kernel_rfl) ?_
 exact (cndT (by first | rfl | decide | exact hp | (simp only [Bool.and_eq_true] at hp;simp only [hp];done) | (simp [*];done) | (simp [okL] at hp;simp [okL,MAXB];omega) | (simp_all;done) | (simp at *;omega)) (fun _h=>(cnd (F:=F_iisWord) (fun _h=>rfl) (fun _h=>rfl))))
theorem c_iisWord:PContract Try.prog 147 (sumOf P_iisWord pre_iisWord g_iisWord):=PContract.of_data true G52 (by kernel_rfl) (hl1 (i:=0) (by kernel_rfl) lw_iisWord_0) _ _ _ run_iisWord
noncomputable def S53:Tab:=Tab.add S52 147 (lift (sumOf P_iisWord pre_iisWord g_iisWord))
noncomputable def QF53:FuncId→Bool:=qadd QF52 147
theorem G53:Good Try.prog tt S53 QF53:=G52.addQ c_iisWord ⟨Try.f147,by kernel_rfl,by kernel_rfl,by kernel_rfl⟩ (fun _=>rfl)

noncomputable abbrev P_iKeyOk:List PSh:=[.t .str]
noncomputable def iKeyOk (a0:ByteArray):Bool:=(cond (iinRange ((a0.size:Nat):Int) (1:Int) (12:Int)) (iisWord a0) false)
noncomputable abbrev e_iKeyOk (r:Bool):AV×List AObj:=((.t true .bool r),[])
noncomputable abbrev F_iKeyOk (r:Bool):=some (e_iKeyOk r)
noncomputable abbrev g_iKeyOk:pshsDen P_iKeyOk→AV×List AObj:=fun d=>e_iKeyOk (iKeyOk d.1)
noncomputable def q_iKeyOk (a0:ByteArray):Bool:=okS a0
noncomputable abbrev pre_iKeyOk:pshsDen P_iKeyOk→Bool:=fun d=>q_iKeyOk d.1
theorem run_iKeyOk:RunP true G53 (fun _ _=>none) Try.f141 P_iKeyOk pre_iKeyOk g_iKeyOk:=by
 rintro ⟨a0,_⟩ hp
 change q_iKeyOk a0=true at hp
 unfold q_iKeyOk at hp
 refine Eq.trans (b:=(cond (iinRange ((a0.size:Nat):Int) (1:Int) (12:Int)) (cond (q_iisWord a0) (some (e_iKeyOk (iisWord a0))) none) (some (e_iKeyOk false)))) (by kernel_rfl) ?_
 exact (cnd (F:=F_iKeyOk) (fun _h=>(cndT (by first | rfl | decide | exact hp | (simp only [Bool.and_eq_true] at hp;simp only [hp];done) | (simp [*];done) | (simp [okL] at hp;simp [okL,MAXB];omega) | (simp_all;done) | (simp at *;omega)) (fun _h=>rfl))) (fun _h=>rfl))
theorem c_iKeyOk:PContract Try.prog 141 (sumOf P_iKeyOk pre_iKeyOk g_iKeyOk):=PContract.of_data true G53 (by kernel_rfl) (hl0 (by kernel_rfl)) _ _ _ run_iKeyOk
noncomputable def S54:Tab:=Tab.add S53 141 (lift (sumOf P_iKeyOk pre_iKeyOk g_iKeyOk))
noncomputable def QF54:FuncId→Bool:=qadd QF53 141
theorem G54:Good Try.prog tt S54 QF54:=G53.addQ c_iKeyOk ⟨Try.f141,by kernel_rfl,by kernel_rfl,by kernel_rfl⟩ (fun _=>rfl)

noncomputable abbrev P_iopOk:List PSh:=[.agg [(.int .i64),.str,.str]]
noncomputable def iopOk (a0:Int) (a1:ByteArray) (a2:ByteArray):Bool:=(cond (a0==(1:Int)) (cond (iKeyOk a1) (decide (((a2.size:Nat):Int)≤(20:Int))) false) (cond (a0==(3:Int)) (cond (iKeyOk a1) (decide (((a2.size:Nat):Int)≤(20:Int))) false) (cond (a0==(2:Int)) (cond (iKeyOk a1) (a2.toList==bE.toList) false) false)))
noncomputable abbrev e_iopOk (r:Bool):AV×List AObj:=((.t true .bool r),[])
noncomputable abbrev F_iopOk (r:Bool):=some (e_iopOk r)
noncomputable abbrev g_iopOk:pshsDen P_iopOk→AV×List AObj:=fun d=>e_iopOk (iopOk d.1.1 d.1.2.1 d.1.2.2.1)
noncomputable def q_iopOk (a0:Int) (a1:ByteArray) (a2:ByteArray):Bool:=okS a1
noncomputable abbrev pre_iopOk:pshsDen P_iopOk→Bool:=fun d=>q_iopOk d.1.1 d.1.2.1 d.1.2.2.1
theorem run_iopOk:RunP true G54 (fun _ _=>none) Try.f128 P_iopOk pre_iopOk g_iopOk:=by
 rintro ⟨⟨a0,⟨a1,⟨a2,_⟩⟩⟩,_⟩ hp
 change q_iopOk a0 a1 a2=true at hp
 unfold q_iopOk at hp
 refine Eq.trans (b:=(cond (a0==(1:Int)) (cond (q_iKeyOk a1) (cond (iKeyOk a1) (some (e_iopOk (decide (((a2.size:Nat):Int)≤(20:Int))))) (some (e_iopOk false))) none) (cond (a0==(3:Int)) (cond (q_iKeyOk a1) (cond (iKeyOk a1) (some (e_iopOk (decide (((a2.size:Nat):Int)≤(20:Int))))) (some (e_iopOk false))) none) (cond (a0==(2:Int)) (cond (q_iKeyOk a1) (cond (iKeyOk a1) (some (e_iopOk (a2.toList==(⟨#[]⟩:ByteArray).toList))) (some (e_iopOk false))) none) (some (e_iopOk false)))))) (by kernel_rfl) ?_
 exact (cnd (F:=F_iopOk) (fun _h=>(cndT (by first | rfl | decide | exact hp | (simp only [Bool.and_eq_true] at hp;simp only [hp];done) | (simp [*];done) | (simp [okL] at hp;simp [okL,MAXB];omega) | (simp_all;done) | (simp at *;omega)) (fun _h=>(cnd (F:=F_iopOk) (fun _h=>rfl) (fun _h=>rfl))))) (fun _h=>(cnd (F:=F_iopOk) (fun _h=>(cndT (by first | rfl | decide | exact hp | (simp only [Bool.and_eq_true] at hp;simp only [hp];done) | (simp [*];done) | (simp [okL] at hp;simp [okL,MAXB];omega) | (simp_all;done) | (simp at *;omega)) (fun _h=>(cnd (F:=F_iopOk) (fun _h=>rfl) (fun _h=>rfl))))) (fun _h=>(cnd (F:=F_iopOk) (fun _h=>(cndT (by first | rfl | decide | exact hp | (simp only [Bool.and_eq_true] at hp;simp only [hp];done) | (simp [*];done) | (simp [okL] at hp;simp [okL,MAXB];omega) | (simp_all;done) | (simp at *;omega)) (fun _h=>(cnd (F:=F_iopOk) (fun _h=>rfl) (fun _h=>rfl))))) (fun _h=>rfl))))))
theorem c_iopOk:PContract Try.prog 128 (sumOf P_iopOk pre_iopOk g_iopOk):=PContract.of_data true G54 (by kernel_rfl) (hl0 (by kernel_rfl)) _ _ _ run_iopOk
noncomputable def S55:Tab:=Tab.add S54 128 (lift (sumOf P_iopOk pre_iopOk g_iopOk))
noncomputable def QF55:FuncId→Bool:=qadd QF54 128
theorem G55:Good Try.prog tt S55 QF55:=G54.addQ c_iopOk ⟨Try.f128,by kernel_rfl,by kernel_rfl,by kernel_rfl⟩ (fun _=>rfl)

noncomputable abbrev jS31:List Sh:=.junk::.junk::jS29
noncomputable abbrev u32:=((),(),u30)
noncomputable abbrev jA31:List AV:=.junk::.junk::jA29
noncomputable abbrev jA26:List AV:=.junk::.junk::.junk::.junk::.junk::.junk::.junk::.junk::.junk::.junk::.junk::.junk::.junk::.junk::.junk::.junk::.junk::.junk::.junk::.junk::.junk::.junk::.junk::.junk::.junk::.junk::[]
noncomputable def iOpAt (l:Lq2) (i:Nat):Bool:=iopOk (l.getD i dOp).1 (l.getD i dOp).2.1 (l.getD i dOp).2.2&&(decide (i=0)||!(Op.bytesLess (l.getD i dOp).2.1.toList (l.getD (i - 1) dOp).2.1.toList||((l.getD i dOp).2.1.toList==(l.getD (i - 1) dOp).2.1.toList)))
noncomputable abbrev P_iOpsOk:List PSh:=[.t tq5]
noncomputable abbrev S_iOpsOk_0:SS:=⟨(.t false tq5::.junk::.junk::.junk::.junk::.t false tq5::.t true (.int .i64)::.t true (.int .i64)::jS26),[]⟩
noncomputable abbrev E_iOpsOk_0_0:SS:=⟨(.junk::.junk::.t true .bool::jS31),[]⟩
noncomputable abbrev E_iOpsOk_0_1:SS:=⟨(.t false tq5::jS33),[]⟩
noncomputable def st_iOpsOk_0 (x0:Lq2) (x5:Lq2) (x6:Int) (x7:Int):RT S_iOpsOk_0.den:=(.br (decide (x7<x6)) (.br (decide (0≤x7∧x7<((x5.length:Nat):Int))) (.br (q_iopOk ((x5.getD x7.toNat ((0:Int),(bE,bE))).1) (((x5.getD x7.toNat ((0:Int),(bE,bE))).2).1) (((x5.getD x7.toNat ((0:Int),(bE,bE))).2).2)) (.br (!(iopOk ((x5.getD x7.toNat ((0:Int),(bE,bE))).1) (((x5.getD x7.toNat ((0:Int),(bE,bE))).2).1) (((x5.getD x7.toNat ((0:Int),(bE,bE))).2).2))) (.done .ret E_iOpsOk_0_0 (((),(),false,u32),())) (.br (decide (x7 > (0:Int))) (.br (decide (0≤(IntKind.wrap .i64 (x7 - (1:Int)))∧(IntKind.wrap .i64 (x7 - (1:Int)))<((x0.length:Nat):Int))) (.br (Op.bytesLess (((x5.getD x7.toNat ((0:Int),(bE,bE))).2).1).toList (((x0.getD ((IntKind.wrap .i64 (x7 - (1:Int))).toNat) ((0:Int),(bE,bE))).2).1).toList||((((x5.getD x7.toNat ((0:Int),(bE,bE))).2).1).toList==(((x0.getD ((IntKind.wrap .i64 (x7 - (1:Int))).toNat) ((0:Int),(bE,bE))).2).1).toList)) (.done .ret E_iOpsOk_0_0 (((),(),false,u32),())) (.next ((x0,(),(),(),(),x5,x6,IntKind.wrap .i64 (x7+(1:Int)),u27),()))) .fail) (.next ((x0,(),(),(),(),x5,x6,IntKind.wrap .i64 (x7+(1:Int)),u27),())))) .fail) .fail) (.done (.exit 0) E_iOpsOk_0_1 ((x0,u34),())))
noncomputable def T_iOpsOk_0 (x0:Lq2) (x5:Lq2) (x6:Int) (x7:Int):CT:=(.br (decide (0≤x7)&&(decide (x6=((x5.length:Nat):Int))&&(decide (x5=x0)&&okOps x5))) (.br (allF (iOpAt x5) (x5.length - x7.toNat) x7.toNat) (.done (.exit 0) E_iOpsOk_0_1 ((x0,u34),())) (.done .ret E_iOpsOk_0_0 (((),(),false,u32),()))) .fail)
noncomputable abbrev sp_iOpsOk_0:S_iOpsOk_0.den→RT S_iOpsOk_0.den:=fun d=>st_iOpsOk_0 d.1.1 d.1.2.2.2.2.2.1 d.1.2.2.2.2.2.2.1 d.1.2.2.2.2.2.2.2.1
noncomputable abbrev pk_iOpsOk_0 (x0:Lq2) (x5:Lq2) (x6:Int) (x7:Int):S_iOpsOk_0.den:=((x0,(),(),(),(),x5,x6,x7,u27),())
noncomputable def body_iOpsOk_0:Code:=((loopsIn 0 (bodyOf Try.f92)).getD 0 (0,.skip)).2
theorem R_iOpsOk_0 (x0:Lq2) (x5:Lq2) (x6:Int) (x7:Int):(T_iOpsOk_0 x0 x5 x6 x7).val (D:=S_iOpsOk_0.den)=.fail∨Runs sp_iOpsOk_0 (pk_iOpsOk_0 x0 x5 x6 x7) (T_iOpsOk_0 x0 x5 x6 x7).val:=by
 cases hc:(decide (0≤x7)&&(decide (x6=((x5.length:Nat):Int))&&(decide (x5=x0)&&okOps x5))) with
 | false=>left;simp only [T_iOpsOk_0,CT.val,hc,cond_false]
 | true =>
  right
  simp only [T_iOpsOk_0,CT.val,hc,cond_true]
  simp only [Bool.and_eq_true,decide_eq_true_eq] at hc
  obtain ⟨i,rfl⟩:=Int.eq_ofNat_of_zero_le hc.1
  obtain ⟨_,e6,e5,hc⟩:=hc
  subst e5;subst e6
  have hs:=okOps_len hc
  simp only [Int.toNat_natCast]
  refine Runs.scan (fun j=>pk_iOpsOk_0 x5 x5 ((x5.length:Nat):Int) (j:Int)) (x5.length) (iOpAt x5) (fun i hi=>?_) (fun i hi=>?_) ⟨_,_,_,rfl,by simp⟩ ⟨_,_,_,rfl,by simp⟩ _ _ rfl
  ·
   have h0a:decide ((i:Int)<((x5.length:Nat):Int))=true:=decide_eq_true (by omega)
   have h0b:decide (0≤(i:Int)∧(i:Int)<((x5.length:Nat):Int))=true:=decide_eq_true (by omega)
   simp only [sp_iOpsOk_0,st_iOpsOk_0,RT.val,h0a,h0b,cond_true,wrapS i (by omega),Int.toNat_natCast]
   have hq:q_iopOk (x5.getD i dOp).1 (x5.getD i dOp).2.1 (x5.getD i dOp).2.2=true:=(okOps_at hc i hi).1
   simp only [dOp] at hq
   simp only [hq,cond_true,iOpAt,dOp]
   cases iopOk (x5.getD i ((0:Int),((⟨#[]⟩:ByteArray),(⟨#[]⟩:ByteArray)))).1 (x5.getD i ((0:Int),((⟨#[]⟩:ByteArray),(⟨#[]⟩:ByteArray)))).2.1 (x5.getD i ((0:Int),((⟨#[]⟩:ByteArray),(⟨#[]⟩:ByteArray)))).2.2 with
   | false=>rfl
   | true =>
    cases i with
    | zero=>rfl
    | succ i =>
     have h3:decide (((i+1:Nat):Int) > 0)=true:=decide_eq_true (by omega)
     have h4:IntKind.wrap .i64 (((i+1:Nat):Int) - 1)=(i:Int):=by have:=wrap64 (n:=((i+1:Nat):Int) - 1) (by omega) (by omega);omega
     have h5:decide (0≤(i:Int)∧(i:Int)<((x5.length:Nat):Int))=true:=decide_eq_true (by omega)
     have h6:decide (i+1=0)=false:=by simp
     simp only [h3,h4,h5,h6,cond_true,Bool.true_and,Bool.false_or,Int.toNat_natCast,Nat.add_sub_cancel,Bool.not_true,cond_false]
     cases (Op.bytesLess (x5.getD (i+1) ((0:Int),((⟨#[]⟩:ByteArray),(⟨#[]⟩:ByteArray)))).2.1.toList (x5.getD i ((0:Int),((⟨#[]⟩:ByteArray),(⟨#[]⟩:ByteArray)))).2.1.toList||((x5.getD (i+1) ((0:Int),((⟨#[]⟩:ByteArray),(⟨#[]⟩:ByteArray)))).2.1.toList==(x5.getD i ((0:Int),((⟨#[]⟩:ByteArray),(⟨#[]⟩:ByteArray)))).2.1.toList))<;>rfl
  ·have h1:decide ((i:Int)<((x5.length:Nat):Int))=false:=decide_eq_false (by omega)
   simp only [sp_iOpsOk_0,st_iOpsOk_0,RT.val,h1,cond_false]
noncomputable def ox_iOpsOk_0 (x0:Lq2) (x5:Lq2) (x6:Int) (x7:Int):Option (Ex×St):=(cond (decide (x7<x6)) (cond (decide (0≤x7∧x7<((x5.length:Nat):Int))) (cond (q_iopOk ((x5.getD x7.toNat ((0:Int),(bE,bE))).1) (((x5.getD x7.toNat ((0:Int),(bE,bE))).2).1) (((x5.getD x7.toNat ((0:Int),(bE,bE))).2).2)) (cond (!(iopOk ((x5.getD x7.toNat ((0:Int),(bE,bE))).1) (((x5.getD x7.toNat ((0:Int),(bE,bE))).2).1) (((x5.getD x7.toNat ((0:Int),(bE,bE))).2).2))) (some (.ret,(⟨(.junk::.junk::(.t true .bool false)::jA31),[],0,[]⟩:St))) (cond (decide (x7 > (0:Int))) (cond (decide (0≤(IntKind.wrap .i64 (x7 - (1:Int)))∧(IntKind.wrap .i64 (x7 - (1:Int)))<((x0.length:Nat):Int))) (cond (Op.bytesLess (((x5.getD x7.toNat ((0:Int),(bE,bE))).2).1).toList (((x0.getD ((IntKind.wrap .i64 (x7 - (1:Int))).toNat) ((0:Int),(bE,bE))).2).1).toList||((((x5.getD x7.toNat ((0:Int),(bE,bE))).2).1).toList==(((x0.getD ((IntKind.wrap .i64 (x7 - (1:Int))).toNat) ((0:Int),(bE,bE))).2).1).toList)) (some (.ret,(⟨(.junk::.junk::(.t true .bool false)::jA31),[],0,[]⟩:St))) (some (.normal,(⟨((.t false tq5 x0)::.junk::.junk::.junk::.junk::(.t false tq5 x5)::(.t true (.int .i64) x6)::(.t true (.int .i64) (IntKind.wrap .i64 (x7+(1:Int))))::jA26),[],0,[]⟩:St)))) none) (some (.normal,(⟨((.t false tq5 x0)::.junk::.junk::.junk::.junk::(.t false tq5 x5)::(.t true (.int .i64) x6)::(.t true (.int .i64) (IntKind.wrap .i64 (x7+(1:Int))))::jA26),[],0,[]⟩:St))))) none) none) (some ((.exit 0),(⟨((.t false tq5 x0)::jA33),[],0,[]⟩:St))))
theorem rdA_iOpsOk_0:RdA G55 (fun _ _=>none) 0 body_iOpsOk_0 S_iOpsOk_0 0 [] (kepts [2] [(0,[0])]) (fun d=>ox_iOpsOk_0 d.1.1 d.1.2.2.2.2.2.1 d.1.2.2.2.2.2.2.1 d.1.2.2.2.2.2.2.2.1):=by
 intro d
 kernel_rfl
theorem rdB_iOpsOk_0:∀ d:S_iOpsOk_0.den,ox_iOpsOk_0 d.1.1 d.1.2.2.2.2.2.1 d.1.2.2.2.2.2.2.1 d.1.2.2.2.2.2.2.2.1=(sp_iOpsOk_0 d).opt 0 []:=by
 intro d
 kernel_rfl
noncomputable abbrev say_iOpsOk_0:St→Option Tree:=S_iOpsOk_0.say 0 [] [] (fun d=>T_iOpsOk_0 d.1.1 d.1.2.2.2.2.2.1 d.1.2.2.2.2.2.2.1 d.1.2.2.2.2.2.2.2.1)
theorem lw_iOpsOk_0:LoopWp Try.prog say_iOpsOk_0 body_iOpsOk_0:=SS.wp2 (hl0 (by kernel_rfl)) [] sp_iOpsOk_0 rdA_iOpsOk_0 rdB_iOpsOk_0 _ (fun d=>R_iOpsOk_0 d.1.1 d.1.2.2.2.2.2.1 d.1.2.2.2.2.2.2.1 d.1.2.2.2.2.2.2.2.1)
noncomputable def iOpsOk (a0:Lq2):Bool:=(cond (allF (iOpAt a0) (a0.length - (0:Int).toNat) (0:Int).toNat) (iinRange ((a0.length:Nat):Int) (1:Int) (8:Int)) false)
noncomputable abbrev e_iOpsOk (r:Bool):AV×List AObj:=((.t true .bool r),[])
noncomputable abbrev F_iOpsOk (r:Bool):=some (e_iOpsOk r)
noncomputable abbrev g_iOpsOk:pshsDen P_iOpsOk→AV×List AObj:=fun d=>e_iOpsOk (iOpsOk d.1)
noncomputable def q_iOpsOk (a0:Lq2):Bool:=okOps a0
noncomputable abbrev pre_iOpsOk:pshsDen P_iOpsOk→Bool:=fun d=>q_iOpsOk d.1
noncomputable abbrev L_iOpsOk:Nat→St→Option Tree:=fun b=>match b with | 0=>say_iOpsOk_0 | _=>fun _=>none
theorem run_iOpsOk:RunP true G55 (L_iOpsOk) Try.f92 P_iOpsOk pre_iOpsOk g_iOpsOk:=by
 rintro ⟨a0,_⟩ hp
 change q_iOpsOk a0=true at hp
 unfold q_iOpsOk at hp
 refine Eq.trans (b:=(cond (decide (0≤(0:Int))&&(decide (((a0.length:Nat):Int)=((a0.length:Nat):Int))&&(decide (a0=a0)&&okOps a0))) (cond (allF (iOpAt a0) (a0.length - (0:Int).toNat) (0:Int).toNat) (some (e_iOpsOk (iinRange ((a0.length:Nat):Int) (1:Int) (8:Int)))) (some (e_iOpsOk false))) none)) (by kernel_rfl) ?_
 exact (cndT (by first | rfl | decide | exact hp | (simp only [Bool.and_eq_true] at hp;simp only [hp];done) | (simp [*];done) | (simp [okL] at hp;simp [okL,MAXB];omega) | (simp_all;done) | (simp at *;omega)) (fun _h=>(cnd (F:=F_iOpsOk) (fun _h=>rfl) (fun _h=>rfl))))
theorem c_iOpsOk:PContract Try.prog 92 (sumOf P_iOpsOk pre_iOpsOk g_iOpsOk):=PContract.of_data true G55 (by kernel_rfl) (hl1 (i:=0) (by kernel_rfl) lw_iOpsOk_0) _ _ _ run_iOpsOk
noncomputable def S56:Tab:=Tab.add S55 92 (lift (sumOf P_iOpsOk pre_iOpsOk g_iOpsOk))
noncomputable def QF56:FuncId→Bool:=qadd QF55 92
theorem G56:Good Try.prog tt S56 QF56:=G55.addQ c_iOpsOk ⟨Try.f92,by kernel_rfl,by kernel_rfl,by kernel_rfl⟩ (fun _=>rfl)

noncomputable abbrev P_iRecOk:List PSh:=[.agg [(.int .i64),(.int .i64),tq5]]
noncomputable def iRecOk (a0:Int) (a1:Int) (a2:Lq2):Bool:=(cond (a0==(1:Int)) (cond (iisTx a1) (iOpsOk a2) false) (cond (a0==(2:Int)) (cond (iisTx a1) (((a2.length:Nat):Int)==(0:Int)) false) (cond (a0==(3:Int)) (cond (iisTx a1) (((a2.length:Nat):Int)==(0:Int)) false) false)))
noncomputable abbrev e_iRecOk (r:Bool):AV×List AObj:=((.t true .bool r),[])
noncomputable abbrev F_iRecOk (r:Bool):=some (e_iRecOk r)
noncomputable abbrev g_iRecOk:pshsDen P_iRecOk→AV×List AObj:=fun d=>e_iRecOk (iRecOk d.1.1 d.1.2.1 d.1.2.2.1)
noncomputable def q_iRecOk (a0:Int) (a1:Int) (a2:Lq2):Bool:=okOps a2
noncomputable abbrev pre_iRecOk:pshsDen P_iRecOk→Bool:=fun d=>q_iRecOk d.1.1 d.1.2.1 d.1.2.2.1
theorem run_iRecOk:RunP true G56 (fun _ _=>none) Try.f82 P_iRecOk pre_iRecOk g_iRecOk:=by
 rintro ⟨⟨a0,⟨a1,⟨a2,_⟩⟩⟩,_⟩ hp
 change q_iRecOk a0 a1 a2=true at hp
 unfold q_iRecOk at hp
 refine Eq.trans (b:=(cond (a0==(1:Int)) (cond (iisTx a1) (cond (q_iOpsOk a2) (some (e_iRecOk (iOpsOk a2))) none) (some (e_iRecOk false))) (cond (a0==(2:Int)) (cond (iisTx a1) (some (e_iRecOk (((a2.length:Nat):Int)==(0:Int)))) (some (e_iRecOk false))) (cond (a0==(3:Int)) (cond (iisTx a1) (some (e_iRecOk (((a2.length:Nat):Int)==(0:Int)))) (some (e_iRecOk false))) (some (e_iRecOk false)))))) (by kernel_rfl) ?_
 exact (cnd (F:=F_iRecOk) (fun _h=>(cnd (F:=F_iRecOk) (fun _h=>(cndT (by first | rfl | decide | exact hp | (simp only [Bool.and_eq_true] at hp;simp only [hp];done) | (simp [*];done) | (simp [okL] at hp;simp [okL,MAXB];omega) | (simp_all;done) | (simp at *;omega)) (fun _h=>rfl))) (fun _h=>rfl))) (fun _h=>(cnd (F:=F_iRecOk) (fun _h=>(cnd (F:=F_iRecOk) (fun _h=>rfl) (fun _h=>rfl))) (fun _h=>(cnd (F:=F_iRecOk) (fun _h=>(cnd (F:=F_iRecOk) (fun _h=>rfl) (fun _h=>rfl))) (fun _h=>rfl))))))
theorem c_iRecOk:PContract Try.prog 82 (sumOf P_iRecOk pre_iRecOk g_iRecOk):=PContract.of_data true G56 (by kernel_rfl) (hl0 (by kernel_rfl)) _ _ _ run_iRecOk
noncomputable def S57:Tab:=Tab.add S56 82 (lift (sumOf P_iRecOk pre_iRecOk g_iRecOk))
noncomputable def QF57:FuncId→Bool:=qadd QF56 82
theorem G57:Good Try.prog tt S57 QF57:=G56.addQ c_iRecOk ⟨Try.f82,by kernel_rfl,by kernel_rfl,by kernel_rfl⟩ (fun _=>rfl)

noncomputable abbrev jS16:List Sh:=.junk::jS15
noncomputable abbrev jS20:List Sh:=.junk::jS19
noncomputable abbrev u17:=((),u16)
noncomputable abbrev u22:=((),u21)
noncomputable abbrev P_irecAt:List PSh:=[.t tq3,.t (.int .i64)]
noncomputable abbrev S_irecAt_0:SS:=⟨(.t false tq3::.t true (.int .i64)::.junk::.junk::.junk::.t true (.int .i64)::jS15),[]⟩
noncomputable abbrev E_irecAt_0_0:SS:=⟨(.junk::.junk::.junk::.junk::.t true (.int .i64)::jS16),[]⟩
noncomputable abbrev E_irecAt_0_1:SS:=⟨(.junk::jS20),[]⟩
noncomputable def st_irecAt_0 (x0:Lq1) (x1:Int) (x5:Int):RT S_irecAt_0.den:=(.br (decide (x5 ≥ (0:Int))) (.br (decide (0≤x5∧x5<((x0.length:Nat):Int))) (.br ((((x0.getD x5.toNat ((0:Int),((0:Int),[]))).2).1)==x1) (.done .ret E_irecAt_0_0 (((),(),(),(),x5,u17),())) (.next ((x0,x1,(),(),(),IntKind.wrap .i64 (x5 - (1:Int)),u16),()))) .fail) (.done (.exit 0) E_irecAt_0_1 ((u22),())))
noncomputable abbrev V_irecAt_0:=(Lq1)×(Int)×(Int)
noncomputable abbrev A_irecAt_0:=Nat×(Int)
noncomputable def fl_irecAt_0:A_irecAt_0:=(99,((0:Int):Int))
noncomputable def ss_irecAt_0 (x0:Lq1) (x1:Int) (x5:Int):V_irecAt_0 ⊕ A_irecAt_0:=(cond (decide (x5 ≥ (0:Int))) (cond (decide (0≤x5∧x5<((x0.length:Nat):Int))) (cond ((((x0.getD x5.toNat ((0:Int),((0:Int),[]))).2).1)==x1) (.inr (0,x5)) (.inl (x0,x1,IntKind.wrap .i64 (x5 - (1:Int))))) (.inr fl_irecAt_0)) (.inr (1,((0:Int):Int))))
noncomputable def it_irecAt_0 (x0:Lq1) (x1:Int) (x5:Int):A_irecAt_0:=itX (fun v:V_irecAt_0=>ss_irecAt_0 v.1 v.2.1 v.2.2) fl_irecAt_0 (x0,x1,x5)
noncomputable def ct_irecAt_0 (a:A_irecAt_0):CT:=(.br (a.1==0) (.done .ret E_irecAt_0_0 (((),(),(),(),a.2,u17),())) (.br (a.1==1) (.done (.exit 0) E_irecAt_0_1 ((u22),())) .fail))
noncomputable def T_irecAt_0 (x0:Lq1) (x1:Int) (x5:Int):CT:=ct_irecAt_0 (it_irecAt_0 x0 x1 x5)
noncomputable abbrev sp_irecAt_0:S_irecAt_0.den→RT S_irecAt_0.den:=fun d=>st_irecAt_0 d.1.1 d.1.2.1 d.1.2.2.2.2.2.1
noncomputable abbrev pk_irecAt_0 (x0:Lq1) (x1:Int) (x5:Int):S_irecAt_0.den:=((x0,x1,(),(),(),x5,u16),())
noncomputable def body_irecAt_0:Code:=((loopsIn 0 (bodyOf Try.f79)).getD 0 (0,.skip)).2
noncomputable abbrev pv_irecAt_0 (v:V_irecAt_0):S_irecAt_0.den:=pk_irecAt_0 v.1 v.2.1 v.2.2
theorem rdA_irecAt_0:RdA G57 (fun _ _=>none) 0 body_irecAt_0 S_irecAt_0 0 [] (kepts [4] [(0,[])]) (fun d=>(sp_irecAt_0 d).opt 0 []):=by
 intro d
 kernel_rfl
noncomputable abbrev say_irecAt_0:St→Option Tree:=S_irecAt_0.say 0 [] [] (fun d=>T_irecAt_0 d.1.1 d.1.2.1 d.1.2.2.2.2.2.1)
theorem lw_irecAt_0:LoopWp Try.prog say_irecAt_0 body_irecAt_0:=SS.wp2 (hl0 (by kernel_rfl)) [] sp_irecAt_0 rdA_irecAt_0 (fun d=>rfl) _ (fun d=>Runs.ofIt (step:=sp_irecAt_0) pv_irecAt_0 (ct:=ct_irecAt_0) rfl (fun v=>((relB (relB (relB rfl rfl) rfl) rfl):(st_irecAt_0 v.1 v.2.1 v.2.2).val=relS pv_irecAt_0 ct_irecAt_0 (ss_irecAt_0 v.1 v.2.1 v.2.2))) (fun a=>((cendB (cendD (by simp)) (cendB (cendD (by simp)) cendF)):CEnd _ (ct_irecAt_0 a))) (d.1.1,d.1.2.1,d.1.2.2.2.2.2.1))
noncomputable def irecAt (a0:Lq1) (a1:Int):Int:=(cond ((it_irecAt_0 a0 a1 (IntKind.wrap .i64 (((a0.length:Nat):Int) - (1:Int)))).1==0) ((it_irecAt_0 a0 a1 (IntKind.wrap .i64 (((a0.length:Nat):Int) - (1:Int)))).2) (-1:Int))
noncomputable abbrev e_irecAt (r:Int):AV×List AObj:=((.t true (.int .i64) r),[])
noncomputable abbrev F_irecAt (r:Int):=some (e_irecAt r)
noncomputable abbrev g_irecAt:pshsDen P_irecAt→AV×List AObj:=fun d=>e_irecAt (irecAt d.1 d.2.1)
noncomputable def q_irecAt (a0:Lq1) (a1:Int):Bool:=cond ((it_irecAt_0 a0 a1 (IntKind.wrap .i64 (((a0.length:Nat):Int) - (1:Int)))).1==0) true ((it_irecAt_0 a0 a1 (IntKind.wrap .i64 (((a0.length:Nat):Int) - (1:Int)))).1==1)
noncomputable abbrev pre_irecAt:pshsDen P_irecAt→Bool:=fun d=>q_irecAt d.1 d.2.1
noncomputable abbrev L_irecAt:Nat→St→Option Tree:=fun b=>match b with | 0=>say_irecAt_0 | _=>fun _=>none
theorem run_irecAt:RunP true G57 (L_irecAt) Try.f79 P_irecAt pre_irecAt g_irecAt:=by
 rintro ⟨a0,⟨a1,_⟩⟩ hp
 change q_irecAt a0 a1=true at hp
 unfold q_irecAt at hp
 refine Eq.trans (b:=(cond ((it_irecAt_0 a0 a1 (IntKind.wrap .i64 (((a0.length:Nat):Int) - (1:Int)))).1==0) (some (e_irecAt ((it_irecAt_0 a0 a1 (IntKind.wrap .i64 (((a0.length:Nat):Int) - (1:Int)))).2))) (cond ((it_irecAt_0 a0 a1 (IntKind.wrap .i64 (((a0.length:Nat):Int) - (1:Int)))).1==1) (some (e_irecAt (-1:Int))) none))) (by kernel_rfl) ?_
 exact (cndQ (F:=F_irecAt) hp (fun hp=>rfl) (fun hp=>(cndT hp fun _h=>rfl)))
theorem c_irecAt:PContract Try.prog 79 (sumOf P_irecAt pre_irecAt g_irecAt):=PContract.of_data true G57 (by kernel_rfl) (hl1 (i:=0) (by kernel_rfl) lw_irecAt_0) _ _ _ run_irecAt
noncomputable def S58:Tab:=Tab.add S57 79 (lift (sumOf P_irecAt pre_irecAt g_irecAt))
noncomputable def QF58:FuncId→Bool:=qadd QF57 79
theorem G58:Good Try.prog tt S58 QF58:=G57.addQ c_irecAt ⟨Try.f79,by kernel_rfl,by kernel_rfl,by kernel_rfl⟩ (fun _=>rfl)

noncomputable abbrev u18:=((),u17)
noncomputable abbrev jA11:List AV:=.junk::.junk::.junk::.junk::.junk::.junk::.junk::.junk::.junk::.junk::.junk::[]
noncomputable abbrev jA17:List AV:=.junk::.junk::.junk::.junk::.junk::.junk::jA11
noncomputable abbrev jA24:List AV:=.junk::.junk::.junk::.junk::.junk::.junk::.junk::jA17
noncomputable abbrev P_iisHeldKey:List PSh:=[.t tq3,.t tq5]
noncomputable def body_iisHeldKey_0:Code:=((loopsIn 0 (bodyOf Try.f118)).getD 0 (0,.skip)).2
noncomputable def body_iisHeldKey_1:Code:=((loopsIn 0 body_iisHeldKey_0).getD 0 (0,.skip)).2
noncomputable def body_iisHeldKey_2:Code:=((loopsIn 2 body_iisHeldKey_1).getD 0 (0,.skip)).2
noncomputable abbrev S_iisHeldKey_2:SS:=⟨(.junk::.t false tq5::.junk::.junk::.junk::.junk::.junk::.junk::.ptr 0 0 1 0::.junk::.junk::.t false tq3::.t true (.int .i64)::.t true (.int .i64)::.junk::.junk::.junk::.junk::.t false tq5::.t true (.int .i64)::.t true (.int .i64)::.junk::.junk::.junk::.t false tq5::.t true (.int .i64)::.t true (.int .i64)::jS11),[.box [.t true (.int .i64),.t true .str,.t true .str]]⟩
noncomputable abbrev E_iisHeldKey_2_0:SS:=⟨(.junk::.junk::.junk::.junk::.t true .bool::jS33),[]⟩
noncomputable abbrev E_iisHeldKey_2_1:SS:=⟨(.junk::.t false tq5::.junk::.junk::.junk::.junk::.junk::.junk::.junk::.junk::.junk::.t false tq3::.t true (.int .i64)::.t true (.int .i64)::.junk::.junk::.junk::.junk::.t false tq5::.t true (.int .i64)::.t true (.int .i64)::jS17),[]⟩
noncomputable def st_iisHeldKey_2 (x1:Lq2) (x11:Lq1) (x12:Int) (x13:Int) (x18:Lq2) (x19:Int) (x20:Int) (x24:Lq2) (x25:Int) (x26:Int) (p0:Int) (p1:ByteArray) (p2:ByteArray):RT S_iisHeldKey_2.den:=(.br (decide (x26<x25)) (.br (decide (0≤x26∧x26<((x24.length:Nat):Int))) (.br ((((x24.getD x26.toNat ((0:Int),(bE,bE))).2).1).toList==p1.toList) (.done .ret E_iisHeldKey_2_0 (((),(),(),(),true,u34),())) (.next (((),x1,(),(),(),(),(),(),(),(),(),x11,x12,x13,(),(),(),(),x18,x19,x20,(),(),(),x24,x25,IntKind.wrap .i64 (x26+(1:Int)),u12),((p0,p1,p2,()),())))) .fail) (.done (.exit 4) E_iisHeldKey_2_1 (((),x1,(),(),(),(),(),(),(),(),(),x11,x12,x13,(),(),(),(),x18,x19,x20,u18),())))
noncomputable abbrev V_iisHeldKey_2:=(Lq2)×(Lq1)×(Int)×(Int)×(Lq2)×(Int)×(Int)×(Lq2)×(Int)×(Int)
noncomputable abbrev A_iisHeldKey_2:=Nat×(Bool)×(Lq2)×(Lq1)×(Int)×(Int)×(Lq2)×(Int)×(Int)
noncomputable def fl_iisHeldKey_2:A_iisHeldKey_2:=(99,(false:Bool),([]:Lq2),([]:Lq1),((0:Int):Int),((0:Int):Int),([]:Lq2),((0:Int):Int),((0:Int):Int))
noncomputable def ss_iisHeldKey_2 (x1:Lq2) (x11:Lq1) (x12:Int) (x13:Int) (x18:Lq2) (x19:Int) (x20:Int) (x24:Lq2) (x25:Int) (x26:Int) (p0:Int) (p1:ByteArray) (p2:ByteArray):V_iisHeldKey_2 ⊕ A_iisHeldKey_2:=(cond (decide (x26<x25)) (cond (decide (0≤x26∧x26<((x24.length:Nat):Int))) (cond ((((x24.getD x26.toNat ((0:Int),(bE,bE))).2).1).toList==p1.toList) (.inr (0,true,([]:Lq2),([]:Lq1),((0:Int):Int),((0:Int):Int),([]:Lq2),((0:Int):Int),((0:Int):Int))) (.inl (x1,x11,x12,x13,x18,x19,x20,x24,x25,IntKind.wrap .i64 (x26+(1:Int))))) (.inr fl_iisHeldKey_2)) (.inr (1,(false:Bool),x1,x11,x12,x13,x18,x19,x20)))
noncomputable def it_iisHeldKey_2 (x1:Lq2) (x11:Lq1) (x12:Int) (x13:Int) (x18:Lq2) (x19:Int) (x20:Int) (x24:Lq2) (x25:Int) (x26:Int) (p0:Int) (p1:ByteArray) (p2:ByteArray):A_iisHeldKey_2:=itX (fun v:V_iisHeldKey_2=>ss_iisHeldKey_2 v.1 v.2.1 v.2.2.1 v.2.2.2.1 v.2.2.2.2.1 v.2.2.2.2.2.1 v.2.2.2.2.2.2.1 v.2.2.2.2.2.2.2.1 v.2.2.2.2.2.2.2.2.1 v.2.2.2.2.2.2.2.2.2 p0 p1 p2) fl_iisHeldKey_2 (x1,x11,x12,x13,x18,x19,x20,x24,x25,x26)
noncomputable def ct_iisHeldKey_2 (p0:Int) (p1:ByteArray) (p2:ByteArray) (a:A_iisHeldKey_2):CT:=(.br (a.1==0) (.done .ret E_iisHeldKey_2_0 (((),(),(),(),a.2.1,u34),())) (.br (a.1==1) (.done (.exit 4) E_iisHeldKey_2_1 (((),a.2.2.1,(),(),(),(),(),(),(),(),(),a.2.2.2.1,a.2.2.2.2.1,a.2.2.2.2.2.1,(),(),(),(),a.2.2.2.2.2.2.1,a.2.2.2.2.2.2.2.1,a.2.2.2.2.2.2.2.2,u18),())) .fail))
noncomputable def T_iisHeldKey_2 (x1:Lq2) (x11:Lq1) (x12:Int) (x13:Int) (x18:Lq2) (x19:Int) (x20:Int) (x24:Lq2) (x25:Int) (x26:Int) (p0:Int) (p1:ByteArray) (p2:ByteArray):CT:=(ct_iisHeldKey_2 p0 p1 p2) (it_iisHeldKey_2 x1 x11 x12 x13 x18 x19 x20 x24 x25 x26 p0 p1 p2)
noncomputable abbrev sp_iisHeldKey_2:S_iisHeldKey_2.den→RT S_iisHeldKey_2.den:=fun d=>st_iisHeldKey_2 d.1.2.1 d.1.2.2.2.2.2.2.2.2.2.2.2.1 d.1.2.2.2.2.2.2.2.2.2.2.2.2.1 d.1.2.2.2.2.2.2.2.2.2.2.2.2.2.1 d.1.2.2.2.2.2.2.2.2.2.2.2.2.2.2.2.2.2.2.1 d.1.2.2.2.2.2.2.2.2.2.2.2.2.2.2.2.2.2.2.2.1 d.1.2.2.2.2.2.2.2.2.2.2.2.2.2.2.2.2.2.2.2.2.1 d.1.2.2.2.2.2.2.2.2.2.2.2.2.2.2.2.2.2.2.2.2.2.2.2.2.1 d.1.2.2.2.2.2.2.2.2.2.2.2.2.2.2.2.2.2.2.2.2.2.2.2.2.2.1 d.1.2.2.2.2.2.2.2.2.2.2.2.2.2.2.2.2.2.2.2.2.2.2.2.2.2.2.1 d.2.1.1 d.2.1.2.1 d.2.1.2.2.1
noncomputable abbrev pk_iisHeldKey_2 (x1:Lq2) (x11:Lq1) (x12:Int) (x13:Int) (x18:Lq2) (x19:Int) (x20:Int) (x24:Lq2) (x25:Int) (x26:Int) (p0:Int) (p1:ByteArray) (p2:ByteArray):S_iisHeldKey_2.den:=(((),x1,(),(),(),(),(),(),(),(),(),x11,x12,x13,(),(),(),(),x18,x19,x20,(),(),(),x24,x25,x26,u12),((p0,p1,p2,()),()))
noncomputable abbrev pv_iisHeldKey_2 (p0:Int) (p1:ByteArray) (p2:ByteArray) (v:V_iisHeldKey_2):S_iisHeldKey_2.den:=pk_iisHeldKey_2 v.1 v.2.1 v.2.2.1 v.2.2.2.1 v.2.2.2.2.1 v.2.2.2.2.2.1 v.2.2.2.2.2.2.1 v.2.2.2.2.2.2.2.1 v.2.2.2.2.2.2.2.2.1 v.2.2.2.2.2.2.2.2.2 p0 p1 p2
noncomputable def ox_iisHeldKey_2 (x1:Lq2) (x11:Lq1) (x12:Int) (x13:Int) (x18:Lq2) (x19:Int) (x20:Int) (x24:Lq2) (x25:Int) (x26:Int) (p0:Int) (p1:ByteArray) (p2:ByteArray):Option (Ex×St):=(cond (decide (x26<x25)) (cond (decide (0≤x26∧x26<((x24.length:Nat):Int))) (cond ((((x24.getD x26.toNat ((0:Int),(bE,bE))).2).1).toList==p1.toList) (some (.ret,(⟨(.junk::.junk::.junk::.junk::(.t true .bool true)::jA33),[],0,[]⟩:St))) (some (.normal,(⟨(.junk::(.t false tq5 x1)::.junk::.junk::.junk::.junk::.junk::.junk::(.ptr 0 0 1 0)::.junk::.junk::(.t false tq3 x11)::(.t true (.int .i64) x12)::(.t true (.int .i64) x13)::.junk::.junk::.junk::.junk::(.t false tq5 x18)::(.t true (.int .i64) x19)::(.t true (.int .i64) x20)::.junk::.junk::.junk::(.t false tq5 x24)::(.t true (.int .i64) x25)::(.t true (.int .i64) (IntKind.wrap .i64 (x26+(1:Int))))::jA11),[(.box [(.t true (.int .i64) p0),(.t true .str p1),(.t true .str p2)])],0,[]⟩:St)))) none) (some ((.exit 4),(⟨(.junk::(.t false tq5 x1)::.junk::.junk::.junk::.junk::.junk::.junk::.junk::.junk::.junk::(.t false tq3 x11)::(.t true (.int .i64) x12)::(.t true (.int .i64) x13)::.junk::.junk::.junk::.junk::(.t false tq5 x18)::(.t true (.int .i64) x19)::(.t true (.int .i64) x20)::jA17),[],0,[]⟩:St))))
theorem rdA_iisHeldKey_2:RdA G58 (fun _ _=>none) 4 body_iisHeldKey_2 S_iisHeldKey_2 0 [] (kepts [4] [(4,[1,11,12,13,18,19,20])]) (fun d=>ox_iisHeldKey_2 d.1.2.1 d.1.2.2.2.2.2.2.2.2.2.2.2.1 d.1.2.2.2.2.2.2.2.2.2.2.2.2.1 d.1.2.2.2.2.2.2.2.2.2.2.2.2.2.1 d.1.2.2.2.2.2.2.2.2.2.2.2.2.2.2.2.2.2.2.1 d.1.2.2.2.2.2.2.2.2.2.2.2.2.2.2.2.2.2.2.2.1 d.1.2.2.2.2.2.2.2.2.2.2.2.2.2.2.2.2.2.2.2.2.1 d.1.2.2.2.2.2.2.2.2.2.2.2.2.2.2.2.2.2.2.2.2.2.2.2.2.1 d.1.2.2.2.2.2.2.2.2.2.2.2.2.2.2.2.2.2.2.2.2.2.2.2.2.2.1 d.1.2.2.2.2.2.2.2.2.2.2.2.2.2.2.2.2.2.2.2.2.2.2.2.2.2.2.1 d.2.1.1 d.2.1.2.1 d.2.1.2.2.1):=by
 intro d
 kernel_rfl
theorem rdB_iisHeldKey_2:∀ d:S_iisHeldKey_2.den,ox_iisHeldKey_2 d.1.2.1 d.1.2.2.2.2.2.2.2.2.2.2.2.1 d.1.2.2.2.2.2.2.2.2.2.2.2.2.1 d.1.2.2.2.2.2.2.2.2.2.2.2.2.2.1 d.1.2.2.2.2.2.2.2.2.2.2.2.2.2.2.2.2.2.2.1 d.1.2.2.2.2.2.2.2.2.2.2.2.2.2.2.2.2.2.2.2.1 d.1.2.2.2.2.2.2.2.2.2.2.2.2.2.2.2.2.2.2.2.2.1 d.1.2.2.2.2.2.2.2.2.2.2.2.2.2.2.2.2.2.2.2.2.2.2.2.2.1 d.1.2.2.2.2.2.2.2.2.2.2.2.2.2.2.2.2.2.2.2.2.2.2.2.2.2.1 d.1.2.2.2.2.2.2.2.2.2.2.2.2.2.2.2.2.2.2.2.2.2.2.2.2.2.2.1 d.2.1.1 d.2.1.2.1 d.2.1.2.2.1=(sp_iisHeldKey_2 d).opt 0 []:=by
 intro d
 kernel_rfl
noncomputable abbrev say_iisHeldKey_2:St→Option Tree:=S_iisHeldKey_2.say 0 [] [] (fun d=>T_iisHeldKey_2 d.1.2.1 d.1.2.2.2.2.2.2.2.2.2.2.2.1 d.1.2.2.2.2.2.2.2.2.2.2.2.2.1 d.1.2.2.2.2.2.2.2.2.2.2.2.2.2.1 d.1.2.2.2.2.2.2.2.2.2.2.2.2.2.2.2.2.2.2.1 d.1.2.2.2.2.2.2.2.2.2.2.2.2.2.2.2.2.2.2.2.1 d.1.2.2.2.2.2.2.2.2.2.2.2.2.2.2.2.2.2.2.2.2.1 d.1.2.2.2.2.2.2.2.2.2.2.2.2.2.2.2.2.2.2.2.2.2.2.2.2.1 d.1.2.2.2.2.2.2.2.2.2.2.2.2.2.2.2.2.2.2.2.2.2.2.2.2.2.1 d.1.2.2.2.2.2.2.2.2.2.2.2.2.2.2.2.2.2.2.2.2.2.2.2.2.2.2.1 d.2.1.1 d.2.1.2.1 d.2.1.2.2.1)
theorem lw_iisHeldKey_2:LoopWp Try.prog say_iisHeldKey_2 body_iisHeldKey_2:=SS.wp2 (hl0 (by kernel_rfl)) [] sp_iisHeldKey_2 rdA_iisHeldKey_2 rdB_iisHeldKey_2 _ (fun d=>Runs.ofIt (step:=sp_iisHeldKey_2) (pv_iisHeldKey_2 d.2.1.1 d.2.1.2.1 d.2.1.2.2.1) (ct:=(ct_iisHeldKey_2 d.2.1.1 d.2.1.2.1 d.2.1.2.2.1)) rfl (fun v=>((relB (relB (relB rfl rfl) rfl) rfl):(st_iisHeldKey_2 v.1 v.2.1 v.2.2.1 v.2.2.2.1 v.2.2.2.2.1 v.2.2.2.2.2.1 v.2.2.2.2.2.2.1 v.2.2.2.2.2.2.2.1 v.2.2.2.2.2.2.2.2.1 v.2.2.2.2.2.2.2.2.2 d.2.1.1 d.2.1.2.1 d.2.1.2.2.1).val=relS (pv_iisHeldKey_2 d.2.1.1 d.2.1.2.1 d.2.1.2.2.1) (ct_iisHeldKey_2 d.2.1.1 d.2.1.2.1 d.2.1.2.2.1) (ss_iisHeldKey_2 v.1 v.2.1 v.2.2.1 v.2.2.2.1 v.2.2.2.2.1 v.2.2.2.2.2.1 v.2.2.2.2.2.2.1 v.2.2.2.2.2.2.2.1 v.2.2.2.2.2.2.2.2.1 v.2.2.2.2.2.2.2.2.2 d.2.1.1 d.2.1.2.1 d.2.1.2.2.1))) (fun a=>((cendB (cendD (by simp)) (cendB (cendD (by simp)) cendF)):CEnd _ ((ct_iisHeldKey_2 d.2.1.1 d.2.1.2.1 d.2.1.2.2.1) a))) (d.1.2.1,d.1.2.2.2.2.2.2.2.2.2.2.2.1,d.1.2.2.2.2.2.2.2.2.2.2.2.2.1,d.1.2.2.2.2.2.2.2.2.2.2.2.2.2.1,d.1.2.2.2.2.2.2.2.2.2.2.2.2.2.2.2.2.2.2.1,d.1.2.2.2.2.2.2.2.2.2.2.2.2.2.2.2.2.2.2.2.1,d.1.2.2.2.2.2.2.2.2.2.2.2.2.2.2.2.2.2.2.2.2.1,d.1.2.2.2.2.2.2.2.2.2.2.2.2.2.2.2.2.2.2.2.2.2.2.2.2.1,d.1.2.2.2.2.2.2.2.2.2.2.2.2.2.2.2.2.2.2.2.2.2.2.2.2.2.1,d.1.2.2.2.2.2.2.2.2.2.2.2.2.2.2.2.2.2.2.2.2.2.2.2.2.2.2.1))
noncomputable abbrev S_iisHeldKey_1:SS:=⟨(.junk::.t false tq5::.junk::.junk::.junk::.junk::.junk::.junk::.junk::.junk::.junk::.t false tq3::.t true (.int .i64)::.t true (.int .i64)::.junk::.junk::.junk::.junk::.t false tq5::.t true (.int .i64)::.t true (.int .i64)::jS17),[]⟩
noncomputable abbrev E_iisHeldKey_1_0:SS:=⟨(.junk::.junk::.junk::.junk::.t true .bool::jS33),[]⟩
noncomputable abbrev E_iisHeldKey_1_1:SS:=⟨(.junk::.t false tq5::.junk::.junk::.junk::.junk::.junk::.junk::.junk::.junk::.junk::.t false tq3::.t true (.int .i64)::.t true (.int .i64)::jS24),[]⟩
noncomputable def k1_iisHeldKey (x1:Lq2) (x11:Lq1) (x12:Int) (x13:Int) (x18:Lq2) (x19:Int) (x20:Int):=it_iisHeldKey_2 x1 x11 x12 x13 x18 x19 x20 x1 ((x1.length:Nat):Int) (0:Int) ((x18.getD x20.toNat ((0:Int),(bE,bE))).1) (((x18.getD x20.toNat ((0:Int),(bE,bE))).2).1) (((x18.getD x20.toNat ((0:Int),(bE,bE))).2).2)
noncomputable def st_iisHeldKey_1 (x1:Lq2) (x11:Lq1) (x12:Int) (x13:Int) (x18:Lq2) (x19:Int) (x20:Int):RT S_iisHeldKey_1.den:=(.br (decide (x20<x19)) (.br (decide (0≤x20∧x20<((x18.length:Nat):Int))) (.br ((k1_iisHeldKey x1 x11 x12 x13 x18 x19 x20).1==0) (.done .ret E_iisHeldKey_1_0 (((),(),(),(),((k1_iisHeldKey x1 x11 x12 x13 x18 x19 x20).2.1),u34),())) (.br ((k1_iisHeldKey x1 x11 x12 x13 x18 x19 x20).1==1) (.next (((),((k1_iisHeldKey x1 x11 x12 x13 x18 x19 x20).2.2.1),(),(),(),(),(),(),(),(),(),((k1_iisHeldKey x1 x11 x12 x13 x18 x19 x20).2.2.2.1),((k1_iisHeldKey x1 x11 x12 x13 x18 x19 x20).2.2.2.2.1),((k1_iisHeldKey x1 x11 x12 x13 x18 x19 x20).2.2.2.2.2.1),(),(),(),(),((k1_iisHeldKey x1 x11 x12 x13 x18 x19 x20).2.2.2.2.2.2.1),((k1_iisHeldKey x1 x11 x12 x13 x18 x19 x20).2.2.2.2.2.2.2.1),IntKind.wrap .i64 (((k1_iisHeldKey x1 x11 x12 x13 x18 x19 x20).2.2.2.2.2.2.2.2)+(1:Int)),u18),())) .fail)) .fail) (.done (.exit 2) E_iisHeldKey_1_1 (((),x1,(),(),(),(),(),(),(),(),(),x11,x12,x13,u25),())))
noncomputable abbrev V_iisHeldKey_1:=(Lq2)×(Lq1)×(Int)×(Int)×(Lq2)×(Int)×(Int)
noncomputable abbrev A_iisHeldKey_1:=Nat×(Bool)×(Lq2)×(Lq1)×(Int)×(Int)
noncomputable def fl_iisHeldKey_1:A_iisHeldKey_1:=(99,(false:Bool),([]:Lq2),([]:Lq1),((0:Int):Int),((0:Int):Int))
noncomputable def ss_iisHeldKey_1 (x1:Lq2) (x11:Lq1) (x12:Int) (x13:Int) (x18:Lq2) (x19:Int) (x20:Int):V_iisHeldKey_1 ⊕ A_iisHeldKey_1:=(cond (decide (x20<x19)) (cond (decide (0≤x20∧x20<((x18.length:Nat):Int))) (cond ((k1_iisHeldKey x1 x11 x12 x13 x18 x19 x20).1==0) (.inr (0,((k1_iisHeldKey x1 x11 x12 x13 x18 x19 x20).2.1),([]:Lq2),([]:Lq1),((0:Int):Int),((0:Int):Int))) (cond ((k1_iisHeldKey x1 x11 x12 x13 x18 x19 x20).1==1) (.inl (((k1_iisHeldKey x1 x11 x12 x13 x18 x19 x20).2.2.1),((k1_iisHeldKey x1 x11 x12 x13 x18 x19 x20).2.2.2.1),((k1_iisHeldKey x1 x11 x12 x13 x18 x19 x20).2.2.2.2.1),((k1_iisHeldKey x1 x11 x12 x13 x18 x19 x20).2.2.2.2.2.1),((k1_iisHeldKey x1 x11 x12 x13 x18 x19 x20).2.2.2.2.2.2.1),((k1_iisHeldKey x1 x11 x12 x13 x18 x19 x20).2.2.2.2.2.2.2.1),IntKind.wrap .i64 (((k1_iisHeldKey x1 x11 x12 x13 x18 x19 x20).2.2.2.2.2.2.2.2)+(1:Int)))) (.inr fl_iisHeldKey_1))) (.inr fl_iisHeldKey_1)) (.inr (1,(false:Bool),x1,x11,x12,x13)))
noncomputable def it_iisHeldKey_1 (x1:Lq2) (x11:Lq1) (x12:Int) (x13:Int) (x18:Lq2) (x19:Int) (x20:Int):A_iisHeldKey_1:=itX (fun v:V_iisHeldKey_1=>ss_iisHeldKey_1 v.1 v.2.1 v.2.2.1 v.2.2.2.1 v.2.2.2.2.1 v.2.2.2.2.2.1 v.2.2.2.2.2.2) fl_iisHeldKey_1 (x1,x11,x12,x13,x18,x19,x20)
noncomputable def ct_iisHeldKey_1 (a:A_iisHeldKey_1):CT:=(.br (a.1==0) (.done .ret E_iisHeldKey_1_0 (((),(),(),(),a.2.1,u34),())) (.br (a.1==1) (.done (.exit 2) E_iisHeldKey_1_1 (((),a.2.2.1,(),(),(),(),(),(),(),(),(),a.2.2.2.1,a.2.2.2.2.1,a.2.2.2.2.2,u25),())) .fail))
noncomputable def T_iisHeldKey_1 (x1:Lq2) (x11:Lq1) (x12:Int) (x13:Int) (x18:Lq2) (x19:Int) (x20:Int):CT:=ct_iisHeldKey_1 (it_iisHeldKey_1 x1 x11 x12 x13 x18 x19 x20)
noncomputable abbrev sp_iisHeldKey_1:S_iisHeldKey_1.den→RT S_iisHeldKey_1.den:=fun d=>st_iisHeldKey_1 d.1.2.1 d.1.2.2.2.2.2.2.2.2.2.2.2.1 d.1.2.2.2.2.2.2.2.2.2.2.2.2.1 d.1.2.2.2.2.2.2.2.2.2.2.2.2.2.1 d.1.2.2.2.2.2.2.2.2.2.2.2.2.2.2.2.2.2.2.1 d.1.2.2.2.2.2.2.2.2.2.2.2.2.2.2.2.2.2.2.2.1 d.1.2.2.2.2.2.2.2.2.2.2.2.2.2.2.2.2.2.2.2.2.1
noncomputable abbrev pk_iisHeldKey_1 (x1:Lq2) (x11:Lq1) (x12:Int) (x13:Int) (x18:Lq2) (x19:Int) (x20:Int):S_iisHeldKey_1.den:=(((),x1,(),(),(),(),(),(),(),(),(),x11,x12,x13,(),(),(),(),x18,x19,x20,u18),())
noncomputable abbrev pv_iisHeldKey_1 (v:V_iisHeldKey_1):S_iisHeldKey_1.den:=pk_iisHeldKey_1 v.1 v.2.1 v.2.2.1 v.2.2.2.1 v.2.2.2.2.1 v.2.2.2.2.2.1 v.2.2.2.2.2.2
noncomputable abbrev L_iisHeldKey_1:Nat→St→Option Tree:=fun b=>match b with | 4=>say_iisHeldKey_2 | _=>fun _=>none
noncomputable def ox_iisHeldKey_1 (x1:Lq2) (x11:Lq1) (x12:Int) (x13:Int) (x18:Lq2) (x19:Int) (x20:Int):Option (Ex×St):=(cond (decide (x20<x19)) (cond (decide (0≤x20∧x20<((x18.length:Nat):Int))) (cond ((k1_iisHeldKey x1 x11 x12 x13 x18 x19 x20).1==0) (some (.ret,(⟨(.junk::.junk::.junk::.junk::(.t true .bool ((k1_iisHeldKey x1 x11 x12 x13 x18 x19 x20).2.1))::jA33),[],0,[]⟩:St))) (cond ((k1_iisHeldKey x1 x11 x12 x13 x18 x19 x20).1==1) (some (.normal,(⟨(.junk::(.t false tq5 ((k1_iisHeldKey x1 x11 x12 x13 x18 x19 x20).2.2.1))::.junk::.junk::.junk::.junk::.junk::.junk::.junk::.junk::.junk::(.t false tq3 ((k1_iisHeldKey x1 x11 x12 x13 x18 x19 x20).2.2.2.1))::(.t true (.int .i64) ((k1_iisHeldKey x1 x11 x12 x13 x18 x19 x20).2.2.2.2.1))::(.t true (.int .i64) ((k1_iisHeldKey x1 x11 x12 x13 x18 x19 x20).2.2.2.2.2.1))::.junk::.junk::.junk::.junk::(.t false tq5 ((k1_iisHeldKey x1 x11 x12 x13 x18 x19 x20).2.2.2.2.2.2.1))::(.t true (.int .i64) ((k1_iisHeldKey x1 x11 x12 x13 x18 x19 x20).2.2.2.2.2.2.2.1))::(.t true (.int .i64) (IntKind.wrap .i64 (((k1_iisHeldKey x1 x11 x12 x13 x18 x19 x20).2.2.2.2.2.2.2.2)+(1:Int))))::jA17),[],0,[]⟩:St))) none)) none) (some ((.exit 2),(⟨(.junk::(.t false tq5 x1)::.junk::.junk::.junk::.junk::.junk::.junk::.junk::.junk::.junk::(.t false tq3 x11)::(.t true (.int .i64) x12)::(.t true (.int .i64) x13)::jA24),[],0,[]⟩:St))))
theorem rdA_iisHeldKey_1:RdA G58 (L_iisHeldKey_1) 2 body_iisHeldKey_1 S_iisHeldKey_1 0 [] (kepts [4] [(2,[1,11,12,13])]) (fun d=>ox_iisHeldKey_1 d.1.2.1 d.1.2.2.2.2.2.2.2.2.2.2.2.1 d.1.2.2.2.2.2.2.2.2.2.2.2.2.1 d.1.2.2.2.2.2.2.2.2.2.2.2.2.2.1 d.1.2.2.2.2.2.2.2.2.2.2.2.2.2.2.2.2.2.2.1 d.1.2.2.2.2.2.2.2.2.2.2.2.2.2.2.2.2.2.2.2.1 d.1.2.2.2.2.2.2.2.2.2.2.2.2.2.2.2.2.2.2.2.2.1):=by
 intro d
 kernel_rfl
theorem rdB_iisHeldKey_1:∀ d:S_iisHeldKey_1.den,ox_iisHeldKey_1 d.1.2.1 d.1.2.2.2.2.2.2.2.2.2.2.2.1 d.1.2.2.2.2.2.2.2.2.2.2.2.2.1 d.1.2.2.2.2.2.2.2.2.2.2.2.2.2.1 d.1.2.2.2.2.2.2.2.2.2.2.2.2.2.2.2.2.2.2.1 d.1.2.2.2.2.2.2.2.2.2.2.2.2.2.2.2.2.2.2.2.1 d.1.2.2.2.2.2.2.2.2.2.2.2.2.2.2.2.2.2.2.2.2.1=(sp_iisHeldKey_1 d).opt 0 []:=by
 intro d
 kernel_rfl
noncomputable abbrev say_iisHeldKey_1:St→Option Tree:=S_iisHeldKey_1.say 0 [] [] (fun d=>T_iisHeldKey_1 d.1.2.1 d.1.2.2.2.2.2.2.2.2.2.2.2.1 d.1.2.2.2.2.2.2.2.2.2.2.2.2.1 d.1.2.2.2.2.2.2.2.2.2.2.2.2.2.1 d.1.2.2.2.2.2.2.2.2.2.2.2.2.2.2.2.2.2.2.1 d.1.2.2.2.2.2.2.2.2.2.2.2.2.2.2.2.2.2.2.2.1 d.1.2.2.2.2.2.2.2.2.2.2.2.2.2.2.2.2.2.2.2.2.1)
theorem lw_iisHeldKey_1:LoopWp Try.prog say_iisHeldKey_1 body_iisHeldKey_1:=SS.wp2 (hl1 (i:=4) (by kernel_rfl) lw_iisHeldKey_2) [] sp_iisHeldKey_1 rdA_iisHeldKey_1 rdB_iisHeldKey_1 _ (fun d=>Runs.ofIt (step:=sp_iisHeldKey_1) pv_iisHeldKey_1 (ct:=ct_iisHeldKey_1) rfl (fun v=>((relB (relB (relB rfl (relB rfl rfl)) rfl) rfl):(st_iisHeldKey_1 v.1 v.2.1 v.2.2.1 v.2.2.2.1 v.2.2.2.2.1 v.2.2.2.2.2.1 v.2.2.2.2.2.2).val=relS pv_iisHeldKey_1 ct_iisHeldKey_1 (ss_iisHeldKey_1 v.1 v.2.1 v.2.2.1 v.2.2.2.1 v.2.2.2.2.1 v.2.2.2.2.2.1 v.2.2.2.2.2.2))) (fun a=>((cendB (cendD (by simp)) (cendB (cendD (by simp)) cendF)):CEnd _ (ct_iisHeldKey_1 a))) (d.1.2.1,d.1.2.2.2.2.2.2.2.2.2.2.2.1,d.1.2.2.2.2.2.2.2.2.2.2.2.2.1,d.1.2.2.2.2.2.2.2.2.2.2.2.2.2.1,d.1.2.2.2.2.2.2.2.2.2.2.2.2.2.2.2.2.2.2.1,d.1.2.2.2.2.2.2.2.2.2.2.2.2.2.2.2.2.2.2.2.1,d.1.2.2.2.2.2.2.2.2.2.2.2.2.2.2.2.2.2.2.2.2.1))
noncomputable abbrev S_iisHeldKey_0:SS:=⟨(.junk::.t false tq5::.junk::.junk::.junk::.junk::.junk::.junk::.junk::.junk::.junk::.t false tq3::.t true (.int .i64)::.t true (.int .i64)::jS24),[]⟩
noncomputable abbrev E_iisHeldKey_0_0:SS:=⟨(.junk::.junk::.junk::.junk::.t true .bool::jS33),[]⟩
noncomputable abbrev E_iisHeldKey_0_1:SS:=⟨(.junk::jS37),[]⟩
noncomputable def k2_iisHeldKey (x1:Lq2) (x11:Lq1) (x12:Int) (x13:Int):=it_iisHeldKey_1 x1 x11 x12 x13 (((x11.getD x13.toNat ((0:Int),((0:Int),[]))).2).2) (((((x11.getD x13.toNat ((0:Int),((0:Int),[]))).2).2).length:Nat):Int) (0:Int)
noncomputable def st_iisHeldKey_0 (x1:Lq2) (x11:Lq1) (x12:Int) (x13:Int):RT S_iisHeldKey_0.den:=(.br (decide (x13<x12)) (.br (decide (0≤x13∧x13<((x11.length:Nat):Int))) (.br ((k2_iisHeldKey x1 x11 x12 x13).1==0) (.done .ret E_iisHeldKey_0_0 (((),(),(),(),((k2_iisHeldKey x1 x11 x12 x13).2.1),u34),())) (.br ((k2_iisHeldKey x1 x11 x12 x13).1==1) (.next (((),((k2_iisHeldKey x1 x11 x12 x13).2.2.1),(),(),(),(),(),(),(),(),(),((k2_iisHeldKey x1 x11 x12 x13).2.2.2.1),((k2_iisHeldKey x1 x11 x12 x13).2.2.2.2.1),IntKind.wrap .i64 (((k2_iisHeldKey x1 x11 x12 x13).2.2.2.2.2)+(1:Int)),u25),())) .fail)) .fail) (.done (.exit 0) E_iisHeldKey_0_1 ((u39),())))
noncomputable abbrev V_iisHeldKey_0:=(Lq2)×(Lq1)×(Int)×(Int)
noncomputable abbrev A_iisHeldKey_0:=Nat×(Bool)
noncomputable def fl_iisHeldKey_0:A_iisHeldKey_0:=(99,(false:Bool))
noncomputable def ss_iisHeldKey_0 (x1:Lq2) (x11:Lq1) (x12:Int) (x13:Int):V_iisHeldKey_0 ⊕ A_iisHeldKey_0:=(cond (decide (x13<x12)) (cond (decide (0≤x13∧x13<((x11.length:Nat):Int))) (cond ((k2_iisHeldKey x1 x11 x12 x13).1==0) (.inr (0,((k2_iisHeldKey x1 x11 x12 x13).2.1))) (cond ((k2_iisHeldKey x1 x11 x12 x13).1==1) (.inl (((k2_iisHeldKey x1 x11 x12 x13).2.2.1),((k2_iisHeldKey x1 x11 x12 x13).2.2.2.1),((k2_iisHeldKey x1 x11 x12 x13).2.2.2.2.1),IntKind.wrap .i64 (((k2_iisHeldKey x1 x11 x12 x13).2.2.2.2.2)+(1:Int)))) (.inr fl_iisHeldKey_0))) (.inr fl_iisHeldKey_0)) (.inr (1,(false:Bool))))
noncomputable def it_iisHeldKey_0 (x1:Lq2) (x11:Lq1) (x12:Int) (x13:Int):A_iisHeldKey_0:=itX (fun v:V_iisHeldKey_0=>ss_iisHeldKey_0 v.1 v.2.1 v.2.2.1 v.2.2.2) fl_iisHeldKey_0 (x1,x11,x12,x13)
noncomputable def ct_iisHeldKey_0 (a:A_iisHeldKey_0):CT:=(.br (a.1==0) (.done .ret E_iisHeldKey_0_0 (((),(),(),(),a.2,u34),())) (.br (a.1==1) (.done (.exit 0) E_iisHeldKey_0_1 ((u39),())) .fail))
noncomputable def T_iisHeldKey_0 (x1:Lq2) (x11:Lq1) (x12:Int) (x13:Int):CT:=ct_iisHeldKey_0 (it_iisHeldKey_0 x1 x11 x12 x13)
noncomputable abbrev sp_iisHeldKey_0:S_iisHeldKey_0.den→RT S_iisHeldKey_0.den:=fun d=>st_iisHeldKey_0 d.1.2.1 d.1.2.2.2.2.2.2.2.2.2.2.2.1 d.1.2.2.2.2.2.2.2.2.2.2.2.2.1 d.1.2.2.2.2.2.2.2.2.2.2.2.2.2.1
noncomputable abbrev pk_iisHeldKey_0 (x1:Lq2) (x11:Lq1) (x12:Int) (x13:Int):S_iisHeldKey_0.den:=(((),x1,(),(),(),(),(),(),(),(),(),x11,x12,x13,u25),())
noncomputable abbrev pv_iisHeldKey_0 (v:V_iisHeldKey_0):S_iisHeldKey_0.den:=pk_iisHeldKey_0 v.1 v.2.1 v.2.2.1 v.2.2.2
noncomputable abbrev L_iisHeldKey_0:Nat→St→Option Tree:=fun b=>match b with | 2=>say_iisHeldKey_1 | _=>fun _=>none
noncomputable def ox_iisHeldKey_0 (x1:Lq2) (x11:Lq1) (x12:Int) (x13:Int):Option (Ex×St):=(cond (decide (x13<x12)) (cond (decide (0≤x13∧x13<((x11.length:Nat):Int))) (cond ((k2_iisHeldKey x1 x11 x12 x13).1==0) (some (.ret,(⟨(.junk::.junk::.junk::.junk::(.t true .bool ((k2_iisHeldKey x1 x11 x12 x13).2.1))::jA33),[],0,[]⟩:St))) (cond ((k2_iisHeldKey x1 x11 x12 x13).1==1) (some (.normal,(⟨(.junk::(.t false tq5 ((k2_iisHeldKey x1 x11 x12 x13).2.2.1))::.junk::.junk::.junk::.junk::.junk::.junk::.junk::.junk::.junk::(.t false tq3 ((k2_iisHeldKey x1 x11 x12 x13).2.2.2.1))::(.t true (.int .i64) ((k2_iisHeldKey x1 x11 x12 x13).2.2.2.2.1))::(.t true (.int .i64) (IntKind.wrap .i64 (((k2_iisHeldKey x1 x11 x12 x13).2.2.2.2.2)+(1:Int))))::jA24),[],0,[]⟩:St))) none)) none) (some ((.exit 0),(⟨(.junk::jA37),[],0,[]⟩:St))))
theorem rdA_iisHeldKey_0:RdA G58 (L_iisHeldKey_0) 0 body_iisHeldKey_0 S_iisHeldKey_0 0 [] (kepts [4] [(0,[])]) (fun d=>ox_iisHeldKey_0 d.1.2.1 d.1.2.2.2.2.2.2.2.2.2.2.2.1 d.1.2.2.2.2.2.2.2.2.2.2.2.2.1 d.1.2.2.2.2.2.2.2.2.2.2.2.2.2.1):=by
 intro d
 kernel_rfl
theorem rdB_iisHeldKey_0:∀ d:S_iisHeldKey_0.den,ox_iisHeldKey_0 d.1.2.1 d.1.2.2.2.2.2.2.2.2.2.2.2.1 d.1.2.2.2.2.2.2.2.2.2.2.2.2.1 d.1.2.2.2.2.2.2.2.2.2.2.2.2.2.1=(sp_iisHeldKey_0 d).opt 0 []:=by
 intro d
 kernel_rfl
noncomputable abbrev say_iisHeldKey_0:St→Option Tree:=S_iisHeldKey_0.say 0 [] [] (fun d=>T_iisHeldKey_0 d.1.2.1 d.1.2.2.2.2.2.2.2.2.2.2.2.1 d.1.2.2.2.2.2.2.2.2.2.2.2.2.1 d.1.2.2.2.2.2.2.2.2.2.2.2.2.2.1)
theorem lw_iisHeldKey_0:LoopWp Try.prog say_iisHeldKey_0 body_iisHeldKey_0:=SS.wp2 (hl1 (i:=2) (by kernel_rfl) lw_iisHeldKey_1) [] sp_iisHeldKey_0 rdA_iisHeldKey_0 rdB_iisHeldKey_0 _ (fun d=>Runs.ofIt (step:=sp_iisHeldKey_0) pv_iisHeldKey_0 (ct:=ct_iisHeldKey_0) rfl (fun v=>((relB (relB (relB rfl (relB rfl rfl)) rfl) rfl):(st_iisHeldKey_0 v.1 v.2.1 v.2.2.1 v.2.2.2).val=relS pv_iisHeldKey_0 ct_iisHeldKey_0 (ss_iisHeldKey_0 v.1 v.2.1 v.2.2.1 v.2.2.2))) (fun a=>((cendB (cendD (by simp)) (cendB (cendD (by simp)) cendF)):CEnd _ (ct_iisHeldKey_0 a))) (d.1.2.1,d.1.2.2.2.2.2.2.2.2.2.2.2.1,d.1.2.2.2.2.2.2.2.2.2.2.2.2.1,d.1.2.2.2.2.2.2.2.2.2.2.2.2.2.1))
noncomputable def iisHeldKey (a0:Lq1) (a1:Lq2):Bool:=(cond ((it_iisHeldKey_0 a1 a0 ((a0.length:Nat):Int) (0:Int)).1==0) ((it_iisHeldKey_0 a1 a0 ((a0.length:Nat):Int) (0:Int)).2) false)
noncomputable abbrev e_iisHeldKey (r:Bool):AV×List AObj:=((.t true .bool r),[])
noncomputable abbrev F_iisHeldKey (r:Bool):=some (e_iisHeldKey r)
noncomputable abbrev g_iisHeldKey:pshsDen P_iisHeldKey→AV×List AObj:=fun d=>e_iisHeldKey (iisHeldKey d.1 d.2.1)
noncomputable def q_iisHeldKey (a0:Lq1) (a1:Lq2):Bool:=cond ((it_iisHeldKey_0 a1 a0 ((a0.length:Nat):Int) (0:Int)).1==0) true ((it_iisHeldKey_0 a1 a0 ((a0.length:Nat):Int) (0:Int)).1==1)
noncomputable abbrev pre_iisHeldKey:pshsDen P_iisHeldKey→Bool:=fun d=>q_iisHeldKey d.1 d.2.1
noncomputable abbrev L_iisHeldKey:Nat→St→Option Tree:=fun b=>match b with | 0=>say_iisHeldKey_0 | _=>fun _=>none
theorem run_iisHeldKey:RunP true G58 (L_iisHeldKey) Try.f118 P_iisHeldKey pre_iisHeldKey g_iisHeldKey:=by
 rintro ⟨a0,⟨a1,_⟩⟩ hp
 change q_iisHeldKey a0 a1=true at hp
 unfold q_iisHeldKey at hp
 refine Eq.trans (b:=(cond ((it_iisHeldKey_0 a1 a0 ((a0.length:Nat):Int) (0:Int)).1==0) (some (e_iisHeldKey ((it_iisHeldKey_0 a1 a0 ((a0.length:Nat):Int) (0:Int)).2))) (cond ((it_iisHeldKey_0 a1 a0 ((a0.length:Nat):Int) (0:Int)).1==1) (some (e_iisHeldKey false)) none))) (by kernel_rfl) ?_
 exact (cndQ (F:=F_iisHeldKey) hp (fun hp=>rfl) (fun hp=>(cndT hp fun _h=>rfl)))
theorem c_iisHeldKey:PContract Try.prog 118 (sumOf P_iisHeldKey pre_iisHeldKey g_iisHeldKey):=PContract.of_data true G58 (by kernel_rfl) (hl1 (i:=0) (by kernel_rfl) lw_iisHeldKey_0) _ _ _ run_iisHeldKey
noncomputable def S59:Tab:=Tab.add S58 118 (lift (sumOf P_iisHeldKey pre_iisHeldKey g_iisHeldKey))
noncomputable def QF59:FuncId→Bool:=qadd QF58 118
theorem G59:Good Try.prog tt S59 QF59:=G58.addQ c_iisHeldKey ⟨Try.f118,by kernel_rfl,by kernel_rfl,by kernel_rfl⟩ (fun _=>rfl)

noncomputable abbrev SM_ipairAt_1:SS:=⟨[.agg [.t true .str,.t true .str],.ptr 0 0 1 0],[.box [.t true .str]]⟩
noncomputable def ipairAt_1 (x0_0:ByteArray) (x0_1:ByteArray) (p0:ByteArray):Bool:=(x0_0.toList==p0.toList)
noncomputable abbrev e_ipairAt_1 (p0:ByteArray) (r:Bool):AV×List AObj×List Nat:=((.t true .bool r),[(.box [(.t true .str p0)])],[])
noncomputable abbrev F_ipairAt_1 (p0:ByteArray) (r:Bool):=some (e_ipairAt_1 p0 r)
noncomputable abbrev g_ipairAt_1:SM_ipairAt_1.den→AV×List AObj×List Nat:=fun d=>e_ipairAt_1 d.2.1.1 (ipairAt_1 d.1.1.1 d.1.1.2.1 d.2.1.1)
noncomputable abbrev pre_ipairAt_1:SM_ipairAt_1.den→Bool:=fun d=>true
theorem run_ipairAt_1:RunM G59 (fun _ _=>none) Try.f132 SM_ipairAt_1 pre_ipairAt_1 g_ipairAt_1:=by
 rintro ⟨⟨⟨x0_0,x0_1,_⟩,_,_⟩,⟨⟨p0,_⟩,_⟩⟩ hp
 kernel_rfl
noncomputable abbrev m_ipairAt_1:=winQ (msum SM_ipairAt_1 pre_ipairAt_1 g_ipairAt_1)
theorem c_ipairAt_1:MContract Try.prog 132 m_ipairAt_1:=(MContract.of_data G59 (by kernel_rfl) (hl0 (by kernel_rfl)) _ _ _ run_ipairAt_1).winQ (msum_quiet fun d=>⟨rfl,rfl⟩)
noncomputable def S60:Tab:=Tab.add S59 132 (m_ipairAt_1)
noncomputable def QF60:FuncId→Bool:=qadd QF59 132
theorem G60:Good Try.prog tt S60 QF60:=G59.addMQ c_ipairAt_1 (winQ_local _) ⟨Try.f132,by kernel_rfl,by kernel_rfl,by kernel_rfl⟩ (winQ_quiet _)

noncomputable abbrev jS10:List Sh:=.junk::.junk::.junk::.junk::.junk::.junk::.junk::.junk::.junk::.junk::[]
noncomputable abbrev u11:=((),(),(),(),(),(),(),(),(),(),())
noncomputable abbrev SM_slices_IndexFunc_iPair_ipairAt_1:SS:=⟨[.t false tq6,.fn 132 [0]],[.box [.t true .str]]⟩
noncomputable abbrev S_slices_IndexFunc_iPair_ipairAt_1_0:SS:=⟨(.t false tq6::.fn 132 [0]::.junk::.junk::.junk::.junk::.junk::.t true (.int .i64)::.t true (.int .i64)::jS10),[.box [.t true .str]]⟩
noncomputable abbrev E_slices_IndexFunc_iPair_ipairAt_1_0_0:SS:=⟨(.junk::.junk::.junk::.junk::.t true (.int .i64)::jS14),[.box [.t true .str]]⟩
noncomputable abbrev E_slices_IndexFunc_iPair_ipairAt_1_0_1:SS:=⟨(.junk::jS18),[.box [.t true .str]]⟩
noncomputable def k1_slices_IndexFunc_iPair_ipairAt_1 (x0:LBBe) (x8:Int) (p0:ByteArray):=ipairAt_1 ((x0.getD x8.toNat (bE,bE)).1) ((x0.getD x8.toNat (bE,bE)).2) p0
noncomputable def st_slices_IndexFunc_iPair_ipairAt_1_0 (x0:LBBe) (x7:Int) (x8:Int) (p0:ByteArray):RT S_slices_IndexFunc_iPair_ipairAt_1_0.den:=(.br (decide (x8<x7)) (.br (decide (0≤x8∧x8<((x0.length:Nat):Int))) (.br (k1_slices_IndexFunc_iPair_ipairAt_1 x0 x8 p0) (.done .ret E_slices_IndexFunc_iPair_ipairAt_1_0_0 (((),(),(),(),x8,u15),((p0,()),()))) (.next ((x0,(),(),(),(),(),(),x7,IntKind.wrap .i64 (x8+(1:Int)),u11),((p0,()),())))) .fail) (.done (.exit 0) E_slices_IndexFunc_iPair_ipairAt_1_0_1 ((u20),((p0,()),()))))
noncomputable abbrev V_slices_IndexFunc_iPair_ipairAt_1_0:=(LBBe)×(Int)×(Int)
noncomputable abbrev A_slices_IndexFunc_iPair_ipairAt_1_0:=Nat×(Int)
noncomputable def fl_slices_IndexFunc_iPair_ipairAt_1_0:A_slices_IndexFunc_iPair_ipairAt_1_0:=(99,((0:Int):Int))
noncomputable def ss_slices_IndexFunc_iPair_ipairAt_1_0 (x0:LBBe) (x7:Int) (x8:Int) (p0:ByteArray):V_slices_IndexFunc_iPair_ipairAt_1_0 ⊕ A_slices_IndexFunc_iPair_ipairAt_1_0:=(cond (decide (x8<x7)) (cond (decide (0≤x8∧x8<((x0.length:Nat):Int))) (cond (k1_slices_IndexFunc_iPair_ipairAt_1 x0 x8 p0) (.inr (0,x8)) (.inl (x0,x7,IntKind.wrap .i64 (x8+(1:Int))))) (.inr fl_slices_IndexFunc_iPair_ipairAt_1_0)) (.inr (1,((0:Int):Int))))
noncomputable def it_slices_IndexFunc_iPair_ipairAt_1_0 (x0:LBBe) (x7:Int) (x8:Int) (p0:ByteArray):A_slices_IndexFunc_iPair_ipairAt_1_0:=itX (fun v:V_slices_IndexFunc_iPair_ipairAt_1_0=>ss_slices_IndexFunc_iPair_ipairAt_1_0 v.1 v.2.1 v.2.2 p0) fl_slices_IndexFunc_iPair_ipairAt_1_0 (x0,x7,x8)
noncomputable def ct_slices_IndexFunc_iPair_ipairAt_1_0 (p0:ByteArray) (a:A_slices_IndexFunc_iPair_ipairAt_1_0):CT:=(.br (a.1==0) (.done .ret E_slices_IndexFunc_iPair_ipairAt_1_0_0 (((),(),(),(),a.2,u15),((p0,()),()))) (.br (a.1==1) (.done (.exit 0) E_slices_IndexFunc_iPair_ipairAt_1_0_1 ((u20),((p0,()),()))) .fail))
noncomputable def T_slices_IndexFunc_iPair_ipairAt_1_0 (x0:LBBe) (x7:Int) (x8:Int) (p0:ByteArray):CT:=(ct_slices_IndexFunc_iPair_ipairAt_1_0 p0) (it_slices_IndexFunc_iPair_ipairAt_1_0 x0 x7 x8 p0)
noncomputable abbrev sp_slices_IndexFunc_iPair_ipairAt_1_0:S_slices_IndexFunc_iPair_ipairAt_1_0.den→RT S_slices_IndexFunc_iPair_ipairAt_1_0.den:=fun d=>st_slices_IndexFunc_iPair_ipairAt_1_0 d.1.1 d.1.2.2.2.2.2.2.2.1 d.1.2.2.2.2.2.2.2.2.1 d.2.1.1
noncomputable abbrev pk_slices_IndexFunc_iPair_ipairAt_1_0 (x0:LBBe) (x7:Int) (x8:Int) (p0:ByteArray):S_slices_IndexFunc_iPair_ipairAt_1_0.den:=((x0,(),(),(),(),(),(),x7,x8,u11),((p0,()),()))
noncomputable def body_slices_IndexFunc_iPair_ipairAt_1_0:Code:=((loopsIn 0 (bodyOf Try.f131)).getD 0 (0,.skip)).2
noncomputable abbrev pv_slices_IndexFunc_iPair_ipairAt_1_0 (p0:ByteArray) (v:V_slices_IndexFunc_iPair_ipairAt_1_0):S_slices_IndexFunc_iPair_ipairAt_1_0.den:=pk_slices_IndexFunc_iPair_ipairAt_1_0 v.1 v.2.1 v.2.2 p0
theorem rdA_slices_IndexFunc_iPair_ipairAt_1_0:RdA G60 (fun _ _=>none) 0 body_slices_IndexFunc_iPair_ipairAt_1_0 S_slices_IndexFunc_iPair_ipairAt_1_0 1 [] (kepts [4] [(0,[])]) (fun d=>(sp_slices_IndexFunc_iPair_ipairAt_1_0 d).opt 1 []):=by
 intro d
 kernel_rfl
noncomputable abbrev say_slices_IndexFunc_iPair_ipairAt_1_0:St→Option Tree:=S_slices_IndexFunc_iPair_ipairAt_1_0.say 1 [] [] (fun d=>T_slices_IndexFunc_iPair_ipairAt_1_0 d.1.1 d.1.2.2.2.2.2.2.2.1 d.1.2.2.2.2.2.2.2.2.1 d.2.1.1)
theorem lw_slices_IndexFunc_iPair_ipairAt_1_0:LoopWp Try.prog say_slices_IndexFunc_iPair_ipairAt_1_0 body_slices_IndexFunc_iPair_ipairAt_1_0:=SS.wp2 (hl0 (by kernel_rfl)) [] sp_slices_IndexFunc_iPair_ipairAt_1_0 rdA_slices_IndexFunc_iPair_ipairAt_1_0 (fun d=>rfl) _ (fun d=>Runs.ofIt (step:=sp_slices_IndexFunc_iPair_ipairAt_1_0) (pv_slices_IndexFunc_iPair_ipairAt_1_0 d.2.1.1) (ct:=(ct_slices_IndexFunc_iPair_ipairAt_1_0 d.2.1.1)) rfl (fun v=>((relB (relB (relB rfl rfl) rfl) rfl):(st_slices_IndexFunc_iPair_ipairAt_1_0 v.1 v.2.1 v.2.2 d.2.1.1).val=relS (pv_slices_IndexFunc_iPair_ipairAt_1_0 d.2.1.1) (ct_slices_IndexFunc_iPair_ipairAt_1_0 d.2.1.1) (ss_slices_IndexFunc_iPair_ipairAt_1_0 v.1 v.2.1 v.2.2 d.2.1.1))) (fun a=>((cendB (cendD (by simp)) (cendB (cendD (by simp)) cendF)):CEnd _ ((ct_slices_IndexFunc_iPair_ipairAt_1_0 d.2.1.1) a))) (d.1.1,d.1.2.2.2.2.2.2.2.1,d.1.2.2.2.2.2.2.2.2.1))
noncomputable def slices_IndexFunc_iPair_ipairAt_1 (x0:LBBe) (p0:ByteArray):Int:=(cond ((it_slices_IndexFunc_iPair_ipairAt_1_0 x0 ((x0.length:Nat):Int) (0:Int) p0).1==0) ((it_slices_IndexFunc_iPair_ipairAt_1_0 x0 ((x0.length:Nat):Int) (0:Int) p0).2) (-1:Int))
noncomputable abbrev e_slices_IndexFunc_iPair_ipairAt_1 (p0:ByteArray) (r:Int):AV×List AObj×List Nat:=((.t true (.int .i64) r),[(.box [(.t true .str p0)])],[])
noncomputable abbrev F_slices_IndexFunc_iPair_ipairAt_1 (p0:ByteArray) (r:Int):=some (e_slices_IndexFunc_iPair_ipairAt_1 p0 r)
noncomputable abbrev g_slices_IndexFunc_iPair_ipairAt_1:SM_slices_IndexFunc_iPair_ipairAt_1.den→AV×List AObj×List Nat:=fun d=>e_slices_IndexFunc_iPair_ipairAt_1 d.2.1.1 (slices_IndexFunc_iPair_ipairAt_1 d.1.1 d.2.1.1)
noncomputable def q_slices_IndexFunc_iPair_ipairAt_1 (x0:LBBe) (p0:ByteArray):Bool:=cond ((it_slices_IndexFunc_iPair_ipairAt_1_0 x0 ((x0.length:Nat):Int) (0:Int) p0).1==0) true ((it_slices_IndexFunc_iPair_ipairAt_1_0 x0 ((x0.length:Nat):Int) (0:Int) p0).1==1)
noncomputable abbrev pre_slices_IndexFunc_iPair_ipairAt_1:SM_slices_IndexFunc_iPair_ipairAt_1.den→Bool:=fun d=>q_slices_IndexFunc_iPair_ipairAt_1 d.1.1 d.2.1.1
noncomputable abbrev L_slices_IndexFunc_iPair_ipairAt_1:Nat→St→Option Tree:=fun b=>match b with | 0=>say_slices_IndexFunc_iPair_ipairAt_1_0 | _=>fun _=>none
theorem run_slices_IndexFunc_iPair_ipairAt_1:RunM G60 (L_slices_IndexFunc_iPair_ipairAt_1) Try.f131 SM_slices_IndexFunc_iPair_ipairAt_1 pre_slices_IndexFunc_iPair_ipairAt_1 g_slices_IndexFunc_iPair_ipairAt_1:=by
 rintro ⟨⟨x0,_,_⟩,⟨⟨p0,_⟩,_⟩⟩ hp
 change q_slices_IndexFunc_iPair_ipairAt_1 x0 p0=true at hp
 unfold q_slices_IndexFunc_iPair_ipairAt_1 at hp
 refine Eq.trans (b:=(cond ((it_slices_IndexFunc_iPair_ipairAt_1_0 x0 ((x0.length:Nat):Int) (0:Int) p0).1==0) (some (e_slices_IndexFunc_iPair_ipairAt_1 p0 ((it_slices_IndexFunc_iPair_ipairAt_1_0 x0 ((x0.length:Nat):Int) (0:Int) p0).2))) (cond ((it_slices_IndexFunc_iPair_ipairAt_1_0 x0 ((x0.length:Nat):Int) (0:Int) p0).1==1) (some (e_slices_IndexFunc_iPair_ipairAt_1 p0 (-1:Int))) none))) (by kernel_rfl) ?_
 exact (cndQ (F:=(F_slices_IndexFunc_iPair_ipairAt_1 p0)) hp (fun hp=>rfl) (fun hp=>(cndT hp fun _h=>rfl)))
noncomputable abbrev m_slices_IndexFunc_iPair_ipairAt_1:=winQ (msum SM_slices_IndexFunc_iPair_ipairAt_1 pre_slices_IndexFunc_iPair_ipairAt_1 g_slices_IndexFunc_iPair_ipairAt_1)
theorem c_slices_IndexFunc_iPair_ipairAt_1:MContract Try.prog 131 m_slices_IndexFunc_iPair_ipairAt_1:=(MContract.of_data G60 (by kernel_rfl) (hl1 (i:=0) (by kernel_rfl) lw_slices_IndexFunc_iPair_ipairAt_1_0) _ _ _ run_slices_IndexFunc_iPair_ipairAt_1).winQ (msum_quiet fun d=>⟨rfl,rfl⟩)
noncomputable def S61:Tab:=Tab.add S60 131 (m_slices_IndexFunc_iPair_ipairAt_1)
noncomputable def QF61:FuncId→Bool:=qadd QF60 131
theorem G61:Good Try.prog tt S61 QF61:=G60.addMQ c_slices_IndexFunc_iPair_ipairAt_1 (winQ_local _) ⟨Try.f131,by kernel_rfl,by kernel_rfl,by kernel_rfl⟩ (winQ_quiet _)

noncomputable abbrev P_ipairAt:List PSh:=[.t tq6,.t .str]
noncomputable def ipairAt (a0:LBBe) (a1:ByteArray):Int:=(slices_IndexFunc_iPair_ipairAt_1 a0 a1)
noncomputable abbrev e_ipairAt (r:Int):AV×List AObj:=((.t true (.int .i64) r),[])
noncomputable abbrev F_ipairAt (r:Int):=some (e_ipairAt r)
noncomputable abbrev g_ipairAt:pshsDen P_ipairAt→AV×List AObj:=fun d=>e_ipairAt (ipairAt d.1 d.2.1)
noncomputable def q_ipairAt (a0:LBBe) (a1:ByteArray):Bool:=q_slices_IndexFunc_iPair_ipairAt_1 a0 a1
noncomputable abbrev pre_ipairAt:pshsDen P_ipairAt→Bool:=fun d=>q_ipairAt d.1 d.2.1
theorem run_ipairAt:RunP true G61 (fun _ _=>none) Try.f104 P_ipairAt pre_ipairAt g_ipairAt:=by
 rintro ⟨a0,⟨a1,_⟩⟩ hp
 change q_ipairAt a0 a1=true at hp
 unfold q_ipairAt at hp
 refine Eq.trans (b:=(cond (q_slices_IndexFunc_iPair_ipairAt_1 a0 a1) (some (e_ipairAt (slices_IndexFunc_iPair_ipairAt_1 a0 a1))) none)) (by kernel_rfl) ?_
 exact (cndT hp fun _h=>rfl)
theorem c_ipairAt:PContract Try.prog 104 (sumOf P_ipairAt pre_ipairAt g_ipairAt):=PContract.of_data true G61 (by kernel_rfl) (hl0 (by kernel_rfl)) _ _ _ run_ipairAt
noncomputable def S62:Tab:=Tab.add S61 104 (lift (sumOf P_ipairAt pre_ipairAt g_ipairAt))
noncomputable def QF62:FuncId→Bool:=qadd QF61 104
theorem G62:Good Try.prog tt S62 QF62:=G61.addQ c_ipairAt ⟨Try.f104,by kernel_rfl,by kernel_rfl,by kernel_rfl⟩ (fun _=>rfl)

noncomputable abbrev P_iGetKey:List PSh:=[.t tq6,.t .str]
noncomputable def iGetKey (a0:LBBe) (a1:ByteArray):ByteArray×Bool:=(cond (decide ((ipairAt a0 a1)<(0:Int))) (bE,false) ((a0.getD ((ipairAt a0 a1).toNat) (bE,bE)).2,true))
noncomputable abbrev e_iGetKey (r:ByteArray×Bool):AV×List AObj:=((.tup [(.t true .str r.1),(.t true .bool r.2)]),[])
noncomputable abbrev F_iGetKey (r:ByteArray×Bool):=some (e_iGetKey r)
noncomputable abbrev g_iGetKey:pshsDen P_iGetKey→AV×List AObj:=fun d=>e_iGetKey (iGetKey d.1 d.2.1)
noncomputable def q_iGetKey (a0:LBBe) (a1:ByteArray):Bool:=(q_ipairAt a0 a1)&&(cond (decide ((ipairAt a0 a1)<(0:Int))) true (decide (0≤(ipairAt a0 a1)∧(ipairAt a0 a1)<((a0.length:Nat):Int))))
noncomputable abbrev pre_iGetKey:pshsDen P_iGetKey→Bool:=fun d=>q_iGetKey d.1 d.2.1
theorem run_iGetKey:RunP true G62 (fun _ _=>none) Try.f138 P_iGetKey pre_iGetKey g_iGetKey:=by
 rintro ⟨a0,⟨a1,_⟩⟩ hp
 change q_iGetKey a0 a1=true at hp
 unfold q_iGetKey at hp
 refine Eq.trans (b:=(cond (q_ipairAt a0 a1) (cond (decide ((ipairAt a0 a1)<(0:Int))) (some (e_iGetKey ((⟨#[]⟩:ByteArray),false))) (cond (decide (0≤(ipairAt a0 a1)∧(ipairAt a0 a1)<((a0.length:Nat):Int))) (some (e_iGetKey ((a0.getD ((ipairAt a0 a1).toNat) ((⟨#[]⟩:ByteArray),(⟨#[]⟩:ByteArray))).2,true))) none)) none)) (by kernel_rfl) ?_
 exact (cndA hp fun hp=>(cndQ (F:=F_iGetKey) hp (fun hp=>rfl) (fun hp=>(cndT hp fun _h=>rfl))))
theorem c_iGetKey:PContract Try.prog 138 (sumOf P_iGetKey pre_iGetKey g_iGetKey):=PContract.of_data true G62 (by kernel_rfl) (hl0 (by kernel_rfl)) _ _ _ run_iGetKey
noncomputable def S63:Tab:=Tab.add S62 138 (lift (sumOf P_iGetKey pre_iGetKey g_iGetKey))
noncomputable def QF63:FuncId→Bool:=qadd QF62 138
theorem G63:Good Try.prog tt S63 QF63:=G62.addQ c_iGetKey ⟨Try.f138,by kernel_rfl,by kernel_rfl,by kernel_rfl⟩ (fun _=>rfl)

noncomputable abbrev jS25:List Sh:=.junk::jS24
noncomputable abbrev jS32:List Sh:=.junk::jS31
noncomputable abbrev u33:=((),u32)
noncomputable abbrev jA25:List AV:=.junk::jA24
noncomputable abbrev jA32:List AV:=.junk::jA31
noncomputable abbrev P_iMeets:List PSh:=[.t tq6,.t tq5]
noncomputable abbrev S_iMeets_0:SS:=⟨(.t false tq6::.junk::.junk::.junk::.junk::.junk::.junk::.junk::.junk::.t false tq5::.t true (.int .i64)::.t true (.int .i64)::jS25),[]⟩
noncomputable abbrev E_iMeets_0_0:SS:=⟨(.junk::.junk::.junk::.junk::.t true .bool::jS32),[]⟩
noncomputable abbrev E_iMeets_0_1:SS:=⟨(.junk::jS36),[]⟩
noncomputable def k1_iMeets (x0:LBBe) (x9:Lq2) (x11:Int):=iGetKey x0 (((x9.getD x11.toNat ((0:Int),(bE,bE))).2).1)
noncomputable def st_iMeets_0 (x0:LBBe) (x9:Lq2) (x10:Int) (x11:Int):RT S_iMeets_0.den:=(.br (decide (x11<x10)) (.br (decide (0≤x11∧x11<((x9.length:Nat):Int))) (.br (((x9.getD x11.toNat ((0:Int),(bE,bE))).1) != (3:Int)) (.next ((x0,(),(),(),(),(),(),(),(),x9,x10,IntKind.wrap .i64 (x11+(1:Int)),u26),())) (.br (q_iGetKey x0 (((x9.getD x11.toNat ((0:Int),(bE,bE))).2).1)) (.br (!(((k1_iMeets x0 x9 x11).2)==(!((((x9.getD x11.toNat ((0:Int),(bE,bE))).2).2).toList==bE.toList)))) (.done .ret E_iMeets_0_0 (((),(),(),(),false,u33),())) (.br (!(((k1_iMeets x0 x9 x11).1).toList==(((x9.getD x11.toNat ((0:Int),(bE,bE))).2).2).toList)) (.done .ret E_iMeets_0_0 (((),(),(),(),false,u33),())) (.next ((x0,(),(),(),(),(),(),(),(),x9,x10,IntKind.wrap .i64 (x11+(1:Int)),u26),())))) .fail)) .fail) (.done (.exit 0) E_iMeets_0_1 ((u38),())))
noncomputable abbrev V_iMeets_0:=(LBBe)×(Lq2)×(Int)×(Int)
noncomputable abbrev A_iMeets_0:=Nat×(Bool)
noncomputable def fl_iMeets_0:A_iMeets_0:=(99,(false:Bool))
noncomputable def ss_iMeets_0 (x0:LBBe) (x9:Lq2) (x10:Int) (x11:Int):V_iMeets_0 ⊕ A_iMeets_0:=(cond (decide (x11<x10)) (cond (decide (0≤x11∧x11<((x9.length:Nat):Int))) (cond (((x9.getD x11.toNat ((0:Int),(bE,bE))).1) != (3:Int)) (.inl (x0,x9,x10,IntKind.wrap .i64 (x11+(1:Int)))) (cond (q_iGetKey x0 (((x9.getD x11.toNat ((0:Int),(bE,bE))).2).1)) (cond (!(((k1_iMeets x0 x9 x11).2)==(!((((x9.getD x11.toNat ((0:Int),(bE,bE))).2).2).toList==bE.toList)))) (.inr (0,false)) (cond (!(((k1_iMeets x0 x9 x11).1).toList==(((x9.getD x11.toNat ((0:Int),(bE,bE))).2).2).toList)) (.inr (0,false)) (.inl (x0,x9,x10,IntKind.wrap .i64 (x11+(1:Int)))))) (.inr fl_iMeets_0))) (.inr fl_iMeets_0)) (.inr (1,(false:Bool))))
noncomputable def it_iMeets_0 (x0:LBBe) (x9:Lq2) (x10:Int) (x11:Int):A_iMeets_0:=itX (fun v:V_iMeets_0=>ss_iMeets_0 v.1 v.2.1 v.2.2.1 v.2.2.2) fl_iMeets_0 (x0,x9,x10,x11)
noncomputable def ct_iMeets_0 (a:A_iMeets_0):CT:=(.br (a.1==0) (.done .ret E_iMeets_0_0 (((),(),(),(),a.2,u33),())) (.br (a.1==1) (.done (.exit 0) E_iMeets_0_1 ((u38),())) .fail))
noncomputable def T_iMeets_0 (x0:LBBe) (x9:Lq2) (x10:Int) (x11:Int):CT:=ct_iMeets_0 (it_iMeets_0 x0 x9 x10 x11)
noncomputable abbrev sp_iMeets_0:S_iMeets_0.den→RT S_iMeets_0.den:=fun d=>st_iMeets_0 d.1.1 d.1.2.2.2.2.2.2.2.2.2.1 d.1.2.2.2.2.2.2.2.2.2.2.1 d.1.2.2.2.2.2.2.2.2.2.2.2.1
noncomputable abbrev pk_iMeets_0 (x0:LBBe) (x9:Lq2) (x10:Int) (x11:Int):S_iMeets_0.den:=((x0,(),(),(),(),(),(),(),(),x9,x10,x11,u26),())
noncomputable def body_iMeets_0:Code:=((loopsIn 0 (bodyOf Try.f119)).getD 0 (0,.skip)).2
noncomputable abbrev pv_iMeets_0 (v:V_iMeets_0):S_iMeets_0.den:=pk_iMeets_0 v.1 v.2.1 v.2.2.1 v.2.2.2
noncomputable def ox_iMeets_0 (x0:LBBe) (x9:Lq2) (x10:Int) (x11:Int):Option (Ex×St):=(cond (decide (x11<x10)) (cond (decide (0≤x11∧x11<((x9.length:Nat):Int))) (cond (((x9.getD x11.toNat ((0:Int),(bE,bE))).1) != (3:Int)) (some (.normal,(⟨((.t false tq6 x0)::.junk::.junk::.junk::.junk::.junk::.junk::.junk::.junk::(.t false tq5 x9)::(.t true (.int .i64) x10)::(.t true (.int .i64) (IntKind.wrap .i64 (x11+(1:Int))))::jA25),[],0,[]⟩:St))) (cond (q_iGetKey x0 (((x9.getD x11.toNat ((0:Int),(bE,bE))).2).1)) (cond (!(((k1_iMeets x0 x9 x11).2)==(!((((x9.getD x11.toNat ((0:Int),(bE,bE))).2).2).toList==bE.toList)))) (some (.ret,(⟨(.junk::.junk::.junk::.junk::(.t true .bool false)::jA32),[],0,[]⟩:St))) (cond (!(((k1_iMeets x0 x9 x11).1).toList==(((x9.getD x11.toNat ((0:Int),(bE,bE))).2).2).toList)) (some (.ret,(⟨(.junk::.junk::.junk::.junk::(.t true .bool false)::jA32),[],0,[]⟩:St))) (some (.normal,(⟨((.t false tq6 x0)::.junk::.junk::.junk::.junk::.junk::.junk::.junk::.junk::(.t false tq5 x9)::(.t true (.int .i64) x10)::(.t true (.int .i64) (IntKind.wrap .i64 (x11+(1:Int))))::jA25),[],0,[]⟩:St))))) none)) none) (some ((.exit 0),(⟨(.junk::jA36),[],0,[]⟩:St))))
theorem rdA_iMeets_0:RdA G63 (fun _ _=>none) 0 body_iMeets_0 S_iMeets_0 0 [] (kepts [4] [(0,[])]) (fun d=>ox_iMeets_0 d.1.1 d.1.2.2.2.2.2.2.2.2.2.1 d.1.2.2.2.2.2.2.2.2.2.2.1 d.1.2.2.2.2.2.2.2.2.2.2.2.1):=by
 intro d
 kernel_rfl
theorem rdB_iMeets_0:∀ d:S_iMeets_0.den,ox_iMeets_0 d.1.1 d.1.2.2.2.2.2.2.2.2.2.1 d.1.2.2.2.2.2.2.2.2.2.2.1 d.1.2.2.2.2.2.2.2.2.2.2.2.1=(sp_iMeets_0 d).opt 0 []:=by
 intro d
 kernel_rfl
noncomputable abbrev say_iMeets_0:St→Option Tree:=S_iMeets_0.say 0 [] [] (fun d=>T_iMeets_0 d.1.1 d.1.2.2.2.2.2.2.2.2.2.1 d.1.2.2.2.2.2.2.2.2.2.2.1 d.1.2.2.2.2.2.2.2.2.2.2.2.1)
theorem lw_iMeets_0:LoopWp Try.prog say_iMeets_0 body_iMeets_0:=SS.wp2 (hl0 (by kernel_rfl)) [] sp_iMeets_0 rdA_iMeets_0 rdB_iMeets_0 _ (fun d=>Runs.ofIt (step:=sp_iMeets_0) pv_iMeets_0 (ct:=ct_iMeets_0) rfl (fun v=>((relB (relB (relB rfl (relB (relB rfl (relB rfl rfl)) rfl)) rfl) rfl):(st_iMeets_0 v.1 v.2.1 v.2.2.1 v.2.2.2).val=relS pv_iMeets_0 ct_iMeets_0 (ss_iMeets_0 v.1 v.2.1 v.2.2.1 v.2.2.2))) (fun a=>((cendB (cendD (by simp)) (cendB (cendD (by simp)) cendF)):CEnd _ (ct_iMeets_0 a))) (d.1.1,d.1.2.2.2.2.2.2.2.2.2.1,d.1.2.2.2.2.2.2.2.2.2.2.1,d.1.2.2.2.2.2.2.2.2.2.2.2.1))
noncomputable def iMeets (a0:LBBe) (a1:Lq2):Bool:=(cond ((it_iMeets_0 a0 a1 ((a1.length:Nat):Int) (0:Int)).1==0) ((it_iMeets_0 a0 a1 ((a1.length:Nat):Int) (0:Int)).2) true)
noncomputable abbrev e_iMeets (r:Bool):AV×List AObj:=((.t true .bool r),[])
noncomputable abbrev F_iMeets (r:Bool):=some (e_iMeets r)
noncomputable abbrev g_iMeets:pshsDen P_iMeets→AV×List AObj:=fun d=>e_iMeets (iMeets d.1 d.2.1)
noncomputable def q_iMeets (a0:LBBe) (a1:Lq2):Bool:=cond ((it_iMeets_0 a0 a1 ((a1.length:Nat):Int) (0:Int)).1==0) true ((it_iMeets_0 a0 a1 ((a1.length:Nat):Int) (0:Int)).1==1)
noncomputable abbrev pre_iMeets:pshsDen P_iMeets→Bool:=fun d=>q_iMeets d.1 d.2.1
noncomputable abbrev L_iMeets:Nat→St→Option Tree:=fun b=>match b with | 0=>say_iMeets_0 | _=>fun _=>none
theorem run_iMeets:RunP true G63 (L_iMeets) Try.f119 P_iMeets pre_iMeets g_iMeets:=by
 rintro ⟨a0,⟨a1,_⟩⟩ hp
 change q_iMeets a0 a1=true at hp
 unfold q_iMeets at hp
 refine Eq.trans (b:=(cond ((it_iMeets_0 a0 a1 ((a1.length:Nat):Int) (0:Int)).1==0) (some (e_iMeets ((it_iMeets_0 a0 a1 ((a1.length:Nat):Int) (0:Int)).2))) (cond ((it_iMeets_0 a0 a1 ((a1.length:Nat):Int) (0:Int)).1==1) (some (e_iMeets true)) none))) (by kernel_rfl) ?_
 exact (cndQ (F:=F_iMeets) hp (fun hp=>rfl) (fun hp=>(cndT hp fun _h=>rfl)))
theorem c_iMeets:PContract Try.prog 119 (sumOf P_iMeets pre_iMeets g_iMeets):=PContract.of_data true G63 (by kernel_rfl) (hl1 (i:=0) (by kernel_rfl) lw_iMeets_0) _ _ _ run_iMeets
noncomputable def S64:Tab:=Tab.add S63 119 (lift (sumOf P_iMeets pre_iMeets g_iMeets))
noncomputable def QF64:FuncId→Bool:=qadd QF63 119
theorem G64:Good Try.prog tt S64 QF64:=G63.addQ c_iMeets ⟨Try.f119,by kernel_rfl,by kernel_rfl,by kernel_rfl⟩ (fun _=>rfl)

section
open Go.Proofs Go.Lib
theorem iT0:∀ w,(isAgg 0).run Try.prog w=.ok false w:=fun w=>by kernel_rfl
theorem iT3:∀ w,(isAgg 3).run Try.prog w=.ok false w:=fun w=>by kernel_rfl
theorem iZ70:∀ w,(Go.sizeOf 70).run Try.prog w=.ok 2 w:=fun w=>by kernel_rfl
theorem iZ25:∀ w,(Go.sizeOf 25).run Try.prog w=.ok 1 w:=fun w=>by kernel_rfl
theorem iV25:∀ w,(zeroValue 25).run Try.prog w=.ok (Value.slice none 0 0) w:=fun w=>by kernel_rfl
theorem iI70:(Try.prog.info? 70).map (fun i=>(i.zero,i.size,i.bytes))=some (some (Value.agg #[.string ⟨#[]⟩,.string ⟨#[]⟩]),2,32):=by kernel_rfl
theorem ntmps105:Try.f105.ntmps=95:=by kernel_rfl

set_option maxHeartbeats 4000000 in
set_option maxRecDepth 100000 in
/-- Insert: there is room, in the middle: in place. -/
theorem ins_shift (b n c i vb voff m vc:Nat) (cs vs:List Value) (w:World) (hi:i<n) (hm:0<m) (hroom:n+m≤c) (hc63:c≤9223372036854775807) (hvb:vb ≠ b)
  (hcl:cs.length=n*2) (hvl:vs.length=m*2)
  (hcs:∀ j v,cs[j]?=some v→w.cell? ⟨b,j,none⟩=some v) (hsp:∀ j,j<(n+m)*2→(w.cell? ⟨b,j,none⟩).isSome=true) (hfz:∀ j,j<(n+m)*2→w.frozen? ⟨b,j,none⟩=false)
  (hvs:∀ j v,vs[j]?=some v→w.cell? ⟨vb,voff+j,none⟩=some v) (h1c:∀ v∈cs,v.oneCell'=true) (h1v:∀ v∈vs,v.oneCell'=true)
  (tA tB:TypeId) (kA kB:Nat) (hsa:w.shape? vb=some (tA,kA)) (hsb:w.shape? b=some (tB,kB)) (hkB:kB ≠ 0) (hfa:w.frozen? ⟨vb,voff,none⟩=false) (hfe:w.frozen? ⟨vb,kA,none⟩=false) :
  Calls Try.prog 105 #[.slice (some ⟨b,0,none⟩) n c,.int .i64 i,.slice (some ⟨vb,voff,none⟩) m vc] w fun e w' =>
   e=.returned (.slice (some ⟨b,0,none⟩) (n+m) c)∧w'=(w.drew.setCells b ((i+m)*2) (cs.drop (i*2))).setCells b (i*2) vs:=by
 have t0:=Try.underlying0;have t3:=Try.underlying3;have t4:=Try.underlying4;have t25:=Try.underlying25
 have a0:=iT0;have a3:=iT3;have z70:=iZ70;have z25:=iZ25;have v25:=iV25
 have u0:=run_underlying t0;have u3:=run_underlying t3;have u4:=run_underlying t4;have u25:=run_underlying t25
 have hz1:¬ ((m:Int)=0):=by omega
 have hz2:¬ ((i:Int)=(n:Int)):=by omega
 have hsz:(Try.prog.info? 70).map (·.size)=some 2:=by
  obtain ⟨i0,hi0,h0,h1,h2⟩:=info_parts iI70
  rw [hi0];simp [h1]
 have hov:∀ lb cb,(callFunc 133 #[.slice (some ⟨vb,voff,none⟩) m vc,.slice (some ⟨b,(i+m)*2,none⟩) lb cb]).run Try.prog w=.ok (.value (.bool false)) w:=fun lb cb=>by
  rw [run_callFunc_extern Try.func133 (by kernel_rfl) (by kernel_rfl) (by kernel_rfl) (e:=Extern.SlicesOverlaps.overlaps #[25,25] #[4]) (by kernel_rfl),
   Lib.run_overlaps_apart w 25 4 70 t25 2 iZ70 ⟨vb,voff,none⟩ ⟨b,(i+m)*2,none⟩ m vc lb cb hvb tA tB kA kB hsa hsb hkB hfa hfe]
  rfl
 have hdl:(cs.drop (i*2)).length=(n - i)*2:=by rw [List.length_drop,hcl];omega
 have mixed:Try.prog.follows .mixedOrders=true:=by kernel_rfl
 have hw1:IntKind.i64.wrap ((i:Int)+(m:Int))=(i:Int)+(m:Int):=by rw [IntKind.wrap_i64];omega
 have hb1:(0:Int)≤(i:Int)+(m:Int):=by omega
 have hin:i≤n:=by omega
 have htn:((i:Int)+(m:Int)).toNat=i+m:=by omega
 have hb2:¬ (c=i+m):=by omega
 have hb3:(i:Int)≤(n:Int)+(m:Int):=by omega
 have hb4:¬ (c=i):=by omega
 have hcp1:∀ ty dc sc,(Builtin.copy_ #[25,25] ty #[.slice (some ⟨b,(i+m)*2,none⟩) (n+m - (i+m)) dc,.slice (some ⟨b,i*2,none⟩) (n+m - i) sc]).run Try.prog w.drew=.ok (goInt ((n - i:Nat):Int)) (w.drew.setCells b ((i+m)*2) (cs.drop (i*2))):=fun ty dc sc=>by
  have hmin:Nat.min (n+m - i) (n+m - (i+m))=n - i:=by simp only [Nat.min_def];split<;>omega
  have:=run_copy_k w.drew 25 25 ty 70 2 b ((i+m)*2) (n+m - (i+m)) dc ⟨b,i*2,none⟩ (n+m - i) sc (cs.drop (i*2)) t25 hsz (by rw [hdl,hmin])
   (fun j v hj=>by rw [Addr.add_lit];exact hcs (i*2+j) v (by rwa [List.getElem?_drop] at hj))
   (fun j hj=>hsp _ (by rw [hdl] at hj;omega)) (fun j hj=>hfz _ (by rw [hdl] at hj;omega)) (fun v hv=>h1c v (List.mem_of_mem_drop hv))
  rw [hmin] at this
  exact this
 obtain ⟨W1,hW1⟩:∃ W1,W1=w.drew.setCells b ((i+m)*2) (cs.drop (i*2)):=⟨_,rfl⟩
 have hsp1:∀ k,k<(n+m)*2→(W1.cell? ⟨b,k,none⟩).isSome=true:=fun k hk=>by
  rw [hW1]
  exact isSome_setCells b (cs.drop (i*2)) ((i+m)*2) w.drew (fun j hj=>hsp ((i+m)*2+j) (by rw [hdl] at hj;omega)) k (hsp k hk)
 have hcp2:∀ (W:World),(∀ x,W.cell? x=W1.cell? x)→(∀ x,W.frozen? x=W1.frozen? x)→∀ ty dc,(Builtin.copy_ #[25,25] ty #[.slice (some ⟨b,i*2,none⟩) (n+m - i) dc,.slice (some ⟨vb,voff,none⟩) m vc]).run Try.prog W=.ok (goInt m) (W.setCells b (i*2) vs):=fun W hWc hWf ty dc=>by
  have hmin:Nat.min m (n+m - i)=m:=by simp only [Nat.min_def];split<;>omega
  have:=run_copy_k W 25 25 ty 70 2 b (i*2) (n+m - i) dc ⟨vb,voff,none⟩ m vc vs t25 hsz (by rw [hvl,hmin])
   (fun j v hj=>by
    rw [Addr.add_lit,hWc,hW1,World.cell?_setCells_out b _ _ _ _ (fun h _=>absurd h hvb)]
    exact hvs j v hj)
   (fun j hj=>by rw [hWc];exact hsp1 _ (by omega)) (fun j hj=>by rw [hWf,hW1,World.frozen?_setCells];exact hfz _ (by omega)) h1v
  rw [hmin] at this
  exact this
 rw [← hW1] at hcp1
 go_enter Try.func105,ntmps105
 go_wp2_with (simp only [hov])
 go_region_law_o (refine step_copy_runI rfl _ _ 25 25 rfl _ _ (by simp [Act.eval,Act.put]) (by simp [Act.eval,Act.put]) (hcp1 _ _ _) ?_)
 go_wp2_with (at_builtin;refine wpList_copy_runI _ rfl _ _ 25 25 rfl _ _ rfl rfl (hcp2 _ (fun _=>rfl) (fun _=>rfl) _ _) ?_)
 go_ret
 first | exact ⟨rfl,rfl⟩ | exact ⟨rfl,by rw [hW1]⟩
set_option maxHeartbeats 4000000 in
set_option maxRecDepth 100000 in
/-- Insert: at the end, there is room. -/
theorem ins_end_room (b n c vb voff m vc:Nat) (vs:List Value) (w:World) (hm:0<m) (hroom:n+m≤c) (hc63:c≤9223372036854775807)
  (hvl:vs.length=m*2) (hsp:∀ j,j<m*2→(w.cell? ⟨b,n*2+j,none⟩).isSome=true) (hfz:∀ j,j<m*2→w.frozen? ⟨b,n*2+j,none⟩=false)
  (hvs:∀ j v,vs[j]?=some v→w.cell? ⟨vb,voff+j,none⟩=some v) (h1v:∀ v∈vs,v.oneCell'=true) :
  Calls Try.prog 105 #[.slice (some ⟨b,0,none⟩) n c,.int .i64 n,.slice (some ⟨vb,voff,none⟩) m vc] w fun e w' =>
   e=.returned (.slice (some ⟨b,0,none⟩) (n+m) c)∧w'=w.setCells b (n*2) vs:=by
 have t0:=Try.underlying0;have t3:=Try.underlying3;have t4:=Try.underlying4;have t25:=Try.underlying25
 have a0:=iT0;have a3:=iT3;have z70:=iZ70;have z25:=iZ25;have v25:=iV25
 have u0:=run_underlying t0;have u3:=run_underlying t3;have u4:=run_underlying t4;have u25:=run_underlying t25
 have mixed:Try.prog.follows .mixedOrders=true:=by kernel_rfl
 obtain ⟨i0,hi0,hz0,hzs,hzb⟩:=info_parts iI70
 have hz1:¬ ((m:Int)=0):=by omega
 have hsrc:Src Try.prog i0.size 25 (.slice (some ⟨vb,voff,none⟩) m vc) m vs w:=Src.ofSlice w t25 ⟨vb,voff,none⟩ m vc vs (by rw [hzs];exact hvl) (fun j u hj=>by rw [Addr.add_lit];exact hvs j u hj) h1v
 have h1:∀ j,j<vs.length→(w.cell? ⟨b,0+n*i0.size+j,none⟩).isSome=true:=fun j hj=>by rw [hzs,Nat.zero_add];exact hsp j (by omega)
 have h2:∀ j,j<vs.length→w.frozen? ⟨b,0+n*i0.size+j,none⟩=false:=fun j hj=>by rw [hzs,Nat.zero_add];exact hfz j (by omega)
 have hoff:0+n*i0.size=n*2:=by rw [hzs];omega
 go_enter Try.func105,ntmps105
 go_wp2_with (at_builtin;refine wpList_append_room_src _ rfl _ _ 25 25 rfl 70 i0 t25 hi0 b 0 n c rfl _ rfl m vs hsrc hroom h1 h2 ?_)
 go_ret
 first | exact ⟨rfl,rfl⟩ | exact ⟨rfl,by rw [hoff]⟩ | exact ⟨rfl,by rw [← hoff]⟩ | exact ⟨rfl,by simp [hzs]⟩

set_option maxHeartbeats 4000000 in
set_option maxRecDepth 100000 in
/-- Insert: at the end, there is no room: a new row. -/
theorem ins_end_grow (base:Option Addr) (n c vb voff m vc:Nat) (cs vs:List Value) (w:World) (hm:0<m) (hnc:n≤c) (hroom:c<n+m) (hbig:(n+m)*32≤140737488355328)
  (hcl:cs.length=n*2) (hvl:vs.length=m*2) (hnil:base=none→n=0)
  (hcs:∀ a,base=some a→∀ j v,cs[j]?=some v→w.cell? (a.add j)=some v)
  (hvs:∀ j v,vs[j]?=some v→w.cell? ⟨vb,voff+j,none⟩=some v) (h1v:∀ v∈vs,v.oneCell'=true) :
  Calls Try.prog 105 #[.slice base n c,.int .i64 n,.slice (some ⟨vb,voff,none⟩) m vc] w fun e w' =>
   e=.returned (.slice (some ⟨w.heap.size,0,none⟩) (n+m) (grownCap w (n+m) c 70)) ∧
   w'=w.drew.alloc (.cells ((cs++vs).toArray++Builtin.zeroCells #[Value.string ⟨#[]⟩,Value.string ⟨#[]⟩] (grownCap w (n+m) c 70 - (n+m))) 70):=by
 have t0:=Try.underlying0;have t3:=Try.underlying3;have t4:=Try.underlying4;have t25:=Try.underlying25
 have a0:=iT0;have a3:=iT3;have z70:=iZ70;have z25:=iZ25;have v25:=iV25
 have u0:=run_underlying t0;have u3:=run_underlying t3;have u4:=run_underlying t4;have u25:=run_underlying t25
 have mixed:Try.prog.follows .mixedOrders=true:=by kernel_rfl
 obtain ⟨i0,hi0,hz0,hzs,hzb⟩:=info_parts iI70
 have hz1:¬ ((m:Int)=0):=by omega
 have hsrc:Src Try.prog i0.size 25 (.slice (some ⟨vb,voff,none⟩) m vc) m vs w:=Src.ofSlice w t25 ⟨vb,voff,none⟩ m vc vs (by rw [hzs];exact hvl) (fun j u hj=>by rw [Addr.add_lit];exact hvs j u hj) h1v
 have hold:(Builtin.firstCells i0.size n (.slice base n c)).run Try.prog w.drew=.ok cs.toArray w.drew:=by
  rw [hzs]
  cases base with
  | none =>
   have h0:=hnil rfl
   subst h0
   have hc0:cs=[]:=List.length_eq_zero_iff.1 (by omega)
   rw [hc0]
   exact run_firstCells_none w.drew 2 0 0 c
  | some a=>exact run_firstCells_some w.drew 2 n a n c cs (by omega) (fun j v hj=>hcs a rfl j v hj)
 have hrun:∀ ty,(Builtin.append_ #[25,25] ty #[.slice base n c,.slice (some ⟨vb,voff,none⟩) m vc]).run Try.prog w=_:=fun ty =>
  run_append_grow_src w 25 25 ty 70 i0 _ t25 hi0 hz0 base n c cs hold _ m vs hsrc hroom (by omega) (by rw [hzb];exact growslice_fits hroom hbig)
 go_enter Try.func105,ntmps105
 cases base with
 | none =>
  have h0:=hnil rfl
  subst h0
  go_wp2_with (at_builtin;refine Lib.wpList_append_run _ rfl _ _ _ _ rfl _ _ rfl rfl _ _ (hrun _) ?_)
  go_ret
  exact ⟨rfl,rfl⟩
 | some a =>
  obtain ⟨ab,ao,asp⟩:=a
  go_wp2_with (at_builtin;refine Lib.wpList_append_run _ rfl _ _ _ _ rfl _ _ rfl rfl _ _ (hrun _) ?_)
  all_goals (go_ret;exact ⟨rfl,rfl⟩)
set_option maxHeartbeats 4000000 in
set_option maxRecDepth 100000 in
/-- Insert: in the middle, there is no room: a new row. -/
theorem ins_grow (b n c i vb voff m vc:Nat) (cs vs:List Value) (w:World) (hi:i<n) (hm:0<m) (hnc:n≤c) (hroom:c<n+m) (hbig:(n+m)*32≤140737488355328)
    (hcl:cs.length=n*2) (hvl:vs.length=m*2)
    (hcs:∀ j v,cs[j]?=some v→w.cell? ⟨b,j,none⟩=some v)
    (hvs:∀ j v,vs[j]?=some v→w.cell? ⟨vb,voff+j,none⟩=some v) (h1c:∀ v∈cs,v.oneCell'=true) (h1v:∀ v∈vs,v.oneCell'=true) :
    Calls Try.prog 105 #[.slice (some ⟨b,0,none⟩) n c,.int .i64 i,.slice (some ⟨vb,voff,none⟩) m vc] w fun e w' =>
      e=.returned (.slice (some ⟨w.heap.size,0,none⟩) (n+m) (grownCap w (n+m) c 70)) ∧
      w'=(((w.alloc (.cells ((cs.take (i*2)).toArray++Builtin.zeroCells #[Value.string ⟨#[]⟩,Value.string ⟨#[]⟩] (n+m - i)++Builtin.zeroCells #[Value.string ⟨#[]⟩,Value.string ⟨#[]⟩] (grownCap w (n+m) c 70 - (n+m))) 70)).drew.setCells w.heap.size (i*2) vs).drew).setCells w.heap.size ((i+m)*2) (cs.drop (i*2)):=by
  have t0:=Try.underlying0;have t3:=Try.underlying3;have t4:=Try.underlying4;have t25:=Try.underlying25
  have a0:=iT0;have a3:=iT3;have z70:=iZ70;have z25:=iZ25;have v25:=iV25
  have u0:=run_underlying t0;have u3:=run_underlying t3;have u4:=run_underlying t4;have u25:=run_underlying t25
  have mixed:Try.prog.follows .mixedOrders=true:=by kernel_rfl
  obtain ⟨i0,hi0,hz0,hzs,hzb⟩:=info_parts iI70
  have hz1:¬ ((m:Int)=0):=by omega
  have hz2:¬ ((i:Int)=(n:Int)):=by omega
  have hz3:(c:Int)<(n:Int)+(m:Int):=by omega
  have hsz:(Try.prog.info? 70).map (·.size)=some 2:=by rw [hi0];simp [hzs]
  have hbw:b<w.heap.size:=block_lt_of_cell (hcs 0 _ (List.getElem?_eq_getElem (by omega)))
  have hvw:vb<w.heap.size:=block_lt_of_cell (hvs 0 _ (List.getElem?_eq_getElem (by omega)))
  have hkk:(n:Int)+(m:Int) - (i:Int)=((n+m - i:Nat):Int):=by omega
  have hik:i+(n+m - i)=n+m:=by omega
  have hold:(Builtin.firstCells i0.size i (.slice (some ⟨b,0,none⟩) i c)).run Try.prog w.drew=.ok (cs.take (i*2)).toArray w.drew:=by
    rw [hzs]
    exact run_firstCells_some w.drew 2 i ⟨b,0,none⟩ i c (cs.take (i*2)) (by rw [List.length_take];omega) (fun j v hj=>by
      rw [Addr.add_lit,Nat.zero_add]
      rw [List.getElem?_take] at hj
      split at hj
      · exact hcs j v hj
      · cases hj)
  have hrz : ∀ ty, (Builtin.append_ #[25, 3] ty #[.slice (some ⟨b, 0, none⟩) i c, .int .i64 ((n : Int) + (m : Int) - (i : Int))]).run Try.prog w =
      .ok (.slice (some ⟨w.heap.size,0,none⟩) (n+m) (grownCap w (n+m) c 70)) (w.drew.alloc (.cells ((cs.take (i*2)).toArray++Builtin.zeroCells #[Value.string ⟨#[]⟩,Value.string ⟨#[]⟩] (n+m - i)++Builtin.zeroCells #[Value.string ⟨#[]⟩,Value.string ⟨#[]⟩] (grownCap w (n+m) c 70 - (n+m))) 70)):=fun ty=>by
    have h:=Lib.run_append_grow_zeros w 25 3 ty 70 i0 _ .i64 .i64 t25 t3 hi0 hz0 (some ⟨b,0,none⟩) i c (cs.take (i*2)) hold (n+m - i) (by omega) (by omega) (by omega) (by omega) (by rw [hzb];omega) (by rw [hzb,hik];exact growslice_fits hroom hbig)
    rw [hik] at h
    rw [hkk]
    exact h
  obtain ⟨G,hG⟩:∃ G,G=grownCap w (n+m) c 70:=⟨_,rfl⟩
  obtain ⟨ROW,hROW⟩:∃ ROW:Array Value,ROW=(cs.take (i*2)).toArray++Builtin.zeroCells #[Value.string ⟨#[]⟩,Value.string ⟨#[]⟩] (n+m - i)++Builtin.zeroCells #[Value.string ⟨#[]⟩,Value.string ⟨#[]⟩] (G - (n+m)):=⟨_,rfl⟩
  rw [← hG] at hrz ⊢
  rw [← hROW] at hrz ⊢
  have hRl:(n+m)*2≤ROW.size:=by
    rw [hROW]
    simp [Builtin.zeroCells]
    omega
  obtain ⟨W1,hW1⟩:∃ W1,W1=w.drew.alloc (.cells ROW 70):=⟨_,rfl⟩
  rw [← hW1] at hrz
  have hN:∀ j,j<(n+m)*2→(W1.cell? ⟨w.heap.size,j,none⟩).isSome=true:=fun j hj=>by
    rw [hW1,World.cell?_alloc_at (w:=w.drew) ROW _ w.heap.size j rfl,Array.getElem?_eq_getElem (by omega)];rfl
  have hNf:∀ j,W1.frozen? ⟨w.heap.size,j,none⟩=false:=fun j=>by rw [hW1];exact World.frozen?_alloc_at (w:=w.drew) ROW _ w.heap.size j rfl
  have hOb:∀ j v,w.cell? ⟨b,j,none⟩=some v→W1.cell? ⟨b,j,none⟩=some v:=fun j v h=>by rw [hW1,World.cell?_alloc_past (w:=w.drew) _ b j hbw];exact h
  have hOv:∀ j v,w.cell? ⟨vb,j,none⟩=some v→W1.cell? ⟨vb,j,none⟩=some v:=fun j v h=>by rw [hW1,World.cell?_alloc_past (w:=w.drew) _ vb j hvw];exact h
  have hcpA:∀ (W:World),(∀ x,W.cell? x=W1.cell? x)→(∀ x,W.frozen? x=W1.frozen? x)→∀ ty dc,(Builtin.copy_ #[25,25] ty #[.slice (some ⟨w.heap.size,i*2,none⟩) (n+m - i) dc,.slice (some ⟨vb,voff,none⟩) m vc]).run Try.prog W=.ok (goInt m) (W.setCells w.heap.size (i*2) vs):=fun W hWc hWf ty dc=>by
    have hmin:Nat.min m (n+m - i)=m:=by simp only [Nat.min_def];split<;>omega
    have:=run_copy_k W 25 25 ty 70 2 w.heap.size (i*2) (n+m - i) dc ⟨vb,voff,none⟩ m vc vs t25 hsz (by rw [hvl,hmin])
      (fun j v hj=>by rw [Addr.add_lit,hWc];exact hOv _ v (hvs j v hj))
      (fun j hj=>by rw [hWc];exact hN _ (by omega)) (fun j hj=>by rw [hWf];exact hNf _) h1v
    rw [hmin] at this
    exact this
  have hGn:n+m≤G:=by rw [hG];exact grownCap_ge w _ _ _
  have hG63:G≤9223372036854775807:=by
    have:=grownCap_le_maxLen w (n+m) c 70 (by unfold maxLen;omega)
    rw [← hG] at this
    unfold maxLen at this
    omega
  have hGi:¬ (G=i):=by omega
  have hGim:¬ (G=i+m):=by omega
  have hci:¬ (c=i):=by omega
  have hbN:b ≠ w.heap.size:=by omega
  have hdl:(cs.drop (i*2)).length=(n - i)*2:=by rw [List.length_drop,hcl];omega
  have hcpB:∀ (W:World),(∀ x,W.cell? x=(W1.setCells w.heap.size (i*2) vs).cell? x)→(∀ x,W.frozen? x=(W1.setCells w.heap.size (i*2) vs).frozen? x)→∀ ty dc sc,(Builtin.copy_ #[25,25] ty #[.slice (some ⟨w.heap.size,(i+m)*2,none⟩) (n+m - (i+m)) dc,.slice (some ⟨b,i*2,none⟩) (n - i) sc]).run Try.prog W=.ok (goInt ((n - i:Nat):Int)) (W.setCells w.heap.size ((i+m)*2) (cs.drop (i*2))):=fun W hWc hWf ty dc sc=>by
    have hmin:Nat.min (n - i) (n+m - (i+m))=n - i:=by simp only [Nat.min_def];split<;>omega
    have:=run_copy_k W 25 25 ty 70 2 w.heap.size ((i+m)*2) (n+m - (i+m)) dc ⟨b,i*2,none⟩ (n - i) sc (cs.drop (i*2)) t25 hsz (by rw [hdl,hmin])
      (fun j v hj=>by
        rw [Addr.add_lit,hWc,World.cell?_setCells_out _ _ _ _ _ (fun h _=>absurd h hbN)]
        exact hOb _ v (hcs (i*2+j) v (by rwa [List.getElem?_drop] at hj)))
      (fun j hj=>by rw [hWc];exact isSome_setCells w.heap.size vs (i*2) W1 (fun t ht=>hN (i*2+t) (by omega)) _ (hN _ (by rw [hdl] at hj;omega)))
      (fun j hj=>by rw [hWf,World.frozen?_setCells];exact hNf _) (fun v hv=>h1c v (List.mem_of_mem_drop hv))
    rw [hmin] at this
    exact this
  subst hW1
  have hE1:∀ x,((w.alloc (.cells ROW 70)).drew).cell? x=(w.drew.alloc (.cells ROW 70)).cell? x:=fun x=>rfl
  have hE2:∀ x,((w.alloc (.cells ROW 70)).drew).frozen? x=(w.drew.alloc (.cells ROW 70)).frozen? x:=fun x=>rfl
  have hF1:∀ x,(((w.alloc (.cells ROW 70)).drew.setCells w.heap.size (i*2) vs).drew).cell? x=((w.drew.alloc (.cells ROW 70)).setCells w.heap.size (i*2) vs).cell? x:=fun x=>rfl
  have hF2:∀ x,(((w.alloc (.cells ROW 70)).drew.setCells w.heap.size (i*2) vs).drew).frozen? x=((w.drew.alloc (.cells ROW 70)).setCells w.heap.size (i*2) vs).frozen? x:=fun x=>rfl
  have hw1:IntKind.i64.wrap ((i:Int)+(m:Int))=(i:Int)+(m:Int):=by rw [IntKind.wrap_i64];omega
  have hb1:(0:Int)≤(i:Int)+(m:Int):=by omega
  have hin:i≤n:=by omega
  have htn:((i:Int)+(m:Int)).toNat=i+m:=by omega
  have hb3:(i:Int)≤(n:Int):=by omega
  clear hkk hik hold hROW hG hRl
  go_enter Try.func105,ntmps105
  go_wp2_with (first
    | (at_builtin;refine Lib.wpList_append_run _ rfl _ _ _ _ rfl _ _ rfl rfl _ _ (hrz _) ?_)
    | (at_builtin;refine wpList_copy_runI _ rfl _ _ 25 25 rfl _ _ rfl rfl (hcpA _ hE1 hE2 _ _) ?_)
    | (at_builtin;refine wpList_copy_runI _ rfl _ _ 25 25 rfl _ _ rfl rfl (hcpB _ (fun _=>rfl) (fun _=>rfl) _ _ _) ?_))
  go_region_law_o (refine step_copy_runI rfl _ _ 25 25 rfl (.slice (some ⟨w.heap.size,(i+m)*2,none⟩) (n+m - (i+m)) (G - (i+m))) (.slice (some ⟨b,i*2,none⟩) (n - i) (c - i)) (by simp [Act.eval,Act.put]) (by simp [Act.eval,Act.put]) (hcpB _ hF1 hF2 3 (G - (i+m)) (c - i)) ?_)
  go_wp2
  go_ret
  exact ⟨rfl,rfl⟩
end
theorem c_insP:MContract Try.prog 105 (insSum 70):=MContract.insPair (F:=105) (E:=70)
 (fun b n c i vb vc cs vs w h1 h2 h3 h4 h5 h6 h7 h8 h9 h10 h11 h12 tA tB kA kB g1 g2 g3 g4 g5=>ins_shift b n c i vb 0 1 vc cs vs w h1 (by decide) h2 h3 h4 h5 h6 h7 h8 h9 h10 h11 h12 tA tB kA kB g1 g2 g3 g4 g5)
 (fun b n c vb vc vs w h1 h2 h3 h4 h5 h6 h7=>ins_end_room b n c vb 0 1 vc vs w (by decide) h1 h2 h3 h4 h5 h6 h7)
 (fun base n c vb vc cs vs w h1 h2 h3 h4 h5 h6 h7 h8 h9=>(ins_end_grow base n c vb 0 1 vc cs vs w (by decide) h1 h2 h3 h4 h5 h6 h7 h8 h9).mono (fun _ _ h=>⟨_,grownCap_ge w (n+1) c 70,grownCap_le_maxLen w (n+1) c 70 (by simp only [maxLen];omega),h.1,h.2⟩))
 (fun b n c i vb vc cs vs w h1 h2 h3 h4 h5 h6 h7 h8 h9 h10=>(ins_grow b n c i vb 0 1 vc cs vs w h1 (by decide) h2 h3 h4 h5 h6 h7 h8 h9 h10).mono (fun _ _ h=>⟨_,grownCap_ge w (n+1) c 70,grownCap_le_maxLen w (n+1) c 70 (by simp only [maxLen];omega),h.1,h.2⟩))
noncomputable def insP (l:LBBe) (i:Int) (y:LBBe):LBBe:=l.take i.toNat++(y++l.drop i.toNat)
noncomputable def q_insP (l:LBBe) (i:Int) (y:LBBe):Bool:=decide (0≤i∧i≤((l.length:Nat):Int))&&decide ((l.length+1)*32≤140737488355328)
noncomputable def S65:Tab:=Tab.add S64 105 (win winIds (insSum 70))
noncomputable def QF65:FuncId→Bool:=QF64
theorem G65:Good Try.prog tt S65 QF65:=G64.addM (c_insP.win winIds) (win_local _) ⟨Try.f105,by kernel_rfl,by kernel_rfl,by kernel_rfl⟩ (by kernel_rfl)

noncomputable abbrev SM_iputKey:SS:=⟨[.all 0 2,.t true .str,.t true .str],[.rows 70 true t_ptt]⟩
noncomputable abbrev S_iputKey_0:SS:=⟨(.all 0 2::.t true .str::.t true .str::.junk::.junk::.junk::.junk::.junk::.t true (.int .i64)::jS33),[.rows 70 true t_ptt]⟩
noncomputable abbrev E_iputKey_0_0:SS:=⟨(.all 0 2::.t true .str::.t true .str::.junk::.junk::.junk::.junk::.junk::.t true (.int .i64)::jS33),[.rows 70 true t_ptt]⟩
noncomputable def st_iputKey_0 (x1:ByteArray) (x2:ByteArray) (x8:Int) (h0:LBBe):RT S_iputKey_0.den:=(.br (decide (x8<((h0.length:Nat):Int))) (.br (decide (0≤x8∧x8<((h0.length:Nat):Int))) (.br (Op.bytesLess ((h0.getD x8.toNat (bE,bE)).1).toList x1.toList||(((h0.getD x8.toNat (bE,bE)).1).toList==x1.toList)) (.next (((),x1,x2,(),(),(),(),(),IntKind.wrap .i64 (x8+(1:Int)),u34),(h0,()))) (.done (.exit 0) E_iputKey_0_0 (((),x1,x2,(),(),(),(),(),x8,u34),(h0,())))) .fail) (.done (.exit 0) E_iputKey_0_0 (((),x1,x2,(),(),(),(),(),x8,u34),(h0,()))))
noncomputable abbrev V_iputKey_0:=(ByteArray)×(ByteArray)×(Int)×(LBBe)
noncomputable abbrev A_iputKey_0:=Nat×(ByteArray)×(ByteArray)×(Int)×(LBBe)
noncomputable def fl_iputKey_0:A_iputKey_0:=(99,(bE:ByteArray),(bE:ByteArray),((0:Int):Int),([]:LBBe))
noncomputable def ss_iputKey_0 (x1:ByteArray) (x2:ByteArray) (x8:Int) (h0:LBBe):V_iputKey_0 ⊕ A_iputKey_0:=(cond (decide (x8<((h0.length:Nat):Int))) (cond (decide (0≤x8∧x8<((h0.length:Nat):Int))) (cond (Op.bytesLess ((h0.getD x8.toNat (bE,bE)).1).toList x1.toList||(((h0.getD x8.toNat (bE,bE)).1).toList==x1.toList)) (.inl (x1,x2,IntKind.wrap .i64 (x8+(1:Int)),h0)) (.inr (0,x1,x2,x8,h0))) (.inr fl_iputKey_0)) (.inr (0,x1,x2,x8,h0)))
noncomputable def it_iputKey_0 (x1:ByteArray) (x2:ByteArray) (x8:Int) (h0:LBBe):A_iputKey_0:=itX (fun v:V_iputKey_0=>ss_iputKey_0 v.1 v.2.1 v.2.2.1 v.2.2.2) fl_iputKey_0 (x1,x2,x8,h0)
noncomputable def ct_iputKey_0 (a:A_iputKey_0):CT:=(.br (a.1==0) (.done (.exit 0) E_iputKey_0_0 (((),a.2.1,a.2.2.1,(),(),(),(),(),a.2.2.2.1,u34),(a.2.2.2.2,()))) .fail)
noncomputable def T_iputKey_0 (x1:ByteArray) (x2:ByteArray) (x8:Int) (h0:LBBe):CT:=ct_iputKey_0 (it_iputKey_0 x1 x2 x8 h0)
noncomputable abbrev sp_iputKey_0:S_iputKey_0.den→RT S_iputKey_0.den:=fun d=>st_iputKey_0 d.1.2.1 d.1.2.2.1 d.1.2.2.2.2.2.2.2.2.1 d.2.1
noncomputable abbrev pk_iputKey_0 (x1:ByteArray) (x2:ByteArray) (x8:Int) (h0:LBBe):S_iputKey_0.den:=(((),x1,x2,(),(),(),(),(),x8,u34),(h0,()))
noncomputable def body_iputKey_0:Code:=((loopsIn 0 (bodyOf Try.f65)).getD 0 (0,.skip)).2
noncomputable abbrev pv_iputKey_0 (v:V_iputKey_0):S_iputKey_0.den:=pk_iputKey_0 v.1 v.2.1 v.2.2.1 v.2.2.2
noncomputable def ox_iputKey_0 (x1:ByteArray) (x2:ByteArray) (x8:Int) (h0:LBBe):Option (Ex×St):=(cond (decide (x8<((h0.length:Nat):Int))) (cond (decide (0≤x8∧x8<((h0.length:Nat):Int))) (cond (Op.bytesLess ((h0.getD x8.toNat (bE,bE)).1).toList x1.toList||(((h0.getD x8.toNat (bE,bE)).1).toList==x1.toList)) (some (.normal,(⟨((.all 0 2)::(.t true .str x1)::(.t true .str x2)::.junk::.junk::.junk::.junk::.junk::(.t true (.int .i64) (IntKind.wrap .i64 (x8+(1:Int))))::jA33),[(.rows 70 true t_ptt h0)],1,[]⟩:St))) (some ((.exit 0),(⟨((.all 0 2)::(.t true .str x1)::(.t true .str x2)::.junk::.junk::.junk::.junk::.junk::(.t true (.int .i64) x8)::jA33),[(.rows 70 true t_ptt h0)],1,[]⟩:St)))) none) (some ((.exit 0),(⟨((.all 0 2)::(.t true .str x1)::(.t true .str x2)::.junk::.junk::.junk::.junk::.junk::(.t true (.int .i64) x8)::jA33),[(.rows 70 true t_ptt h0)],1,[]⟩:St))))
theorem rdA_iputKey_0:RdA G65 (fun _ _=>none) 0 body_iputKey_0 S_iputKey_0 1 [] (kepts [] [(0,[0,1,2,8])]) (fun d=>ox_iputKey_0 d.1.2.1 d.1.2.2.1 d.1.2.2.2.2.2.2.2.2.1 d.2.1):=by
 intro d
 kernel_rfl
theorem rdB_iputKey_0:∀ d:S_iputKey_0.den,ox_iputKey_0 d.1.2.1 d.1.2.2.1 d.1.2.2.2.2.2.2.2.2.1 d.2.1=(sp_iputKey_0 d).opt 1 []:=by
 intro d
 kernel_rfl
noncomputable abbrev say_iputKey_0:St→Option Tree:=S_iputKey_0.say 1 [] [] (fun d=>T_iputKey_0 d.1.2.1 d.1.2.2.1 d.1.2.2.2.2.2.2.2.2.1 d.2.1)
theorem lw_iputKey_0:LoopWp Try.prog say_iputKey_0 body_iputKey_0:=SS.wp2 (hl0 (by kernel_rfl)) [] sp_iputKey_0 rdA_iputKey_0 rdB_iputKey_0 _ (fun d=>Runs.ofIt (step:=sp_iputKey_0) pv_iputKey_0 (ct:=ct_iputKey_0) rfl (fun v=>((relB (relB (relB rfl rfl) rfl) rfl):(st_iputKey_0 v.1 v.2.1 v.2.2.1 v.2.2.2).val=relS pv_iputKey_0 ct_iputKey_0 (ss_iputKey_0 v.1 v.2.1 v.2.2.1 v.2.2.2))) (fun a=>((cendB (cendD (by simp)) cendF):CEnd _ (ct_iputKey_0 a))) (d.1.2.1,d.1.2.2.1,d.1.2.2.2.2.2.2.2.2.1,d.2.1))
noncomputable def k1_iputKey (x1:ByteArray) (x2:ByteArray) (h0:LBBe):=insP ((it_iputKey_0 x1 x2 (0:Int) h0).2.2.2.2) ((it_iputKey_0 x1 x2 (0:Int) h0).2.2.2.1) [(((it_iputKey_0 x1 x2 (0:Int) h0).2.1),((it_iputKey_0 x1 x2 (0:Int) h0).2.2.1))]
noncomputable def iputKey (x1:ByteArray) (x2:ByteArray) (h0:LBBe):LBBe:=(cond (decide ((ipairAt h0 x1) ≥ (0:Int))) (h0.set ((ipairAt h0 x1).toNat) ((h0.getD ((ipairAt h0 x1).toNat) (bE,bE)).1,x2)) (k1_iputKey x1 x2 h0))
noncomputable abbrev e_iputKey (r:LBBe):AV×List AObj×List Nat:=((.all 0 2),[(.rows 70 true t_ptt r)],[0])
noncomputable abbrev F_iputKey (r:LBBe):=some (e_iputKey r)
noncomputable abbrev g_iputKey:SM_iputKey.den→AV×List AObj×List Nat:=fun d=>e_iputKey (iputKey d.1.2.1 d.1.2.2.1 d.2.1)
noncomputable def q_iputKey (x1:ByteArray) (x2:ByteArray) (h0:LBBe):Bool:=(q_ipairAt h0 x1)&&(cond (decide ((ipairAt h0 x1) ≥ (0:Int))) (decide (0≤(ipairAt h0 x1)∧(ipairAt h0 x1)<((h0.length:Nat):Int))) (((it_iputKey_0 x1 x2 (0:Int) h0).1==0)&&(q_insP ((it_iputKey_0 x1 x2 (0:Int) h0).2.2.2.2) ((it_iputKey_0 x1 x2 (0:Int) h0).2.2.2.1) [(((it_iputKey_0 x1 x2 (0:Int) h0).2.1),((it_iputKey_0 x1 x2 (0:Int) h0).2.2.1))])))
noncomputable abbrev pre_iputKey:SM_iputKey.den→Bool:=fun d=>q_iputKey d.1.2.1 d.1.2.2.1 d.2.1
noncomputable abbrev L_iputKey:Nat→St→Option Tree:=fun b=>match b with | 0=>say_iputKey_0 | _=>fun _=>none
theorem run_iputKey:RunE false [] [0] [] G65 (L_iputKey) Try.f65 SM_iputKey pre_iputKey g_iputKey:=by
 rintro ⟨⟨_,x1,x2,_⟩,⟨h0,_⟩⟩ hp
 change q_iputKey x1 x2 h0=true at hp
 unfold q_iputKey at hp
 refine Eq.trans (b:=(cond (q_ipairAt h0 x1) (cond (decide ((ipairAt h0 x1) ≥ (0:Int))) (cond (decide (0≤(ipairAt h0 x1)∧(ipairAt h0 x1)<((h0.length:Nat):Int))) (some (e_iputKey (h0.set ((ipairAt h0 x1).toNat) ((h0.getD ((ipairAt h0 x1).toNat) ((⟨#[]⟩:ByteArray),(⟨#[]⟩:ByteArray))).1,x2)))) none) (cond ((it_iputKey_0 x1 x2 (0:Int) h0).1==0) (cond (q_insP ((it_iputKey_0 x1 x2 (0:Int) h0).2.2.2.2) ((it_iputKey_0 x1 x2 (0:Int) h0).2.2.2.1) [(((it_iputKey_0 x1 x2 (0:Int) h0).2.1),((it_iputKey_0 x1 x2 (0:Int) h0).2.2.1))]) (some (e_iputKey (k1_iputKey x1 x2 h0))) none) none)) none)) (by kernel_rfl) ?_
 exact (cndA hp fun hp=>(cndQ (F:=F_iputKey) hp (fun hp=>(cndT hp fun _h=>rfl)) (fun hp=>(cndA hp fun hp=>(cndT hp fun _h=>rfl)))))
noncomputable abbrev m_iputKey:=win winIds (msum SM_iputKey pre_iputKey g_iputKey)
theorem c_iputKey:MContract Try.prog 65 m_iputKey:=(MContract.of_dataE false [] [0] []  G65 (by kernel_rfl) (hl1 (i:=0) (by kernel_rfl) lw_iputKey_0) _ _ _ run_iputKey).win winIds
noncomputable def S66:Tab:=Tab.add S65 65 (m_iputKey)
noncomputable def QF66:FuncId→Bool:=QF65
theorem G66:Good Try.prog tt S66 QF66:=G65.addM c_iputKey (win_local _) ⟨Try.f65,by kernel_rfl,by kernel_rfl,by kernel_rfl⟩ (by kernel_rfl)

noncomputable abbrev SM_iDelKey_1:SS:=⟨[.agg [.t true .str,.t true .str],.ptr 0 0 1 0],[.box [.t true .str]]⟩
noncomputable def iDelKey_1 (x0_0:ByteArray) (x0_1:ByteArray) (p0:ByteArray):Bool:=(x0_0.toList==p0.toList)
noncomputable abbrev e_iDelKey_1 (p0:ByteArray) (r:Bool):AV×List AObj×List Nat:=((.t true .bool r),[(.box [(.t true .str p0)])],[])
noncomputable abbrev F_iDelKey_1 (p0:ByteArray) (r:Bool):=some (e_iDelKey_1 p0 r)
noncomputable abbrev g_iDelKey_1:SM_iDelKey_1.den→AV×List AObj×List Nat:=fun d=>e_iDelKey_1 d.2.1.1 (iDelKey_1 d.1.1.1 d.1.1.2.1 d.2.1.1)
noncomputable abbrev pre_iDelKey_1:SM_iDelKey_1.den→Bool:=fun d=>true
theorem run_iDelKey_1:RunM G66 (fun _ _=>none) Try.f107 SM_iDelKey_1 pre_iDelKey_1 g_iDelKey_1:=by
 rintro ⟨⟨⟨x0_0,x0_1,_⟩,_,_⟩,⟨⟨p0,_⟩,_⟩⟩ hp
 kernel_rfl
noncomputable abbrev m_iDelKey_1:=winQ (msum SM_iDelKey_1 pre_iDelKey_1 g_iDelKey_1)
theorem c_iDelKey_1:MContract Try.prog 107 m_iDelKey_1:=(MContract.of_data G66 (by kernel_rfl) (hl0 (by kernel_rfl)) _ _ _ run_iDelKey_1).winQ (msum_quiet fun d=>⟨rfl,rfl⟩)
noncomputable def S67:Tab:=Tab.add S66 107 (m_iDelKey_1)
noncomputable def QF67:FuncId→Bool:=qadd QF66 107
theorem G67:Good Try.prog tt S67 QF67:=G66.addMQ c_iDelKey_1 (winQ_local _) ⟨Try.f107,by kernel_rfl,by kernel_rfl,by kernel_rfl⟩ (winQ_quiet _)

noncomputable abbrev SM_slices_IndexFunc_iPair_iDelKey_1:SS:=⟨[.all 0 2,.fn 107 [1]],[.rows 70 true t_ptt,.box [.t true .str]]⟩
noncomputable abbrev S_slices_IndexFunc_iPair_iDelKey_1_0:SS:=⟨(.all 0 2::.fn 107 [1]::.junk::.junk::.junk::.junk::.junk::.t true (.int .i64)::.t true (.int .i64)::jS10),[.rows 70 true t_ptt,.box [.t true .str]]⟩
noncomputable abbrev E_slices_IndexFunc_iPair_iDelKey_1_0_0:SS:=⟨(.junk::.junk::.junk::.junk::.t true (.int .i64)::jS14),[.rows 70 true t_ptt,.box [.t true .str]]⟩
noncomputable abbrev E_slices_IndexFunc_iPair_iDelKey_1_0_1:SS:=⟨(.junk::jS18),[.rows 70 true t_ptt,.box [.t true .str]]⟩
noncomputable def k1_slices_IndexFunc_iPair_iDelKey_1 (x8:Int) (h0:LBBe) (q0:ByteArray):=iDelKey_1 ((h0.getD x8.toNat (bE,bE)).1) ((h0.getD x8.toNat (bE,bE)).2) q0
noncomputable def st_slices_IndexFunc_iPair_iDelKey_1_0 (x7:Int) (x8:Int) (h0:LBBe) (q0:ByteArray):RT S_slices_IndexFunc_iPair_iDelKey_1_0.den:=(.br (decide (x8<x7)) (.br (decide (0≤x8∧x8<((h0.length:Nat):Int))) (.br (k1_slices_IndexFunc_iPair_iDelKey_1 x8 h0 q0) (.done .ret E_slices_IndexFunc_iPair_iDelKey_1_0_0 (((),(),(),(),x8,u15),(h0,(q0,()),()))) (.next (((),(),(),(),(),(),(),x7,IntKind.wrap .i64 (x8+(1:Int)),u11),(h0,(q0,()),())))) .fail) (.done (.exit 0) E_slices_IndexFunc_iPair_iDelKey_1_0_1 ((u20),(h0,(q0,()),()))))
noncomputable abbrev V_slices_IndexFunc_iPair_iDelKey_1_0:=(Int)×(Int)
noncomputable abbrev A_slices_IndexFunc_iPair_iDelKey_1_0:=Nat×(Int)
noncomputable def fl_slices_IndexFunc_iPair_iDelKey_1_0:A_slices_IndexFunc_iPair_iDelKey_1_0:=(99,((0:Int):Int))
noncomputable def ss_slices_IndexFunc_iPair_iDelKey_1_0 (x7:Int) (x8:Int) (h0:LBBe) (q0:ByteArray):V_slices_IndexFunc_iPair_iDelKey_1_0 ⊕ A_slices_IndexFunc_iPair_iDelKey_1_0:=(cond (decide (x8<x7)) (cond (decide (0≤x8∧x8<((h0.length:Nat):Int))) (cond (k1_slices_IndexFunc_iPair_iDelKey_1 x8 h0 q0) (.inr (0,x8)) (.inl (x7,IntKind.wrap .i64 (x8+(1:Int))))) (.inr fl_slices_IndexFunc_iPair_iDelKey_1_0)) (.inr (1,((0:Int):Int))))
noncomputable def it_slices_IndexFunc_iPair_iDelKey_1_0 (x7:Int) (x8:Int) (h0:LBBe) (q0:ByteArray):A_slices_IndexFunc_iPair_iDelKey_1_0:=itX (fun v:V_slices_IndexFunc_iPair_iDelKey_1_0=>ss_slices_IndexFunc_iPair_iDelKey_1_0 v.1 v.2 h0 q0) fl_slices_IndexFunc_iPair_iDelKey_1_0 (x7,x8)
noncomputable def ct_slices_IndexFunc_iPair_iDelKey_1_0 (h0:LBBe) (q0:ByteArray) (a:A_slices_IndexFunc_iPair_iDelKey_1_0):CT:=(.br (a.1==0) (.done .ret E_slices_IndexFunc_iPair_iDelKey_1_0_0 (((),(),(),(),a.2,u15),(h0,(q0,()),()))) (.br (a.1==1) (.done (.exit 0) E_slices_IndexFunc_iPair_iDelKey_1_0_1 ((u20),(h0,(q0,()),()))) .fail))
noncomputable def T_slices_IndexFunc_iPair_iDelKey_1_0 (x7:Int) (x8:Int) (h0:LBBe) (q0:ByteArray):CT:=(ct_slices_IndexFunc_iPair_iDelKey_1_0 h0 q0) (it_slices_IndexFunc_iPair_iDelKey_1_0 x7 x8 h0 q0)
noncomputable abbrev sp_slices_IndexFunc_iPair_iDelKey_1_0:S_slices_IndexFunc_iPair_iDelKey_1_0.den→RT S_slices_IndexFunc_iPair_iDelKey_1_0.den:=fun d=>st_slices_IndexFunc_iPair_iDelKey_1_0 d.1.2.2.2.2.2.2.2.1 d.1.2.2.2.2.2.2.2.2.1 d.2.1 d.2.2.1.1
noncomputable abbrev pk_slices_IndexFunc_iPair_iDelKey_1_0 (x7:Int) (x8:Int) (h0:LBBe) (q0:ByteArray):S_slices_IndexFunc_iPair_iDelKey_1_0.den:=(((),(),(),(),(),(),(),x7,x8,u11),(h0,(q0,()),()))
noncomputable def body_slices_IndexFunc_iPair_iDelKey_1_0:Code:=((loopsIn 0 (bodyOf Try.f131)).getD 0 (0,.skip)).2
noncomputable abbrev pv_slices_IndexFunc_iPair_iDelKey_1_0 (h0:LBBe) (q0:ByteArray) (v:V_slices_IndexFunc_iPair_iDelKey_1_0):S_slices_IndexFunc_iPair_iDelKey_1_0.den:=pk_slices_IndexFunc_iPair_iDelKey_1_0 v.1 v.2 h0 q0
theorem rdA_slices_IndexFunc_iPair_iDelKey_1_0:RdA G67 (fun _ _=>none) 0 body_slices_IndexFunc_iPair_iDelKey_1_0 S_slices_IndexFunc_iPair_iDelKey_1_0 2 [] (kepts [4] [(0,[])]) (fun d=>(sp_slices_IndexFunc_iPair_iDelKey_1_0 d).opt 2 []):=by
 intro d
 kernel_rfl
noncomputable abbrev say_slices_IndexFunc_iPair_iDelKey_1_0:St→Option Tree:=S_slices_IndexFunc_iPair_iDelKey_1_0.say 2 [] [] (fun d=>T_slices_IndexFunc_iPair_iDelKey_1_0 d.1.2.2.2.2.2.2.2.1 d.1.2.2.2.2.2.2.2.2.1 d.2.1 d.2.2.1.1)
theorem lw_slices_IndexFunc_iPair_iDelKey_1_0:LoopWp Try.prog say_slices_IndexFunc_iPair_iDelKey_1_0 body_slices_IndexFunc_iPair_iDelKey_1_0:=SS.wp2 (hl0 (by kernel_rfl)) [] sp_slices_IndexFunc_iPair_iDelKey_1_0 rdA_slices_IndexFunc_iPair_iDelKey_1_0 (fun d=>rfl) _ (fun d=>Runs.ofIt (step:=sp_slices_IndexFunc_iPair_iDelKey_1_0) (pv_slices_IndexFunc_iPair_iDelKey_1_0 d.2.1 d.2.2.1.1) (ct:=(ct_slices_IndexFunc_iPair_iDelKey_1_0 d.2.1 d.2.2.1.1)) rfl (fun v=>((relB (relB (relB rfl rfl) rfl) rfl):(st_slices_IndexFunc_iPair_iDelKey_1_0 v.1 v.2 d.2.1 d.2.2.1.1).val=relS (pv_slices_IndexFunc_iPair_iDelKey_1_0 d.2.1 d.2.2.1.1) (ct_slices_IndexFunc_iPair_iDelKey_1_0 d.2.1 d.2.2.1.1) (ss_slices_IndexFunc_iPair_iDelKey_1_0 v.1 v.2 d.2.1 d.2.2.1.1))) (fun a=>((cendB (cendD (by simp)) (cendB (cendD (by simp)) cendF)):CEnd _ ((ct_slices_IndexFunc_iPair_iDelKey_1_0 d.2.1 d.2.2.1.1) a))) (d.1.2.2.2.2.2.2.2.1,d.1.2.2.2.2.2.2.2.2.1))
noncomputable def slices_IndexFunc_iPair_iDelKey_1 (h0:LBBe) (q0:ByteArray):Int:=(cond ((it_slices_IndexFunc_iPair_iDelKey_1_0 ((h0.length:Nat):Int) (0:Int) h0 q0).1==0) ((it_slices_IndexFunc_iPair_iDelKey_1_0 ((h0.length:Nat):Int) (0:Int) h0 q0).2) (-1:Int))
noncomputable abbrev e_slices_IndexFunc_iPair_iDelKey_1 (h0:LBBe) (q0:ByteArray) (r:Int):AV×List AObj×List Nat:=((.t true (.int .i64) r),[(.rows 70 true t_ptt h0),(.box [(.t true .str q0)])],[])
noncomputable abbrev F_slices_IndexFunc_iPair_iDelKey_1 (h0:LBBe) (q0:ByteArray) (r:Int):=some (e_slices_IndexFunc_iPair_iDelKey_1 h0 q0 r)
noncomputable abbrev g_slices_IndexFunc_iPair_iDelKey_1:SM_slices_IndexFunc_iPair_iDelKey_1.den→AV×List AObj×List Nat:=fun d=>e_slices_IndexFunc_iPair_iDelKey_1 d.2.1 d.2.2.1.1 (slices_IndexFunc_iPair_iDelKey_1 d.2.1 d.2.2.1.1)
noncomputable def q_slices_IndexFunc_iPair_iDelKey_1 (h0:LBBe) (q0:ByteArray):Bool:=cond ((it_slices_IndexFunc_iPair_iDelKey_1_0 ((h0.length:Nat):Int) (0:Int) h0 q0).1==0) true ((it_slices_IndexFunc_iPair_iDelKey_1_0 ((h0.length:Nat):Int) (0:Int) h0 q0).1==1)
noncomputable abbrev pre_slices_IndexFunc_iPair_iDelKey_1:SM_slices_IndexFunc_iPair_iDelKey_1.den→Bool:=fun d=>q_slices_IndexFunc_iPair_iDelKey_1 d.2.1 d.2.2.1.1
noncomputable abbrev L_slices_IndexFunc_iPair_iDelKey_1:Nat→St→Option Tree:=fun b=>match b with | 0=>say_slices_IndexFunc_iPair_iDelKey_1_0 | _=>fun _=>none
theorem run_slices_IndexFunc_iPair_iDelKey_1:RunM G67 (L_slices_IndexFunc_iPair_iDelKey_1) Try.f131 SM_slices_IndexFunc_iPair_iDelKey_1 pre_slices_IndexFunc_iPair_iDelKey_1 g_slices_IndexFunc_iPair_iDelKey_1:=by
 rintro ⟨⟨_,_,_⟩,⟨h0,⟨q0,_⟩,_⟩⟩ hp
 change q_slices_IndexFunc_iPair_iDelKey_1 h0 q0=true at hp
 unfold q_slices_IndexFunc_iPair_iDelKey_1 at hp
 refine Eq.trans (b:=(cond ((it_slices_IndexFunc_iPair_iDelKey_1_0 ((h0.length:Nat):Int) (0:Int) h0 q0).1==0) (some (e_slices_IndexFunc_iPair_iDelKey_1 h0 q0 ((it_slices_IndexFunc_iPair_iDelKey_1_0 ((h0.length:Nat):Int) (0:Int) h0 q0).2))) (cond ((it_slices_IndexFunc_iPair_iDelKey_1_0 ((h0.length:Nat):Int) (0:Int) h0 q0).1==1) (some (e_slices_IndexFunc_iPair_iDelKey_1 h0 q0 (-1:Int))) none))) (by kernel_rfl) ?_
 exact (cndQ (F:=(F_slices_IndexFunc_iPair_iDelKey_1 h0 q0)) hp (fun hp=>rfl) (fun hp=>(cndT hp fun _h=>rfl)))
noncomputable abbrev m_slices_IndexFunc_iPair_iDelKey_1:=winQ (msum SM_slices_IndexFunc_iPair_iDelKey_1 pre_slices_IndexFunc_iPair_iDelKey_1 g_slices_IndexFunc_iPair_iDelKey_1)
theorem c_slices_IndexFunc_iPair_iDelKey_1:MContract Try.prog 131 m_slices_IndexFunc_iPair_iDelKey_1:=(MContract.of_data G67 (by kernel_rfl) (hl1 (i:=0) (by kernel_rfl) lw_slices_IndexFunc_iPair_iDelKey_1_0) _ _ _ run_slices_IndexFunc_iPair_iDelKey_1).winQ (msum_quiet fun d=>⟨rfl,rfl⟩)
noncomputable def S68:Tab:=Tab.add S67 131 (orElseS (m_slices_IndexFunc_iPair_ipairAt_1) (m_slices_IndexFunc_iPair_iDelKey_1))
noncomputable def QF68:FuncId→Bool:=qadd QF67 131
theorem G68:Good Try.prog tt S68 QF68:=G67.addMQ (MContract.orElse c_slices_IndexFunc_iPair_ipairAt_1 c_slices_IndexFunc_iPair_iDelKey_1) (orElse_local (winQ_local _) (winQ_local _)) ⟨Try.f131,by kernel_rfl,by kernel_rfl,by kernel_rfl⟩ (QuietS.orElse (winQ_quiet _) (winQ_quiet _))


end Go.Proofs.Ytgglehejlddghaa.Eng

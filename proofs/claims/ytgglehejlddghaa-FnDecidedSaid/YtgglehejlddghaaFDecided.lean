/- What the functions that FnDecided reaches compute: further. -/
import Derived.Test.YtgglehejlddghaaFDecidedC
namespace Go.Proofs.Ytgglehejlddghaa.Eng
open Go Go.RowKit
set_option linter.unusedSimpArgs false
set_option linter.unusedVariables false
set_option maxRecDepth 10000
noncomputable abbrev jS129:List Sh:=.junk::.junk::.junk::.junk::.junk::.junk::.junk::.junk::.junk::.junk::.junk::.junk::.junk::.junk::.junk::.junk::.junk::.junk::.junk::.junk::.junk::.junk::.junk::.junk::.junk::.junk::.junk::.junk::.junk::.junk::.junk::.junk::.junk::.junk::.junk::.junk::.junk::.junk::.junk::.junk::.junk::.junk::.junk::.junk::.junk::.junk::.junk::.junk::.junk::.junk::.junk::.junk::.junk::.junk::.junk::.junk::.junk::.junk::.junk::.junk::.junk::.junk::.junk::.junk::.junk::.junk::.junk::.junk::.junk::.junk::jS59
noncomputable abbrev jS142:List Sh:=.junk::.junk::.junk::.junk::.junk::.junk::.junk::.junk::.junk::.junk::.junk::.junk::.junk::jS129
noncomputable abbrev jS138:List Sh:=.junk::.junk::.junk::.junk::.junk::.junk::.junk::.junk::.junk::jS129
noncomputable abbrev u143:=((),(),(),(),(),(),(),(),(),(),(),(),(),(),(),(),(),(),(),(),(),(),(),(),(),(),(),(),(),(),(),(),(),(),(),(),(),(),(),(),(),(),(),(),(),(),(),(),(),(),(),(),(),(),(),(),(),(),(),(),(),(),(),(),(),(),(),(),(),(),(),(),(),(),(),(),(),(),u65)
noncomputable abbrev u130:=((),(),(),(),(),(),(),(),(),(),(),(),(),(),(),(),(),(),(),(),(),(),(),(),(),(),(),(),(),(),(),(),(),(),(),(),(),(),(),(),(),(),(),(),(),(),(),(),(),(),(),(),(),(),(),(),(),(),(),(),(),(),(),(),(),u65)
noncomputable abbrev u146:=((),(),(),u143)
noncomputable abbrev jA142:List AV:=.junk::.junk::.junk::.junk::.junk::.junk::.junk::.junk::.junk::.junk::.junk::.junk::.junk::.junk::.junk::.junk::.junk::.junk::.junk::.junk::.junk::.junk::.junk::.junk::.junk::.junk::.junk::.junk::.junk::.junk::.junk::.junk::.junk::.junk::.junk::.junk::.junk::.junk::.junk::.junk::.junk::.junk::.junk::.junk::.junk::.junk::.junk::.junk::.junk::.junk::.junk::.junk::.junk::.junk::.junk::.junk::.junk::.junk::.junk::.junk::.junk::.junk::.junk::.junk::.junk::.junk::.junk::.junk::.junk::.junk::.junk::.junk::.junk::.junk::.junk::.junk::.junk::.junk::.junk::.junk::.junk::.junk::.junk::jA59
noncomputable abbrev jA129:List AV:=.junk::.junk::.junk::.junk::.junk::.junk::.junk::.junk::.junk::.junk::.junk::.junk::.junk::.junk::.junk::.junk::.junk::.junk::.junk::.junk::.junk::.junk::.junk::.junk::.junk::.junk::.junk::.junk::.junk::.junk::.junk::.junk::.junk::.junk::.junk::.junk::.junk::.junk::.junk::.junk::.junk::.junk::.junk::.junk::.junk::.junk::.junk::.junk::.junk::.junk::.junk::.junk::.junk::.junk::.junk::.junk::.junk::.junk::.junk::.junk::.junk::.junk::.junk::.junk::.junk::.junk::.junk::.junk::.junk::.junk::jA59
noncomputable abbrev jA138:List AV:=.junk::.junk::.junk::.junk::.junk::.junk::.junk::.junk::.junk::jA129
noncomputable abbrev P_lFnDecided:List PSh:=[.t t_sy]
noncomputable abbrev S_lFnDecided_0:SS:=⟨(.junk::.junk::.junk::.ptr 0 0 1 0::.t true (.int .i64)::.t true .bool::.ptr 1 0 1 0::.junk::.junk::.junk::.junk::.junk::.junk::.junk::.junk::.t true (.int .i64)::jS129),[.box [.t true (.int .i64),.t true tq3,.t true (.int .i64),.t true tq6,.t true tq3],.box [.t true (.int .i64),.t true tq3,.t true (.int .i64),.t true tq6,.t true tq3]]⟩
noncomputable abbrev E_lFnDecided_0_0:SS:=⟨(.junk::.junk::.t true .bool::jS142),[]⟩
noncomputable abbrev E_lFnDecided_0_1:SS:=⟨(.junk::.junk::.junk::.ptr 0 0 1 0::.junk::.junk::.ptr 1 0 1 0::jS138),[.box [.t true (.int .i64),.t true tq3,.t true (.int .i64),.t true tq6,.t true tq3],.box [.t true (.int .i64),.t true tq3,.t true (.int .i64),.t true tq6,.t true tq3]]⟩
noncomputable def st_lFnDecided_0 (x4:Int) (x5:Bool) (x15:Int) (p0:Int) (p1:Lq1) (p2:Int) (p3:LBBe) (p4:Lq1) (q0:Int) (q1:Lq1) (q2:Int) (q3:LBBe) (q4:Lq1):RT S_lFnDecided_0.den:=(.br (decide (x15<((p4.length:Nat):Int))) (.br (decide (0≤x15∧x15<((p4.length:Nat):Int))) (.br ((((p4.getD x15.toNat ((0:Int),((0:Int),[]))).2).1)==x4) (.br x5 (.br (decide (0≤x15∧x15<((p4.length:Nat):Int))) (.br (q_iApply p3 (((p4.getD x15.toNat ((0:Int),((0:Int),[]))).2).2)) (.br (q_lsamePairs q3 (iApply p3 (((p4.getD x15.toNat ((0:Int),((0:Int),[]))).2).2))) (.br (lsamePairs q3 (iApply p3 (((p4.getD x15.toNat ((0:Int),((0:Int),[]))).2).2))) (.done .ret E_lFnDecided_0_0 (((),(),(((q4.length:Nat):Int)==(IntKind.wrap .i64 (((p4.length:Nat):Int) - (1:Int)))),u143),())) (.done .ret E_lFnDecided_0_0 (((),(),false,u143),()))) .fail) .fail) .fail) (.next (((),(),(),(),x4,x5,(),(),(),(),(),(),(),(),(),IntKind.wrap .i64 (x15+(1:Int)),u130),((p0,p1,p2,p3,p4,()),(q0,q1,q2,q3,q4,()),())))) (.next (((),(),(),(),x4,x5,(),(),(),(),(),(),(),(),(),IntKind.wrap .i64 (x15+(1:Int)),u130),((p0,p1,p2,p3,p4,()),(q0,q1,q2,q3,q4,()),())))) .fail) (.done (.exit 0) E_lFnDecided_0_1 ((u146),((p0,p1,p2,p3,p4,()),(q0,q1,q2,q3,q4,()),()))))
noncomputable abbrev V_lFnDecided_0:=(Int)×(Bool)×(Int)
noncomputable abbrev A_lFnDecided_0:=Nat×(Bool)
noncomputable def fl_lFnDecided_0:A_lFnDecided_0:=(99,(false:Bool))
noncomputable def ss_lFnDecided_0 (x4:Int) (x5:Bool) (x15:Int) (p0:Int) (p1:Lq1) (p2:Int) (p3:LBBe) (p4:Lq1) (q0:Int) (q1:Lq1) (q2:Int) (q3:LBBe) (q4:Lq1):V_lFnDecided_0 ⊕ A_lFnDecided_0:=(cond (decide (x15<((p4.length:Nat):Int))) (cond (decide (0≤x15∧x15<((p4.length:Nat):Int))) (cond ((((p4.getD x15.toNat ((0:Int),((0:Int),[]))).2).1)==x4) (cond x5 (cond (decide (0≤x15∧x15<((p4.length:Nat):Int))) (cond (q_iApply p3 (((p4.getD x15.toNat ((0:Int),((0:Int),[]))).2).2)) (cond (q_lsamePairs q3 (iApply p3 (((p4.getD x15.toNat ((0:Int),((0:Int),[]))).2).2))) (cond (lsamePairs q3 (iApply p3 (((p4.getD x15.toNat ((0:Int),((0:Int),[]))).2).2))) (.inr (0,(((q4.length:Nat):Int)==(IntKind.wrap .i64 (((p4.length:Nat):Int) - (1:Int)))))) (.inr (0,false))) (.inr fl_lFnDecided_0)) (.inr fl_lFnDecided_0)) (.inr fl_lFnDecided_0)) (.inl (x4,x5,IntKind.wrap .i64 (x15+(1:Int))))) (.inl (x4,x5,IntKind.wrap .i64 (x15+(1:Int))))) (.inr fl_lFnDecided_0)) (.inr (1,(false:Bool))))
noncomputable def it_lFnDecided_0 (x4:Int) (x5:Bool) (x15:Int) (p0:Int) (p1:Lq1) (p2:Int) (p3:LBBe) (p4:Lq1) (q0:Int) (q1:Lq1) (q2:Int) (q3:LBBe) (q4:Lq1):A_lFnDecided_0:=itX (fun v:V_lFnDecided_0=>ss_lFnDecided_0 v.1 v.2.1 v.2.2 p0 p1 p2 p3 p4 q0 q1 q2 q3 q4) fl_lFnDecided_0 (x4,x5,x15)
noncomputable def ct_lFnDecided_0 (p0:Int) (p1:Lq1) (p2:Int) (p3:LBBe) (p4:Lq1) (q0:Int) (q1:Lq1) (q2:Int) (q3:LBBe) (q4:Lq1) (a:A_lFnDecided_0):CT:=(.br (a.1==0) (.done .ret E_lFnDecided_0_0 (((),(),a.2,u143),())) (.br (a.1==1) (.done (.exit 0) E_lFnDecided_0_1 ((u146),((p0,p1,p2,p3,p4,()),(q0,q1,q2,q3,q4,()),()))) .fail))
noncomputable def T_lFnDecided_0 (x4:Int) (x5:Bool) (x15:Int) (p0:Int) (p1:Lq1) (p2:Int) (p3:LBBe) (p4:Lq1) (q0:Int) (q1:Lq1) (q2:Int) (q3:LBBe) (q4:Lq1):CT:=(ct_lFnDecided_0 p0 p1 p2 p3 p4 q0 q1 q2 q3 q4) (it_lFnDecided_0 x4 x5 x15 p0 p1 p2 p3 p4 q0 q1 q2 q3 q4)
noncomputable abbrev sp_lFnDecided_0:S_lFnDecided_0.den→RT S_lFnDecided_0.den:=fun d=>st_lFnDecided_0 d.1.2.2.2.2.1 d.1.2.2.2.2.2.1 d.1.2.2.2.2.2.2.2.2.2.2.2.2.2.2.2.1 d.2.1.1 d.2.1.2.1 d.2.1.2.2.1 d.2.1.2.2.2.1 d.2.1.2.2.2.2.1 d.2.2.1.1 d.2.2.1.2.1 d.2.2.1.2.2.1 d.2.2.1.2.2.2.1 d.2.2.1.2.2.2.2.1
noncomputable abbrev pk_lFnDecided_0 (x4:Int) (x5:Bool) (x15:Int) (p0:Int) (p1:Lq1) (p2:Int) (p3:LBBe) (p4:Lq1) (q0:Int) (q1:Lq1) (q2:Int) (q3:LBBe) (q4:Lq1):S_lFnDecided_0.den:=(((),(),(),(),x4,x5,(),(),(),(),(),(),(),(),(),x15,u130),((p0,p1,p2,p3,p4,()),(q0,q1,q2,q3,q4,()),()))
noncomputable def body_lFnDecided_0:Code:=((loopsIn 0 (bodyOf Try.f7)).getD 0 (0,.skip)).2
noncomputable abbrev pv_lFnDecided_0 (p0:Int) (p1:Lq1) (p2:Int) (p3:LBBe) (p4:Lq1) (q0:Int) (q1:Lq1) (q2:Int) (q3:LBBe) (q4:Lq1) (v:V_lFnDecided_0):S_lFnDecided_0.den:=pk_lFnDecided_0 v.1 v.2.1 v.2.2 p0 p1 p2 p3 p4 q0 q1 q2 q3 q4
noncomputable def ox_lFnDecided_0 (x4:Int) (x5:Bool) (x15:Int) (p0:Int) (p1:Lq1) (p2:Int) (p3:LBBe) (p4:Lq1) (q0:Int) (q1:Lq1) (q2:Int) (q3:LBBe) (q4:Lq1):Option (Ex×St):=(cond (decide (x15<((p4.length:Nat):Int))) (cond (decide (0≤x15∧x15<((p4.length:Nat):Int))) (cond ((((p4.getD x15.toNat ((0:Int),((0:Int),[]))).2).1)==x4) (cond x5 (cond (decide (0≤x15∧x15<((p4.length:Nat):Int))) (cond (q_iApply p3 (((p4.getD x15.toNat ((0:Int),((0:Int),[]))).2).2)) (cond (q_lsamePairs q3 (iApply p3 (((p4.getD x15.toNat ((0:Int),((0:Int),[]))).2).2))) (cond (lsamePairs q3 (iApply p3 (((p4.getD x15.toNat ((0:Int),((0:Int),[]))).2).2))) (some (.ret,(⟨(.junk::.junk::(.t true .bool (((q4.length:Nat):Int)==(IntKind.wrap .i64 (((p4.length:Nat):Int) - (1:Int)))))::jA142),[],0,[]⟩:St))) (some (.ret,(⟨(.junk::.junk::(.t true .bool false)::jA142),[],0,[]⟩:St)))) none) none) none) (some (.normal,(⟨(.junk::.junk::.junk::(.ptr 0 0 1 0)::(.t true (.int .i64) x4)::(.t true .bool x5)::(.ptr 1 0 1 0)::.junk::.junk::.junk::.junk::.junk::.junk::.junk::.junk::(.t true (.int .i64) (IntKind.wrap .i64 (x15+(1:Int))))::jA129),[(.box [(.t true (.int .i64) p0),(.t true tq3 p1),(.t true (.int .i64) p2),(.t true tq6 p3),(.t true tq3 p4)]),(.box [(.t true (.int .i64) q0),(.t true tq3 q1),(.t true (.int .i64) q2),(.t true tq6 q3),(.t true tq3 q4)])],0,[]⟩:St)))) (some (.normal,(⟨(.junk::.junk::.junk::(.ptr 0 0 1 0)::(.t true (.int .i64) x4)::(.t true .bool x5)::(.ptr 1 0 1 0)::.junk::.junk::.junk::.junk::.junk::.junk::.junk::.junk::(.t true (.int .i64) (IntKind.wrap .i64 (x15+(1:Int))))::jA129),[(.box [(.t true (.int .i64) p0),(.t true tq3 p1),(.t true (.int .i64) p2),(.t true tq6 p3),(.t true tq3 p4)]),(.box [(.t true (.int .i64) q0),(.t true tq3 q1),(.t true (.int .i64) q2),(.t true tq6 q3),(.t true tq3 q4)])],0,[]⟩:St)))) none) (some ((.exit 0),(⟨(.junk::.junk::.junk::(.ptr 0 0 1 0)::.junk::.junk::(.ptr 1 0 1 0)::jA138),[(.box [(.t true (.int .i64) p0),(.t true tq3 p1),(.t true (.int .i64) p2),(.t true tq6 p3),(.t true tq3 p4)]),(.box [(.t true (.int .i64) q0),(.t true tq3 q1),(.t true (.int .i64) q2),(.t true tq6 q3),(.t true tq3 q4)])],0,[]⟩:St))))
theorem rdA_lFnDecided_0:RdA G94 (fun _ _=>none) 0 body_lFnDecided_0 S_lFnDecided_0 0 [] (kepts [2] [(0,[3,6])]) (fun d=>ox_lFnDecided_0 d.1.2.2.2.2.1 d.1.2.2.2.2.2.1 d.1.2.2.2.2.2.2.2.2.2.2.2.2.2.2.2.1 d.2.1.1 d.2.1.2.1 d.2.1.2.2.1 d.2.1.2.2.2.1 d.2.1.2.2.2.2.1 d.2.2.1.1 d.2.2.1.2.1 d.2.2.1.2.2.1 d.2.2.1.2.2.2.1 d.2.2.1.2.2.2.2.1):=by
 intro d
 kernel_rfl
theorem rdB_lFnDecided_0:∀ d:S_lFnDecided_0.den,ox_lFnDecided_0 d.1.2.2.2.2.1 d.1.2.2.2.2.2.1 d.1.2.2.2.2.2.2.2.2.2.2.2.2.2.2.2.1 d.2.1.1 d.2.1.2.1 d.2.1.2.2.1 d.2.1.2.2.2.1 d.2.1.2.2.2.2.1 d.2.2.1.1 d.2.2.1.2.1 d.2.2.1.2.2.1 d.2.2.1.2.2.2.1 d.2.2.1.2.2.2.2.1=(sp_lFnDecided_0 d).opt 0 []:=by
 intro d
 kernel_rfl
noncomputable abbrev say_lFnDecided_0:St→Option Tree:=S_lFnDecided_0.say 0 [] [] (fun d=>T_lFnDecided_0 d.1.2.2.2.2.1 d.1.2.2.2.2.2.1 d.1.2.2.2.2.2.2.2.2.2.2.2.2.2.2.2.1 d.2.1.1 d.2.1.2.1 d.2.1.2.2.1 d.2.1.2.2.2.1 d.2.1.2.2.2.2.1 d.2.2.1.1 d.2.2.1.2.1 d.2.2.1.2.2.1 d.2.2.1.2.2.2.1 d.2.2.1.2.2.2.2.1)
theorem lw_lFnDecided_0:LoopWp Try.prog say_lFnDecided_0 body_lFnDecided_0:=SS.wp2 (hl0 (by kernel_rfl)) [] sp_lFnDecided_0 rdA_lFnDecided_0 rdB_lFnDecided_0 _ (fun d=>Runs.ofIt (step:=sp_lFnDecided_0) (pv_lFnDecided_0 d.2.1.1 d.2.1.2.1 d.2.1.2.2.1 d.2.1.2.2.2.1 d.2.1.2.2.2.2.1 d.2.2.1.1 d.2.2.1.2.1 d.2.2.1.2.2.1 d.2.2.1.2.2.2.1 d.2.2.1.2.2.2.2.1) (ct:=(ct_lFnDecided_0 d.2.1.1 d.2.1.2.1 d.2.1.2.2.1 d.2.1.2.2.2.1 d.2.1.2.2.2.2.1 d.2.2.1.1 d.2.2.1.2.1 d.2.2.1.2.2.1 d.2.2.1.2.2.2.1 d.2.2.1.2.2.2.2.1)) rfl (fun v=>((relB (relB (relB (relB (relB (relB (relB (relB rfl rfl) rfl) rfl) rfl) rfl) rfl) rfl) rfl):(st_lFnDecided_0 v.1 v.2.1 v.2.2 d.2.1.1 d.2.1.2.1 d.2.1.2.2.1 d.2.1.2.2.2.1 d.2.1.2.2.2.2.1 d.2.2.1.1 d.2.2.1.2.1 d.2.2.1.2.2.1 d.2.2.1.2.2.2.1 d.2.2.1.2.2.2.2.1).val=relS (pv_lFnDecided_0 d.2.1.1 d.2.1.2.1 d.2.1.2.2.1 d.2.1.2.2.2.1 d.2.1.2.2.2.2.1 d.2.2.1.1 d.2.2.1.2.1 d.2.2.1.2.2.1 d.2.2.1.2.2.2.1 d.2.2.1.2.2.2.2.1) (ct_lFnDecided_0 d.2.1.1 d.2.1.2.1 d.2.1.2.2.1 d.2.1.2.2.2.1 d.2.1.2.2.2.2.1 d.2.2.1.1 d.2.2.1.2.1 d.2.2.1.2.2.1 d.2.2.1.2.2.2.1 d.2.2.1.2.2.2.2.1) (ss_lFnDecided_0 v.1 v.2.1 v.2.2 d.2.1.1 d.2.1.2.1 d.2.1.2.2.1 d.2.1.2.2.2.1 d.2.1.2.2.2.2.1 d.2.2.1.1 d.2.2.1.2.1 d.2.2.1.2.2.1 d.2.2.1.2.2.2.1 d.2.2.1.2.2.2.2.1))) (fun a=>((cendB (cendD (by simp)) (cendB (cendD (by simp)) cendF)):CEnd _ ((ct_lFnDecided_0 d.2.1.1 d.2.1.2.1 d.2.1.2.2.1 d.2.1.2.2.2.1 d.2.1.2.2.2.2.1 d.2.2.1.1 d.2.2.1.2.1 d.2.2.1.2.2.1 d.2.2.1.2.2.2.1 d.2.2.1.2.2.2.2.1) a))) (d.1.2.2.2.2.1,d.1.2.2.2.2.2.1,d.1.2.2.2.2.2.2.2.2.2.2.2.2.2.2.2.1))
noncomputable def k1_lFnDecided (a0:List Int):=iDecide ((sDrawDecide a0).1) ((sDrawDecide a0).2.1) ((sDrawDecide a0).2.2.1) ((sDrawDecide a0).2.2.2.1) ((sDrawDecide a0).2.2.2.2.1) ((sDrawDecide a0).2.2.2.2.2.1) ((sDrawDecide a0).2.2.2.2.2.2)
noncomputable def k2_lFnDecided (a0:List Int):=sDecide ((sDrawDecide a0).1) ((sDrawDecide a0).2.1) ((sDrawDecide a0).2.2.1) ((sDrawDecide a0).2.2.2.1) ((sDrawDecide a0).2.2.2.2.1) ((sDrawDecide a0).2.2.2.2.2.1) ((sDrawDecide a0).2.2.2.2.2.2)
noncomputable def k3_lFnDecided (a0:List Int):=iOutcome ((k1_lFnDecided a0).1) ((k1_lFnDecided a0).2.1) ((k1_lFnDecided a0).2.2.1) ((k1_lFnDecided a0).2.2.2.1) ((k1_lFnDecided a0).2.2.2.2.1) ((sDrawDecide a0).2.2.2.2.2.1)
noncomputable def k4_lFnDecided (a0:List Int):=iDecide ((k1_lFnDecided a0).1) ((k1_lFnDecided a0).2.1) ((k1_lFnDecided a0).2.2.1) ((k1_lFnDecided a0).2.2.2.1) ((k1_lFnDecided a0).2.2.2.2.1) ((sDrawDecide a0).2.2.2.2.2.1) (!((sDrawDecide a0).2.2.2.2.2.2))
noncomputable def k5_lFnDecided (a0:List Int):=iDecide ((k1_lFnDecided a0).1) ((k1_lFnDecided a0).2.1) ((k1_lFnDecided a0).2.2.1) ((k1_lFnDecided a0).2.2.2.1) ((k1_lFnDecided a0).2.2.2.2.1) ((sDrawDecide a0).2.2.2.2.2.1) ((sDrawDecide a0).2.2.2.2.2.2)
noncomputable def k6_lFnDecided (a0:List Int):=iShardOk ((k1_lFnDecided a0).1) ((k1_lFnDecided a0).2.1) ((k1_lFnDecided a0).2.2.1) ((k1_lFnDecided a0).2.2.2.1) ((k1_lFnDecided a0).2.2.2.2.1)
noncomputable def k7_lFnDecided (a0:List Int):=it_lFnDecided_0 ((sDrawDecide a0).2.2.2.2.2.1) ((sDrawDecide a0).2.2.2.2.2.2) (0:Int) ((sDrawDecide a0).1) ((sDrawDecide a0).2.1) ((sDrawDecide a0).2.2.1) ((sDrawDecide a0).2.2.2.1) ((sDrawDecide a0).2.2.2.2.1) ((k1_lFnDecided a0).1) ((k1_lFnDecided a0).2.1) ((k1_lFnDecided a0).2.2.1) ((k1_lFnDecided a0).2.2.2.1) ((k1_lFnDecided a0).2.2.2.2.1)
noncomputable def lFnDecided (a0:List Int):Bool:=(cond (lbig a0) true (cond (!(((k1_lFnDecided a0).2.2.2.2.2)==((k2_lFnDecided a0).2.2.2.2.2))) (cond (((k1_lFnDecided a0).2.2.2.2.2)==((k2_lFnDecided a0).2.2.2.2.2)) (((((k1_lFnDecided a0).2.1).length:Nat):Int)==((((sDrawDecide a0).2.1).length:Nat):Int)) false) (cond (!((k1_lFnDecided a0).2.2.2.2.2)) (cond (((k1_lFnDecided a0).2.2.2.2.2)==((k2_lFnDecided a0).2.2.2.2.2)) (((((k1_lFnDecided a0).2.1).length:Nat):Int)==((((sDrawDecide a0).2.1).length:Nat):Int)) false) (cond ((k4_lFnDecided a0).2.2.2.2.2) false (cond (!((k5_lFnDecided a0).2.2.2.2.2)) false (cond (!(k6_lFnDecided a0)) false (cond ((sDrawDecide a0).2.2.2.2.2.2) (cond ((k3_lFnDecided a0) != (3:Int)) false (cond (!((sDrawDecide a0).2.2.2.2.2.2)) (cond ((k3_lFnDecided a0) != (4:Int)) false (cond ((k7_lFnDecided a0).1==0) ((k7_lFnDecided a0).2) (lsamePairs ((k1_lFnDecided a0).2.2.2.1) ((sDrawDecide a0).2.2.2.1)))) (cond ((k7_lFnDecided a0).1==0) ((k7_lFnDecided a0).2) (lsamePairs ((k1_lFnDecided a0).2.2.2.1) ((sDrawDecide a0).2.2.2.1))))) (cond (!((sDrawDecide a0).2.2.2.2.2.2)) (cond ((k3_lFnDecided a0) != (4:Int)) false (cond ((k7_lFnDecided a0).1==0) ((k7_lFnDecided a0).2) (lsamePairs ((k1_lFnDecided a0).2.2.2.1) ((sDrawDecide a0).2.2.2.1)))) (cond ((k7_lFnDecided a0).1==0) ((k7_lFnDecided a0).2) (lsamePairs ((k1_lFnDecided a0).2.2.2.1) ((sDrawDecide a0).2.2.2.1)))))))))))
noncomputable abbrev e_lFnDecided (r:Bool):AV×List AObj:=((.t true .bool r),[])
noncomputable abbrev F_lFnDecided (r:Bool):=some (e_lFnDecided r)
noncomputable abbrev g_lFnDecided:pshsDen P_lFnDecided→AV×List AObj:=fun d=>e_lFnDecided (lFnDecided d.1)
noncomputable def q_lFnDecided (a0:List Int):Bool:=cond (lbig a0) true ((q_sDrawDecide a0)&&((q_iDecide ((sDrawDecide a0).1) ((sDrawDecide a0).2.1) ((sDrawDecide a0).2.2.1) ((sDrawDecide a0).2.2.2.1) ((sDrawDecide a0).2.2.2.2.1) ((sDrawDecide a0).2.2.2.2.2.1) ((sDrawDecide a0).2.2.2.2.2.2))&&((q_sDecide ((sDrawDecide a0).1) ((sDrawDecide a0).2.1) ((sDrawDecide a0).2.2.1) ((sDrawDecide a0).2.2.2.1) ((sDrawDecide a0).2.2.2.2.1) ((sDrawDecide a0).2.2.2.2.2.1) ((sDrawDecide a0).2.2.2.2.2.2))&&(cond (!(((k1_lFnDecided a0).2.2.2.2.2)==((k2_lFnDecided a0).2.2.2.2.2))) true (cond (!((k1_lFnDecided a0).2.2.2.2.2)) true ((q_iOutcome ((k1_lFnDecided a0).1) ((k1_lFnDecided a0).2.1) ((k1_lFnDecided a0).2.2.1) ((k1_lFnDecided a0).2.2.2.1) ((k1_lFnDecided a0).2.2.2.2.1) ((sDrawDecide a0).2.2.2.2.2.1))&&((q_iDecide ((k1_lFnDecided a0).1) ((k1_lFnDecided a0).2.1) ((k1_lFnDecided a0).2.2.1) ((k1_lFnDecided a0).2.2.2.1) ((k1_lFnDecided a0).2.2.2.2.1) ((sDrawDecide a0).2.2.2.2.2.1) (!((sDrawDecide a0).2.2.2.2.2.2)))&&((q_iDecide ((k1_lFnDecided a0).1) ((k1_lFnDecided a0).2.1) ((k1_lFnDecided a0).2.2.1) ((k1_lFnDecided a0).2.2.2.1) ((k1_lFnDecided a0).2.2.2.2.1) ((sDrawDecide a0).2.2.2.2.2.1) ((sDrawDecide a0).2.2.2.2.2.2))&&(cond ((k4_lFnDecided a0).2.2.2.2.2) true (cond (!((k5_lFnDecided a0).2.2.2.2.2)) true ((q_iShardOk ((k1_lFnDecided a0).1) ((k1_lFnDecided a0).2.1) ((k1_lFnDecided a0).2.2.1) ((k1_lFnDecided a0).2.2.2.1) ((k1_lFnDecided a0).2.2.2.2.1))&&(cond (!(k6_lFnDecided a0)) true (cond ((sDrawDecide a0).2.2.2.2.2.2) (cond ((k3_lFnDecided a0) != (3:Int)) true (cond (!((sDrawDecide a0).2.2.2.2.2.2)) (cond ((k3_lFnDecided a0) != (4:Int)) true (cond ((k7_lFnDecided a0).1==0) true (((k7_lFnDecided a0).1==1)&&(q_lsamePairs ((k1_lFnDecided a0).2.2.2.1) ((sDrawDecide a0).2.2.2.1))))) (cond ((k7_lFnDecided a0).1==0) true (((k7_lFnDecided a0).1==1)&&(q_lsamePairs ((k1_lFnDecided a0).2.2.2.1) ((sDrawDecide a0).2.2.2.1)))))) (cond (!((sDrawDecide a0).2.2.2.2.2.2)) (cond ((k3_lFnDecided a0) != (4:Int)) true (cond ((k7_lFnDecided a0).1==0) true (((k7_lFnDecided a0).1==1)&&(q_lsamePairs ((k1_lFnDecided a0).2.2.2.1) ((sDrawDecide a0).2.2.2.1))))) (cond ((k7_lFnDecided a0).1==0) true (((k7_lFnDecided a0).1==1)&&(q_lsamePairs ((k1_lFnDecided a0).2.2.2.1) ((sDrawDecide a0).2.2.2.1))))))))))))))))))
noncomputable abbrev pre_lFnDecided:pshsDen P_lFnDecided→Bool:=fun d=>q_lFnDecided d.1
noncomputable abbrev L_lFnDecided:Nat→St→Option Tree:=fun b=>match b with | 0=>say_lFnDecided_0 | _=>fun _=>none
theorem run_lFnDecided:RunP true G94 (L_lFnDecided) Try.f7 P_lFnDecided pre_lFnDecided g_lFnDecided:=by
 rintro ⟨a0,_⟩ hp
 change q_lFnDecided a0=true at hp
 unfold q_lFnDecided at hp
 refine Eq.trans (b:=(cond (lbig a0) (some (e_lFnDecided true)) (cond (q_sDrawDecide a0) (cond (q_iDecide ((sDrawDecide a0).1) ((sDrawDecide a0).2.1) ((sDrawDecide a0).2.2.1) ((sDrawDecide a0).2.2.2.1) ((sDrawDecide a0).2.2.2.2.1) ((sDrawDecide a0).2.2.2.2.2.1) ((sDrawDecide a0).2.2.2.2.2.2)) (cond (q_sDecide ((sDrawDecide a0).1) ((sDrawDecide a0).2.1) ((sDrawDecide a0).2.2.1) ((sDrawDecide a0).2.2.2.1) ((sDrawDecide a0).2.2.2.2.1) ((sDrawDecide a0).2.2.2.2.2.1) ((sDrawDecide a0).2.2.2.2.2.2)) (cond (!(((k1_lFnDecided a0).2.2.2.2.2)==((k2_lFnDecided a0).2.2.2.2.2))) (cond (((k1_lFnDecided a0).2.2.2.2.2)==((k2_lFnDecided a0).2.2.2.2.2)) (some (e_lFnDecided (((((k1_lFnDecided a0).2.1).length:Nat):Int)==((((sDrawDecide a0).2.1).length:Nat):Int)))) (some (e_lFnDecided false))) (cond (!((k1_lFnDecided a0).2.2.2.2.2)) (cond (((k1_lFnDecided a0).2.2.2.2.2)==((k2_lFnDecided a0).2.2.2.2.2)) (some (e_lFnDecided (((((k1_lFnDecided a0).2.1).length:Nat):Int)==((((sDrawDecide a0).2.1).length:Nat):Int)))) (some (e_lFnDecided false))) (cond (q_iOutcome ((k1_lFnDecided a0).1) ((k1_lFnDecided a0).2.1) ((k1_lFnDecided a0).2.2.1) ((k1_lFnDecided a0).2.2.2.1) ((k1_lFnDecided a0).2.2.2.2.1) ((sDrawDecide a0).2.2.2.2.2.1)) (cond (q_iDecide ((k1_lFnDecided a0).1) ((k1_lFnDecided a0).2.1) ((k1_lFnDecided a0).2.2.1) ((k1_lFnDecided a0).2.2.2.1) ((k1_lFnDecided a0).2.2.2.2.1) ((sDrawDecide a0).2.2.2.2.2.1) (!((sDrawDecide a0).2.2.2.2.2.2))) (cond (q_iDecide ((k1_lFnDecided a0).1) ((k1_lFnDecided a0).2.1) ((k1_lFnDecided a0).2.2.1) ((k1_lFnDecided a0).2.2.2.1) ((k1_lFnDecided a0).2.2.2.2.1) ((sDrawDecide a0).2.2.2.2.2.1) ((sDrawDecide a0).2.2.2.2.2.2)) (cond ((k4_lFnDecided a0).2.2.2.2.2) (some (e_lFnDecided false)) (cond (!((k5_lFnDecided a0).2.2.2.2.2)) (some (e_lFnDecided false)) (cond (q_iShardOk ((k1_lFnDecided a0).1) ((k1_lFnDecided a0).2.1) ((k1_lFnDecided a0).2.2.1) ((k1_lFnDecided a0).2.2.2.1) ((k1_lFnDecided a0).2.2.2.2.1)) (cond (!(k6_lFnDecided a0)) (some (e_lFnDecided false)) (cond ((sDrawDecide a0).2.2.2.2.2.2) (cond ((k3_lFnDecided a0) != (3:Int)) (some (e_lFnDecided false)) (cond (!((sDrawDecide a0).2.2.2.2.2.2)) (cond ((k3_lFnDecided a0) != (4:Int)) (some (e_lFnDecided false)) (cond ((k7_lFnDecided a0).1==0) (some (e_lFnDecided ((k7_lFnDecided a0).2))) (cond ((k7_lFnDecided a0).1==1) (cond (q_lsamePairs ((k1_lFnDecided a0).2.2.2.1) ((sDrawDecide a0).2.2.2.1)) (some (e_lFnDecided (lsamePairs ((k1_lFnDecided a0).2.2.2.1) ((sDrawDecide a0).2.2.2.1)))) none) none))) (cond ((k7_lFnDecided a0).1==0) (some (e_lFnDecided ((k7_lFnDecided a0).2))) (cond ((k7_lFnDecided a0).1==1) (cond (q_lsamePairs ((k1_lFnDecided a0).2.2.2.1) ((sDrawDecide a0).2.2.2.1)) (some (e_lFnDecided (lsamePairs ((k1_lFnDecided a0).2.2.2.1) ((sDrawDecide a0).2.2.2.1)))) none) none)))) (cond (!((sDrawDecide a0).2.2.2.2.2.2)) (cond ((k3_lFnDecided a0) != (4:Int)) (some (e_lFnDecided false)) (cond ((k7_lFnDecided a0).1==0) (some (e_lFnDecided ((k7_lFnDecided a0).2))) (cond ((k7_lFnDecided a0).1==1) (cond (q_lsamePairs ((k1_lFnDecided a0).2.2.2.1) ((sDrawDecide a0).2.2.2.1)) (some (e_lFnDecided (lsamePairs ((k1_lFnDecided a0).2.2.2.1) ((sDrawDecide a0).2.2.2.1)))) none) none))) (cond ((k7_lFnDecided a0).1==0) (some (e_lFnDecided ((k7_lFnDecided a0).2))) (cond ((k7_lFnDecided a0).1==1) (cond (q_lsamePairs ((k1_lFnDecided a0).2.2.2.1) ((sDrawDecide a0).2.2.2.1)) (some (e_lFnDecided (lsamePairs ((k1_lFnDecided a0).2.2.2.1) ((sDrawDecide a0).2.2.2.1)))) none) none))))) none))) none) none) none))) none) none) none))) (by kernel_rfl) ?_
 exact (cndQ (F:=F_lFnDecided) hp (fun hp=>rfl) (fun hp=>(cndA hp fun hp=>(cndA hp fun hp=>(cndA hp fun hp=>(cndQ (F:=F_lFnDecided) hp (fun hp=>(cnd (F:=F_lFnDecided) (fun _h=>rfl) (fun _h=>rfl))) (fun hp=>(cndQ (F:=F_lFnDecided) hp (fun hp=>(cnd (F:=F_lFnDecided) (fun _h=>rfl) (fun _h=>rfl))) (fun hp=>(cndA hp fun hp=>(cndA hp fun hp=>(cndA hp fun hp=>(cndQ (F:=F_lFnDecided) hp (fun hp=>rfl) (fun hp=>(cndQ (F:=F_lFnDecided) hp (fun hp=>rfl) (fun hp=>(cndA hp fun hp=>(cndQ (F:=F_lFnDecided) hp (fun hp=>rfl) (fun hp=>(cndQ (F:=F_lFnDecided) hp (fun hp=>(cndQ (F:=F_lFnDecided) hp (fun hp=>rfl) (fun hp=>(cndQ (F:=F_lFnDecided) hp (fun hp=>(cndQ (F:=F_lFnDecided) hp (fun hp=>rfl) (fun hp=>(cndQ (F:=F_lFnDecided) hp (fun hp=>rfl) (fun hp=>(cndA hp fun hp=>(cndT hp fun _h=>rfl))))))) (fun hp=>(cndQ (F:=F_lFnDecided) hp (fun hp=>rfl) (fun hp=>(cndA hp fun hp=>(cndT hp fun _h=>rfl))))))))) (fun hp=>(cndQ (F:=F_lFnDecided) hp (fun hp=>(cndQ (F:=F_lFnDecided) hp (fun hp=>rfl) (fun hp=>(cndQ (F:=F_lFnDecided) hp (fun hp=>rfl) (fun hp=>(cndA hp fun hp=>(cndT hp fun _h=>rfl))))))) (fun hp=>(cndQ (F:=F_lFnDecided) hp (fun hp=>rfl) (fun hp=>(cndA hp fun hp=>(cndT hp fun _h=>rfl)))))))))))))))))))))))))))
theorem c_lFnDecided:PContract Try.prog 7 (sumOf P_lFnDecided pre_lFnDecided g_lFnDecided):=PContract.of_data true G94 (by kernel_rfl) (hl1 (i:=0) (by kernel_rfl) lw_lFnDecided_0) _ _ _ run_lFnDecided
noncomputable def S95:Tab:=Tab.add S94 7 (lift (sumOf P_lFnDecided pre_lFnDecided g_lFnDecided))
noncomputable def QF95:FuncId→Bool:=qadd QF94 7
theorem G95:Good Try.prog tt S95 QF95:=G94.addQ c_lFnDecided ⟨Try.f7,by kernel_rfl,by kernel_rfl,by kernel_rfl⟩ (fun _=>rfl)
noncomputable abbrev RecD:=(Int)×(Int)×Lq2
noncomputable abbrev ShardD:=(Int)×(List RecD)×(Int)×(LBBe)×List RecD
noncomputable def okOpS (l:Lq2):Prop:=okOps l=true
noncomputable def okRec (x:RecD):Prop:=okOpS x.2.2
noncomputable def okRecS (l:List RecD):Prop:=l.length≤1048576∧∀ x∈l,okRec x
noncomputable abbrev PairD:=ByteArray×ByteArray
noncomputable def keyAny (k:ByteArray) (ops:Lq2):Bool:=ops.any fun x=>k.toList==x.2.1.toList
noncomputable def keysAny (l ops:Lq2):Bool:=l.any fun o=>keyAny o.2.1 ops
/-- Has one that is held a key of orders? -/
noncomputable def lockedL (held:List RecD) (ops:Lq2):Bool:=held.any fun r=>keysAny r.2.2 ops
/-- Does an order say must, and is it not so? -/
noncomputable def misses (m:LBBe) (o:Int×ByteArray×ByteArray):Bool:=cond (o.1 != 3) false (cond (!((sGetKey m o.2.1).2==(!(o.2.2.toList==bE.toList)))) true (!((sGetKey m o.2.1).1.toList==o.2.2.toList)))
noncomputable def meetsL (m:LBBe) (ops:Lq2):Bool:=!(ops.any (misses m))
noncomputable def isTx (t:Int) (r:RecD):Bool:=r.2.1==t
noncomputable def dRec:RecD:=((0:Int),((0:Int),([]:Lq2)))
noncomputable def isK (k:ByteArray) (p:ByteArray×ByteArray):Bool:=p.1.toList==k.toList
noncomputable def dP:ByteArray×ByteArray:=(bE,bE)
noncomputable def overK (k:ByteArray) (p:ByteArray×ByteArray):Bool:=!(Op.bytesLess p.1.toList k.toList||p.1.toList==k.toList)
noncomputable def putL (l:LBBe) (k v:ByteArray):LBBe :=
 cond (decide (l.findIdx (isK k)<l.length)) (l.set (l.findIdx (isK k)) ((l.getD (l.findIdx (isK k)) dP).1,v)) (l.take (l.findIdx (overK k))++((k,v)::l.drop (l.findIdx (overK k))))
noncomputable def delL (l:LBBe) (k:ByteArray):LBBe:=l.filter fun p=>!isK k p
noncomputable def appL (l:LBBe) (o:Int×ByteArray×ByteArray):LBBe:=cond (o.1==1) (putL l o.2.1 o.2.2) (cond (o.1==2) (delL l o.2.1) l)
/-- One record more; none where it does not fit. -/
noncomputable def stepL (kn:Bool) (m:List PairD) (held:List RecD) (r:RecD):Option (List PairD×List RecD) :=
 cond (!(sRecOk r.1 r.2.1 r.2.2)) none (cond (r.1==1)
  (cond kn none (cond (lockedL held r.2.2) none (cond (!(meetsL m r.2.2)) none (some (m,held++[((1:Int),(r.2.1,r.2.2))])))))
  (cond (!(held.any (isTx r.2.1))) (cond (r.1==3) (cond kn none (some (m,held))) none)
   (cond (r.1==2) (cond (decide (((((held.getD (held.findIdx (isTx r.2.1)) dRec).2.2.foldl appL m).length:Nat):Int)≤60)) (some ((held.getD (held.findIdx (isTx r.2.1)) dRec).2.2.foldl appL m,held.eraseIdx (held.findIdx (isTx r.2.1)))) none)
    (cond (decide (((m.length:Nat):Int)≤60)) (some (m,held.eraseIdx (held.findIdx (isTx r.2.1)))) none))))
/-- What the first i records make. -/
noncomputable def repL (l:List RecD):Nat→Option (List PairD×List RecD)
 | 0=>some ([],[])
 | i+1=>(repL l i).bind fun s=>stepL ((l.take i).any (isTx (l.getD i dRec).2.1)) s.1 s.2 (l.getD i dRec)
/-- A shard that is right: by its log. -/
noncomputable abbrev RightS (x:ShardD):Prop:=(0≤x.1∧x.1≤7)∧(0≤x.2.2.1∧x.2.2.1≤((x.2.1.length:Nat):Int))∧((x.2.1.length:Nat):Int)+((x.2.2.2.2.length:Nat):Int)≤300∧repL x.2.1 x.2.1.length=some (x.2.2.2.1,x.2.2.2.2)
/-- What came of one that is not held. -/
noncomputable def ofK (k:Int):Int:=cond (k==0) 2 (cond (k==2) 3 4)
/-- The last kind of a transaction in a log; 0: it has none. -/
noncomputable def lastK (l:List RecD) (t:Int):Int:=l.foldl (fun k r=>cond (isTx t r) r.1 k) 0
/-- What came of a transaction at a right shard. -/
noncomputable def outOf (x:ShardD) (t:Int):Int:=cond (x.2.2.2.2.any (isTx t)) 1 (ofK (lastK x.2.1 t))
/-- What the orders of one that is held make. -/
noncomputable def doneM (m:List PairD) (held:List RecD) (t:Int):List PairD:=(held.getD (held.findIdx (isTx t)) dRec).2.2.foldl appL m
noncomputable def decideF (x:ShardD) (t:Int) (yes:Bool):Bool×ShardD :=
 cond (!(sl1In t 1 1000000)) (false,x)
  (cond (outOf x t==1) (true,(x.1,x.2.1++[(cond yes 2 3,(t,[]))],x.2.2.1,cond yes (doneM x.2.2.2.1 x.2.2.2.2 t) x.2.2.2.1,x.2.2.2.2.eraseIdx (x.2.2.2.2.findIdx (isTx t))))
   (cond (outOf x t==3) (yes,x) (cond (outOf x t==4) (!yes,x) (cond yes (false,x) (cond (decide (((x.2.1.length:Nat):Int)+((x.2.2.2.2.length:Nat):Int) ≥ 300)) (false,x)
    (true,(x.1,x.2.1++[((3:Int),(t,[]))],x.2.2.1,x.2.2.2.1,x.2.2.2.2)))))))
/-- No two of a transaction. -/
noncomputable def oneTx (l:List RecD):Prop:=(l.map (·.2.1)).Nodup
noncomputable abbrev RepOk (l:List RecD) (i:Nat) (m:List PairD) (held:List RecD):Prop:=oneTx held∧(∀ x∈held,okOps x.2.2=true∧(l.take i).any (isTx x.2.1)=true)∧held.length≤i∧m.length≤60
theorem take_succ_getD {α:Type} {l:List α} {i:Nat} (hi:i<l.length) (d:α):l.take (i+1)=l.take i++[l.getD i d]:=by
 rw [List.take_add_one,List.getElem?_eq_getElem hi];simp [List.getD_eq_getElem?_getD,hi]
theorem any_mono {l:List RecD} {i:Nat} {t:Int} (h:(l.take i).any (isTx t)=true):(l.take (i+1)).any (isTx t)=true:=by
 obtain ⟨x,hx,hp⟩:=List.any_eq_true.1 h
 exact List.any_eq_true.2 ⟨x,List.mem_of_mem_take (i:=i) (by rw [List.take_take,Nat.min_eq_left (by omega)];exact hx),hp⟩
theorem getD_mem {α:Type} {l:List α} {i:Nat} (h:i<l.length) (d:α):l.getD i d∈l:=by
 simp [List.getD_eq_getElem?_getD,h]
theorem RepOk.hone {l:List RecD} {i:Nat} {m:List PairD} {held:List RecD} (h:RepOk l i m held):oneTx held:=h.1
theorem RepOk.hmem {l:List RecD} {i:Nat} {m:List PairD} {held:List RecD} (h:RepOk l i m held):∀ x∈held,okOps x.2.2=true∧(l.take i).any (isTx x.2.1)=true:=h.2.1
theorem RepOk.hlen {l:List RecD} {i:Nat} {m:List PairD} {held:List RecD} (h:RepOk l i m held):held.length≤i:=h.2.2.1
theorem RepOk.hml {l:List RecD} {i:Nat} {m:List PairD} {held:List RecD} (h:RepOk l i m held):m.length≤60:=h.2.2.2
theorem step_ok {l:List RecD} {i:Nat} {m m':List PairD} {held h':List RecD} (hi:i<l.length) (hr:∀ x∈l,okOps x.2.2=true) (I:RepOk l i m held) (h:stepL ((l.take i).any (isTx (l.getD i dRec).2.1)) m held (l.getD i dRec)=some (m', h')):RepOk l (i+1) m' h':=by
 have hx:(l.take (i+1)).any (isTx (l.getD i dRec).2.1)=true:=by
  refine List.any_eq_true.2 ⟨l.getD i dRec,?_,by simp [isTx]⟩
  rw [take_succ_getD hi dRec];simp
 have sub:∀ k,RepOk l (i+1) m (held.eraseIdx k):=fun k=>by
  have hsub:(held.eraseIdx k).Sublist held:=List.eraseIdx_sublist _ _
  exact ⟨List.Nodup.sublist (hsub.map _) I.hone,fun x hx=>⟨(I.hmem x (hsub.subset hx)).1,any_mono (I.hmem x (hsub.subset hx)).2⟩,by have:=hsub.length_le;have:=I.hlen;omega,I.hml⟩
 simp only [stepL] at h
 cases hok:sRecOk (l.getD i dRec).1 (l.getD i dRec).2.1 (l.getD i dRec).2.2 with
 | false=>rw [hok] at h;simp at h
 | true =>
  simp only [hok,Bool.not_true,cond_false] at h
  cases hk:((l.getD i dRec).1==1) with
  | true =>
   simp only [hk,cond_true] at h
   cases hkn:(l.take i).any (isTx (l.getD i dRec).2.1) with
   | true=>rw [hkn] at h;simp at h
   | false =>
    rw [hkn] at h
    cases hlk:lockedL held (l.getD i dRec).2.2 with
    | true=>rw [hlk] at h;simp at h
    | false =>
     rw [hlk] at h
     cases hmt:meetsL m (l.getD i dRec).2.2 with
     | false=>rw [hmt] at h;simp at h
     | true =>
      rw [hmt] at h
      simp only [Bool.not_true,cond_false,Option.some.injEq,Prod.mk.injEq] at h
      obtain ⟨rfl,rfl⟩:=h
      refine ⟨?_,fun x hm=>?_,by rw [List.length_append];have:=I.hlen;simp;omega,I.hml⟩
      ·simp only [oneTx,List.map_append,List.map_cons,List.map_nil]
       rw [List.nodup_append]
       refine ⟨I.hone,by simp,fun a ha b hb=>?_⟩
       simp only [List.mem_singleton] at hb
       subst hb
       intro e
       obtain ⟨x,hx1,hx2⟩:=List.mem_map.1 ha
       have:=(I.hmem x hx1).2
       rw [show x.2.1=(l.getD i dRec).2.1 from hx2.trans e,hkn] at this
       cases this
      ·rcases List.mem_append.1 hm with hm | hm
       ·exact ⟨(I.hmem x hm).1,any_mono (I.hmem x hm).2⟩
       ·simp only [List.mem_singleton] at hm
        subst hm
        have hq:=hr _ (getD_mem hi dRec)
        exact ⟨hq,hx⟩
  | false =>
   simp only [hk,cond_false] at h
   cases ha:held.any (isTx (l.getD i dRec).2.1) with
   | false =>
    simp only [ha,Bool.not_false,cond_true] at h
    cases h3:((l.getD i dRec).1==3) with
    | false=>rw [h3] at h;simp at h
    | true =>
     rw [h3] at h
     cases hkn:(l.take i).any (isTx (l.getD i dRec).2.1) with
     | true=>rw [hkn] at h;simp at h
     | false =>
      rw [hkn] at h
      simp only [cond_true,cond_false,Option.some.injEq,Prod.mk.injEq] at h
      obtain ⟨rfl,rfl⟩:=h
      exact ⟨I.hone,fun x hx=>⟨(I.hmem x hx).1,any_mono (I.hmem x hx).2⟩,by have:=I.hlen;omega,I.hml⟩
   | true =>
    simp only [ha,Bool.not_true,cond_false] at h
    cases h2:((l.getD i dRec).1==2) with
    | true =>
     simp only [h2,cond_true] at h
     by_cases hc:((((held.getD (held.findIdx (isTx (l.getD i dRec).2.1)) dRec).2.2.foldl appL m).length:Nat):Int)≤60
     ·rw [decide_eq_true hc] at h
      simp only [cond_true,Option.some.injEq,Prod.mk.injEq] at h
      obtain ⟨rfl,rfl⟩:=h
      have:=sub (held.findIdx (isTx (l.getD i dRec).2.1))
      exact ⟨this.hone,this.hmem,this.hlen,by omega⟩
     ·rw [decide_eq_false hc] at h;simp at h
    | false =>
     simp only [h2,cond_false] at h
     by_cases hc:((m.length:Nat):Int)≤60
     ·rw [decide_eq_true hc] at h
      simp only [cond_true,Option.some.injEq,Prod.mk.injEq] at h
      obtain ⟨rfl,rfl⟩:=h
      exact sub _
     ·rw [decide_eq_false hc] at h;simp at h
theorem rep_ok {l:List RecD} (hr:∀ x∈l,okOps x.2.2=true):∀ i,i≤l.length→∀ m held,repL l i=some (m,held)→RepOk l i m held:=by
 intro i
 induction i with
 | zero =>
  intro _ m held h
  simp only [repL,Option.some.injEq,Prod.mk.injEq] at h
  obtain ⟨rfl,rfl⟩:=h
  exact ⟨by simp [oneTx],fun x hx=>by simp at hx,by simp,by simp⟩
 | succ i ih =>
  intro hi m held h
  simp only [repL] at h
  cases hp:repL l i with
  | none=>rw [hp] at h;cases h
  | some s =>
   rw [hp] at h
   exact step_ok (by omega) hr (ih (by omega) s.1 s.2 (by rw [hp])) h
theorem okRecS_ops {l:List RecD} (h:okRecS l):∀ x∈l,okOps x.2.2=true:=fun x hx=>h.2 x hx
theorem right_rep {x:ShardD} (h1:okRecS x.2.1) (hr:RightS x):RepOk x.2.1 x.2.1.length x.2.2.2.1 x.2.2.2.2:=rep_ok (okRecS_ops h1) _ (Nat.le_refl _) _ _ hr.2.2.2
theorem recOk_kind {r:RecD} (h:sRecOk r.1 r.2.1 r.2.2=true):r.1=1∨r.1=2∨r.1=3:=by
 simp only [sRecOk] at h
 cases h1:(r.1==1) with
 | true=>exact .inl (beq_iff_eq.1 h1)
 | false =>
  cases h2:(r.1==2) with
  | true=>exact .inr (.inl (beq_iff_eq.1 h2))
  | false =>
   cases h3:(r.1==3) with
   | true=>exact .inr (.inr (beq_iff_eq.1 h3))
   | false=>rw [h1,h2,h3] at h;revert h;cases sl1In r.2.1 1 1000000<;>simp
theorem lastK_snoc (l:List RecD) (r:RecD) (t:Int):lastK (l++[r]) t=cond (isTx t r) r.1 (lastK l t):=by simp [lastK]
theorem oneTx_eq {l:List RecD} (h:oneTx l) {i j:Nat} (hi:i<l.length) (hj:j<l.length) (e:(l.getD i dRec).2.1=(l.getD j dRec).2.1):i=j:=by
 have hg:∀ k (hk:k<l.length),(l.getD k dRec).2.1=(l.map (·.2.1))[k]'(by simpa using hk):=fun k hk=>by simp [List.getD_eq_getElem?_getD,hk]
 rw [hg i hi,hg j hj] at e
 exact (List.getElem_inj h).1 e
theorem any_erase {h:List RecD} (h1:oneTx h) (s t:Int) (ha:h.any (isTx s)=true):(h.eraseIdx (h.findIdx (isTx s))).any (isTx t)=cond (t==s) false (h.any (isTx t)):=by
 have hlt:=List.findIdx_lt_length.2 (List.any_eq_true.1 ha)
 have hs:(h.getD (h.findIdx (isTx s)) dRec).2.1=s:=by
  have:=List.findIdx_getElem (w:=hlt)
  rw [List.getD_eq_getElem?_getD,List.getElem?_eq_getElem hlt]
  exact beq_iff_eq.1 this
 generalize h.findIdx (isTx s)=k at hlt hs
 have gd:∀ j (hj:j<h.length),h.getD j dRec=h[j]:=fun j hj=>by rw [List.getD_eq_getElem?_getD,List.getElem?_eq_getElem hj];rfl
 cases hts:(t==s) with
 | true =>
  obtain rfl:t=s:=beq_iff_eq.1 hts
  simp only [cond_true]
  cases hc:(h.eraseIdx k).any (isTx t) with
  | false=>rfl
  | true =>
   obtain ⟨x,hx,hp⟩:=List.any_eq_true.1 hc
   obtain ⟨j,hj,hne,e⟩:=List.mem_eraseIdx_iff_getElem.1 hx
   have:=oneTx_eq h1 hj hlt (by rw [gd j hj,e,hs];exact beq_iff_eq.1 hp)
   exact absurd this hne
 | false =>
  simp only [cond_false]
  have hne:t ≠ s:=by simpa using hts
  cases hb:h.any (isTx t) with
  | true =>
   obtain ⟨x,hx,hp⟩:=List.any_eq_true.1 hb
   obtain ⟨j,hj,e⟩:=List.mem_iff_getElem.1 hx
   refine List.any_eq_true.2 ⟨x,List.mem_eraseIdx_iff_getElem.2 ⟨j,hj,?_,e⟩,hp⟩
   rintro rfl
   rw [gd j hj,e] at hs
   exact hne ((beq_iff_eq.1 (show (x.2.1==t)=true from hp)).symm.trans hs)
  | false =>
   cases hc:(h.eraseIdx k).any (isTx t) with
   | false=>rfl
   | true =>
    obtain ⟨x,hx,hp⟩:=List.any_eq_true.1 hc
    rw [List.any_eq_true.2 ⟨x,List.mem_of_mem_eraseIdx hx,hp⟩] at hb
    cases hb
theorem any_snoc (l:List RecD) (r:RecD) (t:Int):(l++[r]).any (isTx t)=(l.any (isTx t)||isTx t r):=by simp
/-- Held are those whose last record holds. -/
theorem step_last {kn:Bool} {m m':List PairD} {held h':List RecD} {r:RecD} {l:List RecD} (h1:oneTx held) (hh:∀ t,held.any (isTx t)=(lastK l t==1)) (h:stepL kn m held r=some (m', h')) :
  (r.1=1∨r.1=2∨r.1=3)∧∀ t,h'.any (isTx t)=(lastK (l++[r]) t==1):=by
 simp only [stepL] at h
 cases hok:sRecOk r.1 r.2.1 r.2.2 with
 | false=>rw [hok] at h;simp at h
 | true =>
  have hkd:=recOk_kind hok
  refine ⟨hkd,fun t=>?_⟩
  rw [lastK_snoc]
  simp only [hok,Bool.not_true,cond_false] at h
  have keep:∀ b:Bool,r.1 ≠ 1→held.any (isTx r.2.1)=false→held.any (isTx t)=(cond (isTx t r) r.1 (lastK l t)==1):=fun _ hne ha=>by
   cases hi:isTx t r with
   | false=>exact hh t
   | true =>
    obtain rfl:r.2.1=t:=beq_iff_eq.1 hi
    rw [ha]
    exact (beq_eq_false_iff_ne.2 hne).symm
  have gone:r.1 ≠ 1→held.any (isTx r.2.1)=true→(held.eraseIdx (held.findIdx (isTx r.2.1))).any (isTx t)=(cond (isTx t r) r.1 (lastK l t)==1):=fun hne ha=>by
   rw [any_erase h1 _ t ha]
   cases hi:isTx t r with
   | false =>
    have:(t==r.2.1)=false:=by
     have:(r.2.1==t)=false:=hi
     rw [beq_eq_false_iff_ne] at this ⊢
     exact fun e=>this e.symm
    rw [this];exact hh t
   | true =>
    obtain rfl:r.2.1=t:=beq_iff_eq.1 hi
    rw [beq_self_eq_true]
    exact (beq_eq_false_iff_ne.2 hne).symm
  cases hk:(r.1==1) with
  | true =>
   have hk1:r.1=1:=beq_iff_eq.1 hk
   simp only [hk,cond_true] at h
   cases kn with
   | true=>simp at h
   | false =>
    cases hlk:lockedL held r.2.2 with
    | true=>rw [hlk] at h;simp at h
    | false =>
     rw [hlk] at h
     cases hmt:meetsL m r.2.2 with
     | false=>rw [hmt] at h;simp at h
     | true =>
      rw [hmt] at h
      simp only [Bool.not_true,cond_false,Option.some.injEq,Prod.mk.injEq] at h
      obtain ⟨rfl,rfl⟩:=h
      rw [any_snoc,hh t]
      show (lastK l t==1||isTx t r)=_
      cases isTx t r with
      | false=>simp
      | true=>rw [hk1];simp
  | false =>
   have hne:r.1 ≠ 1:=by simpa using hk
   simp only [hk,cond_false] at h
   cases ha:held.any (isTx r.2.1) with
   | false =>
    simp only [ha,Bool.not_false,cond_true] at h
    cases h3:(r.1==3) with
    | false=>rw [h3] at h;simp at h
    | true =>
     rw [h3] at h
     cases kn with
     | true=>simp at h
     | false =>
      simp only [cond_true,cond_false,Option.some.injEq,Prod.mk.injEq] at h
      obtain ⟨rfl,rfl⟩:=h
      exact keep true hne ha
   | true =>
    simp only [ha,Bool.not_true,cond_false] at h
    cases h2:(r.1==2) with
    | true =>
     simp only [h2,cond_true] at h
     by_cases hc:((((held.getD (held.findIdx (isTx r.2.1)) dRec).2.2.foldl appL m).length:Nat):Int)≤60
     ·rw [decide_eq_true hc] at h
      simp only [cond_true,Option.some.injEq,Prod.mk.injEq] at h
      obtain ⟨rfl,rfl⟩:=h
      exact gone hne ha
     ·rw [decide_eq_false hc] at h;simp at h
    | false =>
     simp only [h2,cond_false] at h
     by_cases hc:((m.length:Nat):Int)≤60
     ·rw [decide_eq_true hc] at h
      simp only [cond_true,Option.some.injEq,Prod.mk.injEq] at h
      obtain ⟨rfl,rfl⟩:=h
      exact gone hne ha
     ·rw [decide_eq_false hc] at h;simp at h
theorem rep_last {l:List RecD} (hr:∀ x∈l,okOps x.2.2=true):∀ i,i≤l.length→∀ m held,repL l i=some (m,held)→(∀ x∈l.take i,x.1=1∨x.1=2∨x.1=3)∧∀ t,held.any (isTx t)=(lastK (l.take i) t==1):=by
 intro i
 induction i with
 | zero =>
  intro _ m held h
  simp only [repL,Option.some.injEq,Prod.mk.injEq] at h
  obtain ⟨rfl,rfl⟩:=h
  exact ⟨fun x hx=>by simp at hx,fun t=>rfl⟩
 | succ i ih =>
  intro hi m held h
  simp only [repL] at h
  cases hp:repL l i with
  | none=>rw [hp] at h;cases h
  | some s =>
   rw [hp] at h
   obtain ⟨k1,k2⟩:=ih (by omega) s.1 s.2 (by rw [hp])
   have I:=rep_ok hr i (by omega) s.1 s.2 (by rw [hp])
   have e:l.take (i+1)=l.take i++[l.getD i dRec]:=take_succ_getD (by omega) dRec
   obtain ⟨o1,o2⟩:=step_last I.hone k2 h
   rw [e]
   refine ⟨fun x hx=>?_,o2⟩
   rcases List.mem_append.1 hx with hx | hx
   ·exact k1 x hx
   ·rw [List.mem_singleton.1 hx];exact o1
theorem right_last {x:ShardD} (hl:okRecS x.2.1) (h:RightS x):(∀ r∈x.2.1,r.1=1∨r.1=2∨r.1=3)∧∀ t,x.2.2.2.2.any (isTx t)=(lastK x.2.1 t==1):=by
 have:=rep_last (okRecS_ops hl) x.2.1.length (Nat.le_refl _) _ _ h.2.2.2
 rwa [List.take_length] at this
/-- The first answer of places in order. -/
noncomputable def scanA {A:Type} (f:Nat→Option A) (last:A):Nat→Nat→A
 | 0,_=>last
 | k+1,i=>match f i with
  | some a=>a
  | none=>scanA f last k (i+1)
theorem itX_scan {V A:Type} {ss:V→V ⊕ A} {fa:A} (pk:Nat→V) (n:Nat) (f:Nat→Option A) (last:A) (hn:n<4611686018427387904)
  (h:∀ i,i<n→ss (pk i)=(match f i with | some a=>.inr a | none=>.inl (pk (i+1)))) (hl:ss (pk n)=.inr last):itX ss fa (pk 0)=scanA f last n 0:=by
 rw [itX_eq]
 have key:∀ k N i,i+k=n→k<N→itN ss fa N (pk i)=scanA f last k i:=by
  intro k
  induction k with
  | zero =>
   intro N i hi hN
   obtain ⟨M,rfl⟩:∃ M,N=M+1:=⟨N - 1,by omega⟩
   obtain rfl:i=n:=by omega
   rw [itN_one,hl];rfl
  | succ k ih =>
   intro N i hi hN
   obtain ⟨M,rfl⟩:∃ M,N=M+1:=⟨N - 1,by omega⟩
   rw [itN_one,h i (by omega)]
   simp only [scanA]
   cases hf:f i with
   | some a=>rfl
   | none=>exact ih M (i+1) (by omega) (by omega)
 exact key n _ 0 (by omega) hn
theorem scanA_cases {A:Type} (f:Nat→Option A) (last:A):∀ k i,(∃ j a,i≤j∧j<i+k∧f j=some a∧(∀ m,i≤m→m<j→f m=none)∧scanA f last k i=a)∨((∀ j,i≤j→j<i+k→f j=none)∧scanA f last k i=last):=by
 intro k
 induction k with
 | zero=>intro i;exact .inr ⟨fun j h1 h2=>by omega,rfl⟩
 | succ k ih =>
  intro i
  simp only [scanA]
  cases hf:f i with
  | some a=>exact .inl ⟨i,a,Nat.le_refl _,by omega,hf,fun m h1 h2=>by omega,rfl⟩
  | none =>
   rcases ih (i+1) with ⟨j,a,h1,h2,h3,h4,h5⟩ | ⟨h1,h2⟩
   ·refine .inl ⟨j,a,by omega,by omega,h3,fun m m1 m2=>?_,h5⟩
    by_cases hm:m=i
    ·rw [hm];exact hf
    ·exact h4 m (by omega) m2
   ·refine .inr ⟨fun j j1 j2=>?_,h2⟩
    by_cases hj:j=i
    ·rw [hj];exact hf
    ·exact h1 j (by omega) (by omega)
theorem itX_find {V A α:Type} {ss:V→V ⊕ A} {fa:A} (pk:Nat→V) (l:List α) (d:α) (p:α→Bool) (good:Nat→A) (last:A) (hn:l.length<4611686018427387904)
  (h:∀ i,i<l.length→ss (pk i)=cond (p (l.getD i d)) (.inr (good i)) (.inl (pk (i+1)))) (hl:ss (pk l.length)=.inr last) :
  itX ss fa (pk 0)=cond (decide (l.findIdx p<l.length)) (good (l.findIdx p)) last:=by
 rw [itX_scan pk l.length (fun i=>cond (p (l.getD i d)) (some (good i)) none) last hn (fun i hi=>by rw [h i hi];cases p (l.getD i d)<;>rfl) hl]
 rcases scanA_cases (fun i=>cond (p (l.getD i d)) (some (good i)) none) last l.length 0 with ⟨j,a,h1,h2,h3,h4,h5⟩ | ⟨h1,h2⟩
 ·have hj:j<l.length:=by omega
  have hg:l.getD j d=l[j]:=by simp [List.getD_eq_getElem?_getD,hj]
  have hp:p l[j]=true:=by
   cases hc:p (l.getD j d) with
   | true=>rw [hg] at hc;exact hc
   | false=>simp only [hc,cond_false] at h3;cases h3
  have hf:l.findIdx p=j:=by
   rw [List.findIdx_eq hj]
   refine ⟨hp,fun m hm=>?_⟩
   have:=h4 m (by omega) hm
   have hgm:l.getD m d=l[m]:=by simp [List.getD_eq_getElem?_getD,Nat.lt_trans hm hj]
   rw [← hgm]
   cases hc:p (l.getD m d) with
   | false=>rfl
   | true=>simp only [hc,cond_true] at this;cases this
  rw [h5,hf,decide_eq_true hj]
  rw [hg,hp] at h3
  exact (Option.some.inj h3).symm
 ·have hf : ¬ l.findIdx p < l.length := by
   intro hlt
   have hp:=List.findIdx_getElem (w:=hlt)
   have:=h1 (l.findIdx p) (by omega) (by omega)
   have hg:l.getD (l.findIdx p) d=l[l.findIdx p]:=by simp [List.getD_eq_getElem?_getD,hlt]
   rw [hg,hp] at this
   cases this
  rw [h2,decide_eq_false hf];rfl
theorem getD_dR (l:List RecD) (i:Nat):l.getD i ((0:Int),((0:Int),[]))=l.getD i dRec:=rfl
theorem recAt_spec (l:List RecD) (t:Int) (hl:l.length≤1099511627776):q_irecAt l t=true∧irecAt l t=cond (decide (l.reverse.findIdx (isTx t)<l.length)) (((l.length:Nat):Int) - 1 - ((l.reverse.findIdx (isTx t):Nat):Int)) (-1):=by
 have e0:=wrap64 (n:=((l.length:Nat):Int) - 1) (by omega) (by omega)
 have e:it_irecAt_0 l t (((l.length:Nat):Int) - 1)=cond (decide (l.reverse.findIdx (isTx t)<l.reverse.length)) (0,((l.length:Nat):Int) - 1 - ((l.reverse.findIdx (isTx t):Nat):Int)) (1,0):=by
  have:=itX_find (ss:=fun v:V_irecAt_0=>ss_irecAt_0 v.1 v.2.1 v.2.2) (fa:=fl_irecAt_0) (fun i=>((l,t,((l.length:Nat):Int) - 1 - (i:Int)):V_irecAt_0)) l.reverse dRec (isTx t) (fun i=>((0,((l.length:Nat):Int) - 1 - (i:Int)):A_irecAt_0)) (1,0) (by rw [List.length_reverse];omega) (fun i hi=>by
   rw [List.length_reverse] at hi
   have h1:decide (((l.length:Nat):Int) - 1 - (i:Int) ≥ 0)=true:=decide_eq_true (by omega)
   have h2:decide (0≤((l.length:Nat):Int) - 1 - (i:Int)∧((l.length:Nat):Int) - 1 - (i:Int)<((l.length:Nat):Int))=true:=decide_eq_true (by omega)
   have h3:(((l.length:Nat):Int) - 1 - (i:Int)).toNat=l.length - 1 - i:=by omega
   have h4:l.reverse.getD i dRec=l.getD (l.length - 1 - i) dRec:=by
    simp only [List.getD_eq_getElem?_getD]
    rw [List.getElem?_reverse hi]
   have h6:((l.length:Nat):Int) - 1 - (i:Int) - 1=((l.length:Nat):Int) - 1 - ((i+1:Nat):Int):=by omega
   have h5:=wrap64 (n:=((l.length:Nat):Int) - 1 - ((i+1:Nat):Int)) (by omega) (by omega)
   simp only [ss_irecAt_0,h1,h2,cond_true,h3,h5,getD_dR,h4,isTx,h6]) (by
   rw [List.length_reverse]
   have h1:decide (((l.length:Nat):Int) - 1 - ((l.length:Nat):Int) ≥ 0)=false:=decide_eq_false (by omega)
   simp only [ss_irecAt_0,h1,cond_false])
  have e2:it_irecAt_0 l t (((l.length:Nat):Int) - 1)=itX (fun v:V_irecAt_0=>ss_irecAt_0 v.1 v.2.1 v.2.2) fl_irecAt_0 (l,t,((l.length:Nat):Int) - 1 - ((0:Nat):Int)):=by
   rw [show ((l.length:Nat):Int) - 1 - ((0:Nat):Int)=((l.length:Nat):Int) - 1 by omega];rfl
  exact e2.trans this
 rw [List.length_reverse] at e
 simp only [q_irecAt,irecAt,e0,e]
 cases decide (l.reverse.findIdx (isTx t)<l.length)<;>exact ⟨rfl,rfl⟩
theorem recAt_neg (l:List RecD) (t:Int) (hl:l.length≤1099511627776):decide (irecAt l t<0)=!(l.any (isTx t))∧decide (irecAt l t ≥ 0)=l.any (isTx t):=by
 rw [(recAt_spec l t hl).2]
 cases ha:l.any (isTx t) with
 | true =>
  have:l.reverse.findIdx (isTx t)<l.length:=by
   rw [← List.length_reverse]
   refine List.findIdx_lt_length.2 ?_
   obtain ⟨x,hx,hp⟩:=List.any_eq_true.1 ha
   exact ⟨x,List.mem_reverse.2 hx,hp⟩
  rw [decide_eq_true this]
  exact ⟨decide_eq_false (by simp only [cond_true];omega),decide_eq_true (by simp only [cond_true];omega)⟩
 | false =>
  have:¬ l.reverse.findIdx (isTx t)<l.length:=by
   intro hc
   rw [← List.length_reverse] at hc
   obtain ⟨x,hx,hp⟩:=List.findIdx_lt_length.1 hc
   rw [List.any_eq_true.2 ⟨x,List.mem_reverse.1 hx,hp⟩] at ha
   cases ha
  rw [decide_eq_false this]
  exact ⟨rfl,rfl⟩
theorem snoc_ind {α:Type} {P:List α→Prop} (h0:P []) (hs:∀ l x,P l→P (l++[x])) (l:List α):P l:=by
 rw [← List.reverse_reverse l]
 induction l.reverse with
 | nil=>exact h0
 | cons x l ih=>rw [List.reverse_cons];exact hs _ _ ih
theorem lastK_zero {t:Int} {l:List RecD} (h:l.any (isTx t)=false):lastK l t=0:=by
 induction l using snoc_ind with
 | h0=>rfl
 | hs l r ih =>
  rw [any_snoc,Bool.or_eq_false_iff] at h
  rw [lastK_snoc,h.2]
  exact ih h.1
theorem recAt_kind (t:Int) (l:List RecD) (hl:l.length≤1099511627776) (ha:l.any (isTx t)=true):decide (0≤irecAt l t∧irecAt l t<((l.length:Nat):Int))=true∧(l.getD (irecAt l t).toNat dRec).1=lastK l t:=by
 have h2:l.reverse.findIdx (isTx t)<l.length:=by
  rw [← List.length_reverse]
  refine List.findIdx_lt_length.2 ?_
  obtain ⟨x,hx,hp⟩:=List.any_eq_true.1 ha
  exact ⟨x,List.mem_reverse.2 hx,hp⟩
 rw [(recAt_spec l t hl).2,decide_eq_true h2]
 simp only [cond_true]
 refine ⟨decide_eq_true (by omega),?_⟩
 have e3:(((l.length:Nat):Int) - 1 - ((l.reverse.findIdx (isTx t):Nat):Int)).toNat=l.length - 1 - l.reverse.findIdx (isTx t):=by omega
 rw [e3]
 clear e3 h2 hl
 induction l using snoc_ind with
 | h0=>cases ha
 | hs l r ih =>
  rw [lastK_snoc,List.reverse_append,List.reverse_cons,List.reverse_nil,List.nil_append,List.singleton_append,List.findIdx_cons]
  cases hr:isTx t r with
  | true=>simp [List.getD_eq_getElem?_getD]
  | false =>
   simp only [cond_false]
   rw [any_snoc,hr,Bool.or_false] at ha
   rw [← ih ha]
   have h2:l.reverse.findIdx (isTx t)<l.reverse.length:=by
    refine List.findIdx_lt_length.2 ?_
    obtain ⟨x,hx,hp⟩:=List.any_eq_true.1 ha
    exact ⟨x,List.mem_reverse.2 hx,hp⟩
   rw [List.length_reverse] at h2
   have e4:(l++[r]).length - 1 - (l.reverse.findIdx (isTx t)+1)=l.length - 1 - l.reverse.findIdx (isTx t):=by rw [List.length_append];simp;omega
   rw [e4]
   simp only [List.getD_eq_getElem?_getD]
   rw [List.getElem?_append_left (by omega)]
theorem lastK_in (t:Int) (l:List RecD):(∀ x∈l,x.1=1∨x.1=2∨x.1=3)→(lastK l t=0∧l.any (isTx t)=false)∨((lastK l t=1∨lastK l t=2∨lastK l t=3)∧l.any (isTx t)=true):=by
 induction l using snoc_ind with
 | h0=>intro _;exact .inl ⟨rfl,rfl⟩
 | hs l r ih =>
  intro h
  have:=ih (fun x hx=>h x (by simp [hx]))
  rw [lastK_snoc,any_snoc]
  cases hr:isTx t r with
  | true=>exact .inr ⟨h r (by simp),by simp⟩
  | false=>simp only [cond_false,Bool.or_false];exact this
theorem outH_spec {x:ShardD} (h1:okRecS x.2.1) (hr:RightS x) (t:Int):q_iShard_outcome t x.1 x.2.2.1 x.2.1 x.2.2.2.1 x.2.2.2.2=true∧iShard_outcome t x.1 x.2.2.1 x.2.1 x.2.2.2.1 x.2.2.2.2=(outOf x t,x.1,x.2.2.1,x.2.1,x.2.2.2.1,x.2.2.2.2):=by
 have hl1:=h1.1
 have hl4:=hr.2.2.1
 obtain ⟨hk,_⟩:=right_last h1 hr
 obtain ⟨a1,_⟩:=recAt_spec x.2.2.2.2 t (by omega)
 obtain ⟨_,a3⟩:=recAt_neg x.2.2.2.2 t (by omega)
 obtain ⟨b1,_⟩:=recAt_spec x.2.1 t (by omega)
 obtain ⟨b2,_⟩:=recAt_neg x.2.1 t (by omega)
 simp only [q_iShard_outcome,iShard_outcome,a1,a3,b1,b2,Bool.true_and,getD_dR,outOf]
 cases x.2.2.2.2.any (isTx t) with
 | true=>exact ⟨rfl,rfl⟩
 | false =>
  simp only [cond_false]
  cases ha:x.2.1.any (isTx t) with
  | false=>rw [lastK_zero ha];exact ⟨rfl,rfl⟩
  | true =>
   obtain ⟨c1,c2⟩:=recAt_kind t x.2.1 (by omega) ha
   simp only [Bool.not_true,cond_false,c1,c2]
   refine ⟨trivial,?_⟩
   rcases lastK_in t x.2.1 hk with ⟨_,h⟩ | ⟨h,_⟩
   ·rw [ha] at h;cases h
   ·rcases h with h | h | h<;>rw [h]<;>rfl
theorem out_one {x:ShardD} {t:Int}:(outOf x t==1)=x.2.2.2.2.any (isTx t):=by
 simp only [outOf]
 cases x.2.2.2.2.any (isTx t) with
 | true=>rfl
 | false =>
  simp only [cond_false,ofK]
  cases (lastK x.2.1 t==0)<;>cases (lastK x.2.1 t==2)<;>rfl
theorem l8At_spec (l:List RecD) (t:Int) (hl:l.length≤1099511627776):q_sl8At l t=true∧sl8At l t=cond (decide (l.findIdx (isTx t)<l.length)) ((l.findIdx (isTx t):Nat):Int) (-1):=by
 have e:it_sl8At_0 l t 0=cond (decide (l.findIdx (isTx t)<l.length)) (0,((l.findIdx (isTx t):Nat):Int)) (1,0):=by
  refine itX_find (ss:=fun v:V_sl8At_0=>ss_sl8At_0 v.1 v.2.1 v.2.2) (fa:=fl_sl8At_0) (fun i=>((l,t,(i:Int)):V_sl8At_0)) l dRec (isTx t) (fun i=>((0,(i:Int)):A_sl8At_0)) _ (by omega) (fun i hi=>?_) ?_
  ·have h1:decide ((i:Int)<((l.length:Nat):Int))=true:=decide_eq_true (by omega)
   have h2:decide (0≤(i:Int)∧(i:Int)<((l.length:Nat):Int))=true:=decide_eq_true (by omega)
   simp only [ss_sl8At_0,h1,h2,cond_true,Int.toNat_natCast,wrapU i (by omega),getD_dR,isTx]
  ·have h1:decide (((l.length:Nat):Int)<((l.length:Nat):Int))=false:=decide_eq_false (by omega)
   simp only [ss_sl8At_0,h1,cond_false]
 simp only [q_sl8At,sl8At,e]
 cases decide (l.findIdx (isTx t)<l.length)<;>exact ⟨rfl,rfl⟩
/-- Where there is one alone, its place is found from both sides. -/
theorem at_same {l:List RecD} (h:oneTx l) (t:Int) (hl:l.length≤1099511627776) (ha:l.any (isTx t)=true):sl8At l t=((l.findIdx (isTx t):Nat):Int)∧irecAt l t=((l.findIdx (isTx t):Nat):Int)∧l.findIdx (isTx t)<l.length∧(l.getD (l.findIdx (isTx t)) dRec).2.1=t:=by
 have h1:=List.findIdx_lt_length.2 (List.any_eq_true.1 ha)
 have h2:l.reverse.findIdx (isTx t)<l.length:=by
  rw [← List.length_reverse]
  refine List.findIdx_lt_length.2 ?_
  obtain ⟨x,hx,hp⟩:=List.any_eq_true.1 ha
  exact ⟨x,List.mem_reverse.2 hx,hp⟩
 have p1:isTx t (l.getD (l.findIdx (isTx t)) dRec)=true:=by
  have:=List.findIdx_getElem (w:=h1)
  rw [List.getD_eq_getElem?_getD,List.getElem?_eq_getElem h1];exact this
 have p2:isTx t (l.getD (l.length - 1 - l.reverse.findIdx (isTx t)) dRec)=true:=by
  have h3:l.reverse.findIdx (isTx t)<l.reverse.length:=by rw [List.length_reverse];exact h2
  have:=List.findIdx_getElem (w:=h3)
  have e:l.reverse.getD (l.reverse.findIdx (isTx t)) dRec=l.getD (l.length - 1 - l.reverse.findIdx (isTx t)) dRec:=by
   simp only [List.getD_eq_getElem?_getD]
   rw [List.getElem?_reverse h2]
  rw [← e,List.getD_eq_getElem?_getD,List.getElem?_eq_getElem h3];exact this
 have p1':(l.getD (l.findIdx (isTx t)) dRec).2.1=t:=beq_iff_eq.1 (show ((l.getD (l.findIdx (isTx t)) dRec).2.1==t)=true from p1)
 have p2':(l.getD (l.length - 1 - l.reverse.findIdx (isTx t)) dRec).2.1=t:=beq_iff_eq.1 (show ((l.getD (l.length - 1 - l.reverse.findIdx (isTx t)) dRec).2.1==t)=true from p2)
 have hij:=oneTx_eq h (i:=l.findIdx (isTx t)) (j:=l.length - 1 - l.reverse.findIdx (isTx t)) h1 (by omega) (by rw [p1', p2'])
 refine ⟨by rw [(l8At_spec l t hl).2,decide_eq_true h1];rfl,?_,h1,p1'⟩
 rw [(recAt_spec l t hl).2,decide_eq_true h2]
 simp only [cond_true]
 omega
theorem drop_take_all {α:Type} (l:List α) (k:Nat):(l.drop k).take (l.length - k)=l.drop k:=List.take_of_length_le (by simp)
theorem del_spec (h:List RecD) (k:Nat) (hk:k<h.length) (hl:h.length≤1099511627776):q_slices_Delete_iRec (k:Int) ((k+1:Nat):Int) h=true∧slices_Delete_iRec (k:Int) ((k+1:Nat):Int) h=h.eraseIdx k:=by
 have e0:((k:Int)==((k+1:Nat):Int))=false:=beq_eq_false_iff_ne.2 (by omega)
 have e1:=drop_take_all h (k+1)
 have e2:(h.drop (k+1)).length=h.length - (k+1):=List.length_drop
 have e3:(h.take k++h.drop (k+1)).length=k+(h.drop (k+1)).length:=by rw [List.length_append,List.length_take];omega
 simp only [q_slices_Delete_iRec,slices_Delete_iRec,Int.toNat_natCast,e0,cond_false,e1]
 have e4:(h.take k++h.drop (k+1)++h.drop (k+(h.drop (k+1)).length)).take (k+(h.drop (k+1)).length)=h.take k++h.drop (k+1):=List.take_left' e3
 have e5:(h.take k++h.drop (k+1)++h.drop (k+(h.drop (k+1)).length)).length=h.length:=by
  simp only [List.length_append,List.length_take,List.length_drop];omega
 refine ⟨?_,?_⟩
 ·rw [e5]
  simp only [Bool.and_eq_true,decide_eq_true_eq]
  refine ⟨by omega,by omega,by omega,by omega,by omega⟩
 ·rw [e4,List.append_assoc,List.take_left' e3,List.eraseIdx_eq_take_drop_succ]
theorem itX_fold {V A α β:Type} {ss:V→V ⊕ A} {fa:A} (pk:Nat→β→V) (l:List α) (d:α) (f:β→α→β) (last:β→A) (ok:Nat→β→Prop) (hn:l.length<4611686018427387904)
  (h:∀ i b,i<l.length→ok i b→ss (pk i b)=.inl (pk (i+1) (f b (l.getD i d)))∧ok (i+1) (f b (l.getD i d))) (hl:∀ b,ok l.length b→ss (pk l.length b)=.inr (last b)) {b:β} (h0:ok 0 b):itX ss fa (pk 0 b)=last (l.foldl f b):=by
 rw [itX_eq]
 have key:∀ k N i b,i+k=l.length→k<N→ok i b→itN ss fa N (pk i b)=last ((l.drop i).foldl f b):=by
  intro k
  induction k with
  | zero =>
   intro N i b hi hN ho
   obtain ⟨M,rfl⟩:∃ M,N=M+1:=⟨N - 1,by omega⟩
   obtain rfl:i=l.length:=by omega
   rw [itN_one,hl b ho,List.drop_length];rfl
  | succ k ih =>
   intro N i b hi hN ho
   obtain ⟨M,rfl⟩:∃ M,N=M+1:=⟨N - 1,by omega⟩
   have hlt:i<l.length:=by omega
   obtain ⟨h1,h2⟩:=h i b hlt ho
   rw [itN_one,h1]
   simp only
   rw [ih M (i+1) _ (by omega) (by omega) h2,List.drop_eq_getElem_cons hlt,List.foldl_cons]
   simp [List.getD_eq_getElem?_getD,hlt]
 have:=key l.length _ 0 b (by omega) hn h0
 simpa using this
theorem delL_len (l:LBBe) (k:ByteArray):(delL l k).length≤l.length:=List.length_filter_le _ _
theorem findIdx_le' {α:Type} (p:α→Bool) (l:List α):l.findIdx p≤l.length:=List.findIdx_le_length
theorem putL_len (l:LBBe) (k v:ByteArray):(putL l k v).length≤l.length+1:=by
 simp only [putL]
 cases decide (l.findIdx (isK k)<l.length)
 ·have:=findIdx_le' (overK k) l
  simp only [cond_false,List.length_append,List.length_take,List.length_cons,List.length_drop];omega
 ·simp
theorem appL_len (l:LBBe) (o:Int×ByteArray×ByteArray):(appL l o).length≤l.length+1:=by
 simp only [appL]
 cases o.1==1
 ·cases o.1==2
  ·simp
  ·have:=delL_len l o.2.1;simp only [cond_true,cond_false];omega
 ·exact putL_len _ _ _
theorem getD_dP (l:LBBe) (i:Nat):l.getD i ((⟨#[]⟩:ByteArray),(⟨#[]⟩:ByteArray))=l.getD i dP:=rfl
theorem pairAt_spec (l:LBBe) (k:ByteArray) (hl:l.length≤1099511627776):q_ipairAt l k=true∧ipairAt l k=cond (decide (l.findIdx (isK k)<l.length)) ((l.findIdx (isK k):Nat):Int) (-1):=by
 have e:it_slices_IndexFunc_iPair_ipairAt_1_0 l ((l.length:Nat):Int) 0 k=cond (decide (l.findIdx (isK k)<l.length)) (0,((l.findIdx (isK k):Nat):Int)) (1,0):=by
  refine itX_find (ss:=fun v:V_slices_IndexFunc_iPair_ipairAt_1_0=>ss_slices_IndexFunc_iPair_ipairAt_1_0 v.1 v.2.1 v.2.2 k) (fa:=fl_slices_IndexFunc_iPair_ipairAt_1_0) (fun i=>((l,((l.length:Nat):Int),(i:Int)):V_slices_IndexFunc_iPair_ipairAt_1_0)) l dP (isK k) (fun i=>((0,(i:Int)):A_slices_IndexFunc_iPair_ipairAt_1_0)) _ (by omega) (fun i hi=>?_) ?_
  ·have h1:decide ((i:Int)<((l.length:Nat):Int))=true:=decide_eq_true (by omega)
   have h2:decide (0≤(i:Int)∧(i:Int)<((l.length:Nat):Int))=true:=decide_eq_true (by omega)
   simp only [ss_slices_IndexFunc_iPair_ipairAt_1_0,h1,h2,cond_true,Int.toNat_natCast,wrapU i (by omega),getD_dP,k1_slices_IndexFunc_iPair_ipairAt_1,ipairAt_1]
   rfl
  ·have h1:decide (((l.length:Nat):Int)<((l.length:Nat):Int))=false:=decide_eq_false (by omega)
   simp only [ss_slices_IndexFunc_iPair_ipairAt_1_0,h1,cond_false]
 simp only [q_ipairAt,ipairAt,q_slices_IndexFunc_iPair_ipairAt_1,slices_IndexFunc_iPair_ipairAt_1,e]
 cases decide (l.findIdx (isK k)<l.length)<;>exact ⟨rfl,rfl⟩
theorem iputKey_spec (l:LBBe) (k v:ByteArray) (hl:l.length≤1099511627776):q_iputKey k v l=true∧iputKey k v l=putL l k v:=by
 obtain ⟨p1,p2⟩:=pairAt_spec l k hl
 have e1:it_iputKey_0 k v 0 l=(0,k,v,((l.findIdx (overK k):Nat):Int),l):=by
  have h:=itX_find (ss:=fun u:V_iputKey_0=>ss_iputKey_0 u.1 u.2.1 u.2.2.1 u.2.2.2) (fa:=fl_iputKey_0) (fun i=>((k,v,(i:Int),l):V_iputKey_0)) l dP (overK k) (fun i=>((0,k,v,(i:Int),l):A_iputKey_0)) (0,k,v,((l.length:Nat):Int),l) (by omega) (fun i hi=>?_) ?_
  ·refine h.trans ?_
   by_cases hc:l.findIdx (overK k)<l.length
   ·rw [decide_eq_true hc];rfl
   ·have:=findIdx_le' (overK k) l
    have he:l.findIdx (overK k)=l.length:=by omega
    rw [decide_eq_false hc,he];rfl
  ·have h1:decide ((i:Int)<((l.length:Nat):Int))=true:=decide_eq_true (by omega)
   have h2:decide (0≤(i:Int)∧(i:Int)<((l.length:Nat):Int))=true:=decide_eq_true (by omega)
   simp only [ss_iputKey_0,h1,h2,cond_true,Int.toNat_natCast,wrapU i (by omega),getD_dP,overK]
   cases (Op.bytesLess (l.getD i dP).1.toList k.toList||(l.getD i dP).1.toList==k.toList)<;>rfl
  ·have h1:decide (((l.length:Nat):Int)<((l.length:Nat):Int))=false:=decide_eq_false (by omega)
   simp only [ss_iputKey_0,h1,cond_false]
 have hle:=findIdx_le' (overK k) l
 simp only [q_iputKey,iputKey,p1,p2,k1_iputKey,e1,q_insP,insP,putL,Int.toNat_natCast]
 cases hc:decide (l.findIdx (isK k)<l.length) with
 | true =>
  have hlt:=of_decide_eq_true hc
  have g1:decide (((l.findIdx (isK k):Nat):Int) ≥ 0)=true:=decide_eq_true (by omega)
  have g2:decide (0≤((l.findIdx (isK k):Nat):Int)∧((l.findIdx (isK k):Nat):Int)<((l.length:Nat):Int))=true:=decide_eq_true (by omega)
  simp only [cond_true,g1,g2,Int.toNat_natCast,Bool.true_and]
  exact ⟨trivial,rfl⟩
 | false =>
  have g1:decide ((-1:Int) ≥ 0)=false:=by decide
  have g2:decide (0≤((l.findIdx (overK k):Nat):Int)∧((l.findIdx (overK k):Nat):Int)≤((l.length:Nat):Int))=true:=decide_eq_true (by omega)
  have g3:decide ((l.length+1)*32≤140737488355328)=true:=decide_eq_true (by omega)
  simp only [cond_false,g1,g2,g3,Bool.true_and]
  exact ⟨rfl,rfl⟩
theorem filt1 {α:Type} {p:α→Bool} {x:α} (h:p x=false):[x].filter p=[]:=by simp [List.filter_cons,h]
theorem filt2 {α:Type} {p:α→Bool} {x:α} (h:p x=true):[x].filter p=[x]:=by simp [List.filter_cons,h]
theorem delFunc_loop (l:LBBe) (k:ByteArray) (hl:l.length≤1099511627776) (j:Nat) (hj:j<l.length) (hpre:(l.take j).filter (fun p=>!isK k p)=l.take j) (hat:isK k (l.getD j dP)=true) :
  ∃ r:LBBe,it_slices_DeleteFunc_iPair_0 ((j:Nat):Int) (((j+1:Nat):Int)) l k=(0,(((delL l k).length:Nat):Int),r)∧r.length=l.length∧r.take (delL l k).length=delL l k:=by
 refine itX_inv (fun v:V_slices_DeleteFunc_iPair_0=>∃ (m:Nat) (r:LBBe),v=(((((l.take m).filter (fun p=>!isK k p)).length:Nat):Int),(m:Int),r)∧m≤l.length∧((l.take m).filter (fun p=>!isK k p)).length<m∧r.length=l.length∧r.take ((l.take m).filter (fun p=>!isK k p)).length=(l.take m).filter (fun p=>!isK k p)∧r.drop m=l.drop m)
  (fun a:A_slices_DeleteFunc_iPair_0=>∃ r:LBBe,a=(0,(((delL l k).length:Nat):Int),r)∧r.length=l.length∧r.take (delL l k).length=delL l k) (fun v=>l.length - v.2.1.toNat) ?_ ⟨j+1,l,?_,by omega,?_,rfl,?_,rfl⟩ (by simp;omega)
 ·rintro v ⟨m,r,rfl,hm,hlt2,hr,ht,hd⟩
  by_cases hlt:m<l.length
  ·left
   have h1:decide ((m:Int)<((r.length:Nat):Int))=true:=decide_eq_true (by omega)
   have h2:decide (0≤(m:Int)∧(m:Int)<((r.length:Nat):Int))=true:=decide_eq_true (by omega)
   have h3:decide (0≤((((l.take m).filter (fun p=>!isK k p)).length:Nat):Int)∧((((l.take m).filter (fun p=>!isK k p)).length:Nat):Int)<((r.length:Nat):Int))=true:=decide_eq_true (by omega)
   have hg:r.getD m dP=l.getD m dP:=by
    have:=congrArg (fun x:LBBe=>x[0]?) hd
    simp only [List.getElem?_drop,Nat.add_zero] at this
    simp only [List.getD_eq_getElem?_getD,this]
   have htk:l.take (m+1)=l.take m++[l.getD m dP]:=take_succ_getD hlt dP
   have hdd:∀ x:LBBe,x.drop m=l.drop m→x.drop (m+1)=l.drop (m+1):=fun x hx=>by
    rw [← List.drop_drop,← List.drop_drop,hx]
   cases hc:isK k (l.getD m dP) with
   | true =>
    have hf:(l.take (m+1)).filter (fun p=>!isK k p)=(l.take m).filter (fun p=>!isK k p):=by rw [htk,List.filter_append,filt1 (by rw [hc];rfl),List.append_nil]
    refine ⟨(((((l.take (m+1)).filter (fun p=>!isK k p)).length:Nat):Int),((m+1:Nat):Int),r),?_,⟨m+1,r,rfl,by omega,by rw [hf];omega,hr,by rw [hf];exact ht,hdd r hd⟩,by simp only [Int.toNat_natCast];omega⟩
    have hk:k1_slices_DeleteFunc_iPair (m:Int) r k=true:=by simp only [k1_slices_DeleteFunc_iPair,iDelKey_1,getD_dP,Int.toNat_natCast,hg];exact hc
    simp only [ss_slices_DeleteFunc_iPair_0,h1,h2,hk,cond_true,Bool.not_true,cond_false,wrapU m (by omega),hf]
   | false =>
    have hf:(l.take (m+1)).filter (fun p=>!isK k p)=(l.take m).filter (fun p=>!isK k p)++[l.getD m dP]:=by rw [htk,List.filter_append,filt2 (by rw [hc];rfl)]
    refine ⟨(((((l.take (m+1)).filter (fun p=>!isK k p)).length:Nat):Int),((m+1:Nat):Int),r.set ((l.take m).filter (fun p=>!isK k p)).length (l.getD m dP)),?_,⟨m+1,_,rfl,by omega,by rw [hf];simp;omega,by simp [hr],?_,hdd _ ?_⟩,by simp only [Int.toNat_natCast];omega⟩
    ·have hk:k1_slices_DeleteFunc_iPair (m:Int) r k=false:=by simp only [k1_slices_DeleteFunc_iPair,iDelKey_1,getD_dP,Int.toNat_natCast,hg];exact hc
     have hfl:(((l.take m).filter (fun p=>!isK k p))++[l.getD m dP]).length=((l.take m).filter (fun p=>!isK k p)).length+1:=by simp
     simp only [ss_slices_DeleteFunc_iPair_0,h1,h2,h3,hk,cond_true,Bool.not_false,wrapU m (by omega),wrapU ((l.take m).filter (fun p=>!isK k p)).length (by omega),hf,hfl,Int.toNat_natCast,getD_dP,hg]
    ·rw [hf,List.length_append,List.length_singleton,List.take_add_one,List.take_set_of_le (Nat.le_refl _),ht]
     congr 1
     simp [List.getElem?_set,show ((l.take m).filter (fun p=>!isK k p)).length<r.length by omega]
    ·rw [List.drop_set_of_lt hlt2];exact hd
  ·right
   obtain rfl:m=l.length:=by omega
   have h1:decide (((l.length:Nat):Int)<((r.length:Nat):Int))=false:=decide_eq_false (by omega)
   rw [List.take_length] at ht
   refine ⟨(0,(((delL l k).length:Nat):Int),r),?_,r,rfl,hr,ht⟩
   simp only [ss_slices_DeleteFunc_iPair_0,h1,cond_false,List.take_length]
   rfl
 ·rw [take_succ_getD hj dP,List.filter_append,hpre,filt1 (by rw [hat];rfl),List.append_nil,List.length_take];congr 2;omega
 ·rw [take_succ_getD hj dP,List.filter_append,hpre,filt1 (by rw [hat];rfl),List.append_nil,List.length_take];omega
 ·rw [take_succ_getD hj dP,List.filter_append,hpre,filt1 (by rw [hat];rfl),List.append_nil,List.length_take,Nat.min_eq_left (by omega)]
theorem iDelKey_spec (l:LBBe) (k:ByteArray) (hl:l.length≤1099511627776):q_iDelKey l k=true∧iDelKey l k=delL l k:=by
 have e:it_slices_IndexFunc_iPair_iDelKey_1_0 ((l.length:Nat):Int) 0 l k=cond (decide (l.findIdx (isK k)<l.length)) (0,((l.findIdx (isK k):Nat):Int)) (1,0):=by
  refine itX_find (ss:=fun v:V_slices_IndexFunc_iPair_iDelKey_1_0=>ss_slices_IndexFunc_iPair_iDelKey_1_0 v.1 v.2 l k) (fa:=fl_slices_IndexFunc_iPair_iDelKey_1_0) (fun i=>((((l.length:Nat):Int),(i:Int)):V_slices_IndexFunc_iPair_iDelKey_1_0)) l dP (isK k) (fun i=>((0,(i:Int)):A_slices_IndexFunc_iPair_iDelKey_1_0)) _ (by omega) (fun i hi=>?_) ?_
  ·have h1:decide ((i:Int)<((l.length:Nat):Int))=true:=decide_eq_true (by omega)
   have h2:decide (0≤(i:Int)∧(i:Int)<((l.length:Nat):Int))=true:=decide_eq_true (by omega)
   simp only [ss_slices_IndexFunc_iPair_iDelKey_1_0,h1,h2,cond_true,Int.toNat_natCast,wrapU i (by omega),getD_dP,k1_slices_IndexFunc_iPair_iDelKey_1,iDelKey_1]
   rfl
  ·have h1:decide (((l.length:Nat):Int)<((l.length:Nat):Int))=false:=decide_eq_false (by omega)
   simp only [ss_slices_IndexFunc_iPair_iDelKey_1_0,h1,cond_false]
 have hq:q_slices_Clone_iPair l=true:=decide_eq_true (by simp [MAXB];omega)
 have hdf:q_slices_DeleteFunc_iPair l k=true∧(slices_DeleteFunc_iPair l k).1=delL l k:=by
  have hidx:q_slices_IndexFunc_iPair_iDelKey_1 l k=true∧slices_IndexFunc_iPair_iDelKey_1 l k=cond (decide (l.findIdx (isK k)<l.length)) ((l.findIdx (isK k):Nat):Int) (-1):=by
   simp only [q_slices_IndexFunc_iPair_iDelKey_1,slices_IndexFunc_iPair_iDelKey_1,e]
   cases decide (l.findIdx (isK k)<l.length)<;>exact ⟨rfl,rfl⟩
  simp only [q_slices_DeleteFunc_iPair,slices_DeleteFunc_iPair,k2_slices_DeleteFunc_iPair,hidx.1,hidx.2,Bool.true_and]
  cases hc:decide (l.findIdx (isK k)<l.length) with
  | false =>
   have hge:=of_decide_eq_false hc
   simp only [cond_false,show ((-1:Int)==-1)=true from rfl,cond_true]
   refine ⟨trivial,?_⟩
   symm
   apply List.filter_eq_self.2
   intro p hp
   have:=List.findIdx_eq_length.1 (show l.findIdx (isK k)=l.length by have:=findIdx_le' (isK k) l;omega) p hp
   rw [this];rfl
  | true =>
   have hlt:=of_decide_eq_true hc
   have hat:isK k (l.getD (l.findIdx (isK k)) dP)=true:=by
    have:=List.findIdx_getElem (w:=hlt)
    simpa [List.getD_eq_getElem?_getD,hlt] using this
   have hpre:(l.take (l.findIdx (isK k))).filter (fun p=>!isK k p)=l.take (l.findIdx (isK k)):=by
    apply List.filter_eq_self.2
    intro p hp
    obtain ⟨i,hi,rfl⟩:=List.mem_iff_getElem.1 hp
    rw [List.length_take] at hi
    have:=List.not_of_lt_findIdx (p:=isK k) (xs:=l) (i:=i) (by omega)
    simpa using this
   obtain ⟨r,r1,r2,r3⟩:=delFunc_loop l k hl _ hlt hpre hat
   have hne:(((l.findIdx (isK k):Nat):Int)==-1)=false:=by simp only [beq_eq_false_iff_ne];omega
   have hdl:=delL_len l k
   simp only [cond_true,hne,cond_false,wrapU _ (show l.findIdx (isK k)<9223372036854775807 by omega),r1,Int.toNat_natCast]
   constructor
   ·simp only [Bool.and_eq_true,decide_eq_true_eq,List.length_append,List.length_take,List.length_replicate,List.length_drop]
    refine ⟨rfl,?_,?_⟩<;>omega
   ·rw [r3,List.append_assoc,List.take_left']
    rfl
 simp only [q_iDelKey,iDelKey,slices_Clone_iPair,hq,hdf.1,hdf.2,Bool.and_self]
 exact ⟨trivial,trivial⟩
theorem iApply_spec (m:LBBe) (l:Lq2) (hm:m.length≤1000000000) (hl:l.length≤1000000000):q_iApply m l=true∧iApply m l=l.foldl appL m:=by
 have h:it_iApply_0 l ((l.length:Nat):Int) 0 m=(0,l.foldl appL m):=by
  refine itX_fold (ss:=fun v:V_iApply_0=>ss_iApply_0 v.1 v.2.1 v.2.2.1 v.2.2.2) (fa:=fl_iApply_0) (fun i b=>((l,((l.length:Nat):Int),(i:Int),b):V_iApply_0)) l dOp appL (fun b=>((0,b):A_iApply_0)) (fun i b=>b.length≤m.length+i) (by omega) (fun i b hi hb=>⟨?_,by have:=appL_len b (l.getD i dOp);omega⟩) (fun b hb=>?_) (by simp)
  ·have h1:decide ((i:Int)<((l.length:Nat):Int))=true:=decide_eq_true (by omega)
   have h2:decide (0≤(i:Int)∧(i:Int)<((l.length:Nat):Int))=true:=decide_eq_true (by omega)
   have e:l.getD i ((0:Int),((⟨#[]⟩:ByteArray),(⟨#[]⟩:ByteArray)))=l.getD i dOp:=rfl
   obtain ⟨p1,p2⟩:=iputKey_spec b (l.getD i dOp).2.1 (l.getD i dOp).2.2 (by omega)
   obtain ⟨d1,d2⟩:=iDelKey_spec b (l.getD i dOp).2.1 (by omega)
   simp only [ss_iApply_0,h1,h2,cond_true,Int.toNat_natCast,wrapU i (by omega),e,k1_iApply,k2_iApply,p1,p2,d1,d2,appL]
   cases (l.getD i dOp).1==1<;>cases (l.getD i dOp).1==2<;>rfl
  ·have h1:decide (((l.length:Nat):Int)<((l.length:Nat):Int))=false:=decide_eq_false (by omega)
   simp only [ss_iApply_0,h1,cond_false]
 have hq:q_slices_Clone_iPair m=true:=decide_eq_true (by simp [MAXB];omega)
 simp only [q_iApply,iApply,slices_Clone_iPair,h,hq]
 exact ⟨rfl,trivial⟩
/-- How many orders are held. -/
noncomputable def opsN (h:List RecD):Nat:=(h.map fun r=>r.2.2.length).sum
/-- A shard as it is drawn: right, and all beginnings of its log have room. -/
noncomputable abbrev DrawnS (x:ShardD):Prop:=okRecS x.2.1∧RightS x∧∀ i,i≤x.2.1.length→∀ m h,repL x.2.1 i=some (m,h)→m.length+opsN h≤60∧i+h.length≤300
theorem iCopyRecs_spec {l:List RecD} (hl:okRecS l):q_icopyRecs l=true∧icopyRecs l=l:=by
 have h1:=hl.1
 have e:k1_icopyRecs l=(0,l):=by
  refine itX_inv (ss:=fun v:V_icopyRecs_0=>ss_icopyRecs_0 v.1 v.2.1 v.2.2.1 v.2.2.2) (fa:=fl_icopyRecs_0)
   (fun v=>∃ i:Nat,v=(l,((l.length:Nat):Int),(i:Int),l.take i)∧i≤l.length) (fun a=>a=(0,l)) (fun v=>l.length - v.2.2.1.toNat) ?_ ⟨0,rfl,Nat.zero_le _⟩ (by simp;omega)
  rintro v ⟨i,rfl,hi⟩
  by_cases hlt:i<l.length
  ·have e1:decide ((i:Int)<((l.length:Nat):Int))=true:=decide_eq_true (by omega)
   have e2:decide (0≤(i:Int)∧(i:Int)<((l.length:Nat):Int))=true:=decide_eq_true (by omega)
   have ho:=okOps_len (okRecS_ops hl _ (getD_mem hlt dRec))
   have f3:q_slices_Clone_iOp (l.getD i dRec).2.2=true:=decide_eq_true (by simp only [List.length_nil,MAXB];omega)
   have f4:slices_Clone_iOp (l.getD i dRec).2.2=(l.getD i dRec).2.2:=rfl
   have f1:decide (((l.take i).length+[((l.getD i dRec).1,((l.getD i dRec).2.1,(l.getD i dRec).2.2))].length)*40≤MAXB)=true:=decide_eq_true (by simp only [List.length_singleton,List.length_take,MAXB];omega)
   refine .inl ⟨(l,((l.length:Nat):Int),((i+1:Nat):Int),l.take (i+1)),?_,⟨i+1,rfl,by omega⟩,by simp only [Int.toNat_natCast];omega⟩
   rw [take_succ_getD hlt dRec]
   simp only [ss_icopyRecs_0,e1,e2,cond_true,Int.toNat_natCast,getD_dR,f3,f4,f1,wrapU i (by omega)]
  ·obtain rfl:i=l.length:=by omega
   have e1:decide ((l.length:Int)<((l.length:Nat):Int))=false:=decide_eq_false (by omega)
   simp only [ss_icopyRecs_0,e1,cond_false,List.take_length]
   exact .inr ⟨_,rfl,rfl⟩
 simp only [q_icopyRecs,icopyRecs,e]
 exact ⟨rfl,trivial⟩
theorem iCopyH {x:ShardD} (h1:okRecS x.2.1) (h3:x.2.2.2.1.length≤1048576) (h4:okRecS x.2.2.2.2):q_icopyShard x.1 x.2.1 x.2.2.1 x.2.2.2.1 x.2.2.2.2=true∧icopyShard x.1 x.2.1 x.2.2.1 x.2.2.2.1 x.2.2.2.2=(x.1,x.2.2.1,x.2.1,x.2.2.2.1,x.2.2.2.2):=by
 obtain ⟨a1,a2⟩:=iCopyRecs_spec h1
 obtain ⟨b1,b2⟩:=iCopyRecs_spec h4
 have c1:q_slices_Clone_iPair x.2.2.2.1=true:=decide_eq_true (by simp only [List.length_nil,MAXB];omega)
 have c2:slices_Clone_iPair x.2.2.2.1=x.2.2.2.1:=rfl
 simp only [q_icopyShard,icopyShard,a1,a2,b1,b2,c1,c2,Bool.and_self]
 exact ⟨trivial,trivial⟩
theorem okRecS_held {x:ShardD} (h1:okRecS x.2.1) (hr:RightS x):okRecS x.2.2.2.2:=by
 have I:=right_rep h1 hr
 exact ⟨by have:=hr.2.2.1;omega,fun r hx=>(I.hmem r hx).1⟩
noncomputable def repOut (l:List RecD):List PairD×List RecD×Bool:=match repL l l.length with
 | none=>([],[],false)
 | some s=>(s.1,s.2,true)
theorem keyAt_same (s:ByteArray) (i:Nat):sKeyAt s i=iKeyAt s i:=by
 have hb:0≤bt s (i:Int)∧bt s (i:Int)<256:=by
  unfold bt
  split
  ·have:=UInt8.toNat_lt s[(i:Int).toNat];omega
  ·simp
 have e:=wrap64 (n:=bt s (i:Int)) (by omega) (by omega)
 simp only [sKeyAt,iKeyAt,sl1In,iisKeyByte,e]
 generalize bt s (i:Int)=c
 by_cases h1:c ≥ 97<;>by_cases h2:c≤122<;>by_cases h3:c ≥ 48<;>by_cases h4:c≤57<;>simp [h1,h2,h3,h4]
theorem keyOk_same (s:ByteArray):sKeyOk s=iKeyOk s:=by
 have e:allF (sKeyAt s) (s.size - (0:Int).toNat) (0:Int).toNat=allF (iKeyAt s) (s.size - (0:Int).toNat) (0:Int).toNat:=allF_congr _ _ (fun j _ _=>keyAt_same s j)
 simp only [sKeyOk,iKeyOk,iisWord,iinRange,sl1In,e]
 cases allF (iKeyAt s) (s.size - (0:Int).toNat) (0:Int).toNat<;>cases decide (((s.size:Nat):Int) ≥ 1)<;>cases decide (((s.size:Nat):Int)≤12)<;>rfl
theorem opOk_same (k:Int) (s v:ByteArray):sl7Op k s v=iopOk k s v:=by
 simp only [sl7Op,iopOk,keyOk_same,ba_beq,sl1In]
 cases iKeyOk s with
 | false =>
  by_cases h1:k=1<;>by_cases h2:k=2<;>by_cases h3:k=3<;>by_cases h4:v=⟨#[]⟩<;>by_cases h5:k ≥ 1<;>by_cases h6:k≤3<;>simp [h1,h2,h3,h4,h5,h6]<;>omega
 | true =>
  by_cases h2:k=2
  ·subst h2
   by_cases h4:v=⟨#[]⟩
   ·subst h4;simp [ByteArray.size]
   ·simp [h4]
  ·by_cases h1:k=1
   ·subst h1;simp
   ·by_cases h3:k=3
    ·subst h3;simp
    ·by_cases h5:k ≥ 1<;>by_cases h6:k≤3<;>simp [h1,h2,h3,h5,h6]<;>omega
theorem opAt_same (l:Lq2) (i:Nat):sOpAt l i=iOpAt l i:=by
 simp only [sOpAt,iOpAt,opOk_same]
 rw [← bytesLess_ge,Bool.not_not]
theorem opsOk_same (l:Lq2):sOpsOk l=iOpsOk l:=by
 have e:allF (sOpAt l) (l.length - (0:Int).toNat) (0:Int).toNat=allF (iOpAt l) (l.length - (0:Int).toNat) (0:Int).toNat:=allF_congr _ _ (fun j _ _=>opAt_same l j)
 simp only [sOpsOk,iOpsOk,e]
 rfl
theorem recOk_same (k t:Int) (l:Lq2):sRecOk k t l=iRecOk k t l:=by
 simp only [sRecOk,iRecOk,iisTx,opsOk_same]
 rw [show iinRange t 1 1000000=sl1In t 1 1000000 from rfl]
 cases sl1In t 1 1000000<;>simp
theorem repL_none {l:List RecD} {i:Nat} (h:repL l i=none):∀ k,repL l (i+k)=none:=by
 intro k
 induction k with
 | zero=>exact h
 | succ k ih=>rw [Nat.add_succ];simp only [repL,ih,Option.bind_none]
theorem rep_stop {l:List RecD} {i:Nat} (hi:i<l.length) {m:List PairD} {held:List RecD} (hp:repL l i=some (m,held)) (hs:stepL ((l.take i).any (isTx (l.getD i dRec).2.1)) m held (l.getD i dRec)=none):repL l l.length=none:=by
 have h1:repL l (i+1)=none:=by simp only [repL,hp,Option.bind_some];exact hs
 have:=repL_none h1 (l.length - (i+1))
 rwa [show i+1+(l.length - (i+1))=l.length by omega] at this
theorem itX_any {V A α:Type} {ss:V→V ⊕ A} {fa:A} (pk:Nat→V) (l:List α) (d:α) (p:α→Bool) (good last:A) (hn:l.length<4611686018427387904)
  (h:∀ i,i<l.length→ss (pk i)=cond (p (l.getD i d)) (.inr good) (.inl (pk (i+1)))) (hl:ss (pk l.length)=.inr last):itX ss fa (pk 0)=cond (l.any p) good last:=by
 rw [itX_find pk l d p (fun _=>good) last hn h hl]
 cases ha:l.any p with
 | true=>rw [decide_eq_true (List.findIdx_lt_length.2 (List.any_eq_true.1 ha))]
 | false =>
  rw [decide_eq_false]
  intro hc
  obtain ⟨x,hx,hp⟩:=List.findIdx_lt_length.1 hc
  rw [List.any_eq_true.2 ⟨x,hx,hp⟩] at ha
  cases ha
theorem getD_dO (l:Lq2) (i:Nat):l.getD i ((0:Int),((⟨#[]⟩:ByteArray),(⟨#[]⟩:ByteArray)))=l.getD i dOp:=rfl
theorem toList_comm (a b:ByteArray):(a.toList==b.toList)=(b.toList==a.toList):=by
 rw [ba_beq,ba_beq];exact decide_eq_decide.2 eq_comm
theorem held_in (ops l:Lq2) (held:List RecD) (n i k:Int) (m:Int) (o:Int×ByteArray×ByteArray) (ho:ops.length≤1048576) :
  it_iisHeldKey_2 ops held n i l m k ops ((ops.length:Nat):Int) 0 o.1 o.2.1 o.2.2=cond (keyAny o.2.1 ops) (0,true,[],[],0,0,[],0,0) (1,false,ops,held,n,i,l,m,k):=by
 refine itX_any (ss:=fun v:V_iisHeldKey_2=>ss_iisHeldKey_2 v.1 v.2.1 v.2.2.1 v.2.2.2.1 v.2.2.2.2.1 v.2.2.2.2.2.1 v.2.2.2.2.2.2.1 v.2.2.2.2.2.2.2.1 v.2.2.2.2.2.2.2.2.1 v.2.2.2.2.2.2.2.2.2 o.1 o.2.1 o.2.2) (fa:=fl_iisHeldKey_2) (fun j=>((ops,held,n,i,l,m,k,ops,((ops.length:Nat):Int),(j:Int)):V_iisHeldKey_2)) ops dOp (fun x=>o.2.1.toList==x.2.1.toList) _ _ (by omega) (fun j hj=>?_) ?_
 ·have h1:decide ((j:Int)<((ops.length:Nat):Int))=true:=decide_eq_true (by omega)
  have h4:decide (0≤(j:Int)∧(j:Int)<((ops.length:Nat):Int))=true:=decide_eq_true (by omega)
  simp only [ss_iisHeldKey_2,getD_dO,Int.toNat_natCast,h1,h4,cond_true,wrapU j (by omega),toList_comm _ o.2.1]
 ·have h1:decide (((ops.length:Nat):Int)<((ops.length:Nat):Int))=false:=decide_eq_false (by omega)
  simp only [ss_iisHeldKey_2,h1,cond_false]
theorem held_mid (ops l:Lq2) (held:List RecD) (n i:Int) (hl:l.length≤1048576) (ho:ops.length≤1048576) :
  it_iisHeldKey_1 ops held n i l ((l.length:Nat):Int) 0=cond (keysAny l ops) (0,true,[],[],0,0) (1,false,ops,held,n,i):=by
 refine itX_any (ss:=fun v:V_iisHeldKey_1=>ss_iisHeldKey_1 v.1 v.2.1 v.2.2.1 v.2.2.2.1 v.2.2.2.2.1 v.2.2.2.2.2.1 v.2.2.2.2.2.2) (fa:=fl_iisHeldKey_1) (fun k=>((ops,held,n,i,l,((l.length:Nat):Int),(k:Int)):V_iisHeldKey_1)) l dOp (fun o=>keyAny o.2.1 ops) _ _ (by omega) (fun k hk=>?_) ?_
 ·have h1:decide ((k:Int)<((l.length:Nat):Int))=true:=decide_eq_true (by omega)
  have h2:decide (0≤(k:Int)∧(k:Int)<((l.length:Nat):Int))=true:=decide_eq_true (by omega)
  simp only [ss_iisHeldKey_1,k1_iisHeldKey,getD_dO,Int.toNat_natCast,h1,h2,cond_true,held_in ops l held n i (k:Int) ((l.length:Nat):Int) (l.getD k dOp) ho]
  cases keyAny (l.getD k dOp).2.1 ops
  ·simp only [cond_false,wrapU k (by omega)];rfl
  ·rfl
 ·have h1:decide (((l.length:Nat):Int)<((l.length:Nat):Int))=false:=decide_eq_false (by omega)
  simp only [ss_iisHeldKey_1,h1,cond_false]
theorem heldKey_spec (held:List RecD) (ops:Lq2) (hl:held.length≤1099511627776) (hh:∀ r∈held,r.2.2.length≤1048576) (ho:ops.length≤1048576):q_iisHeldKey held ops=true∧iisHeldKey held ops=lockedL held ops:=by
 have e:it_iisHeldKey_0 ops held ((held.length:Nat):Int) 0=cond (lockedL held ops) (0,true) (1,false):=by
  refine itX_any (ss:=fun v:V_iisHeldKey_0=>ss_iisHeldKey_0 v.1 v.2.1 v.2.2.1 v.2.2.2) (fa:=fl_iisHeldKey_0) (fun i=>((ops,held,((held.length:Nat):Int),(i:Int)):V_iisHeldKey_0)) held dRec (fun r=>keysAny r.2.2 ops) _ _ (by omega) (fun i hi=>?_) ?_
  ·have h1:decide ((i:Int)<((held.length:Nat):Int))=true:=decide_eq_true (by omega)
   have h2:decide (0≤(i:Int)∧(i:Int)<((held.length:Nat):Int))=true:=decide_eq_true (by omega)
   simp only [ss_iisHeldKey_0,k2_iisHeldKey,getD_dR,Int.toNat_natCast,h1,h2,cond_true,held_mid ops (held.getD i dRec).2.2 held ((held.length:Nat):Int) (i:Int) (hh _ (getD_mem hi dRec)) ho]
   cases keysAny (held.getD i dRec).2.2 ops
   ·simp only [cond_false,wrapU i (by omega)];rfl
   ·rfl
  ·have h1:decide (((held.length:Nat):Int)<((held.length:Nat):Int))=false:=decide_eq_false (by omega)
   simp only [ss_iisHeldKey_0,h1,cond_false]
 simp only [q_iisHeldKey,iisHeldKey,e]
 cases lockedL held ops<;>exact ⟨rfl,rfl⟩
noncomputable def getL (l:LBBe) (k:ByteArray):Option ByteArray:=(l.find? (isK k)).map (·.2)
theorem find_idx {α:Type} (p:α→Bool) (d:α):∀ l:List α,l.find? p=cond (decide (l.findIdx p<l.length)) (some (l.getD (l.findIdx p) d)) none
 | []=>by simp
 | x::l=>by
  have ih:=find_idx p d l
  cases h:p x with
  | true=>simp [List.find?_cons,List.findIdx_cons,h]
  | false =>
   simp only [List.find?_cons,List.findIdx_cons,h,List.length_cons,cond_false,List.getD_cons_succ]
   rw [ih]
   by_cases hl:l.findIdx p<l.length
   ·rw [decide_eq_true hl,decide_eq_true (show l.findIdx p+1<l.length+1 by omega)]
   ·rw [decide_eq_false hl,decide_eq_false (show ¬ l.findIdx p+1<l.length+1 by omega)]
theorem iGetKey_spec (l:LBBe) (k:ByteArray) (hl:l.length≤1099511627776):q_iGetKey l k=true∧iGetKey l k=(match getL l k with | some v=>(v,true) | none=>((⟨#[]⟩:ByteArray),false)):=by
 obtain ⟨p1,p2⟩:=pairAt_spec l k hl
 simp only [q_iGetKey,iGetKey,p1,p2,getL,find_idx (isK k) dP l,Bool.true_and]
 cases hc:decide (l.findIdx (isK k)<l.length) with
 | true =>
  have hlt:=of_decide_eq_true hc
  have g1:decide (((l.findIdx (isK k):Nat):Int)<0)=false:=decide_eq_false (by omega)
  have g2:decide (0≤((l.findIdx (isK k):Nat):Int)∧((l.findIdx (isK k):Nat):Int)<((l.length:Nat):Int))=true:=decide_eq_true (by omega)
  simp only [cond_true,g1,g2,cond_false,Int.toNat_natCast]
  exact ⟨trivial,rfl⟩
 | false=>exact ⟨rfl,rfl⟩
theorem sGetKey_spec (l:LBBe) (k:ByteArray) (hl:l.length≤1099511627776):q_sGetKey l k=true∧sGetKey l k=(match getL l k with | some v=>(v,true) | none=>((⟨#[]⟩:ByteArray),false)):=by
 have e:it_sGetKey_0 l k 0=cond (decide (l.findIdx (isK k)<l.length)) (0,(l.getD (l.findIdx (isK k)) dP).2,true) (1,(⟨#[]⟩:ByteArray),false):=by
  refine itX_find (ss:=fun v:V_sGetKey_0=>ss_sGetKey_0 v.1 v.2.1 v.2.2) (fa:=fl_sGetKey_0) (fun i=>((l,k,(i:Int)):V_sGetKey_0)) l dP (isK k) (fun i=>((0,(l.getD i dP).2,true):A_sGetKey_0)) _ (by omega) (fun i hi=>?_) ?_
  ·have h1:decide ((i:Int)<((l.length:Nat):Int))=true:=decide_eq_true (by omega)
   have h2:decide (0≤(i:Int)∧(i:Int)<((l.length:Nat):Int))=true:=decide_eq_true (by omega)
   simp only [ss_sGetKey_0,h1,h2,cond_true,Int.toNat_natCast,wrapU i (by omega),getD_dP,isK]
  ·have h1:decide (((l.length:Nat):Int)<((l.length:Nat):Int))=false:=decide_eq_false (by omega)
   simp only [ss_sGetKey_0,h1,cond_false]
 simp only [q_sGetKey,sGetKey,e,getL,find_idx (isK k) dP l]
 cases decide (l.findIdx (isK k)<l.length)<;>exact ⟨rfl,rfl⟩
theorem getKey_same (m:LBBe) (k:ByteArray) (hm:m.length≤1099511627776):iGetKey m k=sGetKey m k:=by
 rw [(sGetKey_spec m k hm).2,(iGetKey_spec m k hm).2]
 all_goals (cases getL m k<;>rfl)
theorem iMeets_spec (m:LBBe) (ops:Lq2) (hm:m.length≤1099511627776) (ho:ops.length≤1048576):q_iMeets m ops=true∧iMeets m ops=meetsL m ops:=by
 have e:it_iMeets_0 m ops ((ops.length:Nat):Int) 0=cond (ops.any (misses m)) (0,false) (1,false):=by
  refine itX_any (ss:=fun v:V_iMeets_0=>ss_iMeets_0 v.1 v.2.1 v.2.2.1 v.2.2.2) (fa:=fl_iMeets_0) (fun i=>((m,ops,((ops.length:Nat):Int),(i:Int)):V_iMeets_0)) ops dOp (misses m) _ _ (by omega) (fun i hi=>?_) ?_
  ·have h1:decide ((i:Int)<((ops.length:Nat):Int))=true:=decide_eq_true (by omega)
   have h2:decide (0≤(i:Int)∧(i:Int)<((ops.length:Nat):Int))=true:=decide_eq_true (by omega)
   simp only [ss_iMeets_0,k1_iMeets,getD_dO,Int.toNat_natCast,h1,h2,cond_true,wrapU i (by omega),(iGetKey_spec m _ hm).1,getKey_same m _ hm,misses]
   generalize ((ops.getD i dOp).1 != 3)=a
   generalize (!((sGetKey m (ops.getD i dOp).2.1).2==(!((ops.getD i dOp).2.2.toList==(⟨#[]⟩:ByteArray).toList))))=b
   generalize (!((sGetKey m (ops.getD i dOp).2.1).1.toList==(ops.getD i dOp).2.2.toList))=c
   cases a<;>cases b<;>cases c<;>rfl
  ·have h1:decide (((ops.length:Nat):Int)<((ops.length:Nat):Int))=false:=decide_eq_false (by omega)
   simp only [ss_iMeets_0,h1,cond_false]
 simp only [q_iMeets,iMeets,e,meetsL]
 cases ops.any (misses m)<;>exact ⟨rfl,rfl⟩
theorem add_spec (r:RecD) (ahead:List RecD) (m:List PairD) (held:List RecD) (hr:okOps r.2.2=true) (hok:sRecOk r.1 r.2.1 r.2.2=true) (hm:m.length≤1000) (hh:held.length≤1048576) (ha:ahead.length≤1048576) (ho:∀ x∈held,okOps x.2.2=true) (h1:oneTx held) :
  q_ireplay_add_w2 r.1 r.2.1 r.2.2 ahead m held=true∧(match stepL (ahead.any (isTx r.2.1)) m held r with
   | none=>(ireplay_add_w2 r.1 r.2.1 r.2.2 ahead m held).1=false
   | some (m', h')=>ireplay_add_w2 r.1 r.2.1 r.2.2 ahead m held=(true,m', h')):=by
 have a1:=(recAt_spec held r.2.1 (by omega)).1
 have a2:=(recAt_neg held r.2.1 (by omega)).1
 have a3:=(recAt_spec ahead r.2.1 (by omega)).1
 have a4:=(recAt_neg ahead r.2.1 (by omega)).2
 have hl:=okOps_len hr
 obtain ⟨c1,c2⟩:=heldKey_spec held r.2.2 (by omega) (fun x hx=>okOps_len (ho x hx)) hl
 obtain ⟨d1,d2⟩:=iMeets_spec m r.2.2 (by omega) hl
 have f1:decide ((held.length+[((1:Int),(r.2.1,r.2.2))].length)*40≤MAXB)=true:=decide_eq_true (by simp only [List.length_singleton,MAXB];omega)
 have f3:q_slices_Clone_iOp r.2.2=true:=decide_eq_true (by simp only [List.length_nil,MAXB];omega)
 have f4:slices_Clone_iOp r.2.2=r.2.2:=rfl
 simp only [q_ireplay_add_w2,ireplay_add_w2,stepL,a1,a2,a3,a4,c1,c2,d1,d2,f1,f3,f4,hok,Bool.true_and,Bool.and_true,Bool.not_true,cond_false]
 cases hk:(r.1==1) with
 | true =>
  simp only [cond_true]
  cases ahead.any (isTx r.2.1) with
  | true=>first | exact ⟨rfl,rfl⟩ | exact ⟨trivial,rfl⟩
  | false =>
   cases lockedL held r.2.2 with
   | true=>first | exact ⟨rfl,rfl⟩ | exact ⟨trivial,rfl⟩
   | false =>
    cases meetsL m r.2.2 with
    | false=>first | exact ⟨rfl,rfl⟩ | exact ⟨trivial,rfl⟩
    | true=>first | exact ⟨rfl,rfl⟩ | exact ⟨trivial,rfl⟩
 | false =>
  simp only [cond_false]
  cases ha2:held.any (isTx r.2.1) with
  | false =>
   simp only [Bool.not_false,cond_true]
   cases (r.1==3) with
   | false=>first | exact ⟨rfl,rfl⟩ | exact ⟨trivial,rfl⟩
   | true=>cases ahead.any (isTx r.2.1) with
    | true=>first | exact ⟨rfl,rfl⟩ | exact ⟨trivial,rfl⟩
    | false=>first | exact ⟨rfl,rfl⟩ | exact ⟨trivial,rfl⟩
  | true =>
   obtain ⟨_,e1,hlt,_⟩:=at_same h1 r.2.1 (by omega) ha2
   generalize hi:held.findIdx (isTx r.2.1)=i at hlt e1 ⊢
   have e2:=wrapU i (by omega)
   have q0:decide (0≤(i:Int)∧(i:Int)<((held.length:Nat):Int))=true:=decide_eq_true (by omega)
   obtain ⟨s1,s2⟩:=iApply_spec m (held.getD i dRec).2.2 (by omega) (by have:=okOps_len (ho _ (getD_mem hlt dRec));omega)
   obtain ⟨t1,t2⟩:=del_spec held i hlt (by omega)
   simp only [Bool.not_true,cond_false,e1,e2,Int.toNat_natCast,q0,getD_dR,s1,s2,t1,t2,Bool.true_and,Bool.and_true]
   cases (r.1==2) with
   | true =>
    simp only [cond_true]
    refine ⟨trivial,?_⟩
    cases decide (((((held.getD i dRec).2.2.foldl appL m).length:Nat):Int)≤60) with
    | true=>rfl
    | false=>rfl
   | false =>
    simp only [cond_false]
    refine ⟨trivial,?_⟩
    cases decide (((m.length:Nat):Int)≤60) with
    | true=>rfl
    | false=>rfl
theorem iReplay_spec (l:List RecD) (hl:l.length≤1048576) (hr:∀ x∈l,okOps x.2.2=true):q_iReplayRecs l=true∧iReplayRecs l=repOut l:=by
 have key:((k3_iReplayRecs l).1=0∧(k3_iReplayRecs l).2.1=false∧repL l l.length=none)∨((k3_iReplayRecs l).1=1∧repL l l.length=some ((k3_iReplayRecs l).2.2.1,(k3_iReplayRecs l).2.2.2)):=by
  refine itX_inv (ss:=fun v:V_iReplayRecs_0=>ss_iReplayRecs_0 v.1 v.2.1 v.2.2.1 v.2.2.2.1 v.2.2.2.2.1 v.2.2.2.2.2) (fa:=fl_iReplayRecs_0)
   (fun v=>∃ (i:Nat) (m:List PairD) (held:List RecD),v=(l,l,((l.length:Nat):Int),(i:Int),m,held)∧i≤l.length∧repL l i=some (m,held))
   (fun a:A_iReplayRecs_0=>(a.1=0∧a.2.1=false∧repL l l.length=none)∨(a.1=1∧repL l l.length=some (a.2.2.1,a.2.2.2))) (fun v=>l.length - v.2.2.2.1.toNat) ?_ ⟨0,[],[],rfl,Nat.zero_le _,rfl⟩ (by simp;omega)
  rintro v ⟨i,m,held,rfl,hi,hp⟩
  by_cases hlt:i<l.length
  ·have e1:decide ((i:Int)<((l.length:Nat):Int))=true:=decide_eq_true (by omega)
   have e2:decide (0≤(i:Int)∧(i:Int)<((l.length:Nat):Int))=true:=decide_eq_true (by omega)
   have e3:decide (0≤(0:Int)∧(0:Int)≤(i:Int)∧(i:Int)≤((l.length:Nat):Int))=true:=decide_eq_true (by omega)
   have I:=rep_ok hr i hi m held hp
   have g0:q_iRecOk (l.getD i dRec).1 (l.getD i dRec).2.1 (l.getD i dRec).2.2=true:=hr _ (getD_mem hlt dRec)
   simp only [ss_iReplayRecs_0,k1_iReplayRecs,k2_iReplayRecs,e1,e2,e3,cond_true,Int.toNat_natCast,Int.toNat_zero,List.drop_zero,getD_dR,g0,← recOk_same,wrapU i (by omega)]
   cases hok:sRecOk (l.getD i dRec).1 (l.getD i dRec).2.1 (l.getD i dRec).2.2 with
   | false =>
    simp only [Bool.not_false,cond_true]
    exact .inr ⟨_,rfl,.inl ⟨rfl,rfl,rep_stop hlt hp (by simp only [stepL,hok,Bool.not_false,cond_true])⟩⟩
   | true =>
    obtain ⟨o1,o2⟩:=add_spec (l.getD i dRec) (l.take i) m held (hr _ (getD_mem hlt dRec)) hok (by have:=I.hml;omega) (by have:=I.hlen;omega) (by rw [List.length_take];omega) (fun x hx=>(I.hmem x hx).1) I.hone
    simp only [Bool.not_true,cond_false,o1,cond_true]
    cases hst:stepL ((l.take i).any (isTx (l.getD i dRec).2.1)) m held (l.getD i dRec) with
    | none =>
     rw [hst] at o2
     simp only [o2,Bool.not_false,cond_true]
     exact .inr ⟨_,rfl,.inl ⟨rfl,rfl,rep_stop hlt hp hst⟩⟩
    | some s =>
     obtain ⟨m', h'⟩:=s
     rw [hst] at o2
     simp only [o2,Bool.not_true,cond_false]
     exact .inl ⟨_,rfl,⟨i+1,m', h', rfl,by omega,by simp only [repL,hp,Option.bind_some];exact hst⟩,by simp only [Int.toNat_natCast];omega⟩
  ·obtain rfl:i=l.length:=by omega
   have e1:decide ((l.length:Int)<((l.length:Nat):Int))=false:=decide_eq_false (by omega)
   simp only [ss_iReplayRecs_0,e1,cond_false]
   exact .inr ⟨_,rfl,.inr ⟨rfl,hp⟩⟩
 simp only [q_iReplayRecs,iReplayRecs,repOut]
 rcases key with ⟨h1,h2,h5⟩ | ⟨h1,h2⟩
 ·rw [h1,h2,h5];exact ⟨rfl,rfl⟩
 ·rw [h1,h2];exact ⟨rfl,rfl⟩
theorem repOut_ok {l:List RecD} (h:okRecS l):(repOut l).1.length≤60∧(repOut l).2.1.length≤l.length∧∀ x∈(repOut l).2.1,x.2.2.length≤1048576:=by
 simp only [repOut]
 cases hp:repL l l.length with
 | none=>exact ⟨by simp,by simp,fun x hx=>by simp at hx⟩
 | some s =>
  have I:=rep_ok (okRecS_ops h) l.length (Nat.le_refl _) s.1 s.2 (by rw [hp])
  exact ⟨I.hml,I.hlen,fun x hx=>okOps_len (I.hmem x hx).1⟩
noncomputable def zipQ {α:Type} (q:α→α→Bool) (a b:List α):Bool:=(a.zip b).all fun p=>q p.1 p.2
noncomputable def sameL {α:Type} (q:α→α→Bool) (a b:List α):Bool:=cond (((a.length:Nat):Int) != ((b.length:Nat):Int)) false (zipQ q a b)
noncomputable def qP (x y:ByteArray×ByteArray):Bool:=(x.1.toList==y.1.toList)&&((x.2.toList==y.2.toList)&&true)
theorem zip_getD {α:Type} (a b:List α) (d:α) {i:Nat} (ha:i<a.length) (hb:i<b.length):(a.zip b).getD i (d,d)=(a.getD i d,b.getD i d):=by
 have hz:i<(a.zip b).length:=by rw [List.length_zip];omega
 simp only [List.getD_eq_getElem?_getD,List.getElem?_eq_getElem hz,List.getElem?_eq_getElem ha,List.getElem?_eq_getElem hb,Option.getD_some,List.getElem_zip]
theorem itX_zip {V A α:Type} {ss:V→V ⊕ A} {fa:A} (pk:Nat→V) (a b:List α) (d:α) (q:α→α→Bool) (bad last:A) (hab:a.length=b.length) (hn:a.length<4611686018427387904)
  (h:∀ i,i<a.length→ss (pk i)=cond (q (a.getD i d) (b.getD i d)) (.inl (pk (i+1))) (.inr bad)) (hl:ss (pk a.length)=.inr last):itX ss fa (pk 0)=cond (zipQ q a b) last bad:=by
 have hz:(a.zip b).length=a.length:=by rw [List.length_zip];omega
 rw [itX_any pk (a.zip b) (d,d) (fun p=>!(q p.1 p.2)) bad last (by omega) (fun i hi=>by
  rw [hz] at hi
  rw [h i hi,zip_getD a b d hi (by omega)]
  cases q (a.getD i d) (b.getD i d)<;>rfl) (by rw [hz];exact hl)]
 have:(a.zip b).any (fun p=>!(q p.1 p.2))=!(zipQ q a b):=by
  simp only [zipQ,List.all_eq_not_any_not,Bool.not_not]
 rw [this]
 cases zipQ q a b<;>rfl
theorem eq_len {α:Type} {a b:List α} (h:a.length=b.length):(((a.length:Nat):Int) != ((b.length:Nat):Int))=false:=by
 rw [h];simp
theorem ne_len {α:Type} {a b:List α} (h:¬ a.length=b.length):(((a.length:Nat):Int) != ((b.length:Nat):Int))=true:=by
 simp only [bne_iff_ne,ne_eq];omega
theorem equalPairs_spec (a b:List PairD) (hl:a.length≤1099511627776):q_slices_Equal_iPair a b=true∧slices_Equal_iPair a b=sameL qP a b:=by
 simp only [q_slices_Equal_iPair,slices_Equal_iPair,sameL]
 by_cases hab:a.length=b.length
 ·have e : it_slices_Equal_iPair_0 a b ((a.length : Nat) : Int) 0 = cond (zipQ qP a b) (1, false) (0, false) := by
   refine itX_zip (ss:=fun v:V_slices_Equal_iPair_0=>ss_slices_Equal_iPair_0 v.1 v.2.1 v.2.2.1 v.2.2.2) (fa:=fl_slices_Equal_iPair_0) (fun i=>((a,b,((a.length:Nat):Int),(i:Int)):V_slices_Equal_iPair_0)) a b dP qP _ _ hab (by omega) (fun i hi=>?_) ?_
   ·have h1:decide ((i:Int)<((a.length:Nat):Int))=true:=decide_eq_true (by omega)
    have h2:decide (0≤(i:Int)∧(i:Int)<((a.length:Nat):Int))=true:=decide_eq_true (by omega)
    have h3:decide (0≤(i:Int)∧(i:Int)<((b.length:Nat):Int))=true:=decide_eq_true (by omega)
    simp only [ss_slices_Equal_iPair_0,h1,h2,h3,cond_true,Int.toNat_natCast,wrapU i (by omega),getD_dP,qP]
    generalize ((a.getD i dP).1.toList==(b.getD i dP).1.toList&&((a.getD i dP).2.toList==(b.getD i dP).2.toList&&true))=z
    cases z<;>rfl
   ·have h1:decide (((a.length:Nat):Int)<((a.length:Nat):Int))=false:=decide_eq_false (by omega)
    simp only [ss_slices_Equal_iPair_0,h1,cond_false]
  rw [eq_len hab,e]
  cases zipQ qP a b<;>exact ⟨rfl,rfl⟩
 ·rw [ne_len hab];exact ⟨rfl,rfl⟩
noncomputable def qO (x y:Int×ByteArray×ByteArray):Bool:=(x.1==y.1)&&((x.2.1.toList==y.2.1.toList)&&((x.2.2.toList==y.2.2.toList)&&true))
noncomputable def qR (x y:RecD):Bool:=cond (x.1 != y.1) false (cond (x.2.1 != y.2.1) false (sameL qO x.2.2 y.2.2))
theorem equalOps_spec (a b:Lq2) (hl:a.length≤1099511627776):q_slices_Equal_iOp a b=true∧slices_Equal_iOp a b=sameL qO a b:=by
 simp only [q_slices_Equal_iOp,slices_Equal_iOp,sameL]
 by_cases hab:a.length=b.length
 ·have e : it_slices_Equal_iOp_0 a b ((a.length : Nat) : Int) 0 = cond (zipQ qO a b) (1, false) (0, false) := by
   refine itX_zip (ss:=fun v:V_slices_Equal_iOp_0=>ss_slices_Equal_iOp_0 v.1 v.2.1 v.2.2.1 v.2.2.2) (fa:=fl_slices_Equal_iOp_0) (fun i=>((a,b,((a.length:Nat):Int),(i:Int)):V_slices_Equal_iOp_0)) a b dOp qO _ _ hab (by omega) (fun i hi=>?_) ?_
   ·have h1:decide ((i:Int)<((a.length:Nat):Int))=true:=decide_eq_true (by omega)
    have h2:decide (0≤(i:Int)∧(i:Int)<((a.length:Nat):Int))=true:=decide_eq_true (by omega)
    have h3:decide (0≤(i:Int)∧(i:Int)<((b.length:Nat):Int))=true:=decide_eq_true (by omega)
    simp only [ss_slices_Equal_iOp_0,h1,h2,h3,cond_true,Int.toNat_natCast,wrapU i (by omega),getD_dO,qO]
    generalize ((a.getD i dOp).1==(b.getD i dOp).1&&((a.getD i dOp).2.1.toList==(b.getD i dOp).2.1.toList&&((a.getD i dOp).2.2.toList==(b.getD i dOp).2.2.toList&&true)))=z
    cases z<;>rfl
   ·have h1:decide (((a.length:Nat):Int)<((a.length:Nat):Int))=false:=decide_eq_false (by omega)
    simp only [ss_slices_Equal_iOp_0,h1,cond_false]
  rw [eq_len hab,e]
  cases zipQ qO a b<;>exact ⟨rfl,rfl⟩
 ·rw [ne_len hab];exact ⟨rfl,rfl⟩
theorem sameRec_qR (x y:RecD) (hl:x.2.2.length≤1048576):q_isameRec x.1 x.2.1 x.2.2 y.1 y.2.1 y.2.2=true∧isameRec x.1 x.2.1 x.2.2 y.1 y.2.1 y.2.2=qR x y:=by
 obtain ⟨o1,o2⟩:=equalOps_spec x.2.2 y.2.2 (by omega)
 simp only [q_isameRec,isameRec,o1,o2,qR,bne]
 cases (x.1==y.1)<;>cases (x.2.1==y.2.1)<;>exact ⟨rfl,rfl⟩
theorem equalRecs_spec (a b:List RecD) (hl:a.length≤1099511627776) (ho:∀ x∈a,x.2.2.length≤1048576):q_slices_EqualFunc_iReciRec_iRec_iRec_ a b=true∧slices_EqualFunc_iReciRec_iRec_iRec_ a b=sameL qR a b:=by
 simp only [q_slices_EqualFunc_iReciRec_iRec_iRec_,slices_EqualFunc_iReciRec_iRec_iRec_,sameL]
 by_cases hab:a.length=b.length
 ·have e : it_slices_EqualFunc_iReciRec_iRec_iRec__0 b a ((a.length : Nat) : Int) 0 = cond (zipQ qR a b) (1, false) (0, false) := by
   refine itX_zip (ss:=fun v:V_slices_EqualFunc_iReciRec_iRec_iRec__0=>ss_slices_EqualFunc_iReciRec_iRec_iRec__0 v.1 v.2.1 v.2.2.1 v.2.2.2) (fa:=fl_slices_EqualFunc_iReciRec_iRec_iRec__0) (fun i=>((b,a,((a.length:Nat):Int),(i:Int)):V_slices_EqualFunc_iReciRec_iRec_iRec__0)) a b dRec qR _ _ hab (by omega) (fun i hi=>?_) ?_
   ·have h1:decide ((i:Int)<((a.length:Nat):Int))=true:=decide_eq_true (by omega)
    have h2:decide (0≤(i:Int)∧(i:Int)<((a.length:Nat):Int))=true:=decide_eq_true (by omega)
    have h3:decide (0≤(i:Int)∧(i:Int)<((b.length:Nat):Int))=true:=decide_eq_true (by omega)
    obtain ⟨o1,o2⟩:=sameRec_qR (a.getD i dRec) (b.getD i dRec) (ho _ (getD_mem hi dRec))
    simp only [ss_slices_EqualFunc_iReciRec_iRec_iRec__0,k1_slices_EqualFunc_iReciRec_iRec_iRec_,h1,h2,h3,cond_true,Int.toNat_natCast,wrapU i (by omega),getD_dR,o1,o2]
    cases qR (a.getD i dRec) (b.getD i dRec)<;>rfl
   ·have h1:decide (((a.length:Nat):Int)<((a.length:Nat):Int))=false:=decide_eq_false (by omega)
    simp only [ss_slices_EqualFunc_iReciRec_iRec_iRec__0,h1,cond_false]
  rw [eq_len hab,e]
  cases zipQ qR a b<;>exact ⟨rfl,rfl⟩
 ·rw [ne_len hab];exact ⟨rfl,rfl⟩
theorem shardOk_q {x:ShardD} (h1:okRecS x.2.1) (hl4:x.2.2.2.2.length≤1048576):q_iShardOk x.1 x.2.1 x.2.2.1 x.2.2.2.1 x.2.2.2.2=true:=by
 obtain ⟨i1,i2⟩:=iReplay_spec x.2.1 h1.1 (okRecS_ops h1)
 obtain ⟨r1,r2,r3⟩:=repOut_ok h1
 have hl1:=h1.1
 obtain ⟨b1,b2⟩:=equalPairs_spec (repOut x.2.1).1 x.2.2.2.1 (by omega)
 obtain ⟨d1,d2⟩:=equalRecs_spec (repOut x.2.1).2.1 x.2.2.2.2 (by omega) r3
 simp only [q_iShardOk,i1,i2,b1,d1,Bool.true_and]
 cases (!(iisId x.1))<;>cases (!(iinRange x.2.2.1 0 ((x.2.1.length:Nat):Int)))<;>cases decide ((IntKind.wrap .i64 (((x.2.1.length:Nat):Int)+((x.2.2.2.2.length:Nat):Int))) > (300:Int))<;>cases (repOut x.2.1).2.2<;>cases slices_Equal_iPair (repOut x.2.1).1 x.2.2.2.1<;>rfl
theorem in_iff (z p q:Int):sl1In z p q=decide (p≤z∧z≤q):=by
 by_cases h1:p≤z
 ·by_cases h2:z≤q
  ·rw [decide_eq_true (And.intro h1 h2)];simp [sl1In,h1,h2]
  ·rw [decide_eq_false (fun h=>h2 h.2)];simp [sl1In,h1,h2]
 ·rw [decide_eq_false (fun h=>h1 h.1)];simp [sl1In,h1]
theorem zipQ_eq {α:Type} (q:α→α→Bool) (hq:∀ x y,q x y=true→x=y):∀ (a b:List α),a.length=b.length→zipQ q a b=true→a=b:=by
 intro a
 induction a with
 | nil=>intro b h _;cases b with
  | nil=>rfl
  | cons y b=>simp at h
 | cons x a ih=>intro b h hz;cases b with
  | nil=>simp at h
  | cons y b =>
   simp only [zipQ,List.zip_cons_cons,List.all_cons,Bool.and_eq_true] at hz
   rw [hq x y hz.1,ih b (by simpa using h) hz.2]
theorem sameL_eq {α:Type} (q:α→α→Bool) (hq:∀ x y,q x y=true→x=y) {a b:List α} (h:sameL q a b=true):a=b:=by
 by_cases hl:a.length=b.length
 ·simp only [sameL,eq_len hl,cond_false] at h
  exact zipQ_eq q hq a b hl h
 ·simp only [sameL,ne_len hl,cond_true] at h;cases h
theorem qP_iff (x y:PairD):qP x y=true↔x=y:=by
 simp only [qP,ba_beq,Bool.and_true,Bool.and_eq_true,decide_eq_true_eq]
 exact ⟨fun h=>Prod.ext h.1 h.2,fun h=>by rw [h];exact ⟨rfl,rfl⟩⟩
theorem zipQ_refl {α:Type} (q:α→α→Bool):∀ (a:List α),(∀ x∈a,q x x=true)→zipQ q a a=true:=by
 intro a
 induction a with
 | nil=>intro _;rfl
 | cons x a ih =>
  intro h
  simp only [zipQ,List.zip_cons_cons,List.all_cons,Bool.and_eq_true]
  exact ⟨h x (by simp),ih (fun y hy=>h y (by simp [hy]))⟩
theorem sameL_refl {α:Type} (q:α→α→Bool) {a:List α} (h:∀ x∈a,q x x=true):sameL q a a=true:=by
 simp only [sameL,eq_len (a:=a) (b:=a) rfl,cond_false]
 exact zipQ_refl q a h
theorem sameP_iff (a b:List PairD):sameL qP a b=true↔a=b :=
 ⟨sameL_eq qP (fun x y h=>(qP_iff x y).1 h),fun h=>by rw [h];exact sameL_refl qP (fun x _=>(qP_iff x x).2 rfl)⟩
theorem qO_iff (x y:Int×ByteArray×ByteArray):qO x y=true↔x=y:=by
 simp only [qO,ba_beq,Bool.and_true,Bool.and_eq_true,decide_eq_true_eq,beq_iff_eq]
 exact ⟨fun h=>Prod.ext h.1 (Prod.ext h.2.1 h.2.2),fun h=>by rw [h];exact ⟨rfl,rfl,rfl⟩⟩
theorem sameO_iff (a b:Lq2):sameL qO a b=true↔a=b :=
 ⟨sameL_eq qO (fun x y h=>(qO_iff x y).1 h),fun h=>by rw [h];exact sameL_refl qO (fun x _=>(qO_iff x x).2 rfl)⟩
theorem qR_iff (x y:RecD):qR x y=true↔x=y:=by
 simp only [qR,bne]
 constructor
 ·intro h
  cases h1:(x.1==y.1) with
  | false=>rw [h1] at h;simp at h
  | true =>
   rw [h1] at h
   cases h2:(x.2.1==y.2.1) with
   | false=>rw [h2] at h;simp at h
   | true =>
    rw [h2] at h
    exact Prod.ext (beq_iff_eq.1 h1) (Prod.ext (beq_iff_eq.1 h2) ((sameO_iff _ _).1 h))
 ·rintro rfl
  rw [beq_self_eq_true,beq_self_eq_true]
  exact (sameO_iff _ _).2 rfl
theorem sameR_iff (a b:List RecD):sameL qR a b=true↔a=b :=
 ⟨sameL_eq qR (fun x y h=>(qR_iff x y).1 h),fun h=>by rw [h];exact sameL_refl qR (fun x _=>(qR_iff x x).2 rfl)⟩
theorem shardOk_iff {x:ShardD} (h1:okRecS x.2.1) (hl3:x.2.2.2.1.length≤1048576) (hl4:x.2.2.2.2.length≤1048576):iShardOk x.1 x.2.1 x.2.2.1 x.2.2.2.1 x.2.2.2.2=true↔RightS x:=by
 obtain ⟨i1,i2⟩:=iReplay_spec x.2.1 h1.1 (okRecS_ops h1)
 obtain ⟨r1,r2,r3⟩:=repOut_ok h1
 have hl1:=h1.1
 obtain ⟨b1,b2⟩:=equalPairs_spec (repOut x.2.1).1 x.2.2.2.1 (by omega)
 obtain ⟨d1,d2⟩:=equalRecs_spec (repOut x.2.1).2.1 x.2.2.2.2 (by omega) r3
 have w1:=wrap64 (n:=((x.2.1.length:Nat):Int)+((x.2.2.2.2.length:Nat):Int)) (by omega) (by omega)
 have n1:iisId x.1=sl1In x.1 0 7:=rfl
 have n2:iinRange x.2.2.1 0 ((x.2.1.length:Nat):Int)=sl1In x.2.2.1 0 ((x.2.1.length:Nat):Int):=rfl
 simp only [iShardOk,i2,b2,d2,w1,n1,n2,in_iff,RightS]
 by_cases g1:0≤x.1∧x.1≤7
 ·by_cases g2:0≤x.2.2.1∧x.2.2.1≤((x.2.1.length:Nat):Int)
  ·by_cases g3:((x.2.1.length:Nat):Int)+((x.2.2.2.2.length:Nat):Int) > 300
   ·rw [decide_eq_true g1,decide_eq_true g2,decide_eq_true g3]
    exact ⟨fun h=>absurd h (by simp),fun h=>absurd h.2.2.1 (by omega)⟩
   ·rw [decide_eq_true g1,decide_eq_true g2,decide_eq_false g3]
    simp only [Bool.not_true,cond_false,repOut]
    cases hp:repL x.2.1 x.2.1.length with
    | none=>exact ⟨fun h=>absurd h (by simp),fun h=>absurd h.2.2.2 (by simp)⟩
    | some s =>
     simp only [cond_true]
     cases hP:sameL qP s.1 x.2.2.2.1 with
     | false =>
      refine ⟨fun h=>absurd h (by simp),fun h=>?_⟩
      have e:=Option.some.inj h.2.2.2
      rw [e,(sameP_iff _ _).2 rfl] at hP;cases hP
     | true =>
      simp only [cond_true]
      rw [sameR_iff]
      have e1:=(sameP_iff _ _).1 hP
      exact ⟨fun h=>⟨g1,g2,by omega,by rw [show s=(s.1,s.2) from rfl,e1,h]⟩,fun h=>by rw [Option.some.inj h.2.2.2]⟩
  ·rw [decide_eq_true g1,decide_eq_false g2]
   exact ⟨fun h=>absurd h (by simp),fun h=>absurd h.2.1 g2⟩
 ·rw [decide_eq_false g1]
  exact ⟨fun h=>absurd h (by simp),fun h=>absurd h.1 g1⟩
theorem drawn_same {x:ShardD} (D:DrawnS x):(q_iReplayRecs x.2.1=true∧iReplayRecs x.2.1=(x.2.2.2.1,x.2.2.2.2,true))∧(q_iShardOk x.1 x.2.1 x.2.2.1 x.2.2.2.1 x.2.2.2.2=true∧iShardOk x.1 x.2.1 x.2.2.1 x.2.2.2.1 x.2.2.2.2=true):=by
 have I:=right_rep D.1 D.2.1
 have hh:=D.2.1.2.2.1
 have hm:=I.hml
 obtain ⟨i1,i2⟩:=iReplay_spec x.2.1 D.1.1 (okRecS_ops D.1)
 refine ⟨⟨i1,?_⟩,shardOk_q D.1 (by omega),(shardOk_iff D.1 (by omega) (by omega)).2 D.2.1⟩
 rw [i2]
 simp only [repOut,D.2.1.2.2.2]
theorem out_four {x:ShardD} {t:Int} (h1:(outOf x t==1)=false) (h3:(outOf x t==3)=false) (h4:(outOf x t==4)=false):outOf x t=2:=by
 revert h1 h3 h4
 simp only [outOf,ofK]
 cases x.2.2.2.2.any (isTx t)<;>cases (lastK x.2.1 t==0)<;>cases (lastK x.2.1 t==2)<;>simp
theorem opsN_erase (h:List RecD) (k:Nat) (hk:k<h.length):opsN (h.eraseIdx k)+(h.getD k dRec).2.2.length=opsN h:=by
 induction h generalizing k with
 | nil=>simp at hk
 | cons x h ih =>
  cases k with
  | zero=>simp [opsN];omega
  | succ k =>
   have:=ih k (by simpa using hk)
   simp only [opsN,List.eraseIdx_cons_succ,List.map_cons,List.sum_cons,List.getD_cons_succ] at this ⊢
   omega
theorem foldl_len (l:Lq2):∀ m:List PairD,(l.foldl appL m).length≤m.length+l.length:=by
 induction l with
 | nil=>intro m;simp
 | cons o l ih =>
  intro m
  have:=ih (appL m o)
  have:=appL_len m o
  simp only [List.foldl_cons,List.length_cons]
  omega
theorem gone_ok {k t:Int} (ht:sl1In t 1 1000000=true) (hk:k=2∨k=3):sRecOk k t []=true:=by
 rcases hk with rfl | rfl<;>simp only [sRecOk,ht]<;>rfl
theorem out_two {x:ShardD} (h1:okRecS x.2.1) (hr:RightS x) {t:Int} (h:outOf x t=2):x.2.2.2.2.any (isTx t)=false∧x.2.1.any (isTx t)=false:=by
 obtain ⟨k1,k2⟩:=right_last h1 hr
 simp only [outOf] at h
 cases ha:x.2.2.2.2.any (isTx t) with
 | true=>rw [ha] at h;simp at h
 | false =>
  rw [ha] at h
  rcases lastK_in t x.2.1 k1 with ⟨_,hb⟩ | ⟨hk,_⟩
  ·exact ⟨rfl,hb⟩
  ·simp only [cond_false] at h
   rcases hk with e | e | e<;>rw [e] at h<;>simp [ofK] at h
theorem step_gone {x:ShardD} {t:Int} (ht:sl1In t 1 1000000=true) (ha:x.2.2.2.2.any (isTx t)=false):stepL false x.2.2.2.1 x.2.2.2.2 ((3:Int),(t,[]))=some (x.2.2.2.1,x.2.2.2.2):=by
 simp only [stepL,gone_ok ht (.inr rfl),ha]
 rfl
/-- A shard as it is drawn, and then perhaps spoilt. -/
noncomputable abbrev AnyS (x:ShardD):Prop:=okRecS x.2.1∧x.2.2.2.1.length≤100000∧okRecS x.2.2.2.2∧(RightS x→DrawnS x)∧x.2.1.length≤100000∧x.2.2.2.2.length≤100000
theorem DrawnS.any {x:ShardD} (D:DrawnS x):AnyS x:=by
 have I:=right_rep D.1 D.2.1
 have:=I.hml
 have:=D.2.1.2.2.1
 exact ⟨D.1,by omega,okRecS_held D.1 D.2.1,fun _=>D,by omega,by omega⟩
theorem repL_app (l l2:List RecD):∀ i,i≤l.length→repL (l++l2) i=repL l i:=by
 intro i
 induction i with
 | zero=>intro _;rfl
 | succ i ih =>
  intro hi
  have e1:(l++l2).take i=l.take i:=List.take_append_of_le_length (by omega)
  have e2:(l++l2).getD i dRec=l.getD i dRec:=by simp only [List.getD_eq_getElem?_getD];rw [List.getElem?_append_left (by omega)]
  simp only [repL,ih (by omega),e1,e2]
theorem repL_snoc (l:List RecD) (r:RecD):repL (l++[r]) (l++[r]).length=(repL l l.length).bind fun s=>stepL (l.any (isTx r.2.1)) s.1 s.2 r:=by
 have e1:(l++[r]).take l.length=l:=by simp
 have e2:(l++[r]).getD l.length dRec=r:=by simp [List.getD_eq_getElem?_getD]
 rw [show (l++[r]).length=l.length+1 by simp]
 simp only [repL,repL_app l [r] l.length (Nat.le_refl _),e1,e2]
theorem okRecS_snoc {l:List RecD} {r:RecD} (h:okRecS l) (hl:l.length<1048576) (hr:okOps r.2.2=true):okRecS (l++[r]):=by
 refine ⟨by rw [List.length_append];simp;omega,fun x hx=>?_⟩
 rcases List.mem_append.1 hx with hx | hx
 ·exact h.2 x hx
 ·rw [List.mem_singleton.1 hx];exact hr
theorem DrawnS.push {x:ShardD} (D:DrawnS x) {r:RecD} {m':List PairD} {h':List RecD} (hr:okOps r.2.2=true) (hs:stepL (x.2.1.any (isTx r.2.1)) x.2.2.2.1 x.2.2.2.2 r=some (m', h'))
  (h1:m'.length+opsN h'≤60) (h2:x.2.1.length+1+h'.length≤300):DrawnS (x.1,x.2.1++[r],x.2.2.1,m', h'):=by
 obtain ⟨o,R,B⟩:=D
 have hn:repL (x.2.1++[r]) (x.2.1++[r]).length=some (m', h'):=by rw [repL_snoc,R.2.2.2];exact hs
 have hlen:(x.2.1++[r]).length=x.2.1.length+1:=by simp
 have hsure:=R.2.1
 refine ⟨okRecS_snoc o (by omega) hr,⟨R.1,⟨hsure.1,?_⟩,?_,hn⟩,fun i hi m h hp=>?_⟩
 ·show x.2.2.1≤(((x.2.1++[r]).length:Nat):Int)
  rw [hlen];omega
 ·show (((x.2.1++[r]).length:Nat):Int)+((h'.length:Nat):Int)≤300
  rw [hlen];omega
 ·replace hi:i≤(x.2.1++[r]).length:=hi
  replace hp:repL (x.2.1++[r]) i=some (m,h):=hp
  rw [hlen] at hi
  by_cases hle:i≤x.2.1.length
  ·rw [repL_app _ _ i hle] at hp
   exact B i hle m h hp
  ·obtain rfl:i=(x.2.1++[r]).length:=by rw [hlen];omega
   rw [hn] at hp
   cases hp
   rw [hlen]
   exact ⟨h1,h2⟩
theorem decide_drawn {x:ShardD} (D:DrawnS x) (t:Int) (yes:Bool):DrawnS (decideF x t yes).2:=by
 obtain ⟨b1,b2⟩:=D.2.2 x.2.1.length (Nat.le_refl _) _ _ D.2.1.2.2.2
 simp only [decideF]
 cases ht:sl1In t 1 1000000 with
 | false=>exact D
 | true =>
  cases hout:(outOf x t==1) with
  | true =>
   rw [out_one] at hout
   have hlt:=List.findIdx_lt_length.2 (List.any_eq_true.1 hout)
   have he:=opsN_erase _ _ hlt
   have hlen:(x.2.2.2.2.eraseIdx (x.2.2.2.2.findIdx (isTx t))).length+1=x.2.2.2.2.length:=by rw [List.length_eraseIdx];simp only [hlt,if_true];omega
   have hfl:=foldl_len (x.2.2.2.2.getD (x.2.2.2.2.findIdx (isTx t)) dRec).2.2 x.2.2.2.1
   have hst:stepL (x.2.1.any (isTx t)) x.2.2.2.1 x.2.2.2.2 (cond yes 2 3,(t,[]))=some (cond yes (doneM x.2.2.2.1 x.2.2.2.2 t) x.2.2.2.1,x.2.2.2.2.eraseIdx (x.2.2.2.2.findIdx (isTx t))):=by
    cases yes with
    | true =>
     have g:decide (((((x.2.2.2.2.getD (x.2.2.2.2.findIdx (isTx t)) dRec).2.2.foldl appL x.2.2.2.1).length:Nat):Int)≤60)=true:=decide_eq_true (by omega)
     simp only [stepL,cond_true,gone_ok ht (.inl rfl),hout,g,doneM]
     rfl
    | false =>
     have g:decide (((x.2.2.2.1.length:Nat):Int)≤60)=true:=decide_eq_true (by omega)
     simp only [stepL,cond_false,gone_ok ht (.inr rfl),hout,g]
     rfl
   refine D.push (r:=(cond yes 2 3,(t,[]))) rfl hst ?_ (by omega)
   cases yes with
   | true=>simp only [cond_true,doneM];omega
   | false=>simp only [cond_false];omega
  | false =>
   cases h3:(outOf x t==3) with
   | true=>exact D
   | false =>
    cases h4:(outOf x t==4) with
    | true=>exact D
    | false =>
     cases yes with
     | true=>exact D
     | false =>
      obtain ⟨ha,hl⟩:=out_two D.1 D.2.1 (out_four hout h3 h4)
      by_cases hn:((x.2.1.length:Nat):Int)+((x.2.2.2.2.length:Nat):Int) ≥ 300
      ·rw [decide_eq_true hn];exact D
      ·rw [decide_eq_false hn]
       have hst:=step_gone (x:=x) ht ha
       rw [← hl] at hst
       exact D.push (r:=((3:Int),(t,[]))) rfl hst b1 (by omega)
theorem lsamePairs_spec (a b:List PairD) (hl:a.length≤1099511627776):q_lsamePairs a b=true∧lsamePairs a b=sameL qP a b:=by
 simp only [q_lsamePairs,lsamePairs,sameL]
 by_cases hab:a.length=b.length
 ·have e : it_lsamePairs_0 a b 0 = cond (zipQ qP a b) (1, false) (0, false) := by
   refine itX_zip (ss:=fun v:V_lsamePairs_0=>ss_lsamePairs_0 v.1 v.2.1 v.2.2) (fa:=fl_lsamePairs_0) (fun i=>((a,b,(i:Int)):V_lsamePairs_0)) a b dP qP _ _ hab (by omega) (fun i hi=>?_) ?_
   ·have h1:decide ((i:Int)<((a.length:Nat):Int))=true:=decide_eq_true (by omega)
    have h2:decide (0≤(i:Int)∧(i:Int)<((a.length:Nat):Int))=true:=decide_eq_true (by omega)
    have h3:decide (0≤(i:Int)∧(i:Int)<((b.length:Nat):Int))=true:=decide_eq_true (by omega)
    simp only [ss_lsamePairs_0,h1,h2,h3,cond_true,Int.toNat_natCast,wrapU i (by omega),getD_dP,qP]
    generalize ((a.getD i dP).1.toList==(b.getD i dP).1.toList&&((a.getD i dP).2.toList==(b.getD i dP).2.toList&&true))=z
    cases z<;>rfl
   ·have h1:decide (((a.length:Nat):Int)<((a.length:Nat):Int))=false:=decide_eq_false (by omega)
    simp only [ss_lsamePairs_0,h1,cond_false]
  rw [eq_len hab,e]
  cases zipQ qP a b<;>exact ⟨rfl,rfl⟩
 ·rw [ne_len hab];exact ⟨rfl,rfl⟩
theorem selfP {a:List PairD} (h:a.length≤1099511627776):q_lsamePairs a a=true∧lsamePairs a a=true:=by
 obtain ⟨p1,p2⟩:=lsamePairs_spec a a h
 exact ⟨p1,p2.trans ((sameP_iff a a).2 rfl)⟩
/-- Bytes, all of them. -/
noncomputable def okB (b:List Int):Prop:=∀ c∈b,0≤c∧c≤255
/-- A draw's cursor that is right. -/
noncomputable def cOk (b:List Int) (i:Int):Prop:=okB b∧0≤i∧i≤b.length∧b.length≤1048576
theorem sl1New_spec {b:List Int} (hb:okB b) (hl:b.length≤1048576):q_sl1New b=true∧(sl1New b).1=b∧cOk b (sl1New b).2.1:=by
 have key:∀ x:Int,(it_sl1New_0 b x 0).1=0∧(it_sl1New_0 b x 0).2.1=b:=by
  intro x
  refine itX_inv (fun v:V_sl1New_0=>v.1=b∧0≤v.2.2∧v.2.2≤b.length) (fun a:A_sl1New_0=>a.1=0∧a.2.1=b) (fun v=>b.length - v.2.2.toNat) ?_ ⟨rfl,Int.le_refl _,by simp⟩ (by simp;omega)
  rintro ⟨y,z,i⟩ ⟨hy,h1,h2⟩
  simp only at hy h1 h2
  subst hy
  by_cases hi:i<(y.length:Int)
  ·have e:decide (i<((y.length:Nat):Int))=true:=decide_eq_true hi
   have e2:decide (0≤i∧i<((y.length:Nat):Int))=true:=decide_eq_true ⟨h1,hi⟩
   have w:IntKind.wrap .i64 (i+1)=i+1:=wrap64 (by omega) (by omega)
   by_cases h4:i<4000
   ·simp only [ss_sl1New_0,e,e2,decide_eq_true h4,cond_true,w]
    exact .inl ⟨_,rfl,⟨rfl,by simp only;omega,by simp only;omega⟩,by simp only;omega⟩
   ·simp only [ss_sl1New_0,e,decide_eq_false h4,cond_true,cond_false]
    exact .inr ⟨_,rfl,rfl,rfl⟩
  ·simp only [ss_sl1New_0,decide_eq_false hi,cond_false]
   exact .inr ⟨_,rfl,rfl,rfl⟩
 simp only [q_sl1New,sl1New,key]
 exact ⟨rfl,trivial,hb,Int.le_refl _,by omega,hl⟩
theorem size_ok (l:List Int) (m:Int) (hl:l.length≤1048576) (h0:0≤m):0≤sl1Size l m∧sl1Size l m≤m:=by
 have h1:0≤Int.tdiv ((l.length:Nat):Int) 12:=Int.tdiv_nonneg (by omega) (by omega)
 have h2:Int.tdiv ((l.length:Nat):Int) 12≤1048576:=Int.le_trans (Int.tdiv_le_self _ (by omega)) (by omega)
 have w1:=wrap64 (n:=Int.tdiv ((l.length:Nat):Int) 12) (by omega) (by omega)
 have w2:=wrap64 (n:=3+Int.tdiv ((l.length:Nat):Int) 12) (by omega) (by omega)
 simp only [sl1Size,w1,w2]
 by_cases hc:3+Int.tdiv ((l.length:Nat):Int) 12 > m
 ·rw [decide_eq_true hc];exact ⟨h0,Int.le_refl _⟩
 ·rw [decide_eq_false hc];simp only [cond_false];omega
noncomputable abbrev AnyT (x:ShardD):Prop:=AnyS x∧∀ r∈x.2.1,r.2.1 ≠ 999999
/-- The keys that a draw makes. -/
noncomputable def keys7:List ByteArray:=[(⟨#[97]⟩:ByteArray),(⟨#[98]⟩:ByteArray),(⟨#[99]⟩:ByteArray),(⟨#[107,49]⟩:ByteArray),(⟨#[107,50]⟩:ByteArray),(⟨#[109]⟩:ByteArray),(⟨#[122]⟩:ByteArray)]
/-- Drawn, and of few transactions. -/
noncomputable abbrev SixR (r:RecD):Prop:=r.2.1≤6∧∀ o∈r.2.2,o.2.1∈keys7∧o.2.2.size≤20
noncomputable abbrev DrawnT (x:ShardD):Prop:=DrawnS x∧∀ r∈x.2.1,SixR r
theorem ofInt_nat (n:Nat) (h:n<18446744073709551616):(BitVec.ofInt 64 (n:Int)).toNat=n:=by
 simp [BitVec.toNat_ofInt];omega
theorem iand_range (x:Int) (m:Nat) (hm:m<9223372036854775808):0≤iand .i64 x (m:Int)∧iand .i64 x (m:Int)≤m:=by
 have e:iand .i64 x (m:Int)=IntKind.wrap .i64 (((BitVec.ofInt 64 x).toNat &&& m:Nat):Int):=by
  show IntKind.wrap .i64 (((BitVec.ofInt 64 x &&& BitVec.ofInt 64 (m:Int)).toNat:Nat):Int)=_
  rw [BitVec.toNat_and,ofInt_nat m (by omega)]
 have h:(BitVec.ofInt 64 x).toNat &&& m≤m:=Nat.and_le_right
 rw [e,wrap64 (by omega) (by omega)]
 omega
theorem sl1Byte_spec {b:List Int} {i:Int} (hc:cOk b i) (h:Int):q_sl1Byte b i h=true∧0≤(sl1Byte b i h).1∧(sl1Byte b i h).1≤255∧(sl1Byte b i h).2.1=b∧cOk b (sl1Byte b i h).2.2.1:=by
 obtain ⟨h0,h1,h2,h3⟩:=hc
 have r:=fun x=>iand_range x 255 (by decide)
 by_cases hi:i<(b.length:Int)
 ·have e:decide (i<((b.length:Nat):Int))=true:=decide_eq_true hi
  have w:IntKind.wrap .i64 (i+1)=i+1:=wrap64 (by omega) (by omega)
  simp only [q_sl1Byte,sl1Byte,e,cond_true,w]
  exact ⟨decide_eq_true ⟨h1,hi⟩,(r _).1,(r _).2,trivial,h0,by omega,by omega,h3⟩
 ·have e:decide (i<((b.length:Nat):Int))=false:=decide_eq_false hi
  simp only [q_sl1Byte,sl1Byte,e,cond_false]
  exact ⟨trivial,(r _).1,(r _).2,trivial,h0,h1,h2,h3⟩
theorem sl1Below_spec {b:List Int} {i:Int} (hc:cOk b i) (n:Int) (h:Int):q_sl1Below n b i h=true∧0≤(sl1Below n b i h).1∧(0<n→(sl1Below n b i h).1<n)∧(sl1Below n b i h).2.1=b∧cOk b (sl1Below n b i h).2.2.1:=by
 obtain ⟨a1,a2,a3,a4,a5⟩:=sl1Byte_spec hc h
 by_cases h0:n≤0
 ·have e:decide (n≤0)=true:=decide_eq_true h0
  simp only [q_sl1Below,sl1Below,e,cond_true]
  exact ⟨trivial,Int.le_refl _,fun h=>by omega,trivial,hc⟩
 ·have e:decide (n≤0)=false:=decide_eq_false h0
  have en:decide (n ≠ 0)=true:=decide_eq_true (by omega)
  by_cases h1:n≤256
  ·have e2:decide (n≤256)=true:=decide_eq_true h1
   simp only [q_sl1Below,sl1Below,e,e2,cond_true,cond_false,a1,en,Bool.and_self]
   exact ⟨trivial,Int.tmod_nonneg _ a2,fun h=>Int.tmod_lt_of_pos _ h,a4,a5⟩
  ·have e2:decide (n≤256)=false:=decide_eq_false h1
   obtain ⟨b1,b2,b3,b4,b5⟩:=sl1Byte_spec a5 (sl1Byte b i h).2.2.2
   obtain ⟨c1,c2,c3,c4,c5⟩:=sl1Byte_spec b5 (sl1Byte b (sl1Byte b i h).2.2.1 (sl1Byte b i h).2.2.2).2.2.2
   simp only [q_sl1Below,sl1Below,e,e2,cond_false,a1,a4,en,k1_sl1Below,k2_sl1Below,b1,b4,c1,Bool.and_self]
   rw [wrap64 (n:=(sl1Byte b i h).1*65536) (by omega) (by omega),wrap64 (n:=(sl1Byte b (sl1Byte b i h).2.2.1 (sl1Byte b i h).2.2.2).1*256) (by omega) (by omega),wrap64 (n:=(sl1Byte b i h).1*65536+(sl1Byte b (sl1Byte b i h).2.2.1 (sl1Byte b i h).2.2.2).1*256) (by omega) (by omega),wrap64 (by omega) (by omega)]
   exact ⟨trivial,Int.tmod_nonneg _ (by omega),fun h=>Int.tmod_lt_of_pos _ h,c4,c5⟩
theorem new_drawn {id:Int} (h0:0≤id) (h7:id≤7):DrawnS (id,[],0,[],[]):=by
 refine ⟨⟨by simp,fun x hx=>by simp at hx⟩,⟨⟨h0,h7⟩,⟨by simp,by simp⟩,by simp,rfl⟩,fun i hi m h hp=>?_⟩
 obtain rfl:i=0:=by simpa using hi
 simp only [repL,Option.some.injEq,Prod.mk.injEq] at hp
 obtain ⟨rfl,rfl⟩:=hp
 simp [opsN]
theorem new_drawnT {id:Int} (h0:0≤id) (h7:id≤7):DrawnT (id,[],0,[],[]):=⟨new_drawn h0 h7,fun r hr=>by simp at hr⟩
/-- One op ahead of another, by its key. -/
noncomputable def ltO (a b:Int×ByteArray×ByteArray):Prop:=Op.bytesLess a.2.1.toList b.2.1.toList=true
/-- An op that a draw makes. -/
noncomputable def goodOp (k:Int) (s v:ByteArray):Prop:=s∈keys7∧((k=1∨k=3)∧v.size≤1∨k=2∧v=⟨#[]⟩)
/-- Ops that a draw makes: in order, each of them right. -/
noncomputable def drawnO (l:Lq2):Prop:=l.Pairwise ltO∧∀ o∈l,goodOp o.1 o.2.1 o.2.2∧o.2.1.size≤20∧o.2.2.size≤20
theorem sl1Int_spec {b:List Int} {i:Int} (hc:cOk b i) (h:Int) {l:List Int} (hl:0<l.length):q_sl1Int b i h l=true∧(sl1Int b i h l).1∈l∧(sl1Int b i h l).2.1=b∧cOk b (sl1Int b i h l).2.2.1:=by
 obtain ⟨a1,a2,a3,a4,a5⟩:=sl1Below_spec hc (l.length:Int) h
 have:=a3 (by omega)
 simp only [q_sl1Int,sl1Int,a1,Bool.true_and]
 exact ⟨decide_eq_true ⟨a2,this⟩,getD_mem (by omega) _,a4,a5⟩
theorem sl1Str_spec {b:List Int} {i:Int} (hc:cOk b i) (h:Int) {l:List ByteArray} (hl:0<l.length):q_sl1Str b i h l=true∧(sl1Str b i h l).1∈l∧(sl1Str b i h l).2.1=b∧cOk b (sl1Str b i h l).2.2.1:=by
 obtain ⟨a1,a2,a3,a4,a5⟩:=sl1Below_spec hc (l.length:Int) h
 have:=a3 (by omega)
 simp only [q_sl1Str,sl1Str,a1,Bool.true_and]
 exact ⟨decide_eq_true ⟨a2,this⟩,getD_mem (by omega) _,a4,a5⟩
theorem keys7_size {s:ByteArray} (h:s∈keys7):s.size≤2:=by
 simp only [keys7,List.mem_cons,List.not_mem_nil,or_false] at h
 rcases h with rfl | rfl | rfl | rfl | rfl | rfl | rfl<;>decide
theorem sl3Key_spec {b:List Int} {i:Int} (hc:cOk b i) (h:Int):q_sl3Key b i h=true∧(sl3Key b i h).1.size≤2∧(sl3Key b i h).1∈keys7∧(sl3Key b i h).2.1=b∧cOk b (sl3Key b i h).2.2.1:=by
 obtain ⟨a1,a2,a3,a4⟩:=sl1Str_spec hc h (l:=keys7) (by decide)
 simp only [keys7] at a1 a2 a3 a4
 simp only [q_sl3Key,sl3Key,k1_sl3Key,a1]
 exact ⟨trivial,keys7_size a2,a2,a3,a4⟩
theorem sl7Op1_spec {b:List Int} {i:Int} (hc:cOk b i) (h:Int):q_sl7Op1 b i h=true∧(sl7Op1 b i h).2.1.size≤20∧(sl7Op1 b i h).2.2.1.size≤20∧goodOp (sl7Op1 b i h).1 (sl7Op1 b i h).2.1 (sl7Op1 b i h).2.2.1∧(sl7Op1 b i h).2.2.2.1=b∧cOk b (sl7Op1 b i h).2.2.2.2.1:=by
 obtain ⟨a1,a2,a3,a4⟩:=sl1Int_spec hc h (l:=[(1:Int),(1:Int),(1:Int),(2:Int),(3:Int)]) (by decide)
 simp only [q_sl7Op1,sl7Op1,k1_sl7Op1,k2_sl7Op1,a1,a3,Bool.true_and]
 generalize sl1Int b i h [(1:Int),(1:Int),(1:Int),(2:Int),(3:Int)]=r at *
 obtain ⟨b1,b2,b3,b4,b5⟩:=sl3Key_spec a4 r.2.2.2.1
 simp only [b1,b4,Bool.true_and]
 generalize sl3Key b r.2.2.1 r.2.2.2.1=t at *
 have hk:r.1=1∨r.1=2∨r.1=3:=by simp only [List.mem_cons,List.not_mem_nil,or_false] at a2;omega
 cases e:(r.1 != 2) with
 | true =>
  obtain ⟨c1,c2,c3,c4⟩:=sl1Str_spec b5 t.2.2.2 (l:=[(⟨#[49]⟩:ByteArray),(⟨#[50]⟩:ByteArray),(⟨#[120]⟩:ByteArray),(⟨#[]⟩:ByteArray),(⟨#[49]⟩:ByteArray)]) (by decide)
  simp only [cond_true,c1]
  generalize sl1Str b t.2.2.1 t.2.2.2 [(⟨#[49]⟩:ByteArray),(⟨#[50]⟩:ByteArray),(⟨#[120]⟩:ByteArray),(⟨#[]⟩:ByteArray),(⟨#[49]⟩:ByteArray)]=u at *
  have hs:u.1.size≤1:=by
   have h0:∀ x∈[(⟨#[49]⟩:ByteArray),(⟨#[50]⟩:ByteArray),(⟨#[120]⟩:ByteArray),(⟨#[]⟩:ByteArray),(⟨#[49]⟩:ByteArray)],x.size≤1:=by
    intro x hx
    simp only [List.mem_cons,List.not_mem_nil,or_false] at hx
    rcases hx with rfl | rfl | rfl | rfl | rfl<;>decide
   exact h0 _ c2
  have hne:r.1 ≠ 2:=by simpa using e
  exact ⟨trivial,by omega,by omega,⟨b3,.inl ⟨by omega,hs⟩⟩,c3,c4⟩
 | false =>
  have he:r.1=2:=by simpa using e
  simp only [cond_false]
  exact ⟨trivial,by omega,by decide,⟨b3,.inr ⟨he,rfl⟩⟩,trivial,b5⟩
/-- What holds on the way of putting an op in order. -/
noncomputable def oneI (l:Lq2) (o:Int×ByteArray×ByteArray) (i:Nat) (p:Bool) (h:Lq2):Prop :=
 h.Pairwise ltO∧(∀ x∈h,x=o∨x∈l)∧h.length≤i+1 ∧
 (p=false→h=l.take i∧∀ x∈h,ltO x o) ∧
 (p=true→h ≠ []∧∀ x∈h,∀ y∈l.drop i,ltO x y)
theorem pw_take {α:Type} {R:α→α→Prop} {l:List α} (h:l.Pairwise R) (i:Nat) (hi:i<l.length) (d:α):∀ x∈l.take i,R x (l.getD i d):=by
 intro x hx
 obtain ⟨j,hj,rfl⟩:=List.getElem_of_mem hx
 rw [List.length_take] at hj
 have:=List.pairwise_iff_getElem.1 h j i (by omega) hi (by omega)
 simpa [List.getD_eq_getElem?_getD,hi] using this
theorem pw_drop {α:Type} {R:α→α→Prop} {l:List α} (h:l.Pairwise R) (i:Nat) (hi:i<l.length) (d:α):∀ y∈l.drop (i+1),R (l.getD i d) y:=by
 intro y hy
 obtain ⟨j,hj,rfl⟩:=List.getElem_of_mem hy
 rw [List.length_drop] at hj
 have:=List.pairwise_iff_getElem.1 h i (i+1+j) hi (by omega) (by omega)
 simpa [List.getD_eq_getElem?_getD,hi] using this
theorem pw_snoc {α:Type} {R:α→α→Prop} {h:List α} {x:α} (h1:h.Pairwise R) (h2:∀ y∈h,R y x):(h++[x]).Pairwise R:=by
 rw [List.pairwise_append]
 exact ⟨h1,by simp,fun a ha b hb=>by simp at hb;subst hb;exact h2 a ha⟩
theorem bytesLess_trans:∀ a b c:List UInt8,Op.bytesLess a b=true→Op.bytesLess b c=true→Op.bytesLess a c=true:=by
 intro a
 induction a with
 | nil=>intro b c h1 h2;cases c with
  | nil=>cases b<;>simp [Op.bytesLess] at h2
  | cons z c=>rfl
 | cons x a ih =>
  intro b c h1 h2
  cases b with
  | nil=>simp [Op.bytesLess] at h1
  | cons y b=>cases c with
   | nil=>simp [Op.bytesLess] at h2
   | cons z c =>
    simp only [Op.bytesLess,Bool.or_eq_true,Bool.and_eq_true,decide_eq_true_eq,beq_iff_eq] at h1 h2 ⊢
    rcases h1 with h1 | ⟨rfl,h1⟩
    ·rcases h2 with h2 | ⟨rfl,h2⟩
     ·exact .inl (UInt8.lt_trans h1 h2)
     ·exact .inl h1
    ·rcases h2 with h2 | ⟨rfl,h2⟩
     ·exact .inl h2
     ·exact .inr ⟨rfl,ih b c h1 h2⟩
theorem ltO_trans {a b c:Int×ByteArray×ByteArray} (h1:ltO a b) (h2:ltO b c):ltO a c:=bytesLess_trans _ _ _ h1 h2
theorem sl7One_it {l:Lq2} (hs:l.Pairwise ltO) (hl:l.length≤1000) (o:Int×ByteArray×ByteArray) :
  ∃ p h,it_sl7One_0 l false 0 o.1 o.2.1 o.2.2 []=(0,p,h)∧oneI l o l.length p h:=by
 refine itX_inv (fun v:V_sl7One_0=>∃ (i:Nat) (p:Bool) (h:Lq2),v=(l,p,(i:Int),h)∧i≤l.length∧oneI l o i p h) (fun a=>∃ p h,a=(0,p,h)∧oneI l o l.length p h) (fun v=>l.length - v.2.2.1.toNat) ?_ ⟨0,false,[],rfl,Nat.zero_le _,.nil,by simp,by simp,fun _=>⟨rfl,by simp⟩,fun h=>by cases h⟩ (by simp;omega)
 rintro v ⟨i,p,h,rfl,hi,hI⟩
 obtain ⟨i1,i2,i3,i4,i5⟩:=hI
 by_cases hlt:i<l.length
 ·have e1:decide ((i:Int)<((l.length:Nat):Int))=true:=decide_eq_true (by omega)
  have e2:decide (0≤(i:Int)∧(i:Int)<((l.length:Nat):Int))=true:=decide_eq_true (by omega)
  have w:=wrapU i (by omega)
  have m1:∀ x:Int×ByteArray×ByteArray,decide ((h.length+[x].length)*40≤MAXB)=true:=fun x=>decide_eq_true (by simp only [List.length_singleton,MAXB];omega)
  have m2:∀ x y:Int×ByteArray×ByteArray,decide (((h++[x]).length+[y].length)*40≤MAXB)=true:=fun x y=>decide_eq_true (by simp only [List.length_append,List.length_singleton,MAXB];omega)
  have eta:∀ x:Int×ByteArray×ByteArray,(x.1,(x.2.1,x.2.2))=x:=fun _=>rfl
  have hdrop:l.drop i=l.getD i dOp::l.drop (i+1):=by rw [List.drop_eq_getElem_cons hlt];simp [List.getD_eq_getElem?_getD,hlt]
  have htk:=pw_take hs i hlt dOp
  have hdr:=pw_drop hs i hlt dOp
  have hmem:l.getD i dOp∈l:=getD_mem hlt _
  have hts:=take_succ_getD hlt dOp
  have meas:∀ (p':Bool) (h':Lq2),l.length - ((l,p', ((i+1:Nat):Int),h'):V_sl7One_0).2.2.1.toNat<l.length - ((l,p,(i:Int),h):V_sl7One_0).2.2.1.toNat:=fun _ _=>by simp only [Int.toNat_natCast];omega
  simp only [ss_sl7One_0,e1,e2,m1,m2,w,cond_true,Int.toNat_natCast,eta]
  have hd:((0:Int),((⟨#[]⟩:ByteArray),(⟨#[]⟩:ByteArray)))=dOp:=rfl
  simp only [hd]
  generalize hx:l.getD i dOp=x at *
  left
  cases p with
  | false =>
   obtain ⟨j1,j2⟩:=i4 rfl
   simp only [Bool.not_false,cond_true]
   cases hb:Op.bytesLess x.2.1.toList o.2.1.toList with
   | true =>
    -- still ahead of it
    have hxo:ltO x o:=hb
    have hne:(x.2.1.toList==o.2.1.toList)=false:=by
     rw [beq_eq_false_iff_ne];intro e;rw [e] at hb;rw [bytesLess_irrefl] at hb;cases hb
    simp only [Bool.not_true,cond_false,hne,Bool.not_false,cond_true]
    refine ⟨_,rfl,⟨i+1,false,h++[x],rfl,by omega,pw_snoc i1 (fun y hy=>?_),?_,by simp;omega,fun _=>⟨by rw [j1,hts],?_⟩,fun h=>by cases h⟩,meas _ _⟩
    ·rw [j1] at hy;exact htk y hy
    ·intro y hy
     rcases List.mem_append.1 hy with hy | hy
     ·exact i2 y hy
     ·simp at hy;subst hy;exact .inr hmem
    ·intro y hy
     rcases List.mem_append.1 hy with hy | hy
     ·exact j2 y hy
     ·simp at hy;subst hy;exact hxo
   | false =>
    have hge:=bytesLess_ge x.2.1.toList o.2.1.toList
    rw [hb] at hge
    simp only [Bool.not_false] at hge
    simp only [Bool.not_false,cond_true]
    have s1:(h++[o]).Pairwise ltO:=pw_snoc i1 j2
    have s2:∀ y∈h++[o],y=o∨y∈l:=by
     intro y hy
     rcases List.mem_append.1 hy with hy | hy
     ·exact i2 y hy
     ·simp at hy;exact .inl hy
    cases hq:(x.2.1.toList==o.2.1.toList) with
    | true =>
     simp only [Bool.not_true,cond_false]
     have hkey:x.2.1.toList=o.2.1.toList:=by simpa using hq
     have ho:∀ y∈l.drop (i+1),ltO o y:=fun y hy=>by have:=hdr y hy;unfold ltO at this ⊢;rwa [hkey] at this
     refine ⟨_,rfl,⟨i+1,true,h++[o],rfl,by omega,s1,s2,by simp;omega,(fun h=>by cases h),fun _=>⟨by simp,?_⟩⟩,meas _ _⟩
     intro y hy z hz
     rcases List.mem_append.1 hy with hy | hy
     ·exact ltO_trans (j2 y hy) (ho z hz)
     ·simp at hy;subst hy;exact ho z hz
    | false =>
     simp only [Bool.not_false,cond_true]
     have hox:ltO o x:=by
      have h9:Op.bytesLess o.2.1.toList x.2.1.toList=true:=by
       cases h8:Op.bytesLess o.2.1.toList x.2.1.toList with
       | true=>rfl
       | false =>
        rw [h8] at hge
        have h7:(o.2.1.toList==x.2.1.toList)=true:=by simpa using hge.symm
        rw [beq_iff_eq] at h7
        rw [h7] at hq;simp at hq
      exact h9
     refine ⟨_,rfl,⟨i+1,true,(h++[o])++[x],rfl,by omega,pw_snoc s1 (fun y hy=>?_),?_,?_,(fun h=>by cases h),fun _=>⟨by simp,?_⟩⟩,meas _ _⟩
     ·rcases List.mem_append.1 hy with hy | hy
      ·exact ltO_trans (j2 y hy) hox
      ·simp at hy;subst hy;exact hox
     ·intro y hy
      rcases List.mem_append.1 hy with hy | hy
      ·exact s2 y hy
      ·simp at hy;subst hy;exact .inr hmem
     ·have:h.length≤i:=by rw [j1,List.length_take];omega
      simp;omega
     ·intro y hy z hz
      have hxz:=hdr z hz
      rcases List.mem_append.1 hy with hy | hy
      ·rcases List.mem_append.1 hy with hy | hy
       ·exact ltO_trans (ltO_trans (j2 y hy) hox) hxz
       ·simp at hy;subst hy;exact ltO_trans hox hxz
      ·simp at hy;subst hy;exact hxz
  | true =>
   obtain ⟨j1,j2⟩:=i5 rfl
   simp only [Bool.not_true,cond_false]
   have j3:∀ y∈h,∀ z∈l.drop (i+1),ltO y z:=fun y hy z hz=>j2 y hy z (by rw [hdrop];exact List.mem_cons_of_mem _ hz)
   cases hq:(x.2.1.toList==o.2.1.toList) with
   | true =>
    simp only [Bool.not_true,cond_false]
    exact ⟨_,rfl,⟨i+1,true,h,rfl,by omega,i1,i2,by omega,(fun h=>by cases h),fun _=>⟨j1,j3⟩⟩,meas _ _⟩
   | false =>
    simp only [Bool.not_false,cond_true]
    refine ⟨_,rfl,⟨i+1,true,h++[x],rfl,by omega,pw_snoc i1 (fun y hy=>j2 y hy x (by rw [hdrop];simp)),?_,by simp;omega,(fun h=>by cases h),fun _=>⟨by simp,?_⟩⟩,meas _ _⟩
    ·intro y hy
     rcases List.mem_append.1 hy with hy | hy
     ·exact i2 y hy
     ·simp at hy;subst hy;exact .inr hmem
    ·intro y hy z hz
     rcases List.mem_append.1 hy with hy | hy
     ·exact j3 y hy z hz
     ·simp at hy;subst hy;exact hdr z hz
 ·obtain rfl:i=l.length:=by omega
  have e1:decide (((l.length:Nat):Int)<((l.length:Nat):Int))=false:=decide_eq_false (by omega)
  simp only [ss_sl7One_0,e1,cond_false]
  exact .inr ⟨_,rfl,p,h,rfl,i1,i2,i3,i4,i5⟩
theorem sl7One_spec {l:Lq2} (hs:l.Pairwise ltO) (hl:l.length≤1000) (k:Int) (s v:ByteArray) :
  q_sl7One l k s v=true∧(sl7One l k s v).Pairwise ltO∧(∀ x∈sl7One l k s v,x=(k,s,v)∨x∈l)∧sl7One l k s v ≠ []∧(sl7One l k s v).length≤l.length+1:=by
 obtain ⟨p,h,e,i1,i2,i3,i4,i5⟩:=sl7One_it hs hl (k,s,v)
 simp only at e
 have m1:∀ x:Int×ByteArray×ByteArray,decide ((h.length+[x].length)*40≤MAXB)=true:=fun x=>decide_eq_true (by simp only [List.length_singleton,MAXB];omega)
 simp only [q_sl7One,sl7One,e,m1]
 cases p with
 | true =>
  simp only [Bool.not_true,cond_false]
  exact ⟨rfl,i1,i2,(i5 rfl).1,i3⟩
 | false =>
  obtain ⟨j1,j2⟩:=i4 rfl
  simp only [Bool.not_false,cond_true]
  refine ⟨rfl,pw_snoc i1 j2,?_,by simp,?_⟩
  ·intro y hy
   rcases List.mem_append.1 hy with hy | hy
   ·exact i2 y hy
   ·simp at hy;exact .inl hy
  ·rw [j1];simp
theorem sl7Draw_spec {b:List Int} {i:Int} (hc:cOk b i) (h:Int):q_sl7Draw b i h=true∧(sl7Draw b i h).1=b∧cOk b (sl7Draw b i h).2.1∧drawnO (sl7Draw b i h).2.2.2∧1≤(sl7Draw b i h).2.2.2.length∧(sl7Draw b i h).2.2.2.length≤4:=by
 obtain ⟨a1,a2,a3,a4,a5⟩:=sl1Below_spec hc 4 h
 have a3:=a3 (by omega)
 simp only [q_sl7Draw,sl7Draw,k2_sl7Draw,a1,a4,Bool.true_and]
 generalize sl1Below 4 b i h=r at *
 have w:IntKind.wrap .i64 (1+r.1)=1+r.1:=wrap64 (by omega) (by omega)
 rw [w]
 obtain ⟨z1,z2,z3,z4,z5,z6⟩:(it_sl7Draw_0 (1+r.1) b r.2.2.1 r.2.2.2 []).1=0∧(it_sl7Draw_0 (1+r.1) b r.2.2.1 r.2.2.2 []).2.1=b∧cOk b (it_sl7Draw_0 (1+r.1) b r.2.2.1 r.2.2.2 []).2.2.1∧drawnO (it_sl7Draw_0 (1+r.1) b r.2.2.1 r.2.2.2 []).2.2.2.2∧1≤(it_sl7Draw_0 (1+r.1) b r.2.2.1 r.2.2.2 []).2.2.2.2.length∧(it_sl7Draw_0 (1+r.1) b r.2.2.1 r.2.2.2 []).2.2.2.2.length≤4:=by
  refine itX_inv (fun v:V_sl7Draw_0=>v.2.1=b∧cOk b v.2.2.1∧drawnO v.2.2.2.2∧0≤v.1∧v.1≤4∧(v.2.2.2.2.length:Int)≤4 - v.1∧(v.1=0→1≤v.2.2.2.2.length)) (fun a:A_sl7Draw_0=>a.1=0∧a.2.1=b∧cOk b a.2.2.1∧drawnO a.2.2.2.2∧1≤a.2.2.2.2.length∧a.2.2.2.2.length≤4) (fun v=>v.1.toNat) ?_ ⟨rfl,a5,⟨.nil,by simp⟩,by simp only;omega,by simp only;omega,by simp only [List.length_nil];omega,fun h=>by simp only at h;omega⟩ (by simp only;omega)
  rintro ⟨n,b', j,h', l⟩ ⟨e1,e2,e3,e4,e5,e6,e7⟩
  simp only at e1 e2 e3 e4 e5 e6 e7
  subst e1
  by_cases hn:n > 0
  ·obtain ⟨o1,o2,o3,o4,o5,o6⟩:=sl7Op1_spec e2 h'
   obtain ⟨p1,p2,p3,p4,p5⟩:=sl7One_spec e3.1 (by omega) (sl7Op1 b' j h').1 (sl7Op1 b' j h').2.1 (sl7Op1 b' j h').2.2.1
   have w2:IntKind.wrap .i64 (n - 1)=n - 1:=wrap64 (by omega) (by omega)
   simp only [ss_sl7Draw_0,decide_eq_true hn,o1,p1,cond_true,w2,o5,k1_sl7Draw]
   refine .inl ⟨_,rfl,⟨rfl,o6,⟨p2,fun x hx=>?_⟩,by simp only;omega,by simp only;omega,by simp only;omega,fun _=>List.length_pos_iff.2 p4⟩,by simp only;omega⟩
   rcases p3 x hx with rfl | hx
   ·exact ⟨o4,o2,o3⟩
   ·exact e3.2 x hx
  ·simp only [ss_sl7Draw_0,decide_eq_false hn,cond_false]
   exact .inr ⟨_,rfl,rfl,rfl,e2,e3,e7 (by omega),by simp only;omega⟩
 exact ⟨by rw [z1];rfl,z2,z3,z4,z5,z6⟩
theorem okOps_small {l:Lq2} (h1:l.length≤1048576) (h2:∀ o∈l,o.2.1.size≤1048576∧o.2.2.size≤1048576):okOps l=true:=by
 simp only [okOps,okL,Bool.and_eq_true,decide_eq_true_eq,List.all_eq_true]
 refine ⟨h1,fun o ho=>?_⟩
 simp only [okOp,okS,Bool.and_eq_true,decide_eq_true_eq];exact h2 o ho
theorem drawn_okOps {l:Lq2} (h:drawnO l) (h8:l.length≤8):okOps l=true:=okOps_small (by omega) fun o ho=>by have:=h.2 o ho;omega
noncomputable def holdF (x:ShardD) (t:Int) (ops:Lq2):Int×ShardD :=
 cond (!(sl1In t 1 1000000)) (5,x) (cond (!(sOpsOk ops)) (5,x) (cond (outOf x t != 2) (outOf x t,x) (cond (lockedL x.2.2.2.2 ops) (2,x) (cond (!(meetsL x.2.2.2.1 ops)) (2,x)
  (cond (decide (((x.2.2.2.1.length+ops.length+opsN x.2.2.2.2:Nat):Int) > 60)) (2,x) (cond (decide (((x.2.1.length:Nat):Int)+((x.2.2.2.2.length:Nat):Int)+2 > 300)) (2,x)
   (1,(x.1,x.2.1++[((1:Int),(t,ops))],x.2.2.1,x.2.2.2.1,x.2.2.2.2++[((1:Int),(t,ops))]))))))))
noncomputable def outF (l:List RecD) (t:Int):Int:=l.foldl (fun o r=>cond (isTx t r&&(r.1==3)) 4 (cond (isTx t r&&(r.1==2)) 3 o)) 2
theorem outF_snoc (l:List RecD) (r:RecD) (t:Int):outF (l++[r]) t=cond (isTx t r&&(r.1==3)) 4 (cond (isTx t r&&(r.1==2)) 3 (outF l t)):=by simp [outF]
theorem l8At_neg (l:List RecD) (t:Int) (hl:l.length≤1099511627776):decide (sl8At l t<0)=!(l.any (isTx t)):=by
 rw [(l8At_spec l t hl).2]
 cases ha:l.any (isTx t) with
 | true =>
  rw [decide_eq_true (List.findIdx_lt_length.2 (List.any_eq_true.1 ha))]
  exact decide_eq_false (by simp only [cond_true];omega)
 | false =>
  have:¬ l.findIdx (isTx t)<l.length:=by
   intro hc
   obtain ⟨x,hx,hp⟩:=List.findIdx_lt_length.1 hc
   rw [List.any_eq_true.2 ⟨x,hx,hp⟩] at ha
   cases ha
  rw [decide_eq_false this]
  rfl
theorem l8At_ge (l:List RecD) (t:Int) (hl:l.length≤1099511627776):decide (sl8At l t ≥ 0)=l.any (isTx t):=by
 have h:=l8At_neg l t hl
 have e:decide (sl8At l t ≥ 0)=!(decide (sl8At l t<0)):=by
  by_cases h:sl8At l t<0
  ·rw [decide_eq_true h,decide_eq_false (by omega)];rfl
  ·rw [decide_eq_false h,decide_eq_true (by omega)];rfl
 rw [e,h,Bool.not_not]
theorem sOut_spec (x:ShardD) (t:Int) (hl:x.2.1.length≤1099511627776) (hh:x.2.2.2.2.length≤1099511627776):q_sl9Outcome x.1 x.2.1 x.2.2.1 x.2.2.2.1 x.2.2.2.2 t=true ∧
  sl9Outcome x.1 x.2.1 x.2.2.1 x.2.2.2.1 x.2.2.2.2 t=cond (x.2.2.2.2.any (isTx t)) 1 (outF x.2.1 t):=by
 have e:it_sl9Outcome_0 t 2 0 x.1 x.2.1 x.2.2.1 x.2.2.2.1 x.2.2.2.2=(0,outF x.2.1 t):=by
  refine itX_inv (ss:=fun v:V_sl9Outcome_0=>ss_sl9Outcome_0 v.1 v.2.1 v.2.2 x.1 x.2.1 x.2.2.1 x.2.2.2.1 x.2.2.2.2) (fa:=fl_sl9Outcome_0)
   (fun v=>∃ i:Nat,v=(t,outF (x.2.1.take i) t,(i:Int))∧i≤x.2.1.length) (fun a=>a=(0,outF x.2.1 t)) (fun v=>x.2.1.length - v.2.2.toNat) ?_ ⟨0,rfl,Nat.zero_le _⟩ (by simp;omega)
  rintro v ⟨i,rfl,hi⟩
  by_cases hlt:i<x.2.1.length
  ·have e1:decide ((i:Int)<((x.2.1.length:Nat):Int))=true:=decide_eq_true (by omega)
   have e2:decide (0≤(i:Int)∧(i:Int)<((x.2.1.length:Nat):Int))=true:=decide_eq_true (by omega)
   have e3:outF (x.2.1.take (i+1)) t=_:=(congrArg (outF · t) (take_succ_getD hlt dRec)).trans (outF_snoc _ _ _)
   refine .inl ⟨(t,outF (x.2.1.take (i+1)) t,((i+1:Nat):Int)),?_,⟨i+1,rfl,by omega⟩,by simp only [Int.toNat_natCast];omega⟩
   rw [e3]
   simp only [ss_sl9Outcome_0,e1,e2,cond_true,Int.toNat_natCast,getD_dR,wrapU i (by omega),isTx]
   generalize (x.2.1.getD i dRec).1=kd
   cases ((x.2.1.getD i dRec).2.1==t) with
   | false=>simp only [cond_false,Bool.false_and]
   | true =>
    simp only [cond_true,Bool.true_and]
    cases (kd==2)<;>cases (kd==3)<;>rfl
  ·obtain rfl:i=x.2.1.length:=by omega
   have e1:decide ((x.2.1.length:Int)<((x.2.1.length:Nat):Int))=false:=decide_eq_false (by omega)
   simp only [ss_sl9Outcome_0,e1,cond_false,List.take_length]
   exact .inr ⟨_,rfl,rfl⟩
 have a1:=(l8At_spec x.2.2.2.2 t hh).1
 have a2:=l8At_ge x.2.2.2.2 t hh
 simp only [q_sl9Outcome,sl9Outcome,a1,a2,e]
 cases x.2.2.2.2.any (isTx t)<;>first | exact ⟨rfl,rfl⟩ | exact ⟨trivial,rfl⟩ | simp
theorem outF_of (t:Int) (l:List RecD):(∀ x∈l,x.1=1∨x.1=2∨x.1=3)→lastK l t ≠ 1→outF l t=ofK (lastK l t):=by
 induction l using snoc_ind with
 | h0=>intro _ _;rfl
 | hs l r ih =>
  intro h
  have hr:=h r (by simp)
  rw [lastK_snoc,outF_snoc]
  cases isTx t r with
  | false=>exact ih (fun x hx=>h x (by simp [hx]))
  | true =>
   simp only [cond_true,Bool.true_and]
   intro hn
   rcases hr with e | e | e
   ·exact absurd e hn
   ·rw [e];rfl
   ·rw [e];rfl
theorem out_both {x:ShardD} (h1:okRecS x.2.1) (hr:RightS x) (t:Int):(q_sl9Outcome x.1 x.2.1 x.2.2.1 x.2.2.2.1 x.2.2.2.2 t=true∧sl9Outcome x.1 x.2.1 x.2.2.1 x.2.2.2.1 x.2.2.2.2 t=outOf x t):=by
 have hl1:=h1.1
 have hl4:=hr.2.2.1
 obtain ⟨k1,k2⟩:=right_last h1 hr
 obtain ⟨s1,s2⟩:=sOut_spec x t (by omega) (by omega)
 refine ⟨s1,?_⟩
 rw [s2,outOf,k2 t]
 cases hc:(lastK x.2.1 t==1) with
 | true=>rfl
 | false =>
  simp only [cond_false]
  exact outF_of t x.2.1 k1 (by simpa using hc)
theorem locked_in (held:List RecD) (ops:Lq2) (i k:Nat) (hi:i<held.length) (hk:k<(held.getD i dRec).2.2.length) (ho:ops.length≤1048576) :
  it_sl8Locked_2 held ops (i:Int) (k:Int) 0=cond (keyAny ((held.getD i dRec).2.2.getD k dOp).2.1 ops) (0,true,[],[],0,0) (1,false,held,ops,(i:Int),(k:Int)):=by
 refine itX_any (ss:=fun v:V_sl8Locked_2=>ss_sl8Locked_2 v.1 v.2.1 v.2.2.1 v.2.2.2.1 v.2.2.2.2) (fa:=fl_sl8Locked_2) (fun m=>((held,ops,(i:Int),(k:Int),(m:Int)):V_sl8Locked_2)) ops dOp (fun x=>((held.getD i dRec).2.2.getD k dOp).2.1.toList==x.2.1.toList) _ _ (by omega) (fun m hm=>?_) ?_
 ·have h1:decide ((m:Int)<((ops.length:Nat):Int))=true:=decide_eq_true (by omega)
  have h2:decide (0≤(i:Int)∧(i:Int)<((held.length:Nat):Int))=true:=decide_eq_true (by omega)
  have h3:decide (0≤(k:Int)∧(k:Int)<(((held.getD (i:Int).toNat ((0:Int),((0:Int),[]))).2.2.length:Nat):Int))=true:=decide_eq_true (show 0≤(k:Int)∧(k:Int)<(((held.getD i dRec).2.2.length:Nat):Int) by omega)
  have h4:decide (0≤(m:Int)∧(m:Int)<((ops.length:Nat):Int))=true:=decide_eq_true (by omega)
  show ss_sl8Locked_2 held ops (i:Int) (k:Int) (m:Int)=_
  simp only [ss_sl8Locked_2,h1,h2,h3,h4,cond_true]
  simp only [getD_dR,getD_dO,Int.toNat_natCast,wrapU m (by omega)]
 ·have h1:decide (((ops.length:Nat):Int)<((ops.length:Nat):Int))=false:=decide_eq_false (by omega)
  simp only [ss_sl8Locked_2,h1,cond_false]
theorem locked_mid (held:List RecD) (ops:Lq2) (i:Nat) (hi:i<held.length) (hk:(held.getD i dRec).2.2.length≤1048576) (ho:ops.length≤1048576) :
  it_sl8Locked_1 held ops (i:Int) 0=cond (keysAny (held.getD i dRec).2.2 ops) (0,true,[],[],0) (1,false,held,ops,(i:Int)):=by
 have h2:decide (0≤(i:Int)∧(i:Int)<((held.length:Nat):Int))=true:=decide_eq_true (by omega)
 refine itX_any (ss:=fun v:V_sl8Locked_1=>ss_sl8Locked_1 v.1 v.2.1 v.2.2.1 v.2.2.2) (fa:=fl_sl8Locked_1) (fun k=>((held,ops,(i:Int),(k:Int)):V_sl8Locked_1)) (held.getD i dRec).2.2 dOp (fun o=>keyAny o.2.1 ops) _ _ (by omega) (fun k hk2=>?_) ?_
 ·have h1:decide ((k:Int)<(((held.getD (i:Int).toNat ((0:Int),((0:Int),[]))).2.2.length:Nat):Int))=true:=decide_eq_true (show (k:Int)<(((held.getD i dRec).2.2.length:Nat):Int) by omega)
  show ss_sl8Locked_1 held ops (i:Int) (k:Int)=_
  simp only [ss_sl8Locked_1,h1,h2,cond_true,locked_in held ops i k hi hk2 ho]
  cases keyAny ((held.getD i dRec).2.2.getD k dOp).2.1 ops
  ·simp only [cond_false,wrapU k (by omega)];rfl
  ·rfl
 ·have h1:decide ((((held.getD i dRec).2.2.length:Nat):Int)<(((held.getD (i:Int).toNat ((0:Int),((0:Int),[]))).2.2.length:Nat):Int))=false:=decide_eq_false (show ¬ (((held.getD i dRec).2.2.length:Nat):Int)<(((held.getD i dRec).2.2.length:Nat):Int) by omega)
  show ss_sl8Locked_1 held ops (i:Int) (((held.getD i dRec).2.2.length:Nat):Int)=_
  simp only [ss_sl8Locked_1,h1,h2,cond_true,cond_false]
theorem locked_spec (held:List RecD) (ops:Lq2) (hl:held.length≤1099511627776) (hh:∀ r∈held,r.2.2.length≤1048576) (ho:ops.length≤1048576):q_sl8Locked held ops=true∧sl8Locked held ops=lockedL held ops:=by
 have e:it_sl8Locked_0 held ops 0=cond (lockedL held ops) (0,true) (1,false):=by
  refine itX_any (ss:=fun v:V_sl8Locked_0=>ss_sl8Locked_0 v.1 v.2.1 v.2.2) (fa:=fl_sl8Locked_0) (fun i=>((held,ops,(i:Int)):V_sl8Locked_0)) held dRec (fun r=>keysAny r.2.2 ops) _ _ (by omega) (fun i hi=>?_) ?_
  ·have h1:decide ((i:Int)<((held.length:Nat):Int))=true:=decide_eq_true (by omega)
   simp only [ss_sl8Locked_0,h1,cond_true,locked_mid held ops i hi (hh _ (getD_mem hi dRec)) ho]
   cases keysAny (held.getD i dRec).2.2 ops
   ·simp only [cond_false,wrapU i (by omega)];rfl
   ·rfl
  ·have h1:decide (((held.length:Nat):Int)<((held.length:Nat):Int))=false:=decide_eq_false (by omega)
   simp only [ss_sl8Locked_0,h1,cond_false]
 simp only [q_sl8Locked,sl8Locked,e]
 cases lockedL held ops<;>exact ⟨rfl,rfl⟩
theorem sMeets_spec (m:LBBe) (ops:Lq2) (hm:m.length≤1099511627776) (ho:ops.length≤1048576):q_sMeets m ops=true∧sMeets m ops=meetsL m ops:=by
 have e:it_sMeets_0 m ops 0=cond (ops.any (misses m)) (0,false) (1,false):=by
  refine itX_any (ss:=fun v:V_sMeets_0=>ss_sMeets_0 v.1 v.2.1 v.2.2) (fa:=fl_sMeets_0) (fun i=>((m,ops,(i:Int)):V_sMeets_0)) ops dOp (misses m) _ _ (by omega) (fun i hi=>?_) ?_
  ·have h1:decide ((i:Int)<((ops.length:Nat):Int))=true:=decide_eq_true (by omega)
   have h2:decide (0≤(i:Int)∧(i:Int)<((ops.length:Nat):Int))=true:=decide_eq_true (by omega)
   simp only [ss_sMeets_0,k1_sMeets,getD_dO,Int.toNat_natCast,h1,h2,cond_true,wrapU i (by omega),(sGetKey_spec m _ hm).1,misses]
   generalize ((ops.getD i dOp).1 != 3)=a
   generalize (!((sGetKey m (ops.getD i dOp).2.1).2==(!((ops.getD i dOp).2.2.toList==(⟨#[]⟩:ByteArray).toList))))=b
   generalize (!((sGetKey m (ops.getD i dOp).2.1).1.toList==(ops.getD i dOp).2.2.toList))=c
   cases a<;>cases b<;>cases c<;>rfl
  ·have h1:decide (((ops.length:Nat):Int)<((ops.length:Nat):Int))=false:=decide_eq_false (by omega)
   simp only [ss_sMeets_0,h1,cond_false]
 simp only [q_sMeets,sMeets,e,meetsL]
 cases ops.any (misses m)<;>exact ⟨rfl,rfl⟩
theorem opsN_snoc (h:List RecD) (r:RecD):opsN (h++[r])=opsN h+r.2.2.length:=by simp [opsN]
theorem keys_spec (x:ShardD) (ops:Lq2) (hm:x.2.2.2.1.length≤1048576) (hh:x.2.2.2.2.length≤1048576) (ho:∀ r∈x.2.2.2.2,r.2.2.length≤1048576) (hl:ops.length≤1048576) :
  q_sl9Keys x.1 x.2.1 x.2.2.1 x.2.2.2.1 x.2.2.2.2 ops=true∧sl9Keys x.1 x.2.1 x.2.2.1 x.2.2.2.1 x.2.2.2.2 ops=((x.2.2.2.1.length+ops.length+opsN x.2.2.2.2:Nat):Int):=by
 have bnd:∀ l:List RecD,(∀ r∈l,r.2.2.length≤1048576)→opsN l≤l.length*1048576:=by
  intro l
  induction l with
  | nil=>intro _;simp [opsN]
  | cons y l ih =>
   intro h
   have a1:=h y (by simp)
   have a2:=ih (fun r hr=>h r (by simp [hr]))
   simp only [opsN,List.map_cons,List.sum_cons,List.length_cons] at a2 ⊢
   omega
 have e0:=wrap64 (n:=((x.2.2.2.1.length:Nat):Int)+((ops.length:Nat):Int)) (by omega) (by omega)
 have e:it_sl9Keys_0 (((x.2.2.2.1.length:Nat):Int)+((ops.length:Nat):Int)) 0 x.1 x.2.1 x.2.2.1 x.2.2.2.1 x.2.2.2.2=(0,((x.2.2.2.1.length+ops.length+opsN x.2.2.2.2:Nat):Int)):=by
  refine itX_inv (ss:=fun v:V_sl9Keys_0=>ss_sl9Keys_0 v.1 v.2 x.1 x.2.1 x.2.2.1 x.2.2.2.1 x.2.2.2.2) (fa:=fl_sl9Keys_0)
   (fun v=>∃ i:Nat,v=(((x.2.2.2.1.length+ops.length+opsN (x.2.2.2.2.take i):Nat):Int),(i:Int))∧i≤x.2.2.2.2.length) (fun a=>a=(0,((x.2.2.2.1.length+ops.length+opsN x.2.2.2.2:Nat):Int))) (fun v=>x.2.2.2.2.length - v.2.toNat) ?_ ⟨0,by simp [opsN],Nat.zero_le _⟩ (by simp;omega)
  rintro v ⟨i,rfl,hi⟩
  by_cases hlt:i<x.2.2.2.2.length
  ·have e1:decide ((i:Int)<((x.2.2.2.2.length:Nat):Int))=true:=decide_eq_true (by omega)
   have e2:decide (0≤(i:Int)∧(i:Int)<((x.2.2.2.2.length:Nat):Int))=true:=decide_eq_true (by omega)
   have e3:opsN (x.2.2.2.2.take (i+1))=opsN (x.2.2.2.2.take i)+(x.2.2.2.2.getD i dRec).2.2.length:=by rw [take_succ_getD hlt dRec,opsN_snoc]
   have b1:=bnd (x.2.2.2.2.take i) (fun r hr=>ho r (List.mem_of_mem_take hr))
   rw [List.length_take] at b1
   have b2:=ho _ (getD_mem hlt dRec)
   refine .inl ⟨(((x.2.2.2.1.length+ops.length+opsN (x.2.2.2.2.take (i+1)):Nat):Int),((i+1:Nat):Int)),?_,⟨i+1,rfl,by omega⟩,by simp only [Int.toNat_natCast];omega⟩
   rw [e3]
   have w1:=wrap64 (n:=((x.2.2.2.1.length+ops.length+opsN (x.2.2.2.2.take i):Nat):Int)+(((x.2.2.2.2.getD i dRec).2.2.length:Nat):Int)) (by omega) (by omega)
   simp only [ss_sl9Keys_0,e1,e2,cond_true,Int.toNat_natCast,getD_dR,wrapU i (by omega),w1]
   congr 2
   omega
  ·obtain rfl:i=x.2.2.2.2.length:=by omega
   have e1:decide ((x.2.2.2.2.length:Int)<((x.2.2.2.2.length:Nat):Int))=false:=decide_eq_false (by omega)
   simp only [ss_sl9Keys_0,e1,cond_false,List.take_length]
   exact .inr ⟨_,rfl,rfl⟩
 have k1:k1_sl9Keys x.1 x.2.1 x.2.2.1 x.2.2.2.1 x.2.2.2.2 ops=it_sl9Keys_0 (IntKind.wrap .i64 (((x.2.2.2.1.length:Nat):Int)+((ops.length:Nat):Int))) 0 x.1 x.2.1 x.2.2.1 x.2.2.2.1 x.2.2.2.2:=rfl
 simp only [q_sl9Keys,sl9Keys,k1,e0,e]
 exact ⟨rfl,trivial⟩
theorem l7Has_spec {l:List Int} (hl:l.length≤1048576) (x:Int):q_sl7Has l x=true∧sl7Has l x=decide (x∈l):=by
 have key:it_sl7Has_0 l x 0=(0,true)∧x∈l∨it_sl7Has_0 l x 0=(1,false)∧x ∉ l:=by
  refine itX_inv (fun v:V_sl7Has_0=>∃ i:Nat,v=(l,x,(i:Int))∧i≤l.length∧x ∉ l.take i) (fun a:A_sl7Has_0=>a=(0,true)∧x∈l∨a=(1,false)∧x ∉ l) (fun v=>l.length - v.2.2.toNat) ?_ ⟨0,rfl,Nat.zero_le _,by simp⟩ (by simp;omega)
  rintro v ⟨i,rfl,hi,hx⟩
  by_cases hlt:i<l.length
  ·have e1:decide ((i:Int)<((l.length:Nat):Int))=true:=decide_eq_true (by omega)
   have e2:decide (0≤(i:Int)∧(i:Int)<((l.length:Nat):Int))=true:=decide_eq_true (by omega)
   simp only [ss_sl7Has_0,e1,e2,cond_true,Int.toNat_natCast,wrapU i (by omega)]
   cases hc:(l.getD i 0==x) with
   | true=>exact .inr ⟨_,rfl,.inl ⟨rfl,by have:=getD_mem hlt 0;simp only [beq_iff_eq] at hc;rw [hc] at this;exact this⟩⟩
   | false =>
    refine .inl ⟨_,rfl,⟨i+1,rfl,by omega,?_⟩,by simp only [Int.toNat_natCast];omega⟩
    rw [take_succ_getD hlt 0]
    simp only [beq_eq_false_iff_ne] at hc
    simp only [List.mem_append,List.mem_singleton,not_or]
    exact ⟨hx,fun h=>hc h.symm⟩
  ·obtain rfl:i=l.length:=by omega
   have e1:decide ((l.length:Int)<((l.length:Nat):Int))=false:=decide_eq_false (by omega)
   simp only [ss_sl7Has_0,e1,cond_false]
   rw [List.take_length] at hx
   exact .inr ⟨_,rfl,.inr ⟨rfl,hx⟩⟩
 simp only [q_sl7Has,sl7Has]
 rcases key with ⟨h1,h2⟩ | ⟨h1,h2⟩
 ·rw [h1,decide_eq_true h2];exact ⟨rfl,rfl⟩
 ·rw [h1,decide_eq_false h2];exact ⟨rfl,rfl⟩
theorem sPutKey_spec (l:LBBe) (k v:ByteArray) (hl:l.length≤1099511627776):q_sPutKey l k v=true∧sPutKey l k v=putL l k v:=by
 have hlt:∀ i:Nat,i<l.length→decide ((i:Int)<((l.length:Nat):Int))=true∧decide (0≤(i:Int)∧(i:Int)<((l.length:Nat):Int))=true:=fun i hi=>⟨decide_eq_true (by omega),decide_eq_true (by omega)⟩
 have hge:decide (((l.length:Nat):Int)<((l.length:Nat):Int))=false:=decide_eq_false (by omega)
 have e0:it_sPutKey_0 l k v 0 l=cond (decide (l.findIdx (isK k)<l.length)) (0,l.set (l.findIdx (isK k)) ((l.getD (l.findIdx (isK k)) dP).1,v),([]:LBBe),(⟨#[]⟩:ByteArray),(⟨#[]⟩:ByteArray)) (1,([]:LBBe),l,k,v):=by
  refine itX_find (ss:=fun v:V_sPutKey_0=>ss_sPutKey_0 v.1 v.2.1 v.2.2.1 v.2.2.2.1 v.2.2.2.2) (fa:=fl_sPutKey_0) (fun i=>((l,k,v,(i:Int),l):V_sPutKey_0)) l dP (isK k) (fun i=>((0,l.set i ((l.getD i dP).1,v),[],⟨#[]⟩,⟨#[]⟩):A_sPutKey_0)) _ (by omega) (fun i hi=>?_) ?_
  ·obtain ⟨h1,h2⟩:=hlt i hi
   simp only [ss_sPutKey_0,h1,h2,cond_true,Int.toNat_natCast,wrapU i (by omega),getD_dP]
   rfl
  ·simp only [ss_sPutKey_0,hge,cond_false]
 have e1:it_sPutKey_1 l k v 0=(0,l,k,v,((l.findIdx (overK k):Nat):Int)):=by
  have h:=itX_find (ss:=fun v:V_sPutKey_1=>ss_sPutKey_1 v.1 v.2.1 v.2.2.1 v.2.2.2) (fa:=fl_sPutKey_1) (fun i=>((l,k,v,(i:Int)):V_sPutKey_1)) l dP (overK k) (fun i=>(0,l,k,v,(i:Int))) (0,l,k,v,((l.length:Nat):Int)) (by omega) (fun i hi=>?_) ?_
  ·refine h.trans ?_
   by_cases hc:l.findIdx (overK k)<l.length
   ·rw [decide_eq_true hc];rfl
   ·have:=findIdx_le' (overK k) l
    have he:l.findIdx (overK k)=l.length:=by omega
    rw [decide_eq_false hc,he];rfl
  ·obtain ⟨h1,h2⟩:=hlt i hi
   simp only [ss_sPutKey_1,h1,h2,cond_true,Int.toNat_natCast,wrapU i (by omega),getD_dP,overK]
   cases (Op.bytesLess (l.getD i dP).1.toList k.toList||(l.getD i dP).1.toList==k.toList)<;>rfl
  ·simp only [ss_sPutKey_1,hge,cond_false]
 have hle:=findIdx_le' (overK k) l
 simp only [q_sPutKey,sPutKey,k1_sPutKey,List.nil_append,e0]
 cases hc:decide (l.findIdx (isK k)<l.length) with
 | true =>
  simp only [cond_true,putL,hc]
  refine ⟨?_,rfl⟩
  have e:decide ((([]:LBBe).length+l.length)*32≤MAXB)=true:=decide_eq_true (by simp [MAXB];omega)
  rw [e];rfl
 | false =>
  have f1:((1:Nat)==0)=false:=rfl
  have f2:((1:Nat)==1)=true:=rfl
  have f3:((0:Nat)==0)=true:=rfl
  simp only [cond_false,f1,f2,f3,e1,putL,hc,Int.toNat_natCast,Bool.true_and,Int.toNat_zero,List.drop_zero,List.take_length]
  refine ⟨?_,by rw [List.append_assoc];rfl⟩
  simp only [Bool.and_eq_true,decide_eq_true_eq,MAXB,List.length_nil,List.length_take,List.length_append,List.length_cons,List.length_drop]
  refine ⟨decide_eq_true (by omega),?_,?_,?_,?_,?_⟩<;>omega
theorem sDelKey_spec (l:LBBe) (k:ByteArray) (hl:l.length≤1099511627776):q_sDelKey l k=true∧sDelKey l k=delL l k:=by
 have h:it_sDelKey_0 l k 0 []=(0,delL l k):=by
  refine itX_of (fun v:V_sDelKey_0=>∃ i:Nat,v=(l,k,(i:Int),(l.take i).filter (fun p=>!isK k p))∧i≤l.length) (fun v=>(0,v.2.2.2++(l.drop v.2.2.1.toNat).filter (fun p=>!isK k p))) (fun v=>l.length - v.2.2.1.toNat) (fun v hv=>?_) ⟨0,rfl,by omega⟩ (by simp;omega)
  obtain ⟨i,rfl,hi⟩:=hv
  by_cases hlt:i<l.length
  ·left
   have h1:decide ((i:Int)<((l.length:Nat):Int))=true:=decide_eq_true (by omega)
   have h2:decide (0≤(i:Int)∧(i:Int)<((l.length:Nat):Int))=true:=decide_eq_true (by omega)
   have hfl:=List.length_filter_le (fun p=>!isK k p) (l.take i)
   rw [List.length_take] at hfl
   have h3:∀ x:ByteArray×ByteArray,decide ((((l.take i).filter (fun p=>!isK k p)).length+[x].length)*32≤MAXB)=true:=fun x=>decide_eq_true (by simp only [MAXB,List.length_singleton];omega)
   have hd:l.drop i=l.getD i dP::l.drop (i+1):=by rw [List.drop_eq_getElem_cons hlt];simp [List.getD_eq_getElem?_getD,hlt]
   have ht:l.take (i+1)=l.take i++[l.getD i dP]:=take_succ_getD hlt dP
   refine ⟨(l,k,((i+1:Nat):Int),(l.take (i+1)).filter (fun p=>!isK k p)),?_,⟨i+1,rfl,by omega⟩,?_,by simp only [Int.toNat_natCast];omega⟩
   ·simp only [ss_sDelKey_0,h1,h2,h3,cond_true,Int.toNat_natCast,wrapU i (by omega),getD_dP,ht,List.filter_append,List.filter_cons,List.filter_nil]
    show cond (!isK k (l.getD i dP)) _ _=_
    cases isK k (l.getD i dP)<;>simp
   ·simp only [Int.toNat_natCast,ht,hd,List.filter_append,List.filter_cons,List.filter_nil]
    cases isK k (l.getD i dP)<;>simp
  ·right
   obtain rfl:i=l.length:=by omega
   have h1:decide (((l.length:Nat):Int)<((l.length:Nat):Int))=false:=decide_eq_false (by omega)
   simp only [ss_sDelKey_0,h1,cond_false,Int.toNat_natCast,List.drop_length,List.filter_nil,List.append_nil]
 exact ⟨by simp only [q_sDelKey,h];rfl,by simp only [sDelKey,h]⟩
theorem sApply_spec (m:LBBe) (l:Lq2) (hm:m.length≤1000000000) (hl:l.length≤1000000000):q_sApply m l=true∧sApply m l=l.foldl appL m:=by
 have h:it_sApply_0 l 0 m=(0,l.foldl appL m):=by
  refine itX_fold (ss:=fun v:V_sApply_0=>ss_sApply_0 v.1 v.2.1 v.2.2) (fa:=fl_sApply_0) (fun i b=>((l,(i:Int),b):V_sApply_0)) l dOp appL (fun b=>((0,b):A_sApply_0)) (fun i b=>b.length≤m.length+i) (by omega) (fun i b hi hb=>⟨?_,by have:=appL_len b (l.getD i dOp);omega⟩) (fun b hb=>?_) (by simp)
  ·have h1:decide ((i:Int)<((l.length:Nat):Int))=true:=decide_eq_true (by omega)
   have h2:decide (0≤(i:Int)∧(i:Int)<((l.length:Nat):Int))=true:=decide_eq_true (by omega)
   have e:l.getD i ((0:Int),((⟨#[]⟩:ByteArray),(⟨#[]⟩:ByteArray)))=l.getD i dOp:=rfl
   obtain ⟨p1,p2⟩:=sPutKey_spec b (l.getD i dOp).2.1 (l.getD i dOp).2.2 (by omega)
   obtain ⟨d1,d2⟩:=sDelKey_spec b (l.getD i dOp).2.1 (by omega)
   simp only [ss_sApply_0,h1,h2,cond_true,Int.toNat_natCast,wrapU i (by omega),e,k1_sApply,k2_sApply,p1,p2,d1,d2,appL]
   cases (l.getD i dOp).1==1<;>cases (l.getD i dOp).1==2<;>rfl
  ·have h1:decide (((l.length:Nat):Int)<((l.length:Nat):Int))=false:=decide_eq_false (by omega)
   simp only [ss_sApply_0,h1,cond_false]
 have hq:decide ((([]:LBBe).length+m.length)*32≤MAXB)=true:=decide_eq_true (by simp [MAXB];omega)
 simp only [q_sApply,sApply,List.nil_append,h,hq]
 exact ⟨rfl,trivial⟩
theorem one_spec (r:RecD) (m:List PairD) (held:List RecD) (seen:List Int) (hr:okOps r.2.2=true) (hm:m.length≤1000) (hh:held.length≤1048576) (ho:∀ x∈held,okOps x.2.2=true) (hs:seen.length≤1048576) :
  q_sl8One_w1 r.1 r.2.1 r.2.2 m held seen=true∧(match stepL (decide (r.2.1∈seen)) m held r with
   | none=>(sl8One_w1 r.1 r.2.1 r.2.2 m held seen).1=false
   | some (m', h')=>∃ s', sl8One_w1 r.1 r.2.1 r.2.2 m held seen=(true,m', h', s')∧(s'=seen++[r.2.1]∨s'=seen∧held.any (isTx r.2.1)=true)):=by
 have a1:=(l8At_spec held r.2.1 (by omega)).1
 have a2:=l8At_neg held r.2.1 (by omega)
 have hl:=okOps_len hr
 obtain ⟨b1,b2⟩:=l7Has_spec hs r.2.1
 obtain ⟨c1,c2⟩:=locked_spec held r.2.2 (by omega) (fun x hx=>okOps_len (ho x hx)) hl
 obtain ⟨d1,d2⟩:=sMeets_spec m r.2.2 (by omega) hl
 have f1:decide ((held.length+[(r.1,(r.2.1,r.2.2))].length)*40≤MAXB)=true:=decide_eq_true (by simp only [List.length_singleton,MAXB];omega)
 have f2:decide ((seen.length+[r.2.1].length)*8≤MAXB)=true:=decide_eq_true (by simp only [List.length_singleton,MAXB];omega)
 have f3:q_sl8CopyRec r.1 r.2.1 r.2.2=true:=decide_eq_true (by simp only [List.length_nil,MAXB];omega)
 have f4:sl8CopyRec r.1 r.2.1 r.2.2=(r.1,r.2.1,r.2.2):=rfl
 have g0:q_sRecOk r.1 r.2.1 r.2.2=true:=hr
 simp only [q_sl8One_w1,sl8One_w1,stepL,a1,a2,b1,b2,c1,c2,d1,d2,f2,f3,f4,g0,Bool.true_and,Bool.and_true]
 cases hok:sRecOk r.1 r.2.1 r.2.2 with
 | false=>exact ⟨rfl,rfl⟩
 | true =>
  simp only [Bool.not_true,cond_false]
  cases hk:(r.1==1) with
  | true =>
   have hk1:r.1=1:=by simpa using hk
   simp only [cond_true]
   cases decide (r.2.1∈seen) with
   | true=>exact ⟨rfl,rfl⟩
   | false =>
    cases lockedL held r.2.2 with
    | true=>exact ⟨rfl,rfl⟩
    | false =>
     cases meetsL m r.2.2 with
     | false=>exact ⟨rfl,rfl⟩
     | true=>exact ⟨f1,_,by rw [hk1];rfl,.inl rfl⟩
  | false =>
   simp only [cond_false]
   cases ha:held.any (isTx r.2.1) with
   | false =>
    simp only [Bool.not_false,cond_true]
    cases (r.1==3) with
    | false=>exact ⟨rfl,rfl⟩
    | true=>cases decide (r.2.1∈seen) with
     | true=>exact ⟨rfl,rfl⟩
     | false=>exact ⟨rfl,_,rfl,.inl rfl⟩
   | true =>
    have hlt:=List.findIdx_lt_length.2 (List.any_eq_true.1 ha)
    have e1:sl8At held r.2.1=((held.findIdx (isTx r.2.1):Nat):Int):=by rw [(l8At_spec held r.2.1 (by omega)).2,decide_eq_true hlt];rfl
    generalize hi:held.findIdx (isTx r.2.1)=i at hlt e1 ⊢
    have e2:=wrapU i (by omega)
    have e3:=drop_take_all held (i+1)
    have e4:[]++held.take i++held.drop (i+1)=held.eraseIdx i:=by rw [List.nil_append,List.eraseIdx_eq_take_drop_succ]
    have q0:decide (0≤(i:Int)∧(i:Int)<((held.length:Nat):Int))=true:=decide_eq_true (by omega)
    have q1:decide (0≤(0:Int)∧(0:Int)≤(i:Int)∧(i:Int)≤((held.length:Nat):Int))=true:=decide_eq_true (by omega)
    have q2:decide (0≤((i+1:Nat):Int)∧((i+1:Nat):Int)≤((held.length:Nat):Int)∧((held.length:Nat):Int)≤((held.length:Nat):Int))=true:=decide_eq_true (by omega)
    have q3:decide ((([]:List RecD).length+(held.take i).length)*40≤MAXB)=true:=decide_eq_true (by simp only [List.length_nil,List.length_take,MAXB];omega)
    have q4:decide ((([]++held.take i).length+(held.drop (i+1)).length)*40≤MAXB)=true:=decide_eq_true (by simp only [List.nil_append,List.length_drop,List.length_take,MAXB];omega)
    obtain ⟨s1,s2⟩:=sApply_spec m (held.getD i dRec).2.2 (by omega) (by have:=okOps_len (ho _ (getD_mem hlt dRec));omega)
    simp only [Bool.not_true,cond_false,e1,e2,Int.toNat_natCast,e3,e4,q0,q1,q2,q3,q4,getD_dR,s1,s2,Bool.true_and,Bool.and_true]
    cases (r.1==2) with
    | true =>
     simp only [cond_true]
     refine ⟨trivial,?_⟩
     cases decide (((((held.getD i dRec).2.2.foldl appL m).length:Nat):Int)≤60) with
     | true=>exact ⟨_,rfl,.inr ⟨rfl,trivial⟩⟩
     | false=>rfl
    | false =>
     simp only [cond_false]
     refine ⟨trivial,?_⟩
     cases decide (((m.length:Nat):Int)≤60) with
     | true=>exact ⟨_,rfl,.inr ⟨rfl,trivial⟩⟩
     | false=>rfl
theorem one_nil (r:RecD) (m:List PairD) (held:List RecD):sl8One r.1 r.2.1 r.2.2 m held=sl8One_w1 r.1 r.2.1 r.2.2 m held []∧q_sl8One r.1 r.2.1 r.2.2 m held=q_sl8One_w1 r.1 r.2.1 r.2.2 m held []:=⟨rfl,rfl⟩
/-- What a record does that fits. -/
theorem write_spec {r:RecD} {m m':List PairD} {held h':List RecD} (id sure:Int) (log:List RecD) (hr:okOps r.2.2=true) (hm:m.length≤1000) (hh:held.length≤1048576) (ho:∀ x∈held,okOps x.2.2=true) (hl:log.length≤1048576)
  (hs:stepL false m held r=some (m', h')):q_sl9Write r.1 r.2.1 r.2.2 id sure log m held=true∧sl9Write r.1 r.2.1 r.2.2 id sure log m held=(id,sure,log++[r],m', h'):=by
 obtain ⟨o1,o2⟩:=one_spec r m held [] hr hm hh ho (by simp)
 rw [show decide (r.2.1∈([]:List Int))=false from by simp,hs] at o2
 obtain ⟨s', o3,_⟩:=o2
 obtain ⟨n1,n2⟩:=one_nil r m held
 have hl2:=okOps_len hr
 have f3:q_sl8CopyRec r.1 r.2.1 r.2.2=true:=decide_eq_true (by simp only [List.length_nil,MAXB];omega)
 have f4:sl8CopyRec r.1 r.2.1 r.2.2=(r.1,r.2.1,r.2.2):=rfl
 have f1:decide ((log.length+[(r.1,(r.2.1,r.2.2))].length)*40≤MAXB)=true:=decide_eq_true (by simp only [List.length_singleton,MAXB];omega)
 simp only [q_sl9Write,sl9Write,n1,n2,o1,o3,f3,f4,f1,Bool.and_self]
 exact ⟨trivial,trivial⟩
theorem step_hold {x:ShardD} {t:Int} {ops:Lq2} (ht:sl1In t 1 1000000=true) (ho:sOpsOk ops=true) (hl:lockedL x.2.2.2.2 ops=false) (hm:meetsL x.2.2.2.1 ops=true) :
  stepL false x.2.2.2.1 x.2.2.2.2 ((1:Int),(t,ops))=some (x.2.2.2.1,x.2.2.2.2++[((1:Int),(t,ops))]):=by
 have hr:sRecOk 1 t ops=true:=by simp only [sRecOk,ht,ho];rfl
 simp only [stepL,hr,hl,hm]
 rfl
theorem sHold_spec {x:ShardD} (h1:okRecS x.2.1) (hr:RightS x) (t:Int) (ops:Lq2) (ho:okOps ops=true) :
  q_sl9Hold t x.1 x.2.2.1 ops x.2.1 x.2.2.2.1 x.2.2.2.2=true∧sl9Hold t x.1 x.2.2.1 ops x.2.1 x.2.2.2.1 x.2.2.2.2 =
   ((holdF x t ops).1,(holdF x t ops).2.1,(holdF x t ops).2.2.2.1,ops,(holdF x t ops).2.2.1,(holdF x t ops).2.2.2.2.1,(holdF x t ops).2.2.2.2.2):=by
 have I:=right_rep h1 hr
 have hl:=okOps_len ho
 have hm:=I.hml
 have hh:=hr.2.2.1
 have hho:∀ r∈x.2.2.2.2,okOps r.2.2=true:=fun r hx=>(I.hmem r hx).1
 obtain ⟨a1,a2⟩:=out_both h1 hr t
 obtain ⟨b1,b2⟩:=locked_spec x.2.2.2.2 ops (by omega) (fun r hx=>okOps_len (hho r hx)) hl
 obtain ⟨c1,c2⟩:=sMeets_spec x.2.2.2.1 ops (by omega) hl
 obtain ⟨d1,d2⟩:=keys_spec x ops (by omega) (by omega) (fun r hx=>okOps_len (hho r hx)) hl
 have w1:=wrap64 (n:=((x.2.1.length:Nat):Int)+((x.2.2.2.2.length:Nat):Int)) (by omega) (by omega)
 have w2:=wrap64 (n:=((x.2.1.length:Nat):Int)+((x.2.2.2.2.length:Nat):Int)+2) (by omega) (by omega)
 have g0:q_sOpsOk ops=true:=ho
 have g1:q_sl7CopyOps ops=true:=decide_eq_true (by simp only [List.length_nil,MAXB];omega)
 have g2:sl7CopyOps ops=ops:=rfl
 simp only [q_sl9Hold,sl9Hold,holdF,a1,a2,b1,b2,c1,c2,d1,d2,w1,w2,g0,g1,g2,Bool.true_and]
 cases ht:sl1In t 1 1000000 with
 | false=>exact ⟨rfl,rfl⟩
 | true =>
  cases hok:sOpsOk ops with
  | false=>exact ⟨rfl,rfl⟩
  | true =>
   cases hout:(outOf x t != 2) with
   | true=>exact ⟨rfl,rfl⟩
   | false =>
    cases hlk:lockedL x.2.2.2.2 ops with
    | true=>exact ⟨rfl,rfl⟩
    | false =>
     cases hmt:meetsL x.2.2.2.1 ops with
     | false=>exact ⟨rfl,rfl⟩
     | true =>
      obtain ⟨z1,z2⟩:=write_spec (r:=((1:Int),(t,ops))) x.1 x.2.2.1 x.2.1 ho (by omega) (by omega) hho (by omega) (step_hold (x:=x) ht hok hlk hmt)
      simp only at z1 z2
      simp only [z1,z2]
      cases decide (((x.2.2.2.1.length+ops.length+opsN x.2.2.2.2:Nat):Int) > 60)<;>cases decide (((x.2.1.length:Nat):Int)+((x.2.2.2.2.length:Nat):Int)+2 > 300)<;>exact ⟨rfl,rfl⟩
theorem hold_drawn {x:ShardD} (D:DrawnS x) (t:Int) {ops:Lq2} (ho:okOps ops=true):DrawnS (holdF x t ops).2:=by
 simp only [holdF]
 cases ht:sl1In t 1 1000000 with
 | false=>exact D
 | true =>
  cases hok:sOpsOk ops with
  | false=>exact D
  | true =>
   cases hout:(outOf x t != 2) with
   | true=>exact D
   | false =>
    cases hlk:lockedL x.2.2.2.2 ops with
    | true=>exact D
    | false =>
     cases hmt:meetsL x.2.2.2.1 ops with
     | false=>exact D
     | true =>
      by_cases hk:((x.2.2.2.1.length+ops.length+opsN x.2.2.2.2:Nat):Int) > 60
      ·rw [decide_eq_true hk];exact D
      ·rw [decide_eq_false hk]
       by_cases hn:((x.2.1.length:Nat):Int)+((x.2.2.2.2.length:Nat):Int)+2 > 300
       ·rw [decide_eq_true hn];exact D
       ·rw [decide_eq_false hn]
        obtain ⟨_,hany⟩:=out_two D.1 D.2.1 (t:=t) (by simpa using hout)
        have hst:=step_hold (x:=x) ht hok hlk hmt
        rw [← hany] at hst
        exact D.push (r:=((1:Int),(t,ops))) ho hst (by rw [opsN_snoc];simp only;omega) (by rw [List.length_append];simp;omega)
theorem holdF_log (x:ShardD) (t:Int) (ops:Lq2):(holdF x t ops).2.2.1=x.2.1∨(holdF x t ops).2.2.1=x.2.1++[((1:Int),(t,ops))]:=by
 simp only [holdF]
 cases (!(sl1In t 1 1000000)) with
 | true=>exact .inl rfl
 | false=>cases (!(sOpsOk ops)) with
  | true=>exact .inl rfl
  | false=>cases (outOf x t != 2) with
   | true=>exact .inl rfl
   | false=>cases lockedL x.2.2.2.2 ops with
    | true=>exact .inl rfl
    | false=>cases (!(meetsL x.2.2.2.1 ops)) with
     | true=>exact .inl rfl
     | false=>cases decide (((x.2.2.2.1.length+ops.length+opsN x.2.2.2.2:Nat):Int) > 60) with
      | true=>exact .inl rfl
      | false=>cases decide (((x.2.1.length:Nat):Int)+((x.2.2.2.2.length:Nat):Int)+2 > 300) with
       | true=>exact .inl rfl
       | false=>exact .inr rfl
theorem snoc_six {l:List RecD} {r:RecD} (h:∀ r∈l,SixR r) (hr:SixR r):∀ r'∈l++[r],SixR r':=fun r' h'=>by
 rcases List.mem_append.1 h' with h' | h'
 ·exact h r' h'
 ·rw [List.mem_singleton.1 h'];exact hr
theorem hold_drawnT {x:ShardD} (D:DrawnT x) {t:Int} (ht:t≤6) {ops:Lq2} (ho:okOps ops=true) (hk:∀ o∈ops,o.2.1∈keys7∧o.2.2.size≤20):DrawnT (holdF x t ops).2:=by
 refine ⟨hold_drawn D.1 t ho,?_⟩
 rcases holdF_log x t ops with e | e<;>rw [e]
 ·exact D.2
 ·exact snoc_six D.2 ⟨ht,hk⟩
/-- A record that ends one that is held: whether it fits or not. -/
theorem one_end (k t:Int) (m:List PairD) (held:List RecD) (ht:sl1In t 1 1000000=true) (hk:k=2∨k=3) (hm:m.length≤1000) (hh:held.length≤1048576) (ho:∀ x∈held,okOps x.2.2=true) (ha:held.any (isTx t)=true) :
  q_sl8One k t [] m held=true∧(sl8One k t [] m held).2.1=cond (k==2) (doneM m held t) m∧(sl8One k t [] m held).2.2.1=held.eraseIdx (held.findIdx (isTx t)):=by
 obtain ⟨n1,n2⟩:=one_nil (k,(t,[])) m held
 simp only at n1 n2
 rw [n1,n2]
 obtain ⟨o1,_⟩:=one_spec (k,(t,[])) m held [] rfl hm hh ho (by simp)
 refine ⟨o1,?_⟩
 have hok:=gone_ok ht hk
 have hk1:(k==1)=false:=by rcases hk with rfl | rfl<;>rfl
 have a2:=l8At_neg held t (by omega)
 rw [ha] at a2
 have hlt:=List.findIdx_lt_length.2 (List.any_eq_true.1 ha)
 have e1:sl8At held t=((held.findIdx (isTx t):Nat):Int):=by rw [(l8At_spec held t (by omega)).2,decide_eq_true hlt];rfl
 simp only [sl8One_w1,hok,hk1,a2,doneM,e1,Bool.not_true,cond_false]
 generalize hi:held.findIdx (isTx t)=i at hlt e1 ⊢
 have e2:=wrapU i (by omega)
 have e3:=drop_take_all held (i+1)
 have e4:[]++held.take i++held.drop (i+1)=held.eraseIdx i:=by rw [List.nil_append,List.eraseIdx_eq_take_drop_succ]
 obtain ⟨s1,s2⟩:=sApply_spec m (held.getD i dRec).2.2 (by omega) (by have:=okOps_len (ho _ (getD_mem hlt dRec));omega)
 simp only [e2,Int.toNat_natCast,e3,e4,getD_dR,s2]
 rcases hk with rfl | rfl<;>exact ⟨rfl,rfl⟩
theorem sDecide_spec {x:ShardD} (h1:okRecS x.2.1) (hr:RightS x) (t:Int) (yes:Bool) :
  q_sl9Decide t yes x.1 x.2.2.1 x.2.1 x.2.2.2.1 x.2.2.2.2=true∧sl9Decide t yes x.1 x.2.2.1 x.2.1 x.2.2.2.1 x.2.2.2.2 =
   ((decideF x t yes).1,(decideF x t yes).2.1,(decideF x t yes).2.2.2.1,(decideF x t yes).2.2.1,(decideF x t yes).2.2.2.2.1,(decideF x t yes).2.2.2.2.2):=by
 have I:=right_rep h1 hr
 have hm:=I.hml
 have hh:=hr.2.2.1
 have hho:∀ r∈x.2.2.2.2,okOps r.2.2=true:=fun r hx=>(I.hmem r hx).1
 obtain ⟨a1,a2⟩:=out_both h1 hr t
 have w1:=wrap64 (n:=((x.2.1.length:Nat):Int)+((x.2.2.2.2.length:Nat):Int)) (by omega) (by omega)
 simp only [q_sl9Decide,sl9Decide,decideF,a1,a2,w1,Bool.true_and]
 cases ht:sl1In t 1 1000000 with
 | false=>exact ⟨rfl,rfl⟩
 | true =>
  cases hout:(outOf x t==1) with
  | true =>
   rw [out_one] at hout
   have f3:∀ k:Int,q_sl8CopyRec k t []=true:=fun k=>rfl
   have f4:∀ k:Int,sl8CopyRec k t []=(k,t,[]):=fun k=>rfl
   have f1:∀ k:Int,decide ((x.2.1.length+[(k,(t,([]:Lq2)))].length)*40≤MAXB)=true:=fun k=>decide_eq_true (by simp only [List.length_singleton,MAXB];omega)
   obtain ⟨p1,p2,p3⟩:=one_end 2 t x.2.2.2.1 x.2.2.2.2 ht (.inl rfl) (by omega) (by omega) hho hout
   obtain ⟨p4,p5,p6⟩:=one_end 3 t x.2.2.2.1 x.2.2.2.2 ht (.inr rfl) (by omega) (by omega) hho hout
   cases yes with
   | true=>simp only [q_sl9Write,sl9Write,p1,p2,p3,f3,f4,f1,Bool.not_true,cond_true,cond_false,Bool.and_self];exact ⟨trivial,rfl⟩
   | false=>simp only [q_sl9Write,sl9Write,p4,p5,p6,f3,f4,f1,Bool.not_true,cond_true,cond_false,Bool.and_self];exact ⟨trivial,rfl⟩
  | false =>
   cases h3:(outOf x t==3) with
   | true=>cases yes<;>exact ⟨rfl,rfl⟩
   | false =>
    cases h4:(outOf x t==4) with
    | true=>cases yes<;>exact ⟨rfl,rfl⟩
    | false =>
     cases yes with
     | true=>exact ⟨rfl,rfl⟩
     | false =>
      obtain ⟨ha,_⟩:=out_two h1 hr (out_four hout h3 h4)
      obtain ⟨z1,z2⟩:=write_spec (r:=((3:Int),(t,[]))) x.1 x.2.2.1 x.2.1 rfl (by omega) (by omega) hho (by omega) (step_gone (x:=x) ht ha)
      simp only at z1 z2
      simp only [z1,z2]
      cases decide (((x.2.1.length:Nat):Int)+((x.2.2.2.2.length:Nat):Int) ≥ 300)<;>exact ⟨rfl,rfl⟩
theorem decideF_log (x:ShardD) (t:Int) (yes:Bool):(decideF x t yes).2.2.1=x.2.1∨∃ k:Int,(decideF x t yes).2.2.1=x.2.1++[(k,(t,[]))]:=by
 simp only [decideF]
 cases (!(sl1In t 1 1000000)) with
 | true=>exact .inl rfl
 | false=>cases (outOf x t==1) with
  | true=>exact .inr ⟨_,rfl⟩
  | false=>cases (outOf x t==3) with
   | true=>exact .inl rfl
   | false=>cases (outOf x t==4) with
    | true=>exact .inl rfl
    | false=>cases yes with
     | true=>exact .inl rfl
     | false=>cases decide (((x.2.1.length:Nat):Int)+((x.2.2.2.2.length:Nat):Int) ≥ 300) with
      | true=>exact .inl rfl
      | false=>exact .inr ⟨_,rfl⟩
theorem decide_drawnT {x:ShardD} (D:DrawnT x) {t:Int} (ht:t≤6) (yes:Bool):DrawnT (decideF x t yes).2:=by
 refine ⟨decide_drawn D.1 t yes,?_⟩
 rcases decideF_log x t yes with e | ⟨k,e⟩<;>rw [e]
 ·exact D.2
 ·exact snoc_six D.2 ⟨ht,fun o ho=>by simp at ho⟩
theorem sl1Once_spec {b:List Int} {i:Int} (hc:cOk b i) (n:Int) (h:Int):q_sl1Once n b i h=true∧(sl1Once n b i h).2.1=b∧cOk b (sl1Once n b i h).2.2.1:=by
 obtain ⟨a1,a2,a3,a4,a5⟩:=sl1Below_spec hc n h
 exact ⟨a1,a4,a5⟩
theorem held_six {x:ShardD} (D:DrawnT x) {k:Nat} (hk:k<x.2.2.2.2.length):(x.2.2.2.2.getD k ((0:Int),((0:Int),[]))).2.1≤6:=by
 have I:=right_rep D.1.1 D.1.2.1
 obtain ⟨r,hr,hp⟩:=List.any_eq_true.1 (I.hmem _ (getD_mem hk ((0:Int),((0:Int),[])))).2
 rw [List.take_length] at hr
 have:=(D.2 r hr).1
 rw [← (beq_iff_eq.1 hp:r.2.1=_)]
 exact this
theorem sure_drawn {x:ShardD} (D:DrawnS x) {n:Int} (h0:0≤n) (h1:n≤((x.2.1.length:Nat):Int)):DrawnS (x.1,x.2.1,n,x.2.2.2.1,x.2.2.2.2):=⟨D.1,⟨D.2.1.1,⟨h0,h1⟩,D.2.1.2.2⟩,D.2.2⟩
/-- How many records one has that crashed. -/
noncomputable def crashN (x:ShardD) (keep:Int):Nat:=(x.2.2.1+min (max keep 0) (((x.2.1.length:Nat):Int) - x.2.2.1)).toNat
noncomputable def crashF (x:ShardD) (keep:Int):ShardD:=(x.1,x.2.1.take (crashN x keep),((crashN x keep:Nat):Int),(repOut (x.2.1.take (crashN x keep))).1,(repOut (x.2.1.take (crashN x keep))).2.1)
theorem sReplay_key (l:List RecD) (hl:l.length≤1048576) (hr:∀ x∈l,okOps x.2.2=true):((k2_sReplayRecs l).1=0∧(k2_sReplayRecs l).2.1=false∧(k2_sReplayRecs l).2.2.1=[]∧(k2_sReplayRecs l).2.2.2.1=[]∧repL l l.length=none)∨((k2_sReplayRecs l).1=1∧repL l l.length=some ((k2_sReplayRecs l).2.2.2.2.1,(k2_sReplayRecs l).2.2.2.2.2.1)):=by
 refine itX_inv (ss:=fun v:V_sReplayRecs_0=>ss_sReplayRecs_0 v.1 v.2.1 v.2.2.1 v.2.2.2.1 v.2.2.2.2) (fa:=fl_sReplayRecs_0)
  (fun v=>∃ (i:Nat) (m:List PairD) (held:List RecD) (seen:List Int),v=(l,(i:Int),m,held,seen)∧i≤l.length∧repL l i=some (m,held)∧seen.length≤i∧∀ t,t∈seen↔(l.take i).any (isTx t)=true)
  (fun a:A_sReplayRecs_0=>(a.1=0∧a.2.1=false∧a.2.2.1=[]∧a.2.2.2.1=[]∧repL l l.length=none)∨(a.1=1∧repL l l.length=some (a.2.2.2.2.1,a.2.2.2.2.2.1))) (fun v=>l.length - v.2.1.toNat) ?_ ⟨0,[],[],[],rfl,Nat.zero_le _,rfl,by simp,by simp⟩ (by simp;omega)
 rintro v ⟨i,m,held,seen,rfl,hi,hp,hs,hse⟩
 by_cases hlt:i<l.length
 ·have e1:decide ((i:Int)<((l.length:Nat):Int))=true:=decide_eq_true (by omega)
  have e2:decide (0≤(i:Int)∧(i:Int)<((l.length:Nat):Int))=true:=decide_eq_true (by omega)
  have I:=rep_ok hr i hi m held hp
  have o:=one_spec (l.getD i dRec) m held seen (hr _ (getD_mem hlt dRec)) (by have:=I.hml;omega) (by have:=I.hlen;omega) (fun x hx=>(I.hmem x hx).1) (by omega)
  have hkn:decide ((l.getD i dRec).2.1∈seen)=(l.take i).any (isTx (l.getD i dRec).2.1):=by
   cases hc:(l.take i).any (isTx (l.getD i dRec).2.1) with
   | true=>exact decide_eq_true ((hse _).2 hc)
   | false=>exact decide_eq_false (fun h=>by rw [(hse _).1 h] at hc;cases hc)
  rw [hkn] at o
  obtain ⟨o1,o2⟩:=o
  simp only [ss_sReplayRecs_0,k1_sReplayRecs,e1,e2,cond_true,Int.toNat_natCast,getD_dR,o1,wrapU i (by omega)]
  cases hst:stepL ((l.take i).any (isTx (l.getD i dRec).2.1)) m held (l.getD i dRec) with
  | none =>
   rw [hst] at o2
   simp only [o2,Bool.not_false,cond_true]
   exact .inr ⟨_,rfl,.inl ⟨rfl,rfl,rfl,rfl,rep_stop hlt hp hst⟩⟩
  | some s =>
   obtain ⟨m', h'⟩:=s
   rw [hst] at o2
   obtain ⟨s', o3,o4⟩:=o2
   simp only [o3,Bool.not_true,cond_false]
   refine .inl ⟨_,rfl,⟨i+1,m', h', s', rfl,by omega,by simp only [repL,hp,Option.bind_some];exact hst,?_,fun t=>?_⟩,by simp only [Int.toNat_natCast];omega⟩
   ·rcases o4 with rfl | ⟨rfl,_⟩
    ·rw [List.length_append];simp;omega
    ·omega
   ·rw [take_succ_getD hlt dRec,List.any_append,Bool.or_eq_true]
    have hone:([l.getD i dRec].any (isTx t)=true)↔(l.getD i dRec).2.1=t:=by simp [isTx]
    rw [hone]
    rcases o4 with rfl | ⟨rfl,hany⟩
    ·rw [List.mem_append,hse t,List.mem_singleton]
     exact or_congr Iff.rfl eq_comm
    ·rw [hse t]
     refine ⟨.inl,?_⟩
     rintro (h | h)
     ·exact h
     ·subst h
      obtain ⟨x,hx1,hx2⟩:=List.any_eq_true.1 hany
      have:=(I.hmem x hx1).2
      rw [show x.2.1=(l.getD i dRec).2.1 from beq_iff_eq.1 hx2] at this
      exact this
 ·obtain rfl:i=l.length:=by omega
  have e1:decide ((l.length:Int)<((l.length:Nat):Int))=false:=decide_eq_false (by omega)
  simp only [ss_sReplayRecs_0,e1,cond_false]
  exact .inr ⟨_,rfl,.inr ⟨rfl,hp⟩⟩
theorem sReplay_own (l:List RecD) (hl:l.length≤1048576) (hr:∀ x∈l,okOps x.2.2=true):q_sReplayRecs l=true∧sReplayRecs l=((repOut l).2.2,(repOut l).1,(repOut l).2.1):=by
 simp only [q_sReplayRecs,sReplayRecs,repOut]
 rcases sReplay_key l hl hr with ⟨h1,h2,h3,h4,h5⟩ | ⟨h1,h2⟩
 ·rw [h1,h2,h3,h4,h5];exact ⟨rfl,rfl⟩
 ·rw [h1,h2];exact ⟨rfl,rfl⟩
theorem okRecS_take {l:List RecD} (h:okRecS l) (n:Nat):okRecS (l.take n):=⟨by rw [List.length_take];have:=h.1;omega,fun x hx=>h.2 x (List.mem_of_mem_take hx)⟩
theorem sCrash_spec {x:ShardD} (h1:okRecS x.2.1) (hs:0≤x.2.2.1∧x.2.2.1≤((x.2.1.length:Nat):Int)) (keep:Int) :
  q_sl9Crash keep x.1 x.2.2.1 x.2.1 x.2.2.2.1 x.2.2.2.2=true∧sl9Crash keep x.1 x.2.2.1 x.2.1 x.2.2.2.1 x.2.2.2.2=((crashF x keep).1,(crashF x keep).2.2.1,(crashF x keep).2.1,(crashF x keep).2.2.2.1,(crashF x keep).2.2.2.2):=by
 have hl:=h1.1
 have w0:=wrap64 (n:=((x.2.1.length:Nat):Int) - x.2.2.1) (by omega) (by omega)
 have w1:=wrap64 (n:=x.2.2.1+(((x.2.1.length:Nat):Int) - x.2.2.1)) (by omega) (by omega)
 have w2:=wrap64 (n:=x.2.2.1+(0:Int)) (by omega) (by omega)
 have rep:∀ n,q_sReplayRecs (x.2.1.take n)=true∧sReplayRecs (x.2.1.take n)=((repOut (x.2.1.take n)).2.2,(repOut (x.2.1.take n)).1,(repOut (x.2.1.take n)).2.1):=fun n=>sReplay_own _ (by rw [List.length_take];omega) (okRecS_ops (okRecS_take h1 n))
 simp only [q_sl9Crash,sl9Crash,k1_sl9Crash,w0,w1,w2,(rep _).1,(rep _).2,Bool.and_true]
 have d1:decide ((0:Int)≤0∧0≤x.2.2.1+(((x.2.1.length:Nat):Int) - x.2.2.1)∧x.2.2.1+(((x.2.1.length:Nat):Int) - x.2.2.1)≤((x.2.1.length:Nat):Int))=true:=decide_eq_true (by omega)
 have d2:decide ((0:Int)≤0∧0≤x.2.2.1+0∧x.2.2.1+0≤((x.2.1.length:Nat):Int))=true:=decide_eq_true (by omega)
 have hres:∀ n:Nat,n=crashN x keep→(x.1,((n:Nat):Int),x.2.1.take n,(repOut (x.2.1.take n)).1,(repOut (x.2.1.take n)).2.1)=((crashF x keep).1,(crashF x keep).2.2.1,(crashF x keep).2.1,(crashF x keep).2.2.2.1,(crashF x keep).2.2.2.2):=fun n hn=>by subst hn;rfl
 by_cases hk:keep<0
 ·rw [decide_eq_true hk,decide_eq_false (show ¬ (0:Int) > ((x.2.1.length:Nat):Int) - x.2.2.1 by omega)]
  exact ⟨d2,hres _ (by simp only [crashN];omega)⟩
 ·rw [decide_eq_false hk]
  by_cases hg:keep > ((x.2.1.length:Nat):Int) - x.2.2.1
  ·rw [decide_eq_true hg]
   exact ⟨d1,hres _ (by simp only [crashN];omega)⟩
  ·rw [decide_eq_false hg]
   have w3:=wrap64 (n:=x.2.2.1+keep) (by omega) (by omega)
   simp only [w3,cond_false]
   exact ⟨decide_eq_true (by omega),hres _ (by simp only [crashN];omega)⟩
theorem crashN_le {x:ShardD} (hs:0≤x.2.2.1∧x.2.2.1≤((x.2.1.length:Nat):Int)) (keep:Int):crashN x keep≤x.2.1.length:=by
 simp only [crashN];omega
theorem repL_some {l:List RecD} {n:Nat} {s:List PairD×List RecD} (h:repL l n=some s) {i:Nat} (hi:i≤n):∃ s', repL l i=some s':=by
 cases hp:repL l i with
 | some s'=>exact ⟨s', rfl⟩
 | none =>
  have:=repL_none hp (n - i)
  rw [show i+(n - i)=n by omega,h] at this
  cases this
theorem repL_take (l:List RecD) (k i:Nat) (hk:k≤l.length) (hi:i≤k):repL (l.take k) i=repL l i:=by
 have:=repL_app (l.take k) (l.drop k) i (by rw [List.length_take];omega)
 rw [List.take_append_drop] at this
 exact this.symm
theorem DrawnS.cut {x:ShardD} (D:DrawnS x) {n:Nat} (hn:n≤x.2.1.length):DrawnS (x.1,x.2.1.take n,((n:Nat):Int),(repOut (x.2.1.take n)).1,(repOut (x.2.1.take n)).2.1)∧(repOut (x.2.1.take n)).2.2=true:=by
 obtain ⟨o,R,B⟩:=D
 obtain ⟨s,hs⟩:=repL_some R.2.2.2 hn
 have hl:(x.2.1.take n).length=n:=by rw [List.length_take];omega
 have hp:repL (x.2.1.take n) (x.2.1.take n).length=some s:=by rw [hl,repL_take _ _ _ hn (Nat.le_refl _)];exact hs
 have he:repOut (x.2.1.take n)=(s.1,s.2,true):=by simp only [repOut,hp]
 rw [he]
 obtain ⟨b1,b2⟩:=B n hn s.1 s.2 hs
 refine ⟨⟨okRecS_take o n,⟨R.1,⟨by show (0:Int)≤((n:Nat):Int);omega,?_⟩,?_,hp⟩,fun i hi m h hp2=>?_⟩,rfl⟩
 ·show ((n:Nat):Int)≤(((x.2.1.take n).length:Nat):Int)
  rw [hl];omega
 ·show (((x.2.1.take n).length:Nat):Int)+((s.2.length:Nat):Int)≤300
  rw [hl];omega
 ·replace hi:i≤(x.2.1.take n).length:=hi
  rw [hl] at hi
  replace hp2:repL (x.2.1.take n) i=some (m,h):=hp2
  rw [repL_take _ _ _ hn hi] at hp2
  exact B i (by omega) m h hp2
theorem crash_drawn {x:ShardD} (D:DrawnS x) (keep:Int):DrawnS (crashF x keep):=(D.cut (crashN_le D.2.1.2.1 keep)).1
theorem crash_drawnT {x:ShardD} (D:DrawnT x) (keep:Int):DrawnT (crashF x keep):=⟨crash_drawn D.1 keep,fun r hr=>D.2 r (List.mem_of_mem_take (show r∈x.2.1.take (crashN x keep) from hr))⟩
theorem sl9Draw_spec {b:List Int} {i:Int} (hc:cOk b i) (h:Int) (most:Int) (hm:most≤1000):q_sl9Draw most b i h=true∧∃ x:ShardD,DrawnT x∧∃ (s1 i' h':Int),
    sl9Draw most b i h=(x.1,x.2.2.1,b,i', h', x.1,x.2.2.1,x.2.1,x.2.2.2.1,x.2.2.2.2)∧cOk b i':=by
  obtain ⟨a1,a2,a3,a4,a5⟩:=sl1Below_spec hc 4 h
  have a3:=a3 (by omega)
  obtain ⟨b1,b2,b3,b4,b5⟩:=sl1Below_spec a5 most (sl1Below 4 b i h).2.2.2
  have hn:sShardNew (sl1Below 4 b i h).1=((sl1Below 4 b i h).1,0,[],[],[]):=by
    simp only [sShardNew,in_iff]
    rw [decide_eq_true (by omega)]
    rfl
  have key:∃ (x:ShardD) (i' h':Int),DrawnT x∧k11_sl9Draw most b i h=(0,b,i', h', x.1,x.2.2.1,x.2.1,x.2.2.2.1,x.2.2.2.2)∧cOk b i':=by
    have e0:k11_sl9Draw most b i h=it_sl9Draw_0 (sl1Below most b (sl1Below 4 b i h).2.2.1 (sl1Below 4 b i h).2.2.2).1 b (sl1Below most b (sl1Below 4 b i h).2.2.1 (sl1Below 4 b i h).2.2.2).2.2.1 (sl1Below most b (sl1Below 4 b i h).2.2.1 (sl1Below 4 b i h).2.2.2).2.2.2 0 0 (sl1Below 4 b i h).1 0 [] [] []:=by
      simp only [k11_sl9Draw,k1_sl9Draw,hn,a4,b4]
    rw [e0]
    refine itX_inv (ss:=fun v:V_sl9Draw_0=>ss_sl9Draw_0 v.1 v.2.1 v.2.2.1 v.2.2.2.1 0 0 v.2.2.2.2.1 v.2.2.2.2.2.1 v.2.2.2.2.2.2.1 v.2.2.2.2.2.2.2.1 v.2.2.2.2.2.2.2.2) (fa:=fl_sl9Draw_0)
      (fun v=>∃ (n i h:Int) (x:ShardD),v=(n,b,i,h,x.1,x.2.2.1,x.2.1,x.2.2.2.1,x.2.2.2.2)∧n≤1000000∧cOk b i∧DrawnT x)
      (fun a:A_sl9Draw_0=>∃ (x:ShardD) (i' h':Int),DrawnT x∧a=(0,b,i', h', x.1,x.2.2.1,x.2.1,x.2.2.2.1,x.2.2.2.2)∧cOk b i') (fun v=>v.1.toNat) ?_
      ⟨_,_,_,((sl1Below 4 b i h).1,[],0,[],[]),rfl,?_,b5,new_drawnT a2 (by omega)⟩ (by
        have:(sl1Below most b (sl1Below 4 b i h).2.2.1 (sl1Below 4 b i h).2.2.2).1≤1000000:=by
          by_cases hp:0<most
          · have:=b3 hp;omega
          · have e:decide (most≤0)=true:=decide_eq_true (by omega)
            simp only [sl1Below,e,cond_true];omega
        simp only;omega)
    · rintro v ⟨n,i,h,x,rfl,hn,hc,D⟩
      by_cases hgt:n > 0
      · have e1:decide (n > (0:Int))=true:=decide_eq_true hgt
        have ew:=wrap64 (n:=n - 1) (by omega) (by omega)
        obtain ⟨c1,c2,c3,c4,c5⟩:=sl1Below_spec hc 6 h
        have c3:=c3 (by omega)
        obtain ⟨d1,d2,d3,d4,d5⟩:=sl1Below_spec c5 8 (sl1Below 6 b i h).2.2.2
        have k2:k2_sl9Draw b i h=sl1Below 8 b (sl1Below 6 b i h).2.2.1 (sl1Below 6 b i h).2.2.2:=by simp only [k2_sl9Draw,c4]
        rw [← k2] at d2 d4 d5
        have go : ∀ (w : V_sl9Draw_0) (i' h' : Int) (x' : ShardD), w = (n - 1, b, i', h', x'.1, x'.2.2.1, x'.2.1, x'.2.2.2.1, x'.2.2.2.2) → cOk b i' → DrawnT x' →
            ((∃ v', (Sum.inl w:V_sl9Draw_0 ⊕ A_sl9Draw_0)=.inl v'∧(∃ (n i h:Int) (x:ShardD),v'=(n,b,i,h,x.1,x.2.2.1,x.2.1,x.2.2.2.1,x.2.2.2.2)∧n≤1000000∧cOk b i∧DrawnT x)∧v'.1.toNat<n.toNat) ∨
              ∃ a:A_sl9Draw_0,(Sum.inl w:V_sl9Draw_0 ⊕ A_sl9Draw_0)=.inr a∧∃ (x:ShardD) (i' h':Int),DrawnT x∧a=(0,b,i', h', x.1,x.2.2.1,x.2.1,x.2.2.2.1,x.2.2.2.2)∧cOk b i'):=fun w i' h' x' hw hc' D' =>
          .inl ⟨w,rfl,⟨n - 1,i', h', x', hw,by omega,hc', D'⟩,by rw [hw];simp only;omega⟩
        -- holding
        obtain ⟨f1,f2,f3,f4,f5,f6⟩:=sl7Draw_spec d5 (k2_sl9Draw b i h).2.2.2
        have k3:k3_sl9Draw b i h=sl7Draw b (k2_sl9Draw b i h).2.2.1 (k2_sl9Draw b i h).2.2.2:=by simp only [k3_sl9Draw,d4]
        rw [← k3] at f2 f3 f4 f5 f6
        have ho:=drawn_okOps f4 (by omega)
        have ht6:IntKind.wrap .i64 ((1:Int)+(sl1Below 6 b i h).1)≤6:=by rw [wrap64 (by omega) (by omega)];omega
        obtain ⟨g1,g2⟩:=sHold_spec D.1.1 D.1.2.1 (IntKind.wrap .i64 ((1:Int)+(sl1Below 6 b i h).1)) (k3_sl9Draw b i h).2.2.2 ho
        have gD:=hold_drawnT D ht6 ho (fun o h=>⟨(f4.2 o h).1.1,(f4.2 o h).2.2⟩)
        have k4:k4_sl9Draw b i h x.1 x.2.2.1 x.2.1 x.2.2.2.1 x.2.2.2.2=_:=g2
        -- deciding one that is held
        have dec:∀ (t:Int) (y:Bool),t≤6→q_sl9Decide t y x.1 x.2.2.1 x.2.1 x.2.2.2.1 x.2.2.2.2=true∧sl9Decide t y x.1 x.2.2.1 x.2.1 x.2.2.2.1 x.2.2.2.2=_∧DrawnT (decideF x t y).2:=fun t y h6=>⟨(sDecide_spec D.1.1 D.1.2.1 t y).1,(sDecide_spec D.1.1 D.1.2.1 t y).2,decide_drawnT D h6 y⟩
        have two:((∃ v', (cond (decide (((x.2.2.2.2.length:Nat):Int) > (0:Int))) (cond (q_sl1Below ((x.2.2.2.2.length:Nat):Int) b ((k2_sl9Draw b i h).2.2.1) ((k2_sl9Draw b i h).2.2.2)) (cond (decide (0≤((k5_sl9Draw b i h x.2.2.2.2).1)∧((k5_sl9Draw b i h x.2.2.2.2).1)<((x.2.2.2.2.length:Nat):Int))) (cond (q_sl1Once (4:Int) ((k5_sl9Draw b i h x.2.2.2.2).2.1) ((k5_sl9Draw b i h x.2.2.2.2).2.2.1) ((k5_sl9Draw b i h x.2.2.2.2).2.2.2)) (cond (q_sl9Decide (((x.2.2.2.2.getD (((k5_sl9Draw b i h x.2.2.2.2).1).toNat) ((0:Int),((0:Int),[]))).2).1) (!((k6_sl9Draw b i h x.2.2.2.2).1)) x.1 x.2.2.1 x.2.1 x.2.2.2.1 x.2.2.2.2) (.inl (n - 1,((k6_sl9Draw b i h x.2.2.2.2).2.1),((k6_sl9Draw b i h x.2.2.2.2).2.2.1),((k6_sl9Draw b i h x.2.2.2.2).2.2.2),((k7_sl9Draw b i h x.1 x.2.2.1 x.2.1 x.2.2.2.1 x.2.2.2.2).2.1),((k7_sl9Draw b i h x.1 x.2.2.1 x.2.1 x.2.2.2.1 x.2.2.2.2).2.2.1),((k7_sl9Draw b i h x.1 x.2.2.1 x.2.1 x.2.2.2.1 x.2.2.2.2).2.2.2.1),((k7_sl9Draw b i h x.1 x.2.2.1 x.2.1 x.2.2.2.1 x.2.2.2.2).2.2.2.2.1),((k7_sl9Draw b i h x.1 x.2.2.1 x.2.1 x.2.2.2.1 x.2.2.2.2).2.2.2.2.2))) (.inr fl_sl9Draw_0)) (.inr fl_sl9Draw_0)) (.inr fl_sl9Draw_0)) (.inr fl_sl9Draw_0)) (cond (q_sl1Once (4:Int) b ((k2_sl9Draw b i h).2.2.1) ((k2_sl9Draw b i h).2.2.2)) (cond (q_sl9Decide (IntKind.wrap .i64 ((1:Int)+((sl1Below (6:Int) b i h).1))) (!((k8_sl9Draw b i h).1)) x.1 x.2.2.1 x.2.1 x.2.2.2.1 x.2.2.2.2) (.inl (n - 1,((k8_sl9Draw b i h).2.1),((k8_sl9Draw b i h).2.2.1),((k8_sl9Draw b i h).2.2.2),((k9_sl9Draw b i h x.1 x.2.2.1 x.2.1 x.2.2.2.1 x.2.2.2.2).2.1),((k9_sl9Draw b i h x.1 x.2.2.1 x.2.1 x.2.2.2.1 x.2.2.2.2).2.2.1),((k9_sl9Draw b i h x.1 x.2.2.1 x.2.1 x.2.2.2.1 x.2.2.2.2).2.2.2.1),((k9_sl9Draw b i h x.1 x.2.2.1 x.2.1 x.2.2.2.1 x.2.2.2.2).2.2.2.2.1),((k9_sl9Draw b i h x.1 x.2.2.1 x.2.1 x.2.2.2.1 x.2.2.2.2).2.2.2.2.2))) (.inr fl_sl9Draw_0)) (.inr fl_sl9Draw_0)):V_sl9Draw_0 ⊕ A_sl9Draw_0)=.inl v'∧(∃ (n i h:Int) (x:ShardD),v'=(n,b,i,h,x.1,x.2.2.1,x.2.1,x.2.2.2.1,x.2.2.2.2)∧n≤1000000∧cOk b i∧DrawnT x)∧v'.1.toNat<n.toNat)):=by
          by_cases hh:((x.2.2.2.2.length:Nat):Int) > 0
          · rw [decide_eq_true hh]
            obtain ⟨j1,j2,j3,j4,j5⟩:=sl1Below_spec d5 ((x.2.2.2.2.length:Nat):Int) (k2_sl9Draw b i h).2.2.2
            have j3:=j3 (by omega)
            have k5:k5_sl9Draw b i h x.2.2.2.2=sl1Below ((x.2.2.2.2.length:Nat):Int) b (k2_sl9Draw b i h).2.2.1 (k2_sl9Draw b i h).2.2.2:=by simp only [k5_sl9Draw,d4]
            rw [← k5] at j2 j3 j4 j5
            obtain ⟨l1,l2,l3⟩:=sl1Once_spec j5 4 (k5_sl9Draw b i h x.2.2.2.2).2.2.2
            have k6:k6_sl9Draw b i h x.2.2.2.2=sl1Once 4 b (k5_sl9Draw b i h x.2.2.2.2).2.2.1 (k5_sl9Draw b i h x.2.2.2.2).2.2.2:=by simp only [k6_sl9Draw,j4]
            rw [← k6] at l2 l3
            obtain ⟨m1,m2,m3⟩:=dec (((x.2.2.2.2.getD (((k5_sl9Draw b i h x.2.2.2.2).1).toNat) ((0:Int),((0:Int),[]))).2).1) (!((k6_sl9Draw b i h x.2.2.2.2).1)) (held_six D (by omega))
            have k7:k7_sl9Draw b i h x.1 x.2.2.1 x.2.1 x.2.2.2.1 x.2.2.2.2=_:=m2
            rw [decide_eq_true (And.intro j2 j3)]
            simp only [j1,j4,l1,m1,k7,cond_true]
            exact ⟨_,rfl,⟨n - 1,_,_,_,by rw [l2],by omega,l3,m3⟩,by simp only;omega⟩
          · rw [decide_eq_false hh]
            obtain ⟨l1,l2,l3⟩:=sl1Once_spec d5 4 (k2_sl9Draw b i h).2.2.2
            have k8:k8_sl9Draw b i h=sl1Once 4 b (k2_sl9Draw b i h).2.2.1 (k2_sl9Draw b i h).2.2.2:=by simp only [k8_sl9Draw,d4]
            rw [← k8] at l2 l3
            obtain ⟨m1,m2,m3⟩:=dec (IntKind.wrap .i64 ((1:Int)+((sl1Below (6:Int) b i h).1))) (!((k8_sl9Draw b i h).1)) ht6
            have k9:k9_sl9Draw b i h x.1 x.2.2.1 x.2.1 x.2.2.2.1 x.2.2.2.2=_:=m2
            simp only [l1,m1,k9,cond_true,cond_false]
            exact ⟨_,rfl,⟨n - 1,_,_,_,by rw [l2],by omega,l3,m3⟩,by simp only;omega⟩
        simp only [ss_sl9Draw_0,e1,c1,c4,d1,d4,f1,g1,k4,ew,cond_true]
        cases ((k2_sl9Draw b i h).1==0) with
        | true=>exact go _ _ _ _ (by rw [f2]) f3 gD
        | false =>
          cases ((k2_sl9Draw b i h).1==1) with
          | true=>exact go _ _ _ _ (by rw [f2]) f3 gD
          | false =>
            cases ((k2_sl9Draw b i h).1==2) with
            | true=>exact go _ _ _ _ (by rw [f2]) f3 gD
            | false =>
              cases ((k2_sl9Draw b i h).1==3) with
              | true=>exact go _ _ _ _ (by rw [f2]) f3 gD
              | false =>
                cases ((k2_sl9Draw b i h).1==4) with
                | true=>exact .inl two
                | false =>
                  cases ((k2_sl9Draw b i h).1==5) with
                  | true=>exact .inl two
                  | false =>
                    cases ((k2_sl9Draw b i h).1==6) with
                    | true=>exact go _ _ _ (x.1,x.2.1,((x.2.1.length:Nat):Int),x.2.2.2.1,x.2.2.2.2) rfl d5 (⟨sure_drawn D.1 (by omega) (Int.le_refl _),D.2⟩)
                    | false =>
                      obtain ⟨j1,j2,j3,j4,j5⟩:=sl1Below_spec d5 3 (k2_sl9Draw b i h).2.2.2
                      have k10:k10_sl9Draw b i h=sl1Below 3 b (k2_sl9Draw b i h).2.2.1 (k2_sl9Draw b i h).2.2.2:=by simp only [k10_sl9Draw,d4]
                      rw [← k10] at j4 j5
                      obtain ⟨m1,m2⟩:=sCrash_spec D.1.1 D.1.2.1.2.1 (k10_sl9Draw b i h).1
                      simp only [j1,m1,m2,cond_true,cond_false]
                      exact go _ _ _ _ (by rw [j4]) j5 (crash_drawnT D _)
      · have e1:decide (n > (0:Int))=false:=decide_eq_false hgt
        simp only [ss_sl9Draw_0,e1,cond_false]
        exact .inr ⟨_,rfl,x,i,h,D,rfl,hc⟩
    · by_cases hp:0<most
      · have:=b3 hp;omega
      · have e:decide (most≤0)=true:=decide_eq_true (by omega)
        simp only [sl1Below,e,cond_true];omega
  obtain ⟨x,i', h', D,e,hc'⟩:=key
  have q0:q_sl1Below most (sl1Below 4 b i h).2.1 (sl1Below 4 b i h).2.2.1 (sl1Below 4 b i h).2.2.2=true:=by rw [a4];exact b1
  simp only [q_sl9Draw,sl9Draw,a1,q0,e]
  exact ⟨rfl,x,D,0,i', h', rfl,hc'⟩
theorem sl8Rec_spec {b:List Int} {i:Int} (hc:cOk b i) (h:Int):q_sl8Rec b i h=true∧okOps (sl8Rec b i h).2.2.1=true∧(sl8Rec b i h).2.2.2.1=b∧cOk b (sl8Rec b i h).2.2.2.2.1∧(sl8Rec b i h).2.1≤4:=by
 obtain ⟨a1,a2,a3,a4⟩:=sl1Int_spec hc h (l:=[(1:Int),(1:Int),(2:Int),(3:Int)]) (by simp)
 obtain ⟨b1,b2,b3,b4,b5⟩:=sl1Below_spec a4 4 (sl1Int b i h [(1:Int),(1:Int),(2:Int),(3:Int)]).2.2.2.1
 have k1:k1_sl8Rec b i h=sl1Below 4 b (sl1Int b i h [(1:Int),(1:Int),(2:Int),(3:Int)]).2.2.1 (sl1Int b i h [(1:Int),(1:Int),(2:Int),(3:Int)]).2.2.2.1:=by simp only [k1_sl8Rec,a3]
 rw [← k1] at b2 b3 b4 b5
 have b3:=b3 (by omega)
 have ht:IntKind.wrap .i64 ((1:Int)+(k1_sl8Rec b i h).1)≤4:=by rw [wrap64 (by omega) (by omega)];omega
 obtain ⟨c1,c2,c3,c4,c5,c6⟩:=sl7Draw_spec b5 (k1_sl8Rec b i h).2.2.2
 have k2:k2_sl8Rec b i h=sl7Draw b (k1_sl8Rec b i h).2.2.1 (k1_sl8Rec b i h).2.2.2:=by simp only [k2_sl8Rec,b4]
 rw [← k2] at c2 c3 c4 c5 c6
 simp only [q_sl8Rec,sl8Rec,a1,a3,b1,b4,c1,Bool.true_and]
 cases ((sl1Int b i h [(1:Int),(1:Int),(2:Int),(3:Int)]).1==1) with
 | true=>exact ⟨rfl,drawn_okOps c4 (Nat.le_trans c6 (by decide)),c2,c3,ht⟩
 | false=>exact ⟨rfl,rfl,rfl,b5,ht⟩
theorem mem_set_or {α:Type} {l:List α} {i:Nat} {x y:α} (h:y∈l.set i x):y=x∨y∈l:=by
 rcases List.mem_or_eq_of_mem_set h with h | h
 ·exact .inr h
 ·exact .inl h
theorem sl3KeyAny_spec {b:List Int} {i:Int} (hc:cOk b i) (h:Int):q_sl3KeyAny b i h=true∧(sl3KeyAny b i h).1.size≤20∧(sl3KeyAny b i h).2.1=b∧cOk b (sl3KeyAny b i h).2.2.1:=by
 obtain ⟨a1,a2,a3⟩:=sl1Once_spec hc 6 h
 simp only [q_sl3KeyAny,sl3KeyAny,k1_sl3KeyAny,k2_sl3KeyAny,a1,a2,Bool.true_and]
 generalize sl1Once 6 b i h=r at *
 cases r.1 with
 | true =>
  obtain ⟨c1,c2,c3,c4⟩:=sl1Str_spec a3 r.2.2.2 (l:=[(⟨#[]⟩:ByteArray),(⟨#[65]⟩:ByteArray),(⟨#[97,32,98]⟩:ByteArray),(⟨#[116,104,105,114,116,101,101,110,98,121,116,101,115]⟩:ByteArray),(⟨#[116,119,101,108,118,101,98,121,116,101,115,49]⟩:ByteArray)]) (by decide)
  simp only [cond_true]
  refine ⟨c1,?_,c3,c4⟩
  revert c2
  generalize (sl1Str b r.2.2.1 r.2.2.2 [(⟨#[]⟩:ByteArray),(⟨#[65]⟩:ByteArray),(⟨#[97,32,98]⟩:ByteArray),(⟨#[116,104,105,114,116,101,101,110,98,121,116,101,115]⟩:ByteArray),(⟨#[116,119,101,108,118,101,98,121,116,101,115,49]⟩:ByteArray)]).1=s
  intro c2
  simp only [List.mem_cons,List.not_mem_nil,or_false] at c2
  rcases c2 with rfl | rfl | rfl | rfl | rfl<;>decide
 | false =>
  obtain ⟨c1,c2,_,c3,c4⟩:=sl3Key_spec a3 r.2.2.2
  simp only [cond_false]
  exact ⟨c1,by omega,c3,c4⟩
/-- Bytes as a text. -/
noncomputable def strB (l:List Int):ByteArray:=⟨(l.map fun n=>UInt8.ofNat n.toNat).toArray⟩
theorem strB_size (l:List Int):(strB l).size=l.length:=by simp [strB,ByteArray.size]
theorem sl7Any_spec {b:List Int} {i:Int} (hc:cOk b i) (h:Int):q_sl7Any b i h=true∧okOps (sl7Any b i h).1=true∧(sl7Any b i h).2.1=b∧cOk b (sl7Any b i h).2.2.1:=by
 obtain ⟨a1,a2,a3,a4,a5,a6⟩:=sl7Draw_spec hc h
 simp only [q_sl7Any,sl7Any,k1_sl7Any,k2_sl7Any,k3_sl7Any,k4_sl7Any,k5_sl7Any,a1,a2,Bool.true_and]
 generalize sl7Draw b i h=r at *
 obtain ⟨b1,b2,b3,b4,b5⟩:=sl1Below_spec a3 10 r.2.2.1
 simp only [b1,b4,Bool.true_and]
 generalize sl1Below 10 b r.2.1 r.2.2.1=t at *
 have hidx:decide ((0:Int)≤0∧(0:Int)<((r.2.2.2.length:Nat):Int))=true:=decide_eq_true (by omega)
 have hidx2:decide ((0:Int)≤0∧(0:Int)≤0∧(0:Int)≤((r.2.2.2.length:Nat):Int))=true:=decide_eq_true (by omega)
 have hsm:∀ o∈r.2.2.2,o.2.1.size≤1048576∧o.2.2.size≤1048576:=fun o ho=>by have:=a4.2 o ho;omega
 have h0:=hsm _ (getD_mem (l:=r.2.2.2) (i:=0) (by omega) ((0:Int),((⟨#[]⟩:ByteArray),(⟨#[]⟩:ByteArray))))
 have hset:∀ o:Int×ByteArray×ByteArray,o.2.1.size≤1048576→o.2.2.size≤1048576→okOps (r.2.2.2.set 0 o)=true:=fun o h1 h2=>okOps_small (by rw [List.length_set];omega) fun y hy=>by
  rcases mem_set_or hy with rfl | hy
  ·exact ⟨h1,h2⟩
  ·exact hsm y hy
 cases c0:(t.1==0) with
 | true =>
  obtain ⟨o1,o2,o3,o4,o5,o6⟩:=sl7Op1_spec b5 t.2.2.2
  have m1:∀ x:Int×ByteArray×ByteArray,decide ((r.2.2.2.length+[x].length)*40≤MAXB)=true:=fun x=>decide_eq_true (by simp only [List.length_singleton,MAXB];omega)
  simp only [cond_true,o1,m1]
  refine ⟨rfl,okOps_small (by simp;omega) fun y hy=>?_,o5,o6⟩
  rcases List.mem_append.1 hy with hy | hy
  ·exact hsm y hy
  ·simp at hy;subst hy;exact ⟨by simp only;omega,by simp only;omega⟩
 | false =>
 cases c1:(t.1==1) with
 | true =>
  obtain ⟨d1,d2,d3,d4,d5⟩:=sl1Below_spec b5 5 t.2.2.2
  simp only [cond_true,cond_false,d1,hidx]
  exact ⟨rfl,hset _ h0.1 h0.2,d4,d5⟩
 | false =>
 cases c2:(t.1==2) with
 | true =>
  obtain ⟨d1,d2,d3,d4⟩:=sl3KeyAny_spec b5 t.2.2.2
  simp only [cond_true,cond_false,d1,hidx]
  exact ⟨rfl,hset _ (by simp only;omega) h0.2,d3,d4⟩
 | false =>
 cases c3:(t.1==3) with
 | true =>
  obtain ⟨d1,d2,d3,d4,d5⟩:=sl1Below_spec b5 2 t.2.2.2
  have d3:=d3 (by omega)
  have w:IntKind.wrap .i64 (20+(sl1Below 2 b t.2.2.1 t.2.2.2).1)=20+(sl1Below 2 b t.2.2.1 t.2.2.2).1:=wrap64 (by omega) (by omega)
  simp only [cond_true,cond_false,d1,hidx,w,Bool.true_and,Bool.and_true]
  refine ⟨decide_eq_true ⟨by omega,trivial,by simp only [MAXB];omega,by omega⟩,hset _ h0.1 ?_,d4,d5⟩
  have:(strB (List.replicate (20+(sl1Below 2 b t.2.2.1 t.2.2.2).1).toNat (0:Int))).size≤1048576:=by rw [strB_size,List.length_replicate];omega
  exact this
 | false =>
 cases c4:(t.1==4) with
 | true =>
  simp only [cond_true,cond_false,hidx2]
  exact ⟨trivial,okOps_small (by simp) fun y hy=>by simp at hy,trivial,b5⟩
 | false =>
  simp only [cond_false]
  exact ⟨trivial,okOps_small (by omega) hsm,trivial,b5⟩
theorem sl8Any_spec {b:List Int} {i:Int} (hc:cOk b i) (h:Int):q_sl8Any b i h=true∧okOps (sl8Any b i h).2.2.1=true∧(sl8Any b i h).2.2.2.1=b∧cOk b (sl8Any b i h).2.2.2.2.1∧(sl8Any b i h).2.1 ≠ 999999:=by
 obtain ⟨a1,a2,a3,a4,a5⟩:=sl8Rec_spec hc h
 have a6:(sl8Rec b i h).2.1 ≠ 999999:=by omega
 obtain ⟨b1,b2,b3,b4,b5⟩:=sl1Below_spec a4 8 (sl8Rec b i h).2.2.2.2.2
 have k1:k1_sl8Any b i h=sl1Below 8 b (sl8Rec b i h).2.2.2.2.1 (sl8Rec b i h).2.2.2.2.2:=by simp only [k1_sl8Any,a3]
 rw [← k1] at b4 b5
 obtain ⟨c1,c2,c3,c4,c5⟩:=sl1Below_spec b5 5 (k1_sl8Any b i h).2.2.2
 have k2:k2_sl8Any b i h=sl1Below 5 b (k1_sl8Any b i h).2.2.1 (k1_sl8Any b i h).2.2.2:=by simp only [k2_sl8Any,b4]
 rw [← k2] at c4 c5
 obtain ⟨d1,d2,d3,d4⟩:=sl1Int_spec b5 (k1_sl8Any b i h).2.2.2 (l:=[(0:Int),(1000000:Int),(1000001:Int)]) (by simp)
 have k3:k3_sl8Any b i h=sl1Int b (k1_sl8Any b i h).2.2.1 (k1_sl8Any b i h).2.2.2 [(0:Int),(1000000:Int),(1000001:Int)]:=by simp only [k3_sl8Any,b4]
 rw [← k3] at d2 d3 d4
 have d5:(k3_sl8Any b i h).1 ≠ 999999:=by
  simp only [List.mem_cons,List.not_mem_nil,or_false] at d2
  omega
 obtain ⟨e1,e2,e3,e4⟩:=sl7Any_spec b5 (k1_sl8Any b i h).2.2.2
 have k4:k4_sl8Any b i h=sl7Any b (k1_sl8Any b i h).2.2.1 (k1_sl8Any b i h).2.2.2:=by simp only [k4_sl8Any,b4]
 rw [← k4] at e2 e3 e4
 simp only [q_sl8Any,sl8Any,a1,a3,b1,b4,c1,d1,e1,Bool.true_and]
 cases ((k1_sl8Any b i h).1==0) with
 | true=>exact ⟨rfl,a2,c4,c5,a6⟩
 | false =>
  cases ((k1_sl8Any b i h).1==1) with
  | true=>exact ⟨rfl,a2,d3,d4,d5⟩
  | false =>
   cases ((k1_sl8Any b i h).1==2) with
   | true=>exact ⟨rfl,e2,e3,e4,a6⟩
   | false=>exact ⟨rfl,a2,rfl,b5,a6⟩
theorem any_id {x:ShardD} (D:DrawnS x) (id:Int):AnyS (id,x.2.1,x.2.2.1,x.2.2.2.1,x.2.2.2.2):=⟨D.1,D.any.2.1,D.any.2.2.1,fun R=>⟨D.1,R,D.2.2⟩,D.any.2.2.2.2⟩
theorem any_sure {x:ShardD} (D:DrawnS x) (n:Int):AnyS (x.1,x.2.1,n,x.2.2.2.1,x.2.2.2.2):=⟨D.1,D.any.2.1,D.any.2.2.1,fun R=>⟨D.1,R,D.2.2⟩,D.any.2.2.2.2⟩
theorem any_map {x:ShardD} (D:DrawnS x) (p:PairD):AnyS (x.1,x.2.1,x.2.2.1,x.2.2.2.1++[p],x.2.2.2.2):=by
 have I:=right_rep D.1 D.2.1
 have:=I.hml
 refine ⟨D.1,by rw [List.length_append];simp;omega,D.any.2.2.1,fun R=>?_,D.any.2.2.2.2⟩
 have h1:=D.2.1.2.2.2
 have h2:repL x.2.1 x.2.1.length=some (x.2.2.2.1++[p],x.2.2.2.2):=R.2.2.2
 rw [h1] at h2
 simp only [Option.some.injEq,Prod.mk.injEq] at h2
 have:=congrArg List.length h2.1
 simp at this
theorem any_log {x:ShardD} (D:DrawnS x) {r:RecD} (hr:okOps r.2.2=true):AnyS (x.1,x.2.1++[r],x.2.2.1,x.2.2.2.1,x.2.2.2.2):=by
 have hl:=D.2.1.2.2.1
 have hlen:(x.2.1++[r]).length=x.2.1.length+1:=by simp
 refine ⟨okRecS_snoc D.1 (by omega) hr,D.any.2.1,D.any.2.2.1,fun R=>⟨okRecS_snoc D.1 (by omega) hr,R,fun i hi m h hp=>?_⟩,by show (x.2.1++[r]).length≤_;omega,D.any.2.2.2.2.2⟩
 replace hi:i≤(x.2.1++[r]).length:=hi
 replace hp:repL (x.2.1++[r]) i=some (m,h):=hp
 by_cases hle:i≤x.2.1.length
 ·rw [repL_app _ _ i hle] at hp
  exact D.2.2 i hle m h hp
 ·obtain rfl:i=(x.2.1++[r]).length:=by omega
  have h2:repL (x.2.1++[r]) (x.2.1++[r]).length=some (x.2.2.2.1,x.2.2.2.2):=R.2.2.2
  rw [h2] at hp
  cases hp
  have h3:(((x.2.1++[r]).length:Nat):Int)+((x.2.2.2.2.length:Nat):Int)≤300:=R.2.2.1
  exact ⟨(D.2.2 x.2.1.length (Nat.le_refl _) _ _ D.2.1.2.2.2).1,by omega⟩
theorem sl9Any_spec {b:List Int} {i:Int} (hc:cOk b i) (h:Int) (most:Int) (hm:most≤1000):q_sl9Any most b i h=true∧∃ (x:ShardD) (i' h' c1 c2:Int),AnyT x∧cOk b i' ∧
  sl9Any most b i h=(x.1,x.2.2.1,b,i', h', c1,c2,x.2.1,x.2.2.2.1,x.2.2.2.2):=by
 obtain ⟨d1,x,⟨D,hsix⟩,_,i1,h1,d2,d3⟩:=sl9Draw_spec hc h most hm
 have hne:∀ r∈x.2.1,r.2.1 ≠ 999999:=fun r hr=>by have:=(hsix r hr).1;omega
 have hl:=D.2.1.2.2.1
 have hml:=(right_rep D.1 D.2.1).hml
 obtain ⟨b1,b2,b3,b4,b5⟩:=sl1Below_spec d3 12 h1
 have k1:k1_sl9Any most b i h=sl1Below 12 b i1 h1:=by simp only [k1_sl9Any,d2]
 rw [← k1] at b4 b5
 obtain ⟨e1,e2,e3,e4⟩:=sl1Int_spec b5 (k1_sl9Any most b i h).2.2.2 (l:=[(-1:Int),(7:Int),(8:Int)]) (by simp)
 have k2:k2_sl9Any most b i h=sl1Int b (k1_sl9Any most b i h).2.2.1 (k1_sl9Any most b i h).2.2.2 [(-1:Int),(7:Int),(8:Int)]:=by simp only [k2_sl9Any,b4]
 rw [← k2] at e3 e4
 obtain ⟨f1,f2,f3,f4⟩:=sl1Int_spec b5 (k1_sl9Any most b i h).2.2.2 (l:=[(-1:Int),((x.2.1.length:Nat):Int),IntKind.wrap .i64 (((x.2.1.length:Nat):Int)+(1:Int))]) (by simp)
 have k3:k3_sl9Any most b i h=sl1Int b (k1_sl9Any most b i h).2.2.1 (k1_sl9Any most b i h).2.2.2 [(-1:Int),((x.2.1.length:Nat):Int),IntKind.wrap .i64 (((x.2.1.length:Nat):Int)+(1:Int))]:=by simp only [k3_sl9Any,b4,d2]
 rw [← k3] at f3 f4
 obtain ⟨g1,g2,g3,g4,g5⟩:=sl8Any_spec b5 (k1_sl9Any most b i h).2.2.2
 have k4:k4_sl9Any most b i h=sl8Any b (k1_sl9Any most b i h).2.2.1 (k1_sl9Any most b i h).2.2.2:=by simp only [k4_sl9Any,b4]
 rw [← k4] at g2 g3 g4 g5
 have m1:decide ((x.2.2.2.1.length+[((⟨#[122,122,122]⟩:ByteArray),(⟨#[]⟩:ByteArray))].length)*32≤MAXB)=true:=decide_eq_true (by simp only [List.length_singleton,MAXB];omega)
 have m2:decide ((x.2.1.length+[((k4_sl9Any most b i h).1,((k4_sl9Any most b i h).2.1,(k4_sl9Any most b i h).2.2.1))].length)*40≤MAXB)=true:=decide_eq_true (by simp only [List.length_singleton,MAXB];omega)
 simp only [q_sl9Any,sl9Any,d1,d2,b1,b4,e1,f1,g1,m1,m2,Bool.true_and,Bool.and_true]
 cases ((k1_sl9Any most b i h).1==0) with
 | true=>exact ⟨rfl,(((k2_sl9Any most b i h).1,x.2.1,x.2.2.1,x.2.2.2.1,x.2.2.2.2):ShardD),_,_,_,_,⟨any_id D _,hne⟩,e4,by simp only [cond_true,e3];rfl⟩
 | false =>
  cases ((k1_sl9Any most b i h).1==1) with
  | true=>exact ⟨rfl,((x.1,x.2.1,(k3_sl9Any most b i h).1,x.2.2.2.1,x.2.2.2.2):ShardD),_,_,_,_,⟨any_sure D _,hne⟩,f4,by simp only [cond_true,cond_false,f3];rfl⟩
  | false =>
   cases ((k1_sl9Any most b i h).1==2) with
   | true=>exact ⟨rfl,((x.1,x.2.1,x.2.2.1,x.2.2.2.1++[((⟨#[122,122,122]⟩:ByteArray),(⟨#[]⟩:ByteArray))],x.2.2.2.2):ShardD),_,_,_,_,⟨any_map D _,hne⟩,b5,by simp only [cond_true,cond_false];rfl⟩
   | false =>
    cases ((k1_sl9Any most b i h).1==3) with
    | true=>exact ⟨rfl,((x.1,x.2.1++[((k4_sl9Any most b i h).1,((k4_sl9Any most b i h).2.1,(k4_sl9Any most b i h).2.2.1))],x.2.2.1,x.2.2.2.1,x.2.2.2.2):ShardD),_,_,_,_,⟨any_log D (r:=((k4_sl9Any most b i h).1,((k4_sl9Any most b i h).2.1,(k4_sl9Any most b i h).2.2.1))) g2,fun r hr=>by
     rcases List.mem_append.1 hr with hr | hr
     ·exact hne r hr
     ·rw [List.mem_singleton.1 hr];exact g5⟩,g4,by simp only [cond_true,cond_false,g3];rfl⟩
    | false=>exact ⟨rfl,x,_,_,_,_,⟨D.any,hne⟩,b5,by simp only [cond_false];rfl⟩
theorem samePairs_spec (a b:List PairD) (hl:a.length≤1099511627776):q_sl9SamePairs a b=true∧sl9SamePairs a b=sameL qP a b:=by
 simp only [q_sl9SamePairs,sl9SamePairs,sameL]
 by_cases hab:a.length=b.length
 ·have e : it_sl9SamePairs_0 a b 0 = cond (zipQ qP a b) (1, false) (0, false) := by
   refine itX_zip (ss:=fun v:V_sl9SamePairs_0=>ss_sl9SamePairs_0 v.1 v.2.1 v.2.2) (fa:=fl_sl9SamePairs_0) (fun i=>((a,b,(i:Int)):V_sl9SamePairs_0)) a b dP qP _ _ hab (by omega) (fun i hi=>?_) ?_
   ·have h1:decide ((i:Int)<((a.length:Nat):Int))=true:=decide_eq_true (by omega)
    have h2:decide (0≤(i:Int)∧(i:Int)<((a.length:Nat):Int))=true:=decide_eq_true (by omega)
    have h3:decide (0≤(i:Int)∧(i:Int)<((b.length:Nat):Int))=true:=decide_eq_true (by omega)
    simp only [ss_sl9SamePairs_0,h1,h2,h3,cond_true,Int.toNat_natCast,wrapU i (by omega),getD_dP,qP]
    generalize ((a.getD i dP).1.toList==(b.getD i dP).1.toList&&((a.getD i dP).2.toList==(b.getD i dP).2.toList&&true))=z
    cases z<;>rfl
   ·have h1:decide (((a.length:Nat):Int)<((a.length:Nat):Int))=false:=decide_eq_false (by omega)
    simp only [ss_sl9SamePairs_0,h1,cond_false]
  rw [eq_len hab,e]
  cases zipQ qP a b<;>exact ⟨rfl,rfl⟩
 ·rw [ne_len hab];exact ⟨rfl,rfl⟩
theorem sameOps_spec (a b:Lq2) (hl:a.length≤1099511627776):q_sl9SameOps a b=true∧sl9SameOps a b=sameL qO a b:=by
 simp only [q_sl9SameOps,sl9SameOps,sameL]
 by_cases hab:a.length=b.length
 ·have e : it_sl9SameOps_0 a b 0 = cond (zipQ qO a b) (1, false) (0, false) := by
   refine itX_zip (ss:=fun v:V_sl9SameOps_0=>ss_sl9SameOps_0 v.1 v.2.1 v.2.2) (fa:=fl_sl9SameOps_0) (fun i=>((a,b,(i:Int)):V_sl9SameOps_0)) a b dOp qO _ _ hab (by omega) (fun i hi=>?_) ?_
   ·have h1:decide ((i:Int)<((a.length:Nat):Int))=true:=decide_eq_true (by omega)
    have h2:decide (0≤(i:Int)∧(i:Int)<((a.length:Nat):Int))=true:=decide_eq_true (by omega)
    have h3:decide (0≤(i:Int)∧(i:Int)<((b.length:Nat):Int))=true:=decide_eq_true (by omega)
    simp only [ss_sl9SameOps_0,h1,h2,h3,cond_true,Int.toNat_natCast,wrapU i (by omega),getD_dO,qO]
    generalize ((a.getD i dOp).1==(b.getD i dOp).1&&((a.getD i dOp).2.1.toList==(b.getD i dOp).2.1.toList&&((a.getD i dOp).2.2.toList==(b.getD i dOp).2.2.toList&&true)))=z
    cases z<;>rfl
   ·have h1:decide (((a.length:Nat):Int)<((a.length:Nat):Int))=false:=decide_eq_false (by omega)
    simp only [ss_sl9SameOps_0,h1,cond_false]
  rw [eq_len hab,e]
  cases zipQ qO a b<;>exact ⟨rfl,rfl⟩
 ·rw [ne_len hab];exact ⟨rfl,rfl⟩
theorem sameRecs_spec (a b:List RecD) (hl:a.length≤1099511627776) (ho:∀ x∈a,x.2.2.length≤1048576):q_sl9SameRecs a b=true∧sl9SameRecs a b=sameL qR a b:=by
 simp only [q_sl9SameRecs,sl9SameRecs,sameL]
 by_cases hab:a.length=b.length
 ·have e : it_sl9SameRecs_0 a b 0 = cond (zipQ qR a b) (1, false) (0, false) := by
   refine itX_zip (ss:=fun v:V_sl9SameRecs_0=>ss_sl9SameRecs_0 v.1 v.2.1 v.2.2) (fa:=fl_sl9SameRecs_0) (fun i=>((a,b,(i:Int)):V_sl9SameRecs_0)) a b dRec qR _ _ hab (by omega) (fun i hi=>?_) ?_
   ·have h1:decide ((i:Int)<((a.length:Nat):Int))=true:=decide_eq_true (by omega)
    have h2:decide (0≤(i:Int)∧(i:Int)<((a.length:Nat):Int))=true:=decide_eq_true (by omega)
    have h3:decide (0≤(i:Int)∧(i:Int)<((b.length:Nat):Int))=true:=decide_eq_true (by omega)
    obtain ⟨o1,o2⟩:=sameOps_spec (a.getD i dRec).2.2 (b.getD i dRec).2.2 (by have:=ho _ (getD_mem hi dRec);omega)
    simp only [ss_sl9SameRecs_0,k1_sl9SameRecs,h1,h2,h3,cond_true,Int.toNat_natCast,wrapU i (by omega),getD_dR,o1,o2,qR]
    cases ((a.getD i dRec).1 != (b.getD i dRec).1)<;>cases ((a.getD i dRec).2.1 != (b.getD i dRec).2.1)<;>cases sameL qO (a.getD i dRec).2.2 (b.getD i dRec).2.2<;>rfl
   ·have h1:decide (((a.length:Nat):Int)<((a.length:Nat):Int))=false:=decide_eq_false (by omega)
    simp only [ss_sl9SameRecs_0,h1,cond_false]
  rw [eq_len hab,e]
  cases zipQ qR a b<;>exact ⟨rfl,rfl⟩
 ·rw [ne_len hab];exact ⟨rfl,rfl⟩
theorem sShardOk_own {x:ShardD} (h1:okRecS x.2.1) (hl3:x.2.2.2.1.length≤1048576) (hl4:x.2.2.2.2.length≤1048576):q_sShardOk x.1 x.2.1 x.2.2.1 x.2.2.2.1 x.2.2.2.2=true∧(sShardOk x.1 x.2.1 x.2.2.1 x.2.2.2.1 x.2.2.2.2=true↔RightS x):=by
 obtain ⟨i1,i2⟩:=sReplay_own x.2.1 h1.1 (okRecS_ops h1)
 obtain ⟨r1,r2,r3⟩:=repOut_ok h1
 have hl1:=h1.1
 obtain ⟨b1,b2⟩:=samePairs_spec (repOut x.2.1).1 x.2.2.2.1 (by omega)
 obtain ⟨d1,d2⟩:=sameRecs_spec (repOut x.2.1).2.1 x.2.2.2.2 (by omega) r3
 have w1:=wrap64 (n:=((x.2.1.length:Nat):Int)+(((repOut x.2.1).2.1.length:Nat):Int)) (by omega) (by omega)
 simp only [q_sShardOk,sShardOk,i1,i2,b1,b2,d1,d2,w1,in_iff,RightS,Bool.true_and]
 refine ⟨?_,?_⟩
 ·cases (!decide (0≤x.1∧x.1≤7))<;>cases decide (((x.2.1.length:Nat):Int) > 300)<;>cases (!decide (0≤x.2.2.1∧x.2.2.1≤((x.2.1.length:Nat):Int)))<;>cases (repOut x.2.1).2.2<;>cases sameL qP (repOut x.2.1).1 x.2.2.2.1<;>rfl
 by_cases g1:0≤x.1∧x.1≤7
 ·rw [decide_eq_true g1]
  by_cases g0:((x.2.1.length:Nat):Int) > 300
  ·rw [decide_eq_true g0]
   exact ⟨fun h=>absurd h (by simp),fun h=>absurd h.2.2.1 (by omega)⟩
  ·rw [decide_eq_false g0]
   by_cases g2:0≤x.2.2.1∧x.2.2.1≤((x.2.1.length:Nat):Int)
   ·rw [decide_eq_true g2]
    simp only [Bool.not_true,cond_false]
    cases hp:repL x.2.1 x.2.1.length with
    | none =>
     have hr:repOut x.2.1=([],[],false):=by simp only [repOut,hp]
     simp only [hr]
     exact ⟨fun h=>absurd h (by simp),fun h=>absurd h.2.2.2 (by simp)⟩
    | some s =>
     have hr:repOut x.2.1=(s.1,s.2,true):=by simp only [repOut,hp]
     simp only [hr]
     simp only [cond_true]
     cases hP:sameL qP s.1 x.2.2.2.1 with
     | false =>
      refine ⟨fun h=>absurd h (by simp),fun h=>?_⟩
      have e:=Option.some.inj h.2.2.2
      rw [e,(sameP_iff _ _).2 rfl] at hP;cases hP
     | true =>
      simp only [cond_true]
      have e1:=(sameP_iff _ _).1 hP
      cases hR:sameL qR s.2 x.2.2.2.2 with
      | false =>
       refine ⟨fun h=>absurd h (by simp),fun h=>?_⟩
       have e:=Option.some.inj h.2.2.2
       rw [e,(sameR_iff _ _).2 rfl] at hR;cases hR
      | true =>
       have e2:=(sameR_iff _ _).1 hR
       simp only [cond_true,decide_eq_true_eq]
       rw [e2]
       exact ⟨fun h=>⟨g1,g2,h,by rw [show s=(s.1,s.2) from rfl,e1,e2]⟩,fun h=>h.2.2.1⟩
   ·rw [decide_eq_false g2]
    exact ⟨fun h=>absurd h (by simp),fun h=>absurd h.2.1 g2⟩
 ·rw [decide_eq_false g1]
  exact ⟨fun h=>absurd h (by simp),fun h=>absurd h.1 g1⟩
theorem both_ok {x:ShardD} (A:AnyS x):(q_sShardOk x.1 x.2.1 x.2.2.1 x.2.2.2.1 x.2.2.2.2=true∧q_iShardOk x.1 x.2.1 x.2.2.1 x.2.2.2.1 x.2.2.2.2=true) ∧
  ((DrawnS x∧sShardOk x.1 x.2.1 x.2.2.1 x.2.2.2.1 x.2.2.2.2=true∧iShardOk x.1 x.2.1 x.2.2.1 x.2.2.2.1 x.2.2.2.2=true)∨(sShardOk x.1 x.2.1 x.2.2.1 x.2.2.2.1 x.2.2.2.2=false∧iShardOk x.1 x.2.1 x.2.2.1 x.2.2.2.1 x.2.2.2.2=false)):=by
 have h2:=A.2.1
 have h5:=A.2.2.2.2.2
 obtain ⟨s1,s2⟩:=sShardOk_own A.1 (x:=x) (by omega) (by omega)
 have i1:=shardOk_q A.1 (x:=x) (by omega)
 have i2:=shardOk_iff A.1 (x:=x) (by omega) (by omega)
 refine ⟨⟨s1,i1⟩,?_⟩
 cases hs:sShardOk x.1 x.2.1 x.2.2.1 x.2.2.2.1 x.2.2.2.2 with
 | true=>exact .inl ⟨A.2.2.2.1 (s2.1 hs),rfl,i2.2 (s2.1 hs)⟩
 | false =>
  refine .inr ⟨rfl,?_⟩
  cases hi:iShardOk x.1 x.2.1 x.2.2.1 x.2.2.2.1 x.2.2.2.2 with
  | false=>rfl
  | true=>rw [s2.2 (i2.1 hi)] at hs;cases hs
theorem sCopyRecs_spec {l:List RecD} (hl:okRecS l):q_sl8CopyRecs l=true∧sl8CopyRecs l=l:=by
 have h1:=hl.1
 have e:it_sl8CopyRecs_0 l 0 []=(0,l):=by
  refine itX_inv (ss:=fun v:V_sl8CopyRecs_0=>ss_sl8CopyRecs_0 v.1 v.2.1 v.2.2) (fa:=fl_sl8CopyRecs_0)
   (fun v=>∃ i:Nat,v=(l,(i:Int),l.take i)∧i≤l.length) (fun a=>a=(0,l)) (fun v=>l.length - v.2.1.toNat) ?_ ⟨0,rfl,Nat.zero_le _⟩ (by simp;omega)
  rintro v ⟨i,rfl,hi⟩
  by_cases hlt:i<l.length
  ·have e1:decide ((i:Int)<((l.length:Nat):Int))=true:=decide_eq_true (by omega)
   have e2:decide (0≤(i:Int)∧(i:Int)<((l.length:Nat):Int))=true:=decide_eq_true (by omega)
   have ho:=okOps_len (okRecS_ops hl _ (getD_mem hlt dRec))
   have f3:q_sl8CopyRec (l.getD i dRec).1 (l.getD i dRec).2.1 (l.getD i dRec).2.2=true:=decide_eq_true (by simp only [List.length_nil,MAXB];omega)
   have f4:sl8CopyRec (l.getD i dRec).1 (l.getD i dRec).2.1 (l.getD i dRec).2.2=l.getD i dRec:=rfl
   have f1:decide (((l.take i).length+[((l.getD i dRec).1,((l.getD i dRec).2.1,(l.getD i dRec).2.2))].length)*40≤MAXB)=true:=decide_eq_true (by simp only [List.length_singleton,List.length_take,MAXB];omega)
   refine .inl ⟨(l,((i+1:Nat):Int),l.take (i+1)),?_,⟨i+1,rfl,by omega⟩,by simp only [Int.toNat_natCast];omega⟩
   rw [take_succ_getD hlt dRec]
   simp only [ss_sl8CopyRecs_0,k1_sl8CopyRecs,e1,e2,cond_true,Int.toNat_natCast,getD_dR,f3,f4,f1,wrapU i (by omega)]
  ·obtain rfl:i=l.length:=by omega
   have e1:decide ((l.length:Int)<((l.length:Nat):Int))=false:=decide_eq_false (by omega)
   simp only [ss_sl8CopyRecs_0,e1,cond_false,List.take_length]
   exact .inr ⟨_,rfl,rfl⟩
 simp only [q_sl8CopyRecs,sl8CopyRecs,e]
 exact ⟨rfl,trivial⟩
theorem sCopyH {x:ShardD} (A:AnyS x):q_sl9Copy x.1 x.2.1 x.2.2.1 x.2.2.2.1 x.2.2.2.2=true∧sl9Copy x.1 x.2.1 x.2.2.1 x.2.2.2.1 x.2.2.2.2=(x.1,x.2.2.1,x.2.1,x.2.2.2.1,x.2.2.2.2):=by
 obtain ⟨a1,a2⟩:=sCopyRecs_spec A.1
 obtain ⟨b1,b2⟩:=sCopyRecs_spec A.2.2.1
 have h2:=A.2.1
 have m:decide ((([]:List PairD).length+x.2.2.2.1.length)*32≤MAXB)=true:=decide_eq_true (by simp only [List.length_nil,MAXB];omega)
 simp only [q_sl9Copy,sl9Copy,a1,a2,b1,b2,m,Bool.and_self]
 exact ⟨trivial,rfl⟩
theorem outH1_spec {x:ShardD} (h1:okRecS x.2.1) (hr:RightS x) (t:Int):q_iShard_outcome_w1 t x.1 x.2.1 x.2.2.1 x.2.2.2.1 x.2.2.2.2=true∧(iShard_outcome_w1 t x.1 x.2.1 x.2.2.1 x.2.2.2.1 x.2.2.2.2).1=outOf x t:=by
 have hl1:=h1.1
 have hl4:=hr.2.2.1
 obtain ⟨hk,_⟩:=right_last h1 hr
 obtain ⟨a1,_⟩:=recAt_spec x.2.2.2.2 t (by omega)
 obtain ⟨_,a3⟩:=recAt_neg x.2.2.2.2 t (by omega)
 obtain ⟨b1,_⟩:=recAt_spec x.2.1 t (by omega)
 obtain ⟨b2,_⟩:=recAt_neg x.2.1 t (by omega)
 simp only [q_iShard_outcome_w1,iShard_outcome_w1,a1,a3,b1,b2,Bool.true_and,getD_dR,outOf]
 cases x.2.2.2.2.any (isTx t) with
 | true=>exact ⟨rfl,rfl⟩
 | false =>
  simp only [cond_false]
  cases ha:x.2.1.any (isTx t) with
  | false=>rw [lastK_zero ha];exact ⟨rfl,rfl⟩
  | true =>
   obtain ⟨c1,c2⟩:=recAt_kind t x.2.1 (by omega) ha
   simp only [Bool.not_true,cond_false,c1,c2]
   refine ⟨trivial,?_⟩
   rcases lastK_in t x.2.1 hk with ⟨_,h⟩ | ⟨h,_⟩
   ·rw [ha] at h;cases h
   ·rcases h with h | h | h<;>rw [h]<;>rfl
theorem iOutcomeH {x:ShardD} (D:DrawnS x) (t:Int):q_iOutcome x.1 x.2.1 x.2.2.1 x.2.2.2.1 x.2.2.2.2 t=true∧iOutcome x.1 x.2.1 x.2.2.1 x.2.2.2.1 x.2.2.2.2 t=outOf x t:=by
 obtain ⟨_,s1,s2⟩:=drawn_same D
 obtain ⟨o1,o2⟩:=outH1_spec D.1 D.2.1 t
 simp only [q_iOutcome,iOutcome,s1,s2,o1,o2,Bool.not_true,cond_false,Bool.and_self]
 exact ⟨trivial,trivial⟩
theorem bigB_ok {l:List Int} (h:bigT t_sy l=true):okB l:=by
 have hb:(decide (l.length≤maxLen)&&l.all (fun x=>(Lit.int .u8 x).wf))=true:=h
 rw [Bool.and_eq_true,List.all_eq_true] at hb
 intro c hc
 have:=hb.2 c hc
 simp only [Lit.wf,Bool.and_eq_true,decide_eq_true_eq] at this
 exact ⟨this.1,this.2⟩
theorem okB.getD {b:List Int} (h:okB b) (i:Nat):0≤b.getD i 0∧b.getD i 0≤255:=by
 rw [List.getD_eq_getElem?_getD]
 cases e:b[i]? with
 | none=>simp
 | some c=>exact h c (List.mem_of_getElem? e)
theorem okB.take {b:List Int} (h:okB b) (i:Nat):okB (b.take i):=fun c hc=>h c (List.mem_of_mem_take hc)
theorem iDecide0_spec {x:ShardD} (h1:okRecS x.2.1) (hr:RightS x) (t:Int) (yes:Bool) :
  q_iShard_decide t yes x.1 x.2.2.1 x.2.1 x.2.2.2.1 x.2.2.2.2=true∧iShard_decide t yes x.1 x.2.2.1 x.2.1 x.2.2.2.1 x.2.2.2.2 =
   ((decideF x t yes).1,(decideF x t yes).2.1,(decideF x t yes).2.2.2.1,(decideF x t yes).2.2.1,(decideF x t yes).2.2.2.2.1,(decideF x t yes).2.2.2.2.2):=by
 have I:=right_rep h1 hr
 have hm:=I.hml
 have hh:=hr.2.2.1
 have hho:∀ r∈x.2.2.2.2,okOps r.2.2=true:=fun r hx=>(I.hmem r hx).1
 obtain ⟨a1,a2⟩:=outH_spec h1 hr t
 have a3:=(recAt_spec x.2.2.2.2 t (by omega)).1
 have g3:∀ t:Int,iisTx t=sl1In t 1 1000000:=fun t=>rfl
 have w1:=wrap64 (n:=((x.2.1.length:Nat):Int)+((x.2.2.2.2.length:Nat):Int)) (by omega) (by omega)
 have m1:∀ k:Int,decide ((x.2.1.length+([(k,(t,([]:Lq2)))]).length)*40≤MAXB)=true:=fun k=>decide_eq_true (by simp only [List.length_singleton,MAXB];omega)
 simp only [q_iShard_decide,iShard_decide,k1_iShard_decide,k2_iShard_decide,decideF,a1,a2,a3,g3,w1,m1,Bool.true_and,Bool.and_true]
 cases ht:sl1In t 1 1000000 with
 | false=>exact ⟨rfl,rfl⟩
 | true =>
  cases hout:(outOf x t==1) with
  | true =>
   have ha:=hout
   rw [out_one] at ha
   obtain ⟨_,e1,hlt,_⟩:=at_same I.hone t (by omega) ha
   have e2:=wrapU (x.2.2.2.2.findIdx (isTx t)) (by omega)
   obtain ⟨d1,d2⟩:=del_spec x.2.2.2.2 _ hlt (by omega)
   have q0:decide (0≤((x.2.2.2.2.findIdx (isTx t):Nat):Int)∧((x.2.2.2.2.findIdx (isTx t):Nat):Int)<((x.2.2.2.2.length:Nat):Int))=true:=decide_eq_true (by omega)
   obtain ⟨s1,s2⟩:=iApply_spec x.2.2.2.1 (x.2.2.2.2.getD (x.2.2.2.2.findIdx (isTx t)) dRec).2.2 (by omega) (by have:=okOps_len (hho _ (getD_mem hlt dRec));omega)
   simp only [e1,e2,d1,d2,q0,Int.toNat_natCast,getD_dR,s1,s2,doneM]
   cases yes<;>exact ⟨rfl,rfl⟩
  | false =>
   cases h3:(outOf x t==3) with
   | true=>cases yes<;>exact ⟨rfl,rfl⟩
   | false =>
    cases h4:(outOf x t==4) with
    | true=>cases yes<;>exact ⟨rfl,rfl⟩
    | false =>
     cases yes with
     | true=>exact ⟨rfl,rfl⟩
     | false=>cases decide (((x.2.1.length:Nat):Int)+((x.2.2.2.2.length:Nat):Int) ≥ 300)<;>exact ⟨rfl,rfl⟩
theorem iDecide_spec {x:ShardD} (D:DrawnS x) (t:Int) (yes:Bool):q_iDecide x.1 x.2.1 x.2.2.1 x.2.2.2.1 x.2.2.2.2 t yes=true ∧
  iDecide x.1 x.2.1 x.2.2.1 x.2.2.2.1 x.2.2.2.2 t yes=((decideF x t yes).2.1,(decideF x t yes).2.2.1,(decideF x t yes).2.2.2.1,(decideF x t yes).2.2.2.2.1,(decideF x t yes).2.2.2.2.2,(decideF x t yes).1):=by
 have I:=right_rep D.1 D.2.1
 have hm:=I.hml
 obtain ⟨c1,c2⟩:=iCopyH D.1 (by omega) (okRecS_held D.1 D.2.1)
 obtain ⟨_,s1,s2⟩:=drawn_same D
 obtain ⟨k1,k2⟩:=iDecide0_spec D.1 D.2.1 t yes
 simp only [q_iDecide,iDecide,k1_iDecide,c1,c2,s1,s2,k1,k2,cond_true,Bool.and_self]
 exact ⟨trivial,trivial⟩
/-- What one that was decided is. -/
theorem decideF_cases (x:ShardD) (t:Int) (yes:Bool):((decideF x t yes).1=false∧(decideF x t yes).2=x) ∨
  ((decideF x t yes).1=true∧sl1In t 1 1000000=true ∧
   ((outOf x t=1∧(decideF x t yes).2=(x.1,x.2.1++[(cond yes 2 3,(t,[]))],x.2.2.1,cond yes (doneM x.2.2.2.1 x.2.2.2.2 t) x.2.2.2.1,x.2.2.2.2.eraseIdx (x.2.2.2.2.findIdx (isTx t)))) ∨
    (outOf x t=cond yes 3 4∧(decideF x t yes).2=x)∨(yes=false∧outOf x t=2∧(decideF x t yes).2=(x.1,x.2.1++[((3:Int),(t,[]))],x.2.2.1,x.2.2.2.1,x.2.2.2.2)))):=by
 simp only [decideF]
 cases sl1In t 1 1000000 with
 | false=>exact .inl ⟨rfl,rfl⟩
 | true=>cases h1:(outOf x t==1) with
  | true=>exact .inr ⟨rfl,rfl,.inl ⟨beq_iff_eq.1 h1,rfl⟩⟩
  | false=>cases h3:(outOf x t==3) with
   | true=>cases yes with
    | true=>exact .inr ⟨rfl,rfl,.inr (.inl ⟨beq_iff_eq.1 h3,rfl⟩)⟩
    | false=>exact .inl ⟨rfl,rfl⟩
   | false=>cases h4:(outOf x t==4) with
    | true=>cases yes with
     | true=>exact .inl ⟨rfl,rfl⟩
     | false=>exact .inr ⟨rfl,rfl,.inr (.inl ⟨beq_iff_eq.1 h4,rfl⟩)⟩
    | false=>cases yes with
     | true=>exact .inl ⟨rfl,rfl⟩
     | false=>cases decide (((x.2.1.length:Nat):Int)+((x.2.2.2.2.length:Nat):Int) ≥ 300) with
      | true=>exact .inl ⟨rfl,rfl⟩
      | false=>exact .inr ⟨rfl,rfl,.inr (.inr ⟨rfl,out_four h1 h3 h4,rfl⟩)⟩
theorem snoc_out {x:ShardD} {l:List RecD} {r:RecD} (h1:okRecS x.2.1) (hr:RightS x) (hl:x.2.1=l++[r]) (hk:r.1 ≠ 1):outOf x r.2.1=ofK r.1:=by
 have e:lastK x.2.1 r.2.1=r.1:=by
  rw [hl,lastK_snoc,show isTx r.2.1 r=true from by simp [isTx]]
  rfl
 simp only [outOf,(right_last h1 hr).2,e]
 rw [beq_eq_false_iff_ne.2 hk]
 rfl
theorem decided_out {x:ShardD} (D:DrawnS x) {t:Int} {yes:Bool} (h:(decideF x t yes).1=true):outOf (decideF x t yes).2 t=cond yes 3 4∧sl1In t 1 1000000=true:=by
 have D':=decide_drawn D t yes
 rcases decideF_cases x t yes with ⟨h1,_⟩ | ⟨_,ht,⟨_,e⟩ | ⟨ho,e⟩ | ⟨hy,_,e⟩⟩
 ·rw [h] at h1;cases h1
 ·refine ⟨?_,ht⟩
  rw [e] at D' ⊢
  have:=snoc_out (r:=(cond yes 2 3,(t,[]))) D'.1 D'.2.1 rfl (by cases yes<;>simp)
  refine Eq.trans this ?_
  cases yes<;>rfl
 ·exact ⟨by rw [e];exact ho,ht⟩
 ·refine ⟨?_,ht⟩
  rw [e] at D' ⊢
  subst hy
  have:=snoc_out (r:=((3:Int),(t,[]))) D'.1 D'.2.1 rfl (by simp)
  exact Eq.trans this rfl
theorem decide_again {x:ShardD} {t:Int} {yes:Bool} (ho:outOf x t=cond yes 3 4) (ht:sl1In t 1 1000000=true):decideF x t (!yes)=(false,x)∧decideF x t yes=(true,x):=by
 cases yes with
 | true =>
  have ho:outOf x t=3:=ho
  simp only [decideF,ht,ho]
  exact ⟨rfl,rfl⟩
 | false =>
  have ho:outOf x t=4:=ho
  simp only [decideF,ht,ho]
  exact ⟨rfl,rfl⟩
theorem decided_loop {x:ShardD} (D:DrawnS x) (y:ShardD) (t:Int) (yes:Bool) (hy:yes=true→x.2.2.2.2.any (isTx t)=true→y.2.2.2.1=doneM x.2.2.2.1 x.2.2.2.2 t∧y.2.2.2.2.length+1=x.2.2.2.2.length) (hyl:y.2.2.2.1.length≤1048576) :
  it_lFnDecided_0 t yes 0 x.1 x.2.1 x.2.2.1 x.2.2.2.1 x.2.2.2.2 y.1 y.2.1 y.2.2.1 y.2.2.2.1 y.2.2.2.2=cond (yes&&x.2.2.2.2.any (isTx t)) (0,true) (1,false):=by
 have I:=right_rep D.1 D.2.1
 have hm:=I.hml
 have hh:=D.2.1.2.2.1
 have hho:∀ r∈x.2.2.2.2,okOps r.2.2=true:=fun r hx=>(I.hmem r hx).1
 refine itX_inv (ss:=fun v:V_lFnDecided_0=>ss_lFnDecided_0 v.1 v.2.1 v.2.2 x.1 x.2.1 x.2.2.1 x.2.2.2.1 x.2.2.2.2 y.1 y.2.1 y.2.2.1 y.2.2.2.1 y.2.2.2.2) (fa:=fl_lFnDecided_0)
  (fun v=>∃ i:Nat,v=(t,yes,(i:Int))∧i≤x.2.2.2.2.length∧(yes=true→(x.2.2.2.2.take i).any (isTx t)=false)) (fun a=>a=cond (yes&&x.2.2.2.2.any (isTx t)) (0,true) (1,false)) (fun v=>x.2.2.2.2.length - v.2.2.toNat) ?_ ⟨0,rfl,Nat.zero_le _,fun _=>rfl⟩ (by simp;omega)
 rintro v ⟨i,rfl,hi,hno⟩
 by_cases hlt:i<x.2.2.2.2.length
 ·have e1:decide ((i:Int)<((x.2.2.2.2.length:Nat):Int))=true:=decide_eq_true (by omega)
  have e2:decide (0≤(i:Int)∧(i:Int)<((x.2.2.2.2.length:Nat):Int))=true:=decide_eq_true (by omega)
  have hsn:(x.2.2.2.2.take (i+1)).any (isTx t)=((x.2.2.2.2.take i).any (isTx t)||isTx t (x.2.2.2.2.getD i dRec)):=by rw [take_succ_getD hlt dRec,any_snoc]
  have e5:=wrapU i (by omega)
  have hx:((x.2.2.2.2.getD i dRec).2.1==t)=isTx t (x.2.2.2.2.getD i dRec):=rfl
  simp only [ss_lFnDecided_0,e1,e2,cond_true,Int.toNat_natCast,getD_dR,e5,hx]
  cases hit:isTx t (x.2.2.2.2.getD i dRec) with
  | false=>exact .inl ⟨_,rfl,⟨i+1,rfl,by omega,fun h=>by rw [hsn,hno h,hit];rfl⟩,by simp only [Int.toNat_natCast];omega⟩
  | true =>
   cases yes with
   | false=>exact .inl ⟨_,rfl,⟨i+1,rfl,by omega,fun h=>by cases h⟩,by simp only [Int.toNat_natCast];omega⟩
   | true =>
    have hany:x.2.2.2.2.any (isTx t)=true:=List.any_eq_true.2 ⟨_,getD_mem hlt dRec,hit⟩
    obtain ⟨y1,y2⟩:=hy rfl hany
    obtain ⟨_,_,hf1,hf2⟩:=at_same I.hone t (by omega) hany
    have hif:i=x.2.2.2.2.findIdx (isTx t):=oneTx_eq I.hone hlt hf1 (by rw [hf2];exact beq_iff_eq.1 hit)
    obtain ⟨s1,s2⟩:=iApply_spec x.2.2.2.1 (x.2.2.2.2.getD i dRec).2.2 (by omega) (by have:=okOps_len (hho _ (getD_mem hlt dRec));omega)
    have s3:(x.2.2.2.2.getD i dRec).2.2.foldl appL x.2.2.2.1=y.2.2.2.1:=by rw [y1,doneM,← hif]
    obtain ⟨p1,p2⟩:=selfP (a:=y.2.2.2.1) (by omega)
    have w:=wrap64 (n:=((x.2.2.2.2.length:Nat):Int) - 1) (by omega) (by omega)
    have e6:(((y.2.2.2.2.length:Nat):Int)==((x.2.2.2.2.length:Nat):Int) - 1)=true:=beq_iff_eq.2 (by omega)
    simp only [cond_true,s1,s2,s3,p1,p2,w,e6,hany,Bool.and_self]
    exact .inr ⟨_,rfl,rfl⟩
 ·obtain rfl:i=x.2.2.2.2.length:=by omega
  have e1:decide ((x.2.2.2.2.length:Int)<((x.2.2.2.2.length:Nat):Int))=false:=decide_eq_false (by omega)
  simp only [ss_lFnDecided_0,e1,cond_false]
  refine .inr ⟨_,rfl,?_⟩
  rw [List.take_length] at hno
  cases yes with
  | false=>rfl
  | true=>rw [hno rfl];rfl
theorem sDrawDecide_spec {b:List Int} (hb:okB b) (hl:b.length≤1048576):q_sDrawDecide b=true∧∃ (x:ShardD) (t:Int) (yes:Bool),AnyS x∧sDrawDecide b=(x.1,x.2.1,x.2.2.1,x.2.2.2.1,x.2.2.2.2,t,yes):=by
 obtain ⟨a1,a2,a3⟩:=sl1New_spec hb hl
 obtain ⟨z1,z2⟩:=size_ok b 16 hl (by omega)
 obtain ⟨n1,x,i', h', c1,c2,⟨A,_⟩,hc,n2⟩:=sl9Any_spec a3 (sl1New b).2.2 (sl1Size b 16) (by omega)
 obtain ⟨o1,o2,o3,o4⟩:=sl1Int_spec hc h' (l:=[(1:Int),(2:Int),(3:Int),(9:Int),(0:Int)]) (by simp)
 have k1:k1_sDrawDecide b=sl1Int b i' h' [(1:Int),(2:Int),(3:Int),(9:Int),(0:Int)]:=by simp only [k1_sDrawDecide,a2,n2]
 rw [← k1] at o2 o3 o4
 obtain ⟨p1,p2,p3⟩:=sl1Once_spec o4 2 (k1_sDrawDecide b).2.2.2.1
 have k2:k2_sDrawDecide b=sl1Once 2 b (k1_sDrawDecide b).2.2.1 (k1_sDrawDecide b).2.2.2.1:=by simp only [k2_sDrawDecide,o3]
 rw [← k2] at p2 p3
 obtain ⟨r1,r2,r3⟩:=sl1Once_spec p3 2 (k2_sDrawDecide b).2.2.2
 simp only [q_sDrawDecide,sDrawDecide,a1,a2,n1,n2,o1,o3,p1,p2,r1,Bool.true_and]
 by_cases hh:((x.2.2.2.2.length:Nat):Int) > 0
 ·rw [decide_eq_true hh]
  obtain ⟨j1,j2,j3,j4,j5⟩:=sl1Below_spec p3 ((x.2.2.2.2.length:Nat):Int) (k2_sDrawDecide b).2.2.2
  have j3:=j3 (by omega)
  have k3:k3_sDrawDecide b=sl1Below ((x.2.2.2.2.length:Nat):Int) b (k2_sDrawDecide b).2.2.1 (k2_sDrawDecide b).2.2.2:=by simp only [k3_sDrawDecide,a2,n2,p2]
  rw [← k3] at j2 j3 j4 j5
  obtain ⟨l1,_,_⟩:=sl1Once_spec j5 2 (k3_sDrawDecide b).2.2.2
  have e:decide (0≤(k3_sDrawDecide b).1∧(k3_sDrawDecide b).1<((x.2.2.2.2.length:Nat):Int))=true:=decide_eq_true ⟨j2,j3⟩
  rw [cond_true,cond_true]
  rw [j1,j4,l1,e]
  cases (k2_sDrawDecide b).1 with
  | true=>exact ⟨rfl,x,_,_,A,rfl⟩
  | false=>exact ⟨rfl,x,_,_,A,rfl⟩
 ·rw [decide_eq_false hh]
  exact ⟨rfl,x,_,_,A,rfl⟩
theorem decided_all {b:List Int} (hb:okB b):q_lFnDecided b=true∧lFnDecided b=true:=by
 by_cases hl:((b.length:Nat):Int) > 1048576
 ·have e:lbig b=true:=decide_eq_true hl
  simp only [q_lFnDecided,lFnDecided,e,cond_true]
  exact ⟨trivial,trivial⟩
 ·have e:lbig b=false:=decide_eq_false hl
  obtain ⟨q0,x,t,yes,A,k0⟩:=sDrawDecide_spec hb (by omega)
  obtain ⟨⟨s1,s2⟩,hcase⟩:=both_ok A
  obtain ⟨cp1,cp2⟩:=iCopyH A.1 (x:=x) (by have:=A.2.1;omega) A.2.2.1
  obtain ⟨sc1,sc2⟩:=sCopyH A
  rcases hcase with ⟨D,s3,s4⟩ | ⟨s3,s4⟩
  ·obtain ⟨h1,h2⟩:=iDecide_spec D t yes
   obtain ⟨g1,g2⟩:=sDecide_spec D.1 D.2.1 t yes
   have k1s:k1_sDecide x.1 x.2.1 x.2.2.1 x.2.2.2.1 x.2.2.2.2 t yes=((decideF x t yes).1,(decideF x t yes).2.1,(decideF x t yes).2.2.2.1,(decideF x t yes).2.2.1,(decideF x t yes).2.2.2.2.1,(decideF x t yes).2.2.2.2.2):=by
    simp only [k1_sDecide,sc2];exact g2
   have qs:q_sDecide x.1 x.2.1 x.2.2.1 x.2.2.2.1 x.2.2.2.2 t yes=true:=by
    simp only [q_sDecide,sc1,sc2,s1,s3,g1,k1s,Bool.not_true,cond_false,Bool.true_and]
    cases (!(decideF x t yes).1)<;>rfl
   have ks:(sDecide x.1 x.2.1 x.2.2.1 x.2.2.2.1 x.2.2.2.2 t yes).2.2.2.2.2=(decideF x t yes).1:=by
    simp only [sDecide,k1s,s3,sc2,Bool.not_true,cond_false]
    cases (decideF x t yes).1<;>rfl
   have D':=decide_drawn D t yes
   have hdo:=@decided_out x D t yes
   have hcs:=decideF_cases x t yes
   generalize hc:(decideF x t yes).1=ok at h2 ks hcs hdo
   generalize hx':(decideF x t yes).2=x' at h2 D' hcs hdo
   cases ok with
   | false =>
    obtain rfl:x'=x:=by
     rcases hcs with ⟨_,h⟩ | ⟨h,_⟩
     ·exact h
     ·cases h
    simp only [q_lFnDecided,lFnDecided,k1_lFnDecided,k2_lFnDecided,e,q0,k0,h1,h2,qs,ks,cond_true,cond_false,Bool.not_true,Bool.not_false,Bool.and_self,beq_self_eq_true]
    exact ⟨trivial,trivial⟩
   | true =>
    obtain ⟨ho,ht⟩:=hdo rfl
    obtain ⟨n1,n2⟩:=decide_again ho ht
    obtain ⟨h3,h4⟩:=iDecide_spec D' t (!yes)
    obtain ⟨h5,h6⟩:=iDecide_spec D' t yes
    obtain ⟨u1,u2⟩:=iOutcomeH D' t
    obtain ⟨_,v1,v2⟩:=drawn_same D'
    have hml:=(right_rep D'.1 D'.2.1).hml
    have hmx:=(right_rep D.1 D.2.1).hml
    rw [n1] at h4
    rw [n2] at h6
    have hloop:=decided_loop D x' t yes (fun hy ha=>by
     rcases hcs with ⟨h,_⟩ | ⟨_,_,⟨_,rfl⟩ | ⟨h,_⟩ | ⟨h,_⟩⟩
     ·cases h
     ·subst hy
      refine ⟨rfl,?_⟩
      show (x.2.2.2.2.eraseIdx _).length+1=_
      have hlt:=List.findIdx_lt_length.2 (List.any_eq_true.1 ha)
      rw [List.length_eraseIdx]
      simp only [hlt,if_true]
      omega
     ·subst hy
      have:=out_one (x:=x) (t:=t)
      rw [ha,h] at this
      cases this
     ·rw [hy] at h;cases h) (by omega)
    have hmap:(yes&&x.2.2.2.2.any (isTx t))=false→x'.2.2.2.1=x.2.2.2.1:=by
     intro hz
     rcases hcs with ⟨h,_⟩ | ⟨_,_,⟨h,rfl⟩ | ⟨_,rfl⟩ | ⟨_,_,rfl⟩⟩
     ·cases h
     ·have ha:x.2.2.2.2.any (isTx t)=true:=by rw [← out_one,h];rfl
      rw [ha,Bool.and_true] at hz
      subst hz
      rfl
     ·rfl
     ·rfl
    have k7:k7_lFnDecided b=cond (yes&&x.2.2.2.2.any (isTx t)) (0,true) (1,false):=by
     simp only [k7_lFnDecided,k1_lFnDecided,k0,h2]
     exact hloop
    have b0:((0:Nat)==0)=true:=rfl
    have b1:((1:Nat)==0)=false:=rfl
    have b2:((1:Nat)==1)=true:=rfl
    have c3:((3:Int) != 3)=false:=rfl
    have c4:((4:Int) != 4)=false:=rfl
    cases hz:(yes&&x.2.2.2.2.any (isTx t)) with
    | true =>
     rw [hz] at k7
     have hy:yes=true:=by revert hz;cases yes<;>simp
     subst hy
     have ho:outOf x' t=3:=ho
     simp only [Bool.not_true] at h3 h4 h5 h6
     simp only [q_lFnDecided,lFnDecided,k1_lFnDecided,k2_lFnDecided,k3_lFnDecided,k4_lFnDecided,k5_lFnDecided,k6_lFnDecided,e,q0,k0,h1,h2,qs,ks,u1,u2,ho,h3,h4,h5,h6,v1,v2,k7,b0,c3,cond_true,cond_false,Bool.not_true,Bool.not_false,Bool.and_self,beq_self_eq_true]
     exact ⟨trivial,trivial⟩
    | false =>
     rw [hz] at k7
     have hm:=hmap hz
     obtain ⟨p1,p2⟩:=selfP (a:=x.2.2.2.1) (by omega)
     rw [hm] at h3 h4 h5 h6 u1 u2 v1 v2
     cases yes with
     | true =>
      have ho:outOf x' t=3:=ho
      simp only [Bool.not_true] at h3 h4 h5 h6
      simp only [q_lFnDecided,lFnDecided,k1_lFnDecided,k2_lFnDecided,k3_lFnDecided,k4_lFnDecided,k5_lFnDecided,k6_lFnDecided,e,q0,k0,h1,h2,hm,qs,ks,u1,u2,ho,h3,h4,h5,h6,v1,v2,k7,b1,b2,c3,p1,p2,cond_true,cond_false,Bool.not_true,Bool.not_false,Bool.and_self,beq_self_eq_true]
      exact ⟨trivial,trivial⟩
     | false =>
      have ho:outOf x' t=4:=ho
      simp only [Bool.not_false] at h3 h4 h5 h6
      simp only [q_lFnDecided,lFnDecided,k1_lFnDecided,k2_lFnDecided,k3_lFnDecided,k4_lFnDecided,k5_lFnDecided,k6_lFnDecided,e,q0,k0,h1,h2,hm,qs,ks,u1,u2,ho,h3,h4,h5,h6,v1,v2,k7,b1,b2,c4,p1,p2,cond_true,cond_false,Bool.not_true,Bool.not_false,Bool.and_self,beq_self_eq_true]
      exact ⟨trivial,trivial⟩
  ·have hi:q_iDecide x.1 x.2.1 x.2.2.1 x.2.2.2.1 x.2.2.2.2 t yes=true:=by simp only [q_iDecide,cp1,s2,s4,cond_false,Bool.and_self]
   have hi2:iDecide x.1 x.2.1 x.2.2.1 x.2.2.2.1 x.2.2.2.2 t yes=(x.1,x.2.1,x.2.2.1,x.2.2.2.1,x.2.2.2.2,false):=by simp only [iDecide,cp2,s4,cond_false]
   have hs:q_sDecide x.1 x.2.1 x.2.2.1 x.2.2.2.1 x.2.2.2.2 t yes=true:=by simp only [q_sDecide,sc1,s1,s3,Bool.not_false,cond_true,Bool.and_self]
   have hs2:(sDecide x.1 x.2.1 x.2.2.1 x.2.2.2.1 x.2.2.2.2 t yes).2.2.2.2.2=false:=by simp only [sDecide,s3,Bool.not_false,cond_true]
   simp only [q_lFnDecided,lFnDecided,k1_lFnDecided,k2_lFnDecided,e,q0,k0,hi,hi2,hs,hs2,cond_true,cond_false,Bool.not_true,Bool.not_false,Bool.and_self,beq_self_eq_true]
   exact ⟨trivial,trivial⟩
theorem pre_of_lFnDecided (b:List Int) (h:bigT t_sy b=true):pre_lFnDecided (b,())=true:=(decided_all (bigB_ok h)).1
theorem exact_lFnDecided (b:List Int) (h:bigT t_sy b=true):lFnDecided b=true:=(decided_all (bigB_ok h)).2

end Go.Proofs.Ytgglehejlddghaa.Eng

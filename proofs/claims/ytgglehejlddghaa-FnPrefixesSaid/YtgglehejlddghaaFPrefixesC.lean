/- What the functions that FnPrefixes reaches compute: further. -/
import Derived.Test.YtgglehejlddghaaFPrefixesB
namespace Go.Proofs.Ytgglehejlddghaa.Eng
open Go Go.RowKit
set_option linter.unusedSimpArgs false
set_option linter.unusedVariables false
set_option maxRecDepth 10000
/-! 83 (*loop.example/g00244/impl.replay).add -/
noncomputable abbrev SM_ireplay_add_w1:SS:=⟨[.ptr 0 0 1 0,.agg [.t true (.int .i64),.t true (.int .i64),.t false t_spiptt],.t false t_spipispiptt],[.box [.nil,.all 1 3],.rows 32 true t_pipispiptt]⟩
noncomputable def ireplay_add_w1 (x1_0:Int) (x1_1:Int) (x1_2:LIBBe) (x2:LIILIBBee) (h1:LIILIBBee):Bool×(LIILIBBee)×LBBe:=(cond (x1_0==(1:Int)) (cond (decide ((irecAt x2 x1_1) ≥ (0:Int))) (false,h1,([]:LBBe)) (cond (iisHeldKey h1 x1_2) (false,h1,([]:LBBe)) (cond (!(iMeets [] x1_2)) (false,h1,([]:LBBe)) (true,h1++[((1:Int),(x1_1,(slices_Clone_iOp x1_2)))],([]:LBBe))))) (cond (decide ((irecAt h1 x1_1)<(0:Int))) (cond (x1_0==(3:Int)) (!(decide ((irecAt x2 x1_1) ≥ (0:Int))),h1,([]:LBBe)) (false,h1,([]:LBBe))) (cond (x1_0==(2:Int)) (decide ((((iApply [] (((h1.getD ((irecAt h1 x1_1).toNat) ((0:Int),((0:Int),[]))).2).2)).length:Nat):Int)≤(60:Int)),(slices_Delete_iRec (irecAt h1 x1_1) (IntKind.wrap .i64 ((irecAt h1 x1_1)+(1:Int))) h1),(iApply [] (((h1.getD ((irecAt h1 x1_1).toNat) ((0:Int),((0:Int),[]))).2).2))) (decide (((0:Nat):Int)≤(60:Int)),(slices_Delete_iRec (irecAt h1 x1_1) (IntKind.wrap .i64 ((irecAt h1 x1_1)+(1:Int))) h1),([]:LBBe)))))
noncomputable abbrev e_ireplay_add_w1 (r:Bool×(LIILIBBee)×LBBe):AV×List AObj×List Nat:=((.t true .bool r.1),[(.box [(.all 2 2),(.all 1 3)]),(.rows 32 true t_pipispiptt r.2.1),(.rows 70 true t_ptt r.2.2)],[1])
noncomputable abbrev F_ireplay_add_w1 (r:Bool×(LIILIBBee)×LBBe):=some (e_ireplay_add_w1 r)
noncomputable abbrev g_ireplay_add_w1:SM_ireplay_add_w1.den→AV×List AObj×List Nat:=fun d=>e_ireplay_add_w1 (ireplay_add_w1 d.1.2.1.1 d.1.2.1.2.1 d.1.2.1.2.2.1 d.1.2.2.1 d.2.2.1)
noncomputable def q_ireplay_add_w1 (x1_0:Int) (x1_1:Int) (x1_2:LIBBe) (x2:LIILIBBee) (h1:LIILIBBee):Bool:=(q_irecAt x2 x1_1)&&(cond (x1_0==(1:Int)) (cond (decide ((irecAt x2 x1_1) ≥ (0:Int))) true ((q_iisHeldKey h1 x1_2)&&(cond (iisHeldKey h1 x1_2) true ((q_iMeets [] x1_2)&&(cond (!(iMeets [] x1_2)) true ((q_slices_Clone_iOp x1_2)&&(decide ((h1.length+[((1:Int),(x1_1,(slices_Clone_iOp x1_2)))].length)*40≤MAXB)))))))) ((q_irecAt h1 x1_1)&&(cond (decide ((irecAt h1 x1_1)<(0:Int))) true (cond (x1_0==(2:Int)) ((decide (0≤(irecAt h1 x1_1)∧(irecAt h1 x1_1)<((h1.length:Nat):Int)))&&((q_iApply [] (((h1.getD ((irecAt h1 x1_1).toNat) ((0:Int),((0:Int),[]))).2).2))&&(q_slices_Delete_iRec (irecAt h1 x1_1) (IntKind.wrap .i64 ((irecAt h1 x1_1)+(1:Int))) h1))) (q_slices_Delete_iRec (irecAt h1 x1_1) (IntKind.wrap .i64 ((irecAt h1 x1_1)+(1:Int))) h1)))))
noncomputable abbrev pre_ireplay_add_w1:SM_ireplay_add_w1.den→Bool:=fun d=>q_ireplay_add_w1 d.1.2.1.1 d.1.2.1.2.1 d.1.2.1.2.2.1 d.1.2.2.1 d.2.2.1
theorem run_ireplay_add_w1:RunE false [] [1] [(0,0,99999,70,t_ptt)] G69 (fun _ _=>none) Try.f83 SM_ireplay_add_w1 pre_ireplay_add_w1 g_ireplay_add_w1:=by
 rintro ⟨⟨_,⟨x1_0,x1_1,x1_2,_⟩,x2,_⟩,⟨⟨_,_,_⟩,h1,_⟩⟩ hp
 change q_ireplay_add_w1 x1_0 x1_1 x1_2 x2 h1=true at hp
 unfold q_ireplay_add_w1 at hp
 refine Eq.trans (b:=(cond (q_irecAt x2 x1_1) (cond (x1_0==(1:Int)) (cond (decide ((irecAt x2 x1_1) ≥ (0:Int))) (some (e_ireplay_add_w1 (false,h1,([]:LBBe)))) (cond (q_iisHeldKey h1 x1_2) (cond (iisHeldKey h1 x1_2) (some (e_ireplay_add_w1 (false,h1,([]:LBBe)))) (cond (q_iMeets [] x1_2) (cond (!(iMeets [] x1_2)) (some (e_ireplay_add_w1 (false,h1,([]:LBBe)))) (cond (q_slices_Clone_iOp x1_2) (cond (decide ((h1.length+[((1:Int),(x1_1,(slices_Clone_iOp x1_2)))].length)*40≤MAXB)) (some (e_ireplay_add_w1 (true,h1++[((1:Int),(x1_1,(slices_Clone_iOp x1_2)))],([]:LBBe)))) none) none)) none)) none)) (cond (q_irecAt h1 x1_1) (cond (decide ((irecAt h1 x1_1)<(0:Int))) (cond (x1_0==(3:Int)) (some (e_ireplay_add_w1 (!(decide ((irecAt x2 x1_1) ≥ (0:Int))),h1,([]:LBBe)))) (some (e_ireplay_add_w1 (false,h1,([]:LBBe))))) (cond (x1_0==(2:Int)) (cond (decide (0≤(irecAt h1 x1_1)∧(irecAt h1 x1_1)<((h1.length:Nat):Int))) (cond (q_iApply [] (((h1.getD ((irecAt h1 x1_1).toNat) ((0:Int),((0:Int),[]))).2).2)) (cond (q_slices_Delete_iRec (irecAt h1 x1_1) (IntKind.wrap .i64 ((irecAt h1 x1_1)+(1:Int))) h1) (some (e_ireplay_add_w1 (decide ((((iApply [] (((h1.getD ((irecAt h1 x1_1).toNat) ((0:Int),((0:Int),[]))).2).2)).length:Nat):Int)≤(60:Int)),(slices_Delete_iRec (irecAt h1 x1_1) (IntKind.wrap .i64 ((irecAt h1 x1_1)+(1:Int))) h1),(iApply [] (((h1.getD ((irecAt h1 x1_1).toNat) ((0:Int),((0:Int),[]))).2).2))))) none) none) none) (cond (q_slices_Delete_iRec (irecAt h1 x1_1) (IntKind.wrap .i64 ((irecAt h1 x1_1)+(1:Int))) h1) (some (e_ireplay_add_w1 (decide (((0:Nat):Int)≤(60:Int)),(slices_Delete_iRec (irecAt h1 x1_1) (IntKind.wrap .i64 ((irecAt h1 x1_1)+(1:Int))) h1),([]:LBBe)))) none))) none)) none)) (by kernel_rfl) ?_
 exact (cndA hp fun hp=>(cndQ (F:=F_ireplay_add_w1) hp (fun hp=>(cndQ (F:=F_ireplay_add_w1) hp (fun hp=>rfl) (fun hp=>(cndA hp fun hp=>(cndQ (F:=F_ireplay_add_w1) hp (fun hp=>rfl) (fun hp=>(cndA hp fun hp=>(cndQ (F:=F_ireplay_add_w1) hp (fun hp=>rfl) (fun hp=>(cndA hp fun hp=>(cndT hp fun _h=>rfl))))))))))) (fun hp=>(cndA hp fun hp=>(cndQ (F:=F_ireplay_add_w1) hp (fun hp=>(cnd (F:=F_ireplay_add_w1) (fun _h=>rfl) (fun _h=>rfl))) (fun hp=>(cndQ (F:=F_ireplay_add_w1) hp (fun hp=>(cndA hp fun hp=>(cndA hp fun hp=>(cndT hp fun _h=>rfl)))) (fun hp=>(cndT hp fun _h=>rfl)))))))))
noncomputable abbrev m_ireplay_add_w1:=win winIds (msum SM_ireplay_add_w1 pre_ireplay_add_w1 g_ireplay_add_w1)
theorem c_ireplay_add_w1:MContract Try.prog 83 m_ireplay_add_w1:=(MContract.of_dataE false [] [1] [(0,0,99999,70,t_ptt)]  G69 (by kernel_rfl) (hl0 (by kernel_rfl)) _ _ _ run_ireplay_add_w1).win winIds
noncomputable def S70:Tab:=Tab.add S69 83 (orElseS (m_ireplay_add) (m_ireplay_add_w1))
noncomputable def QF70:FuncId→Bool:=QF69
theorem G70:Good Try.prog tt S70 QF70:=G69.addM (MContract.orElse c_ireplay_add c_ireplay_add_w1) (orElse_local (win_local _) (win_local _)) ⟨Try.f83,by kernel_rfl,by kernel_rfl,by kernel_rfl⟩ (by kernel_rfl)

/-! 83 (*loop.example/g00244/impl.replay).add -/
noncomputable abbrev SM_ireplay_add_w2:SS:=⟨[.ptr 0 0 1 0,.agg [.t true (.int .i64),.t true (.int .i64),.t false t_spiptt],.t false t_spipispiptt],[.box [.all 1 2,.all 2 3],.rows 70 true t_ptt,.rows 32 true t_pipispiptt]⟩
noncomputable def ireplay_add_w2 (x1_0:Int) (x1_1:Int) (x1_2:LIBBe) (x2:LIILIBBee) (h1:LBBe) (h2:LIILIBBee):Bool×(LBBe)×LIILIBBee:=(cond (x1_0==(1:Int)) (cond (decide ((irecAt x2 x1_1) ≥ (0:Int))) (false,h1,h2) (cond (iisHeldKey h2 x1_2) (false,h1,h2) (cond (!(iMeets h1 x1_2)) (false,h1,h2) (true,h1,h2++[((1:Int),(x1_1,(slices_Clone_iOp x1_2)))])))) (cond (decide ((irecAt h2 x1_1)<(0:Int))) (cond (x1_0==(3:Int)) (!(decide ((irecAt x2 x1_1) ≥ (0:Int))),h1,h2) (false,h1,h2)) (cond (x1_0==(2:Int)) (decide ((((iApply h1 (((h2.getD ((irecAt h2 x1_1).toNat) ((0:Int),((0:Int),[]))).2).2)).length:Nat):Int)≤(60:Int)),(iApply h1 (((h2.getD ((irecAt h2 x1_1).toNat) ((0:Int),((0:Int),[]))).2).2)),(slices_Delete_iRec (irecAt h2 x1_1) (IntKind.wrap .i64 ((irecAt h2 x1_1)+(1:Int))) h2)) (decide (((h1.length:Nat):Int)≤(60:Int)),h1,(slices_Delete_iRec (irecAt h2 x1_1) (IntKind.wrap .i64 ((irecAt h2 x1_1)+(1:Int))) h2)))))
noncomputable abbrev e_ireplay_add_w2 (r:Bool×(LBBe)×LIILIBBee):AV×List AObj×List Nat:=((.t true .bool r.1),[(.box [(.all 1 2),(.all 2 3)]),(.rows 70 true t_ptt r.2.1),(.rows 32 true t_pipispiptt r.2.2)],[1,2])
noncomputable abbrev F_ireplay_add_w2 (r:Bool×(LBBe)×LIILIBBee):=some (e_ireplay_add_w2 r)
noncomputable abbrev g_ireplay_add_w2:SM_ireplay_add_w2.den→AV×List AObj×List Nat:=fun d=>e_ireplay_add_w2 (ireplay_add_w2 d.1.2.1.1 d.1.2.1.2.1 d.1.2.1.2.2.1 d.1.2.2.1 d.2.2.1 d.2.2.2.1)
noncomputable def q_ireplay_add_w2 (x1_0:Int) (x1_1:Int) (x1_2:LIBBe) (x2:LIILIBBee) (h1:LBBe) (h2:LIILIBBee):Bool:=(q_irecAt x2 x1_1)&&(cond (x1_0==(1:Int)) (cond (decide ((irecAt x2 x1_1) ≥ (0:Int))) true ((q_iisHeldKey h2 x1_2)&&(cond (iisHeldKey h2 x1_2) true ((q_iMeets h1 x1_2)&&(cond (!(iMeets h1 x1_2)) true ((q_slices_Clone_iOp x1_2)&&(decide ((h2.length+[((1:Int),(x1_1,(slices_Clone_iOp x1_2)))].length)*40≤MAXB)))))))) ((q_irecAt h2 x1_1)&&(cond (decide ((irecAt h2 x1_1)<(0:Int))) true (cond (x1_0==(2:Int)) ((decide (0≤(irecAt h2 x1_1)∧(irecAt h2 x1_1)<((h2.length:Nat):Int)))&&((q_iApply h1 (((h2.getD ((irecAt h2 x1_1).toNat) ((0:Int),((0:Int),[]))).2).2))&&(q_slices_Delete_iRec (irecAt h2 x1_1) (IntKind.wrap .i64 ((irecAt h2 x1_1)+(1:Int))) h2))) (q_slices_Delete_iRec (irecAt h2 x1_1) (IntKind.wrap .i64 ((irecAt h2 x1_1)+(1:Int))) h2)))))
noncomputable abbrev pre_ireplay_add_w2:SM_ireplay_add_w2.den→Bool:=fun d=>q_ireplay_add_w2 d.1.2.1.1 d.1.2.1.2.1 d.1.2.1.2.2.1 d.1.2.2.1 d.2.2.1 d.2.2.2.1
theorem run_ireplay_add_w2:RunE false [] [1,2] [(0,0,1,70,t_ptt)] G70 (fun _ _=>none) Try.f83 SM_ireplay_add_w2 pre_ireplay_add_w2 g_ireplay_add_w2:=by
 rintro ⟨⟨_,⟨x1_0,x1_1,x1_2,_⟩,x2,_⟩,⟨⟨_,_,_⟩,h1,h2,_⟩⟩ hp
 change q_ireplay_add_w2 x1_0 x1_1 x1_2 x2 h1 h2=true at hp
 unfold q_ireplay_add_w2 at hp
 refine Eq.trans (b:=(cond (q_irecAt x2 x1_1) (cond (x1_0==(1:Int)) (cond (decide ((irecAt x2 x1_1) ≥ (0:Int))) (some (e_ireplay_add_w2 (false,h1,h2))) (cond (q_iisHeldKey h2 x1_2) (cond (iisHeldKey h2 x1_2) (some (e_ireplay_add_w2 (false,h1,h2))) (cond (q_iMeets h1 x1_2) (cond (!(iMeets h1 x1_2)) (some (e_ireplay_add_w2 (false,h1,h2))) (cond (q_slices_Clone_iOp x1_2) (cond (decide ((h2.length+[((1:Int),(x1_1,(slices_Clone_iOp x1_2)))].length)*40≤MAXB)) (some (e_ireplay_add_w2 (true,h1,h2++[((1:Int),(x1_1,(slices_Clone_iOp x1_2)))]))) none) none)) none)) none)) (cond (q_irecAt h2 x1_1) (cond (decide ((irecAt h2 x1_1)<(0:Int))) (cond (x1_0==(3:Int)) (some (e_ireplay_add_w2 (!(decide ((irecAt x2 x1_1) ≥ (0:Int))),h1,h2))) (some (e_ireplay_add_w2 (false,h1,h2)))) (cond (x1_0==(2:Int)) (cond (decide (0≤(irecAt h2 x1_1)∧(irecAt h2 x1_1)<((h2.length:Nat):Int))) (cond (q_iApply h1 (((h2.getD ((irecAt h2 x1_1).toNat) ((0:Int),((0:Int),[]))).2).2)) (cond (q_slices_Delete_iRec (irecAt h2 x1_1) (IntKind.wrap .i64 ((irecAt h2 x1_1)+(1:Int))) h2) (some (e_ireplay_add_w2 (decide ((((iApply h1 (((h2.getD ((irecAt h2 x1_1).toNat) ((0:Int),((0:Int),[]))).2).2)).length:Nat):Int)≤(60:Int)),(iApply h1 (((h2.getD ((irecAt h2 x1_1).toNat) ((0:Int),((0:Int),[]))).2).2)),(slices_Delete_iRec (irecAt h2 x1_1) (IntKind.wrap .i64 ((irecAt h2 x1_1)+(1:Int))) h2)))) none) none) none) (cond (q_slices_Delete_iRec (irecAt h2 x1_1) (IntKind.wrap .i64 ((irecAt h2 x1_1)+(1:Int))) h2) (some (e_ireplay_add_w2 (decide (((h1.length:Nat):Int)≤(60:Int)),h1,(slices_Delete_iRec (irecAt h2 x1_1) (IntKind.wrap .i64 ((irecAt h2 x1_1)+(1:Int))) h2)))) none))) none)) none)) (by kernel_rfl) ?_
 exact (cndA hp fun hp=>(cndQ (F:=F_ireplay_add_w2) hp (fun hp=>(cndQ (F:=F_ireplay_add_w2) hp (fun hp=>rfl) (fun hp=>(cndA hp fun hp=>(cndQ (F:=F_ireplay_add_w2) hp (fun hp=>rfl) (fun hp=>(cndA hp fun hp=>(cndQ (F:=F_ireplay_add_w2) hp (fun hp=>rfl) (fun hp=>(cndA hp fun hp=>(cndT hp fun _h=>rfl))))))))))) (fun hp=>(cndA hp fun hp=>(cndQ (F:=F_ireplay_add_w2) hp (fun hp=>(cnd (F:=F_ireplay_add_w2) (fun _h=>rfl) (fun _h=>rfl))) (fun hp=>(cndQ (F:=F_ireplay_add_w2) hp (fun hp=>(cndA hp fun hp=>(cndA hp fun hp=>(cndT hp fun _h=>rfl)))) (fun hp=>(cndT hp fun _h=>rfl)))))))))
noncomputable abbrev m_ireplay_add_w2:=win winIds (msum SM_ireplay_add_w2 pre_ireplay_add_w2 g_ireplay_add_w2)
theorem c_ireplay_add_w2:MContract Try.prog 83 m_ireplay_add_w2:=(MContract.of_dataE false [] [1,2] [(0,0,1,70,t_ptt)]  G70 (by kernel_rfl) (hl0 (by kernel_rfl)) _ _ _ run_ireplay_add_w2).win winIds
noncomputable def S71:Tab:=Tab.add S70 83 (orElseS (orElseS (m_ireplay_add) (m_ireplay_add_w1)) (m_ireplay_add_w2))
noncomputable def QF71:FuncId→Bool:=QF70
theorem G71:Good Try.prog tt S71 QF71:=G70.addM (MContract.orElse (MContract.orElse c_ireplay_add c_ireplay_add_w1) c_ireplay_add_w2) (orElse_local (orElse_local (win_local _) (win_local _)) (win_local _)) ⟨Try.f83,by kernel_rfl,by kernel_rfl,by kernel_rfl⟩ (by kernel_rfl)

/-! 45 loop.example/g00244/impl.ReplayRecs -/
noncomputable abbrev jA20:List AV:=.junk::.junk::.junk::jA17
noncomputable abbrev P_iReplayRecs:List PSh:=[.t t_spipispiptt]
noncomputable abbrev S_iReplayRecs_0:SS:=⟨(.t false t_spipispiptt::.junk::.junk::.junk::.junk::.ptr 0 0 1 0::.junk::.junk::.t false t_spipispiptt::.t true (.int .i64)::.t true (.int .i64)::jS20),[.box [.all 1 2,.all 2 3],.rows 70 true t_ptt,.rows 32 true t_pipispiptt]⟩
noncomputable abbrev E_iReplayRecs_0_0:SS:=⟨(.junk::.junk::.nil::.nil::.t true .bool::jS26),[]⟩
noncomputable abbrev E_iReplayRecs_0_1:SS:=⟨(.junk::.junk::.junk::.junk::.junk::.ptr 0 0 1 0::jS25),[.box [.all 1 2,.all 2 3],.rows 70 true t_ptt,.rows 32 true t_pipispiptt]⟩
noncomputable def k1_iReplayRecs (x8:LIILIBBee) (x10:Int):=iRecOk ((x8.getD x10.toNat ((0:Int),((0:Int),[]))).1) (((x8.getD x10.toNat ((0:Int),((0:Int),[]))).2).1) (((x8.getD x10.toNat ((0:Int),((0:Int),[]))).2).2)
noncomputable def k2_iReplayRecs (x0:LIILIBBee) (x8:LIILIBBee) (x10:Int) (h1:LBBe) (h2:LIILIBBee):=ireplay_add_w2 ((x8.getD x10.toNat ((0:Int),((0:Int),[]))).1) (((x8.getD x10.toNat ((0:Int),((0:Int),[]))).2).1) (((x8.getD x10.toNat ((0:Int),((0:Int),[]))).2).2) ((x0.take x10.toNat).drop (0:Int).toNat) h1 h2
noncomputable def st_iReplayRecs_0 (x0:LIILIBBee) (x8:LIILIBBee) (x9:Int) (x10:Int) (h1:LBBe) (h2:LIILIBBee):RT S_iReplayRecs_0.den:=(.br (decide (x10<x9)) (.br (decide (0≤x10∧x10<((x8.length:Nat):Int))) (.br (q_iRecOk ((x8.getD x10.toNat ((0:Int),((0:Int),[]))).1) (((x8.getD x10.toNat ((0:Int),((0:Int),[]))).2).1) (((x8.getD x10.toNat ((0:Int),((0:Int),[]))).2).2)) (.br (!(k1_iReplayRecs x8 x10)) (.done .ret E_iReplayRecs_0_0 (((),(),(),(),false,u27),())) (.br (decide (0≤(0:Int)∧(0:Int)≤x10∧x10≤((x0.length:Nat):Int))) (.br (q_ireplay_add_w2 ((x8.getD x10.toNat ((0:Int),((0:Int),[]))).1) (((x8.getD x10.toNat ((0:Int),((0:Int),[]))).2).1) (((x8.getD x10.toNat ((0:Int),((0:Int),[]))).2).2) ((x0.take x10.toNat).drop (0:Int).toNat) h1 h2) (.br (!((k2_iReplayRecs x0 x8 x10 h1 h2).1)) (.done .ret E_iReplayRecs_0_0 (((),(),(),(),false,u27),())) (.next ((x0,(),(),(),(),(),(),(),x8,x9,IntKind.wrap .i64 (x10+(1:Int)),u21),(((),(),()),((k2_iReplayRecs x0 x8 x10 h1 h2).2.1),((k2_iReplayRecs x0 x8 x10 h1 h2).2.2),())))) .fail) .fail)) .fail) .fail) (.done (.exit 0) E_iReplayRecs_0_1 ((u32),(((),(),()),h1,h2,()))))
noncomputable abbrev V_iReplayRecs_0:=(LIILIBBee)×(LIILIBBee)×(Int)×(Int)×(LBBe)×(LIILIBBee)
noncomputable abbrev A_iReplayRecs_0:=Nat×(Bool)×(LBBe)×(LIILIBBee)
noncomputable def fl_iReplayRecs_0:A_iReplayRecs_0:=(99,(false:Bool),([]:LBBe),([]:LIILIBBee))
noncomputable def ss_iReplayRecs_0 (x0:LIILIBBee) (x8:LIILIBBee) (x9:Int) (x10:Int) (h1:LBBe) (h2:LIILIBBee):V_iReplayRecs_0 ⊕ A_iReplayRecs_0:=(cond (decide (x10<x9)) (cond (decide (0≤x10∧x10<((x8.length:Nat):Int))) (cond (q_iRecOk ((x8.getD x10.toNat ((0:Int),((0:Int),[]))).1) (((x8.getD x10.toNat ((0:Int),((0:Int),[]))).2).1) (((x8.getD x10.toNat ((0:Int),((0:Int),[]))).2).2)) (cond (!(k1_iReplayRecs x8 x10)) (.inr (0,false,([]:LBBe),([]:LIILIBBee))) (cond (decide (0≤(0:Int)∧(0:Int)≤x10∧x10≤((x0.length:Nat):Int))) (cond (q_ireplay_add_w2 ((x8.getD x10.toNat ((0:Int),((0:Int),[]))).1) (((x8.getD x10.toNat ((0:Int),((0:Int),[]))).2).1) (((x8.getD x10.toNat ((0:Int),((0:Int),[]))).2).2) ((x0.take x10.toNat).drop (0:Int).toNat) h1 h2) (cond (!((k2_iReplayRecs x0 x8 x10 h1 h2).1)) (.inr (0,false,([]:LBBe),([]:LIILIBBee))) (.inl (x0,x8,x9,IntKind.wrap .i64 (x10+(1:Int)),((k2_iReplayRecs x0 x8 x10 h1 h2).2.1),((k2_iReplayRecs x0 x8 x10 h1 h2).2.2)))) (.inr fl_iReplayRecs_0)) (.inr fl_iReplayRecs_0))) (.inr fl_iReplayRecs_0)) (.inr fl_iReplayRecs_0)) (.inr (1,(false:Bool),h1,h2)))
noncomputable def it_iReplayRecs_0 (x0:LIILIBBee) (x8:LIILIBBee) (x9:Int) (x10:Int) (h1:LBBe) (h2:LIILIBBee):A_iReplayRecs_0:=itX (fun v:V_iReplayRecs_0=>ss_iReplayRecs_0 v.1 v.2.1 v.2.2.1 v.2.2.2.1 v.2.2.2.2.1 v.2.2.2.2.2) fl_iReplayRecs_0 (x0,x8,x9,x10,h1,h2)
noncomputable def ct_iReplayRecs_0 (a:A_iReplayRecs_0):CT:=(.br (a.1==0) (.done .ret E_iReplayRecs_0_0 (((),(),(),(),a.2.1,u27),())) (.br (a.1==1) (.done (.exit 0) E_iReplayRecs_0_1 ((u32),(((),(),()),a.2.2.1,a.2.2.2,()))) .fail))
noncomputable def T_iReplayRecs_0 (x0:LIILIBBee) (x8:LIILIBBee) (x9:Int) (x10:Int) (h1:LBBe) (h2:LIILIBBee):CT:=ct_iReplayRecs_0 (it_iReplayRecs_0 x0 x8 x9 x10 h1 h2)
noncomputable abbrev sp_iReplayRecs_0:S_iReplayRecs_0.den→RT S_iReplayRecs_0.den:=fun d=>st_iReplayRecs_0 d.1.1 d.1.2.2.2.2.2.2.2.2.1 d.1.2.2.2.2.2.2.2.2.2.1 d.1.2.2.2.2.2.2.2.2.2.2.1 d.2.2.1 d.2.2.2.1
noncomputable abbrev pk_iReplayRecs_0 (x0:LIILIBBee) (x8:LIILIBBee) (x9:Int) (x10:Int) (h1:LBBe) (h2:LIILIBBee):S_iReplayRecs_0.den:=((x0,(),(),(),(),(),(),(),x8,x9,x10,u21),(((),(),()),h1,h2,()))
noncomputable def body_iReplayRecs_0:Code:=((loopsIn 0 (bodyOf Try.f45)).getD 0 (0,.skip)).2
noncomputable abbrev pv_iReplayRecs_0 (v:V_iReplayRecs_0):S_iReplayRecs_0.den:=pk_iReplayRecs_0 v.1 v.2.1 v.2.2.1 v.2.2.2.1 v.2.2.2.2.1 v.2.2.2.2.2
noncomputable def ox_iReplayRecs_0 (x0:LIILIBBee) (x8:LIILIBBee) (x9:Int) (x10:Int) (h1:LBBe) (h2:LIILIBBee):Option (Ex×St):=(cond (decide (x10<x9)) (cond (decide (0≤x10∧x10<((x8.length:Nat):Int))) (cond (q_iRecOk ((x8.getD x10.toNat ((0:Int),((0:Int),[]))).1) (((x8.getD x10.toNat ((0:Int),((0:Int),[]))).2).1) (((x8.getD x10.toNat ((0:Int),((0:Int),[]))).2).2)) (cond (!(k1_iReplayRecs x8 x10)) (some (.ret,(⟨(.junk::.junk::(.raw (.slice none 0 0))::(.raw (.slice none 0 0))::(.t true .bool false)::jA26),[],0,[]⟩:St))) (cond (decide (0≤(0:Int)∧(0:Int)≤x10∧x10≤((x0.length:Nat):Int))) (cond (q_ireplay_add_w2 ((x8.getD x10.toNat ((0:Int),((0:Int),[]))).1) (((x8.getD x10.toNat ((0:Int),((0:Int),[]))).2).1) (((x8.getD x10.toNat ((0:Int),((0:Int),[]))).2).2) ((x0.take x10.toNat).drop (0:Int).toNat) h1 h2) (cond (!((k2_iReplayRecs x0 x8 x10 h1 h2).1)) (some (.ret,(⟨(.junk::.junk::(.raw (.slice none 0 0))::(.raw (.slice none 0 0))::(.t true .bool false)::jA26),[],0,[]⟩:St))) (some (.normal,(⟨((.t false t_spipispiptt x0)::.junk::.junk::.junk::.junk::(.ptr 0 0 1 0)::.junk::.junk::(.t false t_spipispiptt x8)::(.t true (.int .i64) x9)::(.t true (.int .i64) (IntKind.wrap .i64 (x10+(1:Int))))::jA20),[(.box [(.all 1 2),(.all 2 3)]),(.rows 70 true t_ptt ((k2_iReplayRecs x0 x8 x10 h1 h2).2.1)),(.rows 32 true t_pipispiptt ((k2_iReplayRecs x0 x8 x10 h1 h2).2.2))],0,[]⟩:St)))) none) none)) none) none) (some ((.exit 0),(⟨(.junk::.junk::.junk::.junk::.junk::(.ptr 0 0 1 0)::jA25),[(.box [(.all 1 2),(.all 2 3)]),(.rows 70 true t_ptt h1),(.rows 32 true t_pipispiptt h2)],0,[]⟩:St))))
theorem rdA_iReplayRecs_0:RdA G71 (fun _ _=>none) 0 body_iReplayRecs_0 S_iReplayRecs_0 0 [] (kepts [2,3,4] [(0,[5])]) (fun d=>ox_iReplayRecs_0 d.1.1 d.1.2.2.2.2.2.2.2.2.1 d.1.2.2.2.2.2.2.2.2.2.1 d.1.2.2.2.2.2.2.2.2.2.2.1 d.2.2.1 d.2.2.2.1):=by
 intro d
 kernel_rfl
theorem rdB_iReplayRecs_0:∀ d:S_iReplayRecs_0.den,ox_iReplayRecs_0 d.1.1 d.1.2.2.2.2.2.2.2.2.1 d.1.2.2.2.2.2.2.2.2.2.1 d.1.2.2.2.2.2.2.2.2.2.2.1 d.2.2.1 d.2.2.2.1=(sp_iReplayRecs_0 d).opt 0 []:=by
 intro d
 kernel_rfl
noncomputable abbrev say_iReplayRecs_0:St→Option Tree:=S_iReplayRecs_0.say 0 [] [(2005001,32,t_pipispiptt),(2005000,70,t_ptt)] (fun d=>T_iReplayRecs_0 d.1.1 d.1.2.2.2.2.2.2.2.2.1 d.1.2.2.2.2.2.2.2.2.2.1 d.1.2.2.2.2.2.2.2.2.2.2.1 d.2.2.1 d.2.2.2.1)
theorem lw_iReplayRecs_0:LoopWp Try.prog say_iReplayRecs_0 body_iReplayRecs_0:=SS.wp2 (hl0 (by kernel_rfl)) [(2005001,32,t_pipispiptt),(2005000,70,t_ptt)] sp_iReplayRecs_0 rdA_iReplayRecs_0 rdB_iReplayRecs_0 _ (fun d=>Runs.ofIt (step:=sp_iReplayRecs_0) pv_iReplayRecs_0 (ct:=ct_iReplayRecs_0) rfl (fun v=>((relB (relB (relB (relB rfl (relB (relB (relB rfl rfl) rfl) rfl)) rfl) rfl) rfl):(st_iReplayRecs_0 v.1 v.2.1 v.2.2.1 v.2.2.2.1 v.2.2.2.2.1 v.2.2.2.2.2).val=relS pv_iReplayRecs_0 ct_iReplayRecs_0 (ss_iReplayRecs_0 v.1 v.2.1 v.2.2.1 v.2.2.2.1 v.2.2.2.2.1 v.2.2.2.2.2))) (fun a=>((cendB (cendD (by simp)) (cendB (cendD (by simp)) cendF)):CEnd _ (ct_iReplayRecs_0 a))) (d.1.1,d.1.2.2.2.2.2.2.2.2.1,d.1.2.2.2.2.2.2.2.2.2.1,d.1.2.2.2.2.2.2.2.2.2.2.1,d.2.2.1,d.2.2.2.1))
noncomputable def k3_iReplayRecs (a0:LIILIBBee):=it_iReplayRecs_0 a0 a0 ((a0.length:Nat):Int) (0:Int) ([]:LBBe) ([]:LIILIBBee)
noncomputable def iReplayRecs (a0:LIILIBBee):(LBBe)×(LIILIBBee)×Bool:=(cond ((k3_iReplayRecs a0).1==0) ([],[],((k3_iReplayRecs a0).2.1)) (((k3_iReplayRecs a0).2.2.1),((k3_iReplayRecs a0).2.2.2),true))
noncomputable abbrev e_iReplayRecs (r:(LBBe)×(LIILIBBee)×Bool):AV×List AObj:=((.tup [(.t true t_sptt r.1),(.t true t_spipispiptt r.2.1),(.t true .bool r.2.2)]),[])
noncomputable abbrev F_iReplayRecs (r:(LBBe)×(LIILIBBee)×Bool):=some (e_iReplayRecs r)
noncomputable abbrev g_iReplayRecs:pshsDen P_iReplayRecs→AV×List AObj:=fun d=>e_iReplayRecs (iReplayRecs d.1)
noncomputable def q_iReplayRecs (a0:LIILIBBee):Bool:=cond ((k3_iReplayRecs a0).1==0) true ((k3_iReplayRecs a0).1==1)
noncomputable abbrev pre_iReplayRecs:pshsDen P_iReplayRecs→Bool:=fun d=>q_iReplayRecs d.1
noncomputable abbrev L_iReplayRecs:Nat→St→Option Tree:=fun b=>match b with | 0=>say_iReplayRecs_0 | _=>fun _=>none
theorem run_iReplayRecs:RunP true G71 (L_iReplayRecs) Try.f45 P_iReplayRecs pre_iReplayRecs g_iReplayRecs:=by
 rintro ⟨a0,_⟩ hp
 change q_iReplayRecs a0=true at hp
 unfold q_iReplayRecs at hp
 refine Eq.trans (b:=(cond ((k3_iReplayRecs a0).1==0) (some (e_iReplayRecs ([],[],((k3_iReplayRecs a0).2.1)))) (cond ((k3_iReplayRecs a0).1==1) (some (e_iReplayRecs (((k3_iReplayRecs a0).2.2.1),((k3_iReplayRecs a0).2.2.2),true))) none))) (by kernel_rfl) ?_
 exact (cndQ (F:=F_iReplayRecs) hp (fun hp=>rfl) (fun hp=>(cndT hp fun _h=>rfl)))
theorem c_iReplayRecs:PContract Try.prog 45 (sumOf P_iReplayRecs pre_iReplayRecs g_iReplayRecs):=PContract.of_data true G71 (by kernel_rfl) (hl1 (i:=0) (by kernel_rfl) lw_iReplayRecs_0) _ _ _ run_iReplayRecs
noncomputable def S72:Tab:=Tab.add S71 45 (lift (sumOf P_iReplayRecs pre_iReplayRecs g_iReplayRecs))
noncomputable def QF72:FuncId→Bool:=qadd QF71 45
theorem G72:Good Try.prog tt S72 QF72:=G71.addQ c_iReplayRecs ⟨Try.f45,by kernel_rfl,by kernel_rfl,by kernel_rfl⟩ (fun _=>rfl)

/-! 46 slices.Equal[[]loop.example/g00244/impl.Pair,loop.example/g00244/impl.Pair] -/
noncomputable abbrev P_slices_Equal_iPair:List PSh:=[.t t_sptt,.t t_sptt]
noncomputable abbrev S_slices_Equal_iPair_0:SS:=⟨(.t false t_sptt::.t false t_sptt::.junk::.junk::.junk::.junk::.junk::.junk::.junk::.junk::.junk::.junk::.t true (.int .i64)::.t true (.int .i64)::jS12),[]⟩
noncomputable abbrev E_slices_Equal_iPair_0_0:SS:=⟨(.junk::.junk::.junk::.junk::.t true .bool::jS21),[]⟩
noncomputable abbrev E_slices_Equal_iPair_0_1:SS:=⟨(.junk::jS25),[]⟩
noncomputable def st_slices_Equal_iPair_0 (x0:LBBe) (x1:LBBe) (x12:Int) (x13:Int):RT S_slices_Equal_iPair_0.den:=(.br (decide (x13<x12)) (.br (decide (0≤x13∧x13<((x0.length:Nat):Int))) (.br (decide (0≤x13∧x13<((x1.length:Nat):Int))) (.br (!((((x0.getD x13.toNat (bE,bE)).1).toList==((x1.getD x13.toNat (bE,bE)).1).toList)&&((((x0.getD x13.toNat (bE,bE)).2).toList==((x1.getD x13.toNat (bE,bE)).2).toList)&&true))) (.done .ret E_slices_Equal_iPair_0_0 (((),(),(),(),false,u22),())) (.next ((x0,x1,(),(),(),(),(),(),(),(),(),(),x12,IntKind.wrap .i64 (x13+(1:Int)),u13),()))) .fail) .fail) (.done (.exit 0) E_slices_Equal_iPair_0_1 ((u27),())))
noncomputable abbrev V_slices_Equal_iPair_0:=(LBBe)×(LBBe)×(Int)×(Int)
noncomputable abbrev A_slices_Equal_iPair_0:=Nat×(Bool)
noncomputable def fl_slices_Equal_iPair_0:A_slices_Equal_iPair_0:=(99,(false:Bool))
noncomputable def ss_slices_Equal_iPair_0 (x0:LBBe) (x1:LBBe) (x12:Int) (x13:Int):V_slices_Equal_iPair_0 ⊕ A_slices_Equal_iPair_0:=(cond (decide (x13<x12)) (cond (decide (0≤x13∧x13<((x0.length:Nat):Int))) (cond (decide (0≤x13∧x13<((x1.length:Nat):Int))) (cond (!((((x0.getD x13.toNat (bE,bE)).1).toList==((x1.getD x13.toNat (bE,bE)).1).toList)&&((((x0.getD x13.toNat (bE,bE)).2).toList==((x1.getD x13.toNat (bE,bE)).2).toList)&&true))) (.inr (0,false)) (.inl (x0,x1,x12,IntKind.wrap .i64 (x13+(1:Int))))) (.inr fl_slices_Equal_iPair_0)) (.inr fl_slices_Equal_iPair_0)) (.inr (1,(false:Bool))))
noncomputable def it_slices_Equal_iPair_0 (x0:LBBe) (x1:LBBe) (x12:Int) (x13:Int):A_slices_Equal_iPair_0:=itX (fun v:V_slices_Equal_iPair_0=>ss_slices_Equal_iPair_0 v.1 v.2.1 v.2.2.1 v.2.2.2) fl_slices_Equal_iPair_0 (x0,x1,x12,x13)
noncomputable def ct_slices_Equal_iPair_0 (a:A_slices_Equal_iPair_0):CT:=(.br (a.1==0) (.done .ret E_slices_Equal_iPair_0_0 (((),(),(),(),a.2,u22),())) (.br (a.1==1) (.done (.exit 0) E_slices_Equal_iPair_0_1 ((u27),())) .fail))
noncomputable def T_slices_Equal_iPair_0 (x0:LBBe) (x1:LBBe) (x12:Int) (x13:Int):CT:=ct_slices_Equal_iPair_0 (it_slices_Equal_iPair_0 x0 x1 x12 x13)
noncomputable abbrev sp_slices_Equal_iPair_0:S_slices_Equal_iPair_0.den→RT S_slices_Equal_iPair_0.den:=fun d=>st_slices_Equal_iPair_0 d.1.1 d.1.2.1 d.1.2.2.2.2.2.2.2.2.2.2.2.2.1 d.1.2.2.2.2.2.2.2.2.2.2.2.2.2.1
noncomputable abbrev pk_slices_Equal_iPair_0 (x0:LBBe) (x1:LBBe) (x12:Int) (x13:Int):S_slices_Equal_iPair_0.den:=((x0,x1,(),(),(),(),(),(),(),(),(),(),x12,x13,u13),())
noncomputable def body_slices_Equal_iPair_0:Code:=((loopsIn 0 (bodyOf Try.f46)).getD 0 (0,.skip)).2
noncomputable abbrev pv_slices_Equal_iPair_0 (v:V_slices_Equal_iPair_0):S_slices_Equal_iPair_0.den:=pk_slices_Equal_iPair_0 v.1 v.2.1 v.2.2.1 v.2.2.2
theorem rdA_slices_Equal_iPair_0:RdA G72 (fun _ _=>none) 0 body_slices_Equal_iPair_0 S_slices_Equal_iPair_0 0 [] (kepts [4] [(0,[])]) (fun d=>(sp_slices_Equal_iPair_0 d).opt 0 []):=by
 intro d
 kernel_rfl
noncomputable abbrev say_slices_Equal_iPair_0:St→Option Tree:=S_slices_Equal_iPair_0.say 0 [] [] (fun d=>T_slices_Equal_iPair_0 d.1.1 d.1.2.1 d.1.2.2.2.2.2.2.2.2.2.2.2.2.1 d.1.2.2.2.2.2.2.2.2.2.2.2.2.2.1)
theorem lw_slices_Equal_iPair_0:LoopWp Try.prog say_slices_Equal_iPair_0 body_slices_Equal_iPair_0:=SS.wp2 (hl0 (by kernel_rfl)) [] sp_slices_Equal_iPair_0 rdA_slices_Equal_iPair_0 (fun d=>rfl) _ (fun d=>Runs.ofIt (step:=sp_slices_Equal_iPair_0) pv_slices_Equal_iPair_0 (ct:=ct_slices_Equal_iPair_0) rfl (fun v=>((relB (relB (relB (relB rfl rfl) rfl) rfl) rfl):(st_slices_Equal_iPair_0 v.1 v.2.1 v.2.2.1 v.2.2.2).val=relS pv_slices_Equal_iPair_0 ct_slices_Equal_iPair_0 (ss_slices_Equal_iPair_0 v.1 v.2.1 v.2.2.1 v.2.2.2))) (fun a=>((cendB (cendD (by simp)) (cendB (cendD (by simp)) cendF)):CEnd _ (ct_slices_Equal_iPair_0 a))) (d.1.1,d.1.2.1,d.1.2.2.2.2.2.2.2.2.2.2.2.2.1,d.1.2.2.2.2.2.2.2.2.2.2.2.2.2.1))
noncomputable def slices_Equal_iPair (a0:LBBe) (a1:LBBe):Bool:=(cond (((a0.length:Nat):Int) != ((a1.length:Nat):Int)) false (cond ((it_slices_Equal_iPair_0 a0 a1 ((a0.length:Nat):Int) (0:Int)).1==0) ((it_slices_Equal_iPair_0 a0 a1 ((a0.length:Nat):Int) (0:Int)).2) true))
noncomputable abbrev e_slices_Equal_iPair (r:Bool):AV×List AObj:=((.t true .bool r),[])
noncomputable abbrev F_slices_Equal_iPair (r:Bool):=some (e_slices_Equal_iPair r)
noncomputable abbrev g_slices_Equal_iPair:pshsDen P_slices_Equal_iPair→AV×List AObj:=fun d=>e_slices_Equal_iPair (slices_Equal_iPair d.1 d.2.1)
noncomputable def q_slices_Equal_iPair (a0:LBBe) (a1:LBBe):Bool:=cond (((a0.length:Nat):Int) != ((a1.length:Nat):Int)) true (cond ((it_slices_Equal_iPair_0 a0 a1 ((a0.length:Nat):Int) (0:Int)).1==0) true ((it_slices_Equal_iPair_0 a0 a1 ((a0.length:Nat):Int) (0:Int)).1==1))
noncomputable abbrev pre_slices_Equal_iPair:pshsDen P_slices_Equal_iPair→Bool:=fun d=>q_slices_Equal_iPair d.1 d.2.1
noncomputable abbrev L_slices_Equal_iPair:Nat→St→Option Tree:=fun b=>match b with | 0=>say_slices_Equal_iPair_0 | _=>fun _=>none
theorem run_slices_Equal_iPair:RunP true G72 (L_slices_Equal_iPair) Try.f46 P_slices_Equal_iPair pre_slices_Equal_iPair g_slices_Equal_iPair:=by
 rintro ⟨a0,⟨a1,_⟩⟩ hp
 change q_slices_Equal_iPair a0 a1=true at hp
 unfold q_slices_Equal_iPair at hp
 refine Eq.trans (b:=(cond (((a0.length:Nat):Int) != ((a1.length:Nat):Int)) (some (e_slices_Equal_iPair false)) (cond ((it_slices_Equal_iPair_0 a0 a1 ((a0.length:Nat):Int) (0:Int)).1==0) (some (e_slices_Equal_iPair ((it_slices_Equal_iPair_0 a0 a1 ((a0.length:Nat):Int) (0:Int)).2))) (cond ((it_slices_Equal_iPair_0 a0 a1 ((a0.length:Nat):Int) (0:Int)).1==1) (some (e_slices_Equal_iPair true)) none)))) (by kernel_rfl) ?_
 exact (cndQ (F:=F_slices_Equal_iPair) hp (fun hp=>rfl) (fun hp=>(cndQ (F:=F_slices_Equal_iPair) hp (fun hp=>rfl) (fun hp=>(cndT hp fun _h=>rfl)))))
theorem c_slices_Equal_iPair:PContract Try.prog 46 (sumOf P_slices_Equal_iPair pre_slices_Equal_iPair g_slices_Equal_iPair):=PContract.of_data true G72 (by kernel_rfl) (hl1 (i:=0) (by kernel_rfl) lw_slices_Equal_iPair_0) _ _ _ run_slices_Equal_iPair
noncomputable def S73:Tab:=Tab.add S72 46 (lift (sumOf P_slices_Equal_iPair pre_slices_Equal_iPair g_slices_Equal_iPair))
noncomputable def QF73:FuncId→Bool:=qadd QF72 46
theorem G73:Good Try.prog tt S73 QF73:=G72.addQ c_slices_Equal_iPair ⟨Try.f46,by kernel_rfl,by kernel_rfl,by kernel_rfl⟩ (fun _=>rfl)

/-! 84 slices.Equal[[]loop.example/g00244/impl.Op,loop.example/g00244/impl.Op] -/
noncomputable abbrev P_slices_Equal_iOp:List PSh:=[.t t_spiptt,.t t_spiptt]
noncomputable abbrev S_slices_Equal_iOp_0:SS:=⟨(.t false t_spiptt::.t false t_spiptt::.junk::.junk::.junk::.junk::.junk::.junk::.junk::.junk::.junk::.junk::.t true (.int .i64)::.t true (.int .i64)::jS12),[]⟩
noncomputable abbrev E_slices_Equal_iOp_0_0:SS:=⟨(.junk::.junk::.junk::.junk::.t true .bool::jS21),[]⟩
noncomputable abbrev E_slices_Equal_iOp_0_1:SS:=⟨(.junk::jS25),[]⟩
noncomputable def st_slices_Equal_iOp_0 (x0:LIBBe) (x1:LIBBe) (x12:Int) (x13:Int):RT S_slices_Equal_iOp_0.den:=(.br (decide (x13<x12)) (.br (decide (0≤x13∧x13<((x0.length:Nat):Int))) (.br (decide (0≤x13∧x13<((x1.length:Nat):Int))) (.br (!((((x0.getD x13.toNat ((0:Int),(bE,bE))).1)==((x1.getD x13.toNat ((0:Int),(bE,bE))).1))&&(((((x0.getD x13.toNat ((0:Int),(bE,bE))).2).1).toList==(((x1.getD x13.toNat ((0:Int),(bE,bE))).2).1).toList)&&(((((x0.getD x13.toNat ((0:Int),(bE,bE))).2).2).toList==(((x1.getD x13.toNat ((0:Int),(bE,bE))).2).2).toList)&&true)))) (.done .ret E_slices_Equal_iOp_0_0 (((),(),(),(),false,u22),())) (.next ((x0,x1,(),(),(),(),(),(),(),(),(),(),x12,IntKind.wrap .i64 (x13+(1:Int)),u13),()))) .fail) .fail) (.done (.exit 0) E_slices_Equal_iOp_0_1 ((u27),())))
noncomputable abbrev V_slices_Equal_iOp_0:=(LIBBe)×(LIBBe)×(Int)×(Int)
noncomputable abbrev A_slices_Equal_iOp_0:=Nat×(Bool)
noncomputable def fl_slices_Equal_iOp_0:A_slices_Equal_iOp_0:=(99,(false:Bool))
noncomputable def ss_slices_Equal_iOp_0 (x0:LIBBe) (x1:LIBBe) (x12:Int) (x13:Int):V_slices_Equal_iOp_0 ⊕ A_slices_Equal_iOp_0:=(cond (decide (x13<x12)) (cond (decide (0≤x13∧x13<((x0.length:Nat):Int))) (cond (decide (0≤x13∧x13<((x1.length:Nat):Int))) (cond (!((((x0.getD x13.toNat ((0:Int),(bE,bE))).1)==((x1.getD x13.toNat ((0:Int),(bE,bE))).1))&&(((((x0.getD x13.toNat ((0:Int),(bE,bE))).2).1).toList==(((x1.getD x13.toNat ((0:Int),(bE,bE))).2).1).toList)&&(((((x0.getD x13.toNat ((0:Int),(bE,bE))).2).2).toList==(((x1.getD x13.toNat ((0:Int),(bE,bE))).2).2).toList)&&true)))) (.inr (0,false)) (.inl (x0,x1,x12,IntKind.wrap .i64 (x13+(1:Int))))) (.inr fl_slices_Equal_iOp_0)) (.inr fl_slices_Equal_iOp_0)) (.inr (1,(false:Bool))))
noncomputable def it_slices_Equal_iOp_0 (x0:LIBBe) (x1:LIBBe) (x12:Int) (x13:Int):A_slices_Equal_iOp_0:=itX (fun v:V_slices_Equal_iOp_0=>ss_slices_Equal_iOp_0 v.1 v.2.1 v.2.2.1 v.2.2.2) fl_slices_Equal_iOp_0 (x0,x1,x12,x13)
noncomputable def ct_slices_Equal_iOp_0 (a:A_slices_Equal_iOp_0):CT:=(.br (a.1==0) (.done .ret E_slices_Equal_iOp_0_0 (((),(),(),(),a.2,u22),())) (.br (a.1==1) (.done (.exit 0) E_slices_Equal_iOp_0_1 ((u27),())) .fail))
noncomputable def T_slices_Equal_iOp_0 (x0:LIBBe) (x1:LIBBe) (x12:Int) (x13:Int):CT:=ct_slices_Equal_iOp_0 (it_slices_Equal_iOp_0 x0 x1 x12 x13)
noncomputable abbrev sp_slices_Equal_iOp_0:S_slices_Equal_iOp_0.den→RT S_slices_Equal_iOp_0.den:=fun d=>st_slices_Equal_iOp_0 d.1.1 d.1.2.1 d.1.2.2.2.2.2.2.2.2.2.2.2.2.1 d.1.2.2.2.2.2.2.2.2.2.2.2.2.2.1
noncomputable abbrev pk_slices_Equal_iOp_0 (x0:LIBBe) (x1:LIBBe) (x12:Int) (x13:Int):S_slices_Equal_iOp_0.den:=((x0,x1,(),(),(),(),(),(),(),(),(),(),x12,x13,u13),())
noncomputable def body_slices_Equal_iOp_0:Code:=((loopsIn 0 (bodyOf Try.f84)).getD 0 (0,.skip)).2
noncomputable abbrev pv_slices_Equal_iOp_0 (v:V_slices_Equal_iOp_0):S_slices_Equal_iOp_0.den:=pk_slices_Equal_iOp_0 v.1 v.2.1 v.2.2.1 v.2.2.2
theorem rdA_slices_Equal_iOp_0:RdA G73 (fun _ _=>none) 0 body_slices_Equal_iOp_0 S_slices_Equal_iOp_0 0 [] (kepts [4] [(0,[])]) (fun d=>(sp_slices_Equal_iOp_0 d).opt 0 []):=by
 intro d
 kernel_rfl
noncomputable abbrev say_slices_Equal_iOp_0:St→Option Tree:=S_slices_Equal_iOp_0.say 0 [] [] (fun d=>T_slices_Equal_iOp_0 d.1.1 d.1.2.1 d.1.2.2.2.2.2.2.2.2.2.2.2.2.1 d.1.2.2.2.2.2.2.2.2.2.2.2.2.2.1)
theorem lw_slices_Equal_iOp_0:LoopWp Try.prog say_slices_Equal_iOp_0 body_slices_Equal_iOp_0:=SS.wp2 (hl0 (by kernel_rfl)) [] sp_slices_Equal_iOp_0 rdA_slices_Equal_iOp_0 (fun d=>rfl) _ (fun d=>Runs.ofIt (step:=sp_slices_Equal_iOp_0) pv_slices_Equal_iOp_0 (ct:=ct_slices_Equal_iOp_0) rfl (fun v=>((relB (relB (relB (relB rfl rfl) rfl) rfl) rfl):(st_slices_Equal_iOp_0 v.1 v.2.1 v.2.2.1 v.2.2.2).val=relS pv_slices_Equal_iOp_0 ct_slices_Equal_iOp_0 (ss_slices_Equal_iOp_0 v.1 v.2.1 v.2.2.1 v.2.2.2))) (fun a=>((cendB (cendD (by simp)) (cendB (cendD (by simp)) cendF)):CEnd _ (ct_slices_Equal_iOp_0 a))) (d.1.1,d.1.2.1,d.1.2.2.2.2.2.2.2.2.2.2.2.2.1,d.1.2.2.2.2.2.2.2.2.2.2.2.2.2.1))
noncomputable def slices_Equal_iOp (a0:LIBBe) (a1:LIBBe):Bool:=(cond (((a0.length:Nat):Int) != ((a1.length:Nat):Int)) false (cond ((it_slices_Equal_iOp_0 a0 a1 ((a0.length:Nat):Int) (0:Int)).1==0) ((it_slices_Equal_iOp_0 a0 a1 ((a0.length:Nat):Int) (0:Int)).2) true))
noncomputable abbrev e_slices_Equal_iOp (r:Bool):AV×List AObj:=((.t true .bool r),[])
noncomputable abbrev F_slices_Equal_iOp (r:Bool):=some (e_slices_Equal_iOp r)
noncomputable abbrev g_slices_Equal_iOp:pshsDen P_slices_Equal_iOp→AV×List AObj:=fun d=>e_slices_Equal_iOp (slices_Equal_iOp d.1 d.2.1)
noncomputable def q_slices_Equal_iOp (a0:LIBBe) (a1:LIBBe):Bool:=cond (((a0.length:Nat):Int) != ((a1.length:Nat):Int)) true (cond ((it_slices_Equal_iOp_0 a0 a1 ((a0.length:Nat):Int) (0:Int)).1==0) true ((it_slices_Equal_iOp_0 a0 a1 ((a0.length:Nat):Int) (0:Int)).1==1))
noncomputable abbrev pre_slices_Equal_iOp:pshsDen P_slices_Equal_iOp→Bool:=fun d=>q_slices_Equal_iOp d.1 d.2.1
noncomputable abbrev L_slices_Equal_iOp:Nat→St→Option Tree:=fun b=>match b with | 0=>say_slices_Equal_iOp_0 | _=>fun _=>none
theorem run_slices_Equal_iOp:RunP true G73 (L_slices_Equal_iOp) Try.f84 P_slices_Equal_iOp pre_slices_Equal_iOp g_slices_Equal_iOp:=by
 rintro ⟨a0,⟨a1,_⟩⟩ hp
 change q_slices_Equal_iOp a0 a1=true at hp
 unfold q_slices_Equal_iOp at hp
 refine Eq.trans (b:=(cond (((a0.length:Nat):Int) != ((a1.length:Nat):Int)) (some (e_slices_Equal_iOp false)) (cond ((it_slices_Equal_iOp_0 a0 a1 ((a0.length:Nat):Int) (0:Int)).1==0) (some (e_slices_Equal_iOp ((it_slices_Equal_iOp_0 a0 a1 ((a0.length:Nat):Int) (0:Int)).2))) (cond ((it_slices_Equal_iOp_0 a0 a1 ((a0.length:Nat):Int) (0:Int)).1==1) (some (e_slices_Equal_iOp true)) none)))) (by kernel_rfl) ?_
 exact (cndQ (F:=F_slices_Equal_iOp) hp (fun hp=>rfl) (fun hp=>(cndQ (F:=F_slices_Equal_iOp) hp (fun hp=>rfl) (fun hp=>(cndT hp fun _h=>rfl)))))
theorem c_slices_Equal_iOp:PContract Try.prog 84 (sumOf P_slices_Equal_iOp pre_slices_Equal_iOp g_slices_Equal_iOp):=PContract.of_data true G73 (by kernel_rfl) (hl1 (i:=0) (by kernel_rfl) lw_slices_Equal_iOp_0) _ _ _ run_slices_Equal_iOp
noncomputable def S74:Tab:=Tab.add S73 84 (lift (sumOf P_slices_Equal_iOp pre_slices_Equal_iOp g_slices_Equal_iOp))
noncomputable def QF74:FuncId→Bool:=qadd QF73 84
theorem G74:Good Try.prog tt S74 QF74:=G73.addQ c_slices_Equal_iOp ⟨Try.f84,by kernel_rfl,by kernel_rfl,by kernel_rfl⟩ (fun _=>rfl)

/-! 48 loop.example/g00244/impl.sameRec -/
noncomputable abbrev P_isameRec:List PSh:=[.agg [(.int .i64),(.int .i64),t_spiptt],.agg [(.int .i64),(.int .i64),t_spiptt]]
noncomputable def isameRec (a0:Int) (a1:Int) (a2:LIBBe) (a3:Int) (a4:Int) (a5:LIBBe):Bool:=(cond (a0==a3) (cond (a1==a4) (slices_Equal_iOp a2 a5) false) false)
noncomputable abbrev e_isameRec (r:Bool):AV×List AObj:=((.t true .bool r),[])
noncomputable abbrev F_isameRec (r:Bool):=some (e_isameRec r)
noncomputable abbrev g_isameRec:pshsDen P_isameRec→AV×List AObj:=fun d=>e_isameRec (isameRec d.1.1 d.1.2.1 d.1.2.2.1 d.2.1.1 d.2.1.2.1 d.2.1.2.2.1)
noncomputable def q_isameRec (a0:Int) (a1:Int) (a2:LIBBe) (a3:Int) (a4:Int) (a5:LIBBe):Bool:=cond (a0==a3) (cond (a1==a4) (q_slices_Equal_iOp a2 a5) true) true
noncomputable abbrev pre_isameRec:pshsDen P_isameRec→Bool:=fun d=>q_isameRec d.1.1 d.1.2.1 d.1.2.2.1 d.2.1.1 d.2.1.2.1 d.2.1.2.2.1
theorem run_isameRec:RunP true G74 (fun _ _=>none) Try.f48 P_isameRec pre_isameRec g_isameRec:=by
 rintro ⟨⟨a0,⟨a1,⟨a2,_⟩⟩⟩,⟨⟨a3,⟨a4,⟨a5,_⟩⟩⟩,_⟩⟩ hp
 change q_isameRec a0 a1 a2 a3 a4 a5=true at hp
 unfold q_isameRec at hp
 refine Eq.trans (b:=(cond (a0==a3) (cond (a1==a4) (cond (q_slices_Equal_iOp a2 a5) (some (e_isameRec (slices_Equal_iOp a2 a5))) none) (some (e_isameRec false))) (some (e_isameRec false)))) (by kernel_rfl) ?_
 exact (cndQ (F:=F_isameRec) hp (fun hp=>(cndQ (F:=F_isameRec) hp (fun hp=>(cndT hp fun _h=>rfl)) (fun hp=>rfl))) (fun hp=>rfl))
theorem c_isameRec:PContract Try.prog 48 (sumOf P_isameRec pre_isameRec g_isameRec):=PContract.of_data true G74 (by kernel_rfl) (hl0 (by kernel_rfl)) _ _ _ run_isameRec
noncomputable def S75:Tab:=Tab.add S74 48 (lift (sumOf P_isameRec pre_isameRec g_isameRec))
noncomputable def QF75:FuncId→Bool:=qadd QF74 48
theorem G75:Good Try.prog tt S75 QF75:=G74.addQ c_isameRec ⟨Try.f48,by kernel_rfl,by kernel_rfl,by kernel_rfl⟩ (fun _=>rfl)

/-! 47 slices.EqualFunc[[]loop.example/g00244/impl.Rec,[]loop.example/g00244/impl.Rec,loop.example/g00244/impl.Rec,loop.example/g00244/impl.Rec] -/
noncomputable abbrev jA14:List AV:=.junk::.junk::.junk::jA11
noncomputable abbrev SM_slices_EqualFunc_iReciRec_iRec_iRec_:SS:=⟨[.t false t_spipispiptt,.t false t_spipispiptt,.fn 48 []],[]⟩
noncomputable abbrev S_slices_EqualFunc_iReciRec_iRec_iRec__0:SS:=⟨(.junk::.t false t_spipispiptt::.fn 48 []::.junk::.junk::.junk::.junk::.junk::.junk::.junk::.junk::.junk::.junk::.junk::.junk::.t false t_spipispiptt::.t true (.int .i64)::.t true (.int .i64)::jS14),[]⟩
noncomputable abbrev E_slices_EqualFunc_iReciRec_iRec_iRec__0_0:SS:=⟨(.junk::.junk::.junk::.junk::.junk::.junk::.t true .bool::jS25),[]⟩
noncomputable abbrev E_slices_EqualFunc_iReciRec_iRec_iRec__0_1:SS:=⟨(.junk::jS31),[]⟩
noncomputable def k1_slices_EqualFunc_iReciRec_iRec_iRec_ (x1:LIILIBBee) (x15:LIILIBBee) (x17:Int):=isameRec ((x15.getD x17.toNat ((0:Int),((0:Int),[]))).1) (((x15.getD x17.toNat ((0:Int),((0:Int),[]))).2).1) (((x15.getD x17.toNat ((0:Int),((0:Int),[]))).2).2) ((x1.getD x17.toNat ((0:Int),((0:Int),[]))).1) (((x1.getD x17.toNat ((0:Int),((0:Int),[]))).2).1) (((x1.getD x17.toNat ((0:Int),((0:Int),[]))).2).2)
noncomputable def st_slices_EqualFunc_iReciRec_iRec_iRec__0 (x1:LIILIBBee) (x15:LIILIBBee) (x16:Int) (x17:Int):RT S_slices_EqualFunc_iReciRec_iRec_iRec__0.den:=(.br (decide (x17<x16)) (.br (decide (0≤x17∧x17<((x15.length:Nat):Int))) (.br (decide (0≤x17∧x17<((x1.length:Nat):Int))) (.br (q_isameRec ((x15.getD x17.toNat ((0:Int),((0:Int),[]))).1) (((x15.getD x17.toNat ((0:Int),((0:Int),[]))).2).1) (((x15.getD x17.toNat ((0:Int),((0:Int),[]))).2).2) ((x1.getD x17.toNat ((0:Int),((0:Int),[]))).1) (((x1.getD x17.toNat ((0:Int),((0:Int),[]))).2).1) (((x1.getD x17.toNat ((0:Int),((0:Int),[]))).2).2)) (.br (!(k1_slices_EqualFunc_iReciRec_iRec_iRec_ x1 x15 x17)) (.done .ret E_slices_EqualFunc_iReciRec_iRec_iRec__0_0 (((),(),(),(),(),(),false,u26),())) (.next (((),x1,(),(),(),(),(),(),(),(),(),(),(),(),(),x15,x16,IntKind.wrap .i64 (x17+(1:Int)),u15),()))) .fail) .fail) .fail) (.done (.exit 0) E_slices_EqualFunc_iReciRec_iRec_iRec__0_1 ((u33),())))
noncomputable abbrev V_slices_EqualFunc_iReciRec_iRec_iRec__0:=(LIILIBBee)×(LIILIBBee)×(Int)×(Int)
noncomputable abbrev A_slices_EqualFunc_iReciRec_iRec_iRec__0:=Nat×(Bool)
noncomputable def fl_slices_EqualFunc_iReciRec_iRec_iRec__0:A_slices_EqualFunc_iReciRec_iRec_iRec__0:=(99,(false:Bool))
noncomputable def ss_slices_EqualFunc_iReciRec_iRec_iRec__0 (x1:LIILIBBee) (x15:LIILIBBee) (x16:Int) (x17:Int):V_slices_EqualFunc_iReciRec_iRec_iRec__0 ⊕ A_slices_EqualFunc_iReciRec_iRec_iRec__0:=(cond (decide (x17<x16)) (cond (decide (0≤x17∧x17<((x15.length:Nat):Int))) (cond (decide (0≤x17∧x17<((x1.length:Nat):Int))) (cond (q_isameRec ((x15.getD x17.toNat ((0:Int),((0:Int),[]))).1) (((x15.getD x17.toNat ((0:Int),((0:Int),[]))).2).1) (((x15.getD x17.toNat ((0:Int),((0:Int),[]))).2).2) ((x1.getD x17.toNat ((0:Int),((0:Int),[]))).1) (((x1.getD x17.toNat ((0:Int),((0:Int),[]))).2).1) (((x1.getD x17.toNat ((0:Int),((0:Int),[]))).2).2)) (cond (!(k1_slices_EqualFunc_iReciRec_iRec_iRec_ x1 x15 x17)) (.inr (0,false)) (.inl (x1,x15,x16,IntKind.wrap .i64 (x17+(1:Int))))) (.inr fl_slices_EqualFunc_iReciRec_iRec_iRec__0)) (.inr fl_slices_EqualFunc_iReciRec_iRec_iRec__0)) (.inr fl_slices_EqualFunc_iReciRec_iRec_iRec__0)) (.inr (1,(false:Bool))))
noncomputable def it_slices_EqualFunc_iReciRec_iRec_iRec__0 (x1:LIILIBBee) (x15:LIILIBBee) (x16:Int) (x17:Int):A_slices_EqualFunc_iReciRec_iRec_iRec__0:=itX (fun v:V_slices_EqualFunc_iReciRec_iRec_iRec__0=>ss_slices_EqualFunc_iReciRec_iRec_iRec__0 v.1 v.2.1 v.2.2.1 v.2.2.2) fl_slices_EqualFunc_iReciRec_iRec_iRec__0 (x1,x15,x16,x17)
noncomputable def ct_slices_EqualFunc_iReciRec_iRec_iRec__0 (a:A_slices_EqualFunc_iReciRec_iRec_iRec__0):CT:=(.br (a.1==0) (.done .ret E_slices_EqualFunc_iReciRec_iRec_iRec__0_0 (((),(),(),(),(),(),a.2,u26),())) (.br (a.1==1) (.done (.exit 0) E_slices_EqualFunc_iReciRec_iRec_iRec__0_1 ((u33),())) .fail))
noncomputable def T_slices_EqualFunc_iReciRec_iRec_iRec__0 (x1:LIILIBBee) (x15:LIILIBBee) (x16:Int) (x17:Int):CT:=ct_slices_EqualFunc_iReciRec_iRec_iRec__0 (it_slices_EqualFunc_iReciRec_iRec_iRec__0 x1 x15 x16 x17)
noncomputable abbrev sp_slices_EqualFunc_iReciRec_iRec_iRec__0:S_slices_EqualFunc_iReciRec_iRec_iRec__0.den→RT S_slices_EqualFunc_iReciRec_iRec_iRec__0.den:=fun d=>st_slices_EqualFunc_iReciRec_iRec_iRec__0 d.1.2.1 d.1.2.2.2.2.2.2.2.2.2.2.2.2.2.2.2.1 d.1.2.2.2.2.2.2.2.2.2.2.2.2.2.2.2.2.1 d.1.2.2.2.2.2.2.2.2.2.2.2.2.2.2.2.2.2.1
noncomputable abbrev pk_slices_EqualFunc_iReciRec_iRec_iRec__0 (x1:LIILIBBee) (x15:LIILIBBee) (x16:Int) (x17:Int):S_slices_EqualFunc_iReciRec_iRec_iRec__0.den:=(((),x1,(),(),(),(),(),(),(),(),(),(),(),(),(),x15,x16,x17,u15),())
noncomputable def body_slices_EqualFunc_iReciRec_iRec_iRec__0:Code:=((loopsIn 0 (bodyOf Try.f47)).getD 0 (0,.skip)).2
noncomputable abbrev pv_slices_EqualFunc_iReciRec_iRec_iRec__0 (v:V_slices_EqualFunc_iReciRec_iRec_iRec__0):S_slices_EqualFunc_iReciRec_iRec_iRec__0.den:=pk_slices_EqualFunc_iReciRec_iRec_iRec__0 v.1 v.2.1 v.2.2.1 v.2.2.2
noncomputable def ox_slices_EqualFunc_iReciRec_iRec_iRec__0 (x1:LIILIBBee) (x15:LIILIBBee) (x16:Int) (x17:Int):Option (Ex×St):=(cond (decide (x17<x16)) (cond (decide (0≤x17∧x17<((x15.length:Nat):Int))) (cond (decide (0≤x17∧x17<((x1.length:Nat):Int))) (cond (q_isameRec ((x15.getD x17.toNat ((0:Int),((0:Int),[]))).1) (((x15.getD x17.toNat ((0:Int),((0:Int),[]))).2).1) (((x15.getD x17.toNat ((0:Int),((0:Int),[]))).2).2) ((x1.getD x17.toNat ((0:Int),((0:Int),[]))).1) (((x1.getD x17.toNat ((0:Int),((0:Int),[]))).2).1) (((x1.getD x17.toNat ((0:Int),((0:Int),[]))).2).2)) (cond (!(k1_slices_EqualFunc_iReciRec_iRec_iRec_ x1 x15 x17)) (some (.ret,(⟨(.junk::.junk::.junk::.junk::.junk::.junk::(.t true .bool false)::jA25),[],0,[]⟩:St))) (some (.normal,(⟨(.junk::(.t false t_spipispiptt x1)::(.fn 48 [])::.junk::.junk::.junk::.junk::.junk::.junk::.junk::.junk::.junk::.junk::.junk::.junk::(.t false t_spipispiptt x15)::(.t true (.int .i64) x16)::(.t true (.int .i64) (IntKind.wrap .i64 (x17+(1:Int))))::jA14),[],0,[]⟩:St)))) none) none) none) (some ((.exit 0),(⟨(.junk::jA31),[],0,[]⟩:St))))
theorem rdA_slices_EqualFunc_iReciRec_iRec_iRec__0:RdA G75 (fun _ _=>none) 0 body_slices_EqualFunc_iReciRec_iRec_iRec__0 S_slices_EqualFunc_iReciRec_iRec_iRec__0 0 [] (kepts [6] [(0,[])]) (fun d=>ox_slices_EqualFunc_iReciRec_iRec_iRec__0 d.1.2.1 d.1.2.2.2.2.2.2.2.2.2.2.2.2.2.2.2.1 d.1.2.2.2.2.2.2.2.2.2.2.2.2.2.2.2.2.1 d.1.2.2.2.2.2.2.2.2.2.2.2.2.2.2.2.2.2.1):=by
 intro d
 kernel_rfl
theorem rdB_slices_EqualFunc_iReciRec_iRec_iRec__0:∀ d:S_slices_EqualFunc_iReciRec_iRec_iRec__0.den,ox_slices_EqualFunc_iReciRec_iRec_iRec__0 d.1.2.1 d.1.2.2.2.2.2.2.2.2.2.2.2.2.2.2.2.1 d.1.2.2.2.2.2.2.2.2.2.2.2.2.2.2.2.2.1 d.1.2.2.2.2.2.2.2.2.2.2.2.2.2.2.2.2.2.1=(sp_slices_EqualFunc_iReciRec_iRec_iRec__0 d).opt 0 []:=by
 intro d
 kernel_rfl
noncomputable abbrev say_slices_EqualFunc_iReciRec_iRec_iRec__0:St→Option Tree:=S_slices_EqualFunc_iReciRec_iRec_iRec__0.say 0 [] [] (fun d=>T_slices_EqualFunc_iReciRec_iRec_iRec__0 d.1.2.1 d.1.2.2.2.2.2.2.2.2.2.2.2.2.2.2.2.1 d.1.2.2.2.2.2.2.2.2.2.2.2.2.2.2.2.2.1 d.1.2.2.2.2.2.2.2.2.2.2.2.2.2.2.2.2.2.1)
theorem lw_slices_EqualFunc_iReciRec_iRec_iRec__0:LoopWp Try.prog say_slices_EqualFunc_iReciRec_iRec_iRec__0 body_slices_EqualFunc_iReciRec_iRec_iRec__0:=SS.wp2 (hl0 (by kernel_rfl)) [] sp_slices_EqualFunc_iReciRec_iRec_iRec__0 rdA_slices_EqualFunc_iReciRec_iRec_iRec__0 rdB_slices_EqualFunc_iReciRec_iRec_iRec__0 _ (fun d=>Runs.ofIt (step:=sp_slices_EqualFunc_iReciRec_iRec_iRec__0) pv_slices_EqualFunc_iReciRec_iRec_iRec__0 (ct:=ct_slices_EqualFunc_iReciRec_iRec_iRec__0) rfl (fun v=>((relB (relB (relB (relB (relB rfl rfl) rfl) rfl) rfl) rfl):(st_slices_EqualFunc_iReciRec_iRec_iRec__0 v.1 v.2.1 v.2.2.1 v.2.2.2).val=relS pv_slices_EqualFunc_iReciRec_iRec_iRec__0 ct_slices_EqualFunc_iReciRec_iRec_iRec__0 (ss_slices_EqualFunc_iReciRec_iRec_iRec__0 v.1 v.2.1 v.2.2.1 v.2.2.2))) (fun a=>((cendB (cendD (by simp)) (cendB (cendD (by simp)) cendF)):CEnd _ (ct_slices_EqualFunc_iReciRec_iRec_iRec__0 a))) (d.1.2.1,d.1.2.2.2.2.2.2.2.2.2.2.2.2.2.2.2.1,d.1.2.2.2.2.2.2.2.2.2.2.2.2.2.2.2.2.1,d.1.2.2.2.2.2.2.2.2.2.2.2.2.2.2.2.2.2.1))
noncomputable def slices_EqualFunc_iReciRec_iRec_iRec_ (x0:LIILIBBee) (x1:LIILIBBee):Bool:=(cond (((x0.length:Nat):Int) != ((x1.length:Nat):Int)) false (cond ((it_slices_EqualFunc_iReciRec_iRec_iRec__0 x1 x0 ((x0.length:Nat):Int) (0:Int)).1==0) ((it_slices_EqualFunc_iReciRec_iRec_iRec__0 x1 x0 ((x0.length:Nat):Int) (0:Int)).2) true))
noncomputable abbrev e_slices_EqualFunc_iReciRec_iRec_iRec_ (r:Bool):AV×List AObj×List Nat:=((.t true .bool r),[],[])
noncomputable abbrev F_slices_EqualFunc_iReciRec_iRec_iRec_ (r:Bool):=some (e_slices_EqualFunc_iReciRec_iRec_iRec_ r)
noncomputable abbrev g_slices_EqualFunc_iReciRec_iRec_iRec_:SM_slices_EqualFunc_iReciRec_iRec_iRec_.den→AV×List AObj×List Nat:=fun d=>e_slices_EqualFunc_iReciRec_iRec_iRec_ (slices_EqualFunc_iReciRec_iRec_iRec_ d.1.1 d.1.2.1)
noncomputable def q_slices_EqualFunc_iReciRec_iRec_iRec_ (x0:LIILIBBee) (x1:LIILIBBee):Bool:=cond (((x0.length:Nat):Int) != ((x1.length:Nat):Int)) true (cond ((it_slices_EqualFunc_iReciRec_iRec_iRec__0 x1 x0 ((x0.length:Nat):Int) (0:Int)).1==0) true ((it_slices_EqualFunc_iReciRec_iRec_iRec__0 x1 x0 ((x0.length:Nat):Int) (0:Int)).1==1))
noncomputable abbrev pre_slices_EqualFunc_iReciRec_iRec_iRec_:SM_slices_EqualFunc_iReciRec_iRec_iRec_.den→Bool:=fun d=>q_slices_EqualFunc_iReciRec_iRec_iRec_ d.1.1 d.1.2.1
noncomputable abbrev L_slices_EqualFunc_iReciRec_iRec_iRec_:Nat→St→Option Tree:=fun b=>match b with | 0=>say_slices_EqualFunc_iReciRec_iRec_iRec__0 | _=>fun _=>none
theorem run_slices_EqualFunc_iReciRec_iRec_iRec_:RunM G75 (L_slices_EqualFunc_iReciRec_iRec_iRec_) Try.f47 SM_slices_EqualFunc_iReciRec_iRec_iRec_ pre_slices_EqualFunc_iReciRec_iRec_iRec_ g_slices_EqualFunc_iReciRec_iRec_iRec_:=by
 rintro ⟨⟨x0,x1,_,_⟩,_⟩ hp
 change q_slices_EqualFunc_iReciRec_iRec_iRec_ x0 x1=true at hp
 unfold q_slices_EqualFunc_iReciRec_iRec_iRec_ at hp
 refine Eq.trans (b:=(cond (((x0.length:Nat):Int) != ((x1.length:Nat):Int)) (some (e_slices_EqualFunc_iReciRec_iRec_iRec_ false)) (cond ((it_slices_EqualFunc_iReciRec_iRec_iRec__0 x1 x0 ((x0.length:Nat):Int) (0:Int)).1==0) (some (e_slices_EqualFunc_iReciRec_iRec_iRec_ ((it_slices_EqualFunc_iReciRec_iRec_iRec__0 x1 x0 ((x0.length:Nat):Int) (0:Int)).2))) (cond ((it_slices_EqualFunc_iReciRec_iRec_iRec__0 x1 x0 ((x0.length:Nat):Int) (0:Int)).1==1) (some (e_slices_EqualFunc_iReciRec_iRec_iRec_ true)) none)))) (by kernel_rfl) ?_
 exact (cndQ (F:=F_slices_EqualFunc_iReciRec_iRec_iRec_) hp (fun hp=>rfl) (fun hp=>(cndQ (F:=F_slices_EqualFunc_iReciRec_iRec_iRec_) hp (fun hp=>rfl) (fun hp=>(cndT hp fun _h=>rfl)))))
noncomputable abbrev m_slices_EqualFunc_iReciRec_iRec_iRec_:=winQ (msum SM_slices_EqualFunc_iReciRec_iRec_iRec_ pre_slices_EqualFunc_iReciRec_iRec_iRec_ g_slices_EqualFunc_iReciRec_iRec_iRec_)
theorem c_slices_EqualFunc_iReciRec_iRec_iRec_:MContract Try.prog 47 m_slices_EqualFunc_iReciRec_iRec_iRec_:=(MContract.of_data G75 (by kernel_rfl) (hl1 (i:=0) (by kernel_rfl) lw_slices_EqualFunc_iReciRec_iRec_iRec__0) _ _ _ run_slices_EqualFunc_iReciRec_iRec_iRec_).winQ (msum_quiet fun d=>⟨rfl,rfl⟩)
noncomputable def S76:Tab:=Tab.add S75 47 (m_slices_EqualFunc_iReciRec_iRec_iRec_)
noncomputable def QF76:FuncId→Bool:=qadd QF75 47
theorem G76:Good Try.prog tt S76 QF76:=G75.addMQ c_slices_EqualFunc_iReciRec_iRec_iRec_ (winQ_local _) ⟨Try.f47,by kernel_rfl,by kernel_rfl,by kernel_rfl⟩ (winQ_quiet _)

/-! 17 loop.example/g00244/impl.ShardOk -/
noncomputable abbrev P_iShardOk:List PSh:=[.agg [(.int .i64),t_spipispiptt,(.int .i64),t_sptt,t_spipispiptt]]
noncomputable def iShardOk (a0:Int) (a1:LIILIBBee) (a2:Int) (a3:LBBe) (a4:LIILIBBee):Bool:=(cond (!(iisId a0)) false (cond (!(iinRange a2 (0:Int) ((a1.length:Nat):Int))) false (cond (decide ((IntKind.wrap .i64 (((a1.length:Nat):Int)+((a4.length:Nat):Int))) > (300:Int))) false (cond ((iReplayRecs a1).2.2) (cond (slices_Equal_iPair ((iReplayRecs a1).1) a3) (slices_EqualFunc_iReciRec_iRec_iRec_ ((iReplayRecs a1).2.1) a4) false) false))))
noncomputable abbrev e_iShardOk (r:Bool):AV×List AObj:=((.t true .bool r),[])
noncomputable abbrev F_iShardOk (r:Bool):=some (e_iShardOk r)
noncomputable abbrev g_iShardOk:pshsDen P_iShardOk→AV×List AObj:=fun d=>e_iShardOk (iShardOk d.1.1 d.1.2.1 d.1.2.2.1 d.1.2.2.2.1 d.1.2.2.2.2.1)
noncomputable def q_iShardOk (a0:Int) (a1:LIILIBBee) (a2:Int) (a3:LBBe) (a4:LIILIBBee):Bool:=cond (!(iisId a0)) true (cond (!(iinRange a2 (0:Int) ((a1.length:Nat):Int))) true (cond (decide ((IntKind.wrap .i64 (((a1.length:Nat):Int)+((a4.length:Nat):Int))) > (300:Int))) true ((q_iReplayRecs a1)&&(cond ((iReplayRecs a1).2.2) ((q_slices_Equal_iPair ((iReplayRecs a1).1) a3)&&(cond (slices_Equal_iPair ((iReplayRecs a1).1) a3) (q_slices_EqualFunc_iReciRec_iRec_iRec_ ((iReplayRecs a1).2.1) a4) true)) true))))
noncomputable abbrev pre_iShardOk:pshsDen P_iShardOk→Bool:=fun d=>q_iShardOk d.1.1 d.1.2.1 d.1.2.2.1 d.1.2.2.2.1 d.1.2.2.2.2.1
theorem run_iShardOk:RunP true G76 (fun _ _=>none) Try.f17 P_iShardOk pre_iShardOk g_iShardOk:=by
 rintro ⟨⟨a0,⟨a1,⟨a2,⟨a3,⟨a4,_⟩⟩⟩⟩⟩,_⟩ hp
 change q_iShardOk a0 a1 a2 a3 a4=true at hp
 unfold q_iShardOk at hp
 refine Eq.trans (b:=(cond (!(iisId a0)) (some (e_iShardOk false)) (cond (!(iinRange a2 (0:Int) ((a1.length:Nat):Int))) (some (e_iShardOk false)) (cond (decide ((IntKind.wrap .i64 (((a1.length:Nat):Int)+((a4.length:Nat):Int))) > (300:Int))) (some (e_iShardOk false)) (cond (q_iReplayRecs a1) (cond ((iReplayRecs a1).2.2) (cond (q_slices_Equal_iPair ((iReplayRecs a1).1) a3) (cond (slices_Equal_iPair ((iReplayRecs a1).1) a3) (cond (q_slices_EqualFunc_iReciRec_iRec_iRec_ ((iReplayRecs a1).2.1) a4) (some (e_iShardOk (slices_EqualFunc_iReciRec_iRec_iRec_ ((iReplayRecs a1).2.1) a4))) none) (some (e_iShardOk false))) none) (some (e_iShardOk false))) none))))) (by kernel_rfl) ?_
 exact (cndQ (F:=F_iShardOk) hp (fun hp=>rfl) (fun hp=>(cndQ (F:=F_iShardOk) hp (fun hp=>rfl) (fun hp=>(cndQ (F:=F_iShardOk) hp (fun hp=>rfl) (fun hp=>(cndA hp fun hp=>(cndQ (F:=F_iShardOk) hp (fun hp=>(cndA hp fun hp=>(cndQ (F:=F_iShardOk) hp (fun hp=>(cndT hp fun _h=>rfl)) (fun hp=>rfl)))) (fun hp=>rfl)))))))))
theorem c_iShardOk:PContract Try.prog 17 (sumOf P_iShardOk pre_iShardOk g_iShardOk):=PContract.of_data true G76 (by kernel_rfl) (hl0 (by kernel_rfl)) _ _ _ run_iShardOk
noncomputable def S77:Tab:=Tab.add S76 17 (lift (sumOf P_iShardOk pre_iShardOk g_iShardOk))
noncomputable def QF77:FuncId→Bool:=qadd QF76 17
theorem G77:Good Try.prog tt S77 QF77:=G76.addQ c_iShardOk ⟨Try.f17,by kernel_rfl,by kernel_rfl,by kernel_rfl⟩ (fun _=>rfl)

/-! 41 (*loop.example/g00244/impl.Shard).crash -/
noncomputable abbrev SM_iShard_crash:SS:=⟨[.ptr 0 0 1 0,.t true (.int .i64)],[.box [.t true (.int .i64),.t true t_spipispiptt,.t true (.int .i64),.t true t_sptt,.t true t_spipispiptt]]⟩
noncomputable def k1_iShard_crash (x1:Int) (h0_1:LIILIBBee) (h0_2:Int):=iReplayRecs ((h0_1.take (IntKind.wrap .i64 (h0_2+(if (IntKind.wrap .i64 (((h0_1.length:Nat):Int) - h0_2))<(if (0:Int) > x1 then (0:Int) else x1) then (IntKind.wrap .i64 (((h0_1.length:Nat):Int) - h0_2)) else (if (0:Int) > x1 then (0:Int) else x1)))).toNat).drop (0:Int).toNat)
noncomputable def iShard_crash (x1:Int) (h0_0:Int) (h0_1:LIILIBBee) (h0_2:Int) (h0_3:LBBe) (h0_4:LIILIBBee):Int×(LIILIBBee)×Int×(LBBe)×LIILIBBee:=(h0_0,(h0_1.take (IntKind.wrap .i64 (h0_2+(if (IntKind.wrap .i64 (((h0_1.length:Nat):Int) - h0_2))<(if (0:Int) > x1 then (0:Int) else x1) then (IntKind.wrap .i64 (((h0_1.length:Nat):Int) - h0_2)) else (if (0:Int) > x1 then (0:Int) else x1)))).toNat).drop (0:Int).toNat,IntKind.wrap .i64 (h0_2+(if (IntKind.wrap .i64 (((h0_1.length:Nat):Int) - h0_2))<(if (0:Int) > x1 then (0:Int) else x1) then (IntKind.wrap .i64 (((h0_1.length:Nat):Int) - h0_2)) else (if (0:Int) > x1 then (0:Int) else x1))),((k1_iShard_crash x1 h0_1 h0_2).1),((k1_iShard_crash x1 h0_1 h0_2).2.1))
noncomputable abbrev e_iShard_crash (r:Int×(LIILIBBee)×Int×(LBBe)×LIILIBBee):AV×List AObj×List Nat:=((.tup []),[(.box [(.t true (.int .i64) r.1),(.t true t_spipispiptt r.2.1),(.t true (.int .i64) r.2.2.1),(.t true t_sptt r.2.2.2.1),(.t true t_spipispiptt r.2.2.2.2)])],[])
noncomputable abbrev F_iShard_crash (r:Int×(LIILIBBee)×Int×(LBBe)×LIILIBBee):=some (e_iShard_crash r)
noncomputable abbrev g_iShard_crash:SM_iShard_crash.den→AV×List AObj×List Nat:=fun d=>e_iShard_crash (iShard_crash d.1.2.1 d.2.1.1 d.2.1.2.1 d.2.1.2.2.1 d.2.1.2.2.2.1 d.2.1.2.2.2.2.1)
noncomputable def q_iShard_crash (x1:Int) (h0_0:Int) (h0_1:LIILIBBee) (h0_2:Int) (h0_3:LBBe) (h0_4:LIILIBBee):Bool:=(decide (0≤(0:Int)∧(0:Int)≤(IntKind.wrap .i64 (h0_2+(if (IntKind.wrap .i64 (((h0_1.length:Nat):Int) - h0_2))<(if (0:Int) > x1 then (0:Int) else x1) then (IntKind.wrap .i64 (((h0_1.length:Nat):Int) - h0_2)) else (if (0:Int) > x1 then (0:Int) else x1))))∧(IntKind.wrap .i64 (h0_2+(if (IntKind.wrap .i64 (((h0_1.length:Nat):Int) - h0_2))<(if (0:Int) > x1 then (0:Int) else x1) then (IntKind.wrap .i64 (((h0_1.length:Nat):Int) - h0_2)) else (if (0:Int) > x1 then (0:Int) else x1))))≤((h0_1.length:Nat):Int)))&&(q_iReplayRecs ((h0_1.take (IntKind.wrap .i64 (h0_2+(if (IntKind.wrap .i64 (((h0_1.length:Nat):Int) - h0_2))<(if (0:Int) > x1 then (0:Int) else x1) then (IntKind.wrap .i64 (((h0_1.length:Nat):Int) - h0_2)) else (if (0:Int) > x1 then (0:Int) else x1)))).toNat).drop (0:Int).toNat))
noncomputable abbrev pre_iShard_crash:SM_iShard_crash.den→Bool:=fun d=>q_iShard_crash d.1.2.1 d.2.1.1 d.2.1.2.1 d.2.1.2.2.1 d.2.1.2.2.2.1 d.2.1.2.2.2.2.1
theorem run_iShard_crash:RunM G77 (fun _ _=>none) Try.f41 SM_iShard_crash pre_iShard_crash g_iShard_crash:=by
 rintro ⟨⟨_,x1,_⟩,⟨⟨h0_0,h0_1,h0_2,h0_3,h0_4,_⟩,_⟩⟩ hp
 change q_iShard_crash x1 h0_0 h0_1 h0_2 h0_3 h0_4=true at hp
 unfold q_iShard_crash at hp
 refine Eq.trans (b:=(cond (decide (0≤(0:Int)∧(0:Int)≤(IntKind.wrap .i64 (h0_2+(if (IntKind.wrap .i64 (((h0_1.length:Nat):Int) - h0_2))<(if (0:Int) > x1 then (0:Int) else x1) then (IntKind.wrap .i64 (((h0_1.length:Nat):Int) - h0_2)) else (if (0:Int) > x1 then (0:Int) else x1))))∧(IntKind.wrap .i64 (h0_2+(if (IntKind.wrap .i64 (((h0_1.length:Nat):Int) - h0_2))<(if (0:Int) > x1 then (0:Int) else x1) then (IntKind.wrap .i64 (((h0_1.length:Nat):Int) - h0_2)) else (if (0:Int) > x1 then (0:Int) else x1))))≤((h0_1.length:Nat):Int))) (cond (q_iReplayRecs ((h0_1.take (IntKind.wrap .i64 (h0_2+(if (IntKind.wrap .i64 (((h0_1.length:Nat):Int) - h0_2))<(if (0:Int) > x1 then (0:Int) else x1) then (IntKind.wrap .i64 (((h0_1.length:Nat):Int) - h0_2)) else (if (0:Int) > x1 then (0:Int) else x1)))).toNat).drop (0:Int).toNat)) (some (e_iShard_crash (h0_0,(h0_1.take (IntKind.wrap .i64 (h0_2+(if (IntKind.wrap .i64 (((h0_1.length:Nat):Int) - h0_2))<(if (0:Int) > x1 then (0:Int) else x1) then (IntKind.wrap .i64 (((h0_1.length:Nat):Int) - h0_2)) else (if (0:Int) > x1 then (0:Int) else x1)))).toNat).drop (0:Int).toNat,IntKind.wrap .i64 (h0_2+(if (IntKind.wrap .i64 (((h0_1.length:Nat):Int) - h0_2))<(if (0:Int) > x1 then (0:Int) else x1) then (IntKind.wrap .i64 (((h0_1.length:Nat):Int) - h0_2)) else (if (0:Int) > x1 then (0:Int) else x1))),((k1_iShard_crash x1 h0_1 h0_2).1),((k1_iShard_crash x1 h0_1 h0_2).2.1)))) none) none)) (by kernel_rfl) ?_
 exact (cndA hp fun hp=>(cndT hp fun _h=>rfl))
noncomputable abbrev m_iShard_crash:=win winIds (msum SM_iShard_crash pre_iShard_crash g_iShard_crash)
theorem c_iShard_crash:MContract Try.prog 41 m_iShard_crash:=(MContract.of_data G77 (by kernel_rfl) (hl0 (by kernel_rfl)) _ _ _ run_iShard_crash).win winIds
noncomputable def S78:Tab:=Tab.add S77 41 (m_iShard_crash)
noncomputable def QF78:FuncId→Bool:=QF77
theorem G78:Good Try.prog tt S78 QF78:=G77.addM c_iShard_crash (win_local _) ⟨Try.f41,by kernel_rfl,by kernel_rfl,by kernel_rfl⟩ (by kernel_rfl)

/-! 15 loop.example/g00244/impl.CrashShard -/
noncomputable abbrev P_iCrashShard:List PSh:=[.agg [(.int .i64),t_spipispiptt,(.int .i64),t_sptt,t_spipispiptt],.t (.int .i64)]
noncomputable def k1_iCrashShard (a0:Int) (a1:LIILIBBee) (a2:Int) (a3:LBBe) (a4:LIILIBBee) (a5:Int):=iShard_crash a5 ((icopyShard a0 a1 a2 a3 a4).1) ((icopyShard a0 a1 a2 a3 a4).2.1) ((icopyShard a0 a1 a2 a3 a4).2.2.1) ((icopyShard a0 a1 a2 a3 a4).2.2.2.1) ((icopyShard a0 a1 a2 a3 a4).2.2.2.2)
noncomputable def k2_iCrashShard (a0:Int) (a1:LIILIBBee) (a2:Int) (a3:LBBe) (a4:LIILIBBee) (a5:Int):=icopyShard ((k1_iCrashShard a0 a1 a2 a3 a4 a5).1) ((k1_iCrashShard a0 a1 a2 a3 a4 a5).2.1) ((k1_iCrashShard a0 a1 a2 a3 a4 a5).2.2.1) ((k1_iCrashShard a0 a1 a2 a3 a4 a5).2.2.2.1) ((k1_iCrashShard a0 a1 a2 a3 a4 a5).2.2.2.2)
noncomputable def k3_iCrashShard (a0:Int) (a1:LIILIBBee) (a2:Int) (a3:LBBe) (a4:LIILIBBee):=icopyShard ((icopyShard a0 a1 a2 a3 a4).1) ((icopyShard a0 a1 a2 a3 a4).2.1) ((icopyShard a0 a1 a2 a3 a4).2.2.1) ((icopyShard a0 a1 a2 a3 a4).2.2.2.1) ((icopyShard a0 a1 a2 a3 a4).2.2.2.2)
noncomputable def iCrashShard (a0:Int) (a1:LIILIBBee) (a2:Int) (a3:LBBe) (a4:LIILIBBee) (a5:Int):Int×(LIILIBBee)×Int×(LBBe)×LIILIBBee:=(cond (iShardOk a0 a1 a2 a3 a4) (((k2_iCrashShard a0 a1 a2 a3 a4 a5).1),((k2_iCrashShard a0 a1 a2 a3 a4 a5).2.1),((k2_iCrashShard a0 a1 a2 a3 a4 a5).2.2.1),((k2_iCrashShard a0 a1 a2 a3 a4 a5).2.2.2.1),((k2_iCrashShard a0 a1 a2 a3 a4 a5).2.2.2.2)) (((k3_iCrashShard a0 a1 a2 a3 a4).1),((k3_iCrashShard a0 a1 a2 a3 a4).2.1),((k3_iCrashShard a0 a1 a2 a3 a4).2.2.1),((k3_iCrashShard a0 a1 a2 a3 a4).2.2.2.1),((k3_iCrashShard a0 a1 a2 a3 a4).2.2.2.2)))
noncomputable abbrev e_iCrashShard (r:Int×(LIILIBBee)×Int×(LBBe)×LIILIBBee):AV×List AObj:=((.agg [(.t true (.int .i64) r.1),(.t true t_spipispiptt r.2.1),(.t true (.int .i64) r.2.2.1),(.t true t_sptt r.2.2.2.1),(.t true t_spipispiptt r.2.2.2.2)]),[])
noncomputable abbrev F_iCrashShard (r:Int×(LIILIBBee)×Int×(LBBe)×LIILIBBee):=some (e_iCrashShard r)
noncomputable abbrev g_iCrashShard:pshsDen P_iCrashShard→AV×List AObj:=fun d=>e_iCrashShard (iCrashShard d.1.1 d.1.2.1 d.1.2.2.1 d.1.2.2.2.1 d.1.2.2.2.2.1 d.2.1)
noncomputable def q_iCrashShard (a0:Int) (a1:LIILIBBee) (a2:Int) (a3:LBBe) (a4:LIILIBBee) (a5:Int):Bool:=(q_icopyShard a0 a1 a2 a3 a4)&&((q_iShardOk a0 a1 a2 a3 a4)&&(cond (iShardOk a0 a1 a2 a3 a4) ((q_iShard_crash a5 ((icopyShard a0 a1 a2 a3 a4).1) ((icopyShard a0 a1 a2 a3 a4).2.1) ((icopyShard a0 a1 a2 a3 a4).2.2.1) ((icopyShard a0 a1 a2 a3 a4).2.2.2.1) ((icopyShard a0 a1 a2 a3 a4).2.2.2.2))&&(q_icopyShard ((k1_iCrashShard a0 a1 a2 a3 a4 a5).1) ((k1_iCrashShard a0 a1 a2 a3 a4 a5).2.1) ((k1_iCrashShard a0 a1 a2 a3 a4 a5).2.2.1) ((k1_iCrashShard a0 a1 a2 a3 a4 a5).2.2.2.1) ((k1_iCrashShard a0 a1 a2 a3 a4 a5).2.2.2.2))) (q_icopyShard ((icopyShard a0 a1 a2 a3 a4).1) ((icopyShard a0 a1 a2 a3 a4).2.1) ((icopyShard a0 a1 a2 a3 a4).2.2.1) ((icopyShard a0 a1 a2 a3 a4).2.2.2.1) ((icopyShard a0 a1 a2 a3 a4).2.2.2.2))))
noncomputable abbrev pre_iCrashShard:pshsDen P_iCrashShard→Bool:=fun d=>q_iCrashShard d.1.1 d.1.2.1 d.1.2.2.1 d.1.2.2.2.1 d.1.2.2.2.2.1 d.2.1
theorem run_iCrashShard:RunP true G78 (fun _ _=>none) Try.f15 P_iCrashShard pre_iCrashShard g_iCrashShard:=by
 rintro ⟨⟨a0,⟨a1,⟨a2,⟨a3,⟨a4,_⟩⟩⟩⟩⟩,⟨a5,_⟩⟩ hp
 change q_iCrashShard a0 a1 a2 a3 a4 a5=true at hp
 unfold q_iCrashShard at hp
 refine Eq.trans (b:=(cond (q_icopyShard a0 a1 a2 a3 a4) (cond (q_iShardOk a0 a1 a2 a3 a4) (cond (iShardOk a0 a1 a2 a3 a4) (cond (q_iShard_crash a5 ((icopyShard a0 a1 a2 a3 a4).1) ((icopyShard a0 a1 a2 a3 a4).2.1) ((icopyShard a0 a1 a2 a3 a4).2.2.1) ((icopyShard a0 a1 a2 a3 a4).2.2.2.1) ((icopyShard a0 a1 a2 a3 a4).2.2.2.2)) (cond (q_icopyShard ((k1_iCrashShard a0 a1 a2 a3 a4 a5).1) ((k1_iCrashShard a0 a1 a2 a3 a4 a5).2.1) ((k1_iCrashShard a0 a1 a2 a3 a4 a5).2.2.1) ((k1_iCrashShard a0 a1 a2 a3 a4 a5).2.2.2.1) ((k1_iCrashShard a0 a1 a2 a3 a4 a5).2.2.2.2)) (some (e_iCrashShard (((k2_iCrashShard a0 a1 a2 a3 a4 a5).1),((k2_iCrashShard a0 a1 a2 a3 a4 a5).2.1),((k2_iCrashShard a0 a1 a2 a3 a4 a5).2.2.1),((k2_iCrashShard a0 a1 a2 a3 a4 a5).2.2.2.1),((k2_iCrashShard a0 a1 a2 a3 a4 a5).2.2.2.2)))) none) none) (cond (q_icopyShard ((icopyShard a0 a1 a2 a3 a4).1) ((icopyShard a0 a1 a2 a3 a4).2.1) ((icopyShard a0 a1 a2 a3 a4).2.2.1) ((icopyShard a0 a1 a2 a3 a4).2.2.2.1) ((icopyShard a0 a1 a2 a3 a4).2.2.2.2)) (some (e_iCrashShard (((k3_iCrashShard a0 a1 a2 a3 a4).1),((k3_iCrashShard a0 a1 a2 a3 a4).2.1),((k3_iCrashShard a0 a1 a2 a3 a4).2.2.1),((k3_iCrashShard a0 a1 a2 a3 a4).2.2.2.1),((k3_iCrashShard a0 a1 a2 a3 a4).2.2.2.2)))) none)) none) none)) (by kernel_rfl) ?_
 exact (cndA hp fun hp=>(cndA hp fun hp=>(cndQ (F:=F_iCrashShard) hp (fun hp=>(cndA hp fun hp=>(cndT hp fun _h=>rfl))) (fun hp=>(cndT hp fun _h=>rfl)))))
theorem c_iCrashShard:PContract Try.prog 15 (sumOf P_iCrashShard pre_iCrashShard g_iCrashShard):=PContract.of_data true G78 (by kernel_rfl) (hl0 (by kernel_rfl)) _ _ _ run_iCrashShard
noncomputable def S79:Tab:=Tab.add S78 15 (lift (sumOf P_iCrashShard pre_iCrashShard g_iCrashShard))
noncomputable def QF79:FuncId→Bool:=qadd QF78 15
theorem G79:Good Try.prog tt S79 QF79:=G78.addQ c_iCrashShard ⟨Try.f15,by kernel_rfl,by kernel_rfl,by kernel_rfl⟩ (fun _=>rfl)

/-! 81 loop.example/g00244/laws.sameOps -/
noncomputable abbrev P_lsameOps:List PSh:=[.t t_spiptt,.t t_spiptt]
noncomputable abbrev S_lsameOps_0:SS:=⟨(.t false t_spiptt::.t false t_spiptt::.junk::.junk::.junk::.t true (.int .i64)::jS20),[]⟩
noncomputable abbrev E_lsameOps_0_0:SS:=⟨(.junk::.junk::.junk::.junk::.t true .bool::jS21),[]⟩
noncomputable abbrev E_lsameOps_0_1:SS:=⟨(.junk::jS25),[]⟩
noncomputable def st_lsameOps_0 (x0:LIBBe) (x1:LIBBe) (x5:Int):RT S_lsameOps_0.den:=(.br (decide (x5<((x0.length:Nat):Int))) (.br (decide (0≤x5∧x5<((x0.length:Nat):Int))) (.br (decide (0≤x5∧x5<((x1.length:Nat):Int))) (.br (!((((x0.getD x5.toNat ((0:Int),(bE,bE))).1)==((x1.getD x5.toNat ((0:Int),(bE,bE))).1))&&(((((x0.getD x5.toNat ((0:Int),(bE,bE))).2).1).toList==(((x1.getD x5.toNat ((0:Int),(bE,bE))).2).1).toList)&&(((((x0.getD x5.toNat ((0:Int),(bE,bE))).2).2).toList==(((x1.getD x5.toNat ((0:Int),(bE,bE))).2).2).toList)&&true)))) (.done .ret E_lsameOps_0_0 (((),(),(),(),false,u22),())) (.next ((x0,x1,(),(),(),IntKind.wrap .i64 (x5+(1:Int)),u21),()))) .fail) .fail) (.done (.exit 0) E_lsameOps_0_1 ((u27),())))
noncomputable abbrev V_lsameOps_0:=(LIBBe)×(LIBBe)×(Int)
noncomputable abbrev A_lsameOps_0:=Nat×(Bool)
noncomputable def fl_lsameOps_0:A_lsameOps_0:=(99,(false:Bool))
noncomputable def ss_lsameOps_0 (x0:LIBBe) (x1:LIBBe) (x5:Int):V_lsameOps_0 ⊕ A_lsameOps_0:=(cond (decide (x5<((x0.length:Nat):Int))) (cond (decide (0≤x5∧x5<((x0.length:Nat):Int))) (cond (decide (0≤x5∧x5<((x1.length:Nat):Int))) (cond (!((((x0.getD x5.toNat ((0:Int),(bE,bE))).1)==((x1.getD x5.toNat ((0:Int),(bE,bE))).1))&&(((((x0.getD x5.toNat ((0:Int),(bE,bE))).2).1).toList==(((x1.getD x5.toNat ((0:Int),(bE,bE))).2).1).toList)&&(((((x0.getD x5.toNat ((0:Int),(bE,bE))).2).2).toList==(((x1.getD x5.toNat ((0:Int),(bE,bE))).2).2).toList)&&true)))) (.inr (0,false)) (.inl (x0,x1,IntKind.wrap .i64 (x5+(1:Int))))) (.inr fl_lsameOps_0)) (.inr fl_lsameOps_0)) (.inr (1,(false:Bool))))
noncomputable def it_lsameOps_0 (x0:LIBBe) (x1:LIBBe) (x5:Int):A_lsameOps_0:=itX (fun v:V_lsameOps_0=>ss_lsameOps_0 v.1 v.2.1 v.2.2) fl_lsameOps_0 (x0,x1,x5)
noncomputable def ct_lsameOps_0 (a:A_lsameOps_0):CT:=(.br (a.1==0) (.done .ret E_lsameOps_0_0 (((),(),(),(),a.2,u22),())) (.br (a.1==1) (.done (.exit 0) E_lsameOps_0_1 ((u27),())) .fail))
noncomputable def T_lsameOps_0 (x0:LIBBe) (x1:LIBBe) (x5:Int):CT:=ct_lsameOps_0 (it_lsameOps_0 x0 x1 x5)
noncomputable abbrev sp_lsameOps_0:S_lsameOps_0.den→RT S_lsameOps_0.den:=fun d=>st_lsameOps_0 d.1.1 d.1.2.1 d.1.2.2.2.2.2.1
noncomputable abbrev pk_lsameOps_0 (x0:LIBBe) (x1:LIBBe) (x5:Int):S_lsameOps_0.den:=((x0,x1,(),(),(),x5,u21),())
noncomputable def body_lsameOps_0:Code:=((loopsIn 0 (bodyOf Try.f81)).getD 0 (0,.skip)).2
noncomputable abbrev pv_lsameOps_0 (v:V_lsameOps_0):S_lsameOps_0.den:=pk_lsameOps_0 v.1 v.2.1 v.2.2
theorem rdA_lsameOps_0:RdA G79 (fun _ _=>none) 0 body_lsameOps_0 S_lsameOps_0 0 [] (kepts [4] [(0,[])]) (fun d=>(sp_lsameOps_0 d).opt 0 []):=by
 intro d
 kernel_rfl
noncomputable abbrev say_lsameOps_0:St→Option Tree:=S_lsameOps_0.say 0 [] [] (fun d=>T_lsameOps_0 d.1.1 d.1.2.1 d.1.2.2.2.2.2.1)
theorem lw_lsameOps_0:LoopWp Try.prog say_lsameOps_0 body_lsameOps_0:=SS.wp2 (hl0 (by kernel_rfl)) [] sp_lsameOps_0 rdA_lsameOps_0 (fun d=>rfl) _ (fun d=>Runs.ofIt (step:=sp_lsameOps_0) pv_lsameOps_0 (ct:=ct_lsameOps_0) rfl (fun v=>((relB (relB (relB (relB rfl rfl) rfl) rfl) rfl):(st_lsameOps_0 v.1 v.2.1 v.2.2).val=relS pv_lsameOps_0 ct_lsameOps_0 (ss_lsameOps_0 v.1 v.2.1 v.2.2))) (fun a=>((cendB (cendD (by simp)) (cendB (cendD (by simp)) cendF)):CEnd _ (ct_lsameOps_0 a))) (d.1.1,d.1.2.1,d.1.2.2.2.2.2.1))
noncomputable def lsameOps (a0:LIBBe) (a1:LIBBe):Bool:=(cond (((a0.length:Nat):Int) != ((a1.length:Nat):Int)) false (cond ((it_lsameOps_0 a0 a1 (0:Int)).1==0) ((it_lsameOps_0 a0 a1 (0:Int)).2) true))
noncomputable abbrev e_lsameOps (r:Bool):AV×List AObj:=((.t true .bool r),[])
noncomputable abbrev F_lsameOps (r:Bool):=some (e_lsameOps r)
noncomputable abbrev g_lsameOps:pshsDen P_lsameOps→AV×List AObj:=fun d=>e_lsameOps (lsameOps d.1 d.2.1)
noncomputable def q_lsameOps (a0:LIBBe) (a1:LIBBe):Bool:=cond (((a0.length:Nat):Int) != ((a1.length:Nat):Int)) true (cond ((it_lsameOps_0 a0 a1 (0:Int)).1==0) true ((it_lsameOps_0 a0 a1 (0:Int)).1==1))
noncomputable abbrev pre_lsameOps:pshsDen P_lsameOps→Bool:=fun d=>q_lsameOps d.1 d.2.1
noncomputable abbrev L_lsameOps:Nat→St→Option Tree:=fun b=>match b with | 0=>say_lsameOps_0 | _=>fun _=>none
theorem run_lsameOps:RunP true G79 (L_lsameOps) Try.f81 P_lsameOps pre_lsameOps g_lsameOps:=by
 rintro ⟨a0,⟨a1,_⟩⟩ hp
 change q_lsameOps a0 a1=true at hp
 unfold q_lsameOps at hp
 refine Eq.trans (b:=(cond (((a0.length:Nat):Int) != ((a1.length:Nat):Int)) (some (e_lsameOps false)) (cond ((it_lsameOps_0 a0 a1 (0:Int)).1==0) (some (e_lsameOps ((it_lsameOps_0 a0 a1 (0:Int)).2))) (cond ((it_lsameOps_0 a0 a1 (0:Int)).1==1) (some (e_lsameOps true)) none)))) (by kernel_rfl) ?_
 exact (cndQ (F:=F_lsameOps) hp (fun hp=>rfl) (fun hp=>(cndQ (F:=F_lsameOps) hp (fun hp=>rfl) (fun hp=>(cndT hp fun _h=>rfl)))))
theorem c_lsameOps:PContract Try.prog 81 (sumOf P_lsameOps pre_lsameOps g_lsameOps):=PContract.of_data true G79 (by kernel_rfl) (hl1 (i:=0) (by kernel_rfl) lw_lsameOps_0) _ _ _ run_lsameOps
noncomputable def S80:Tab:=Tab.add S79 81 (lift (sumOf P_lsameOps pre_lsameOps g_lsameOps))
noncomputable def QF80:FuncId→Bool:=qadd QF79 81
theorem G80:Good Try.prog tt S80 QF80:=G79.addQ c_lsameOps ⟨Try.f81,by kernel_rfl,by kernel_rfl,by kernel_rfl⟩ (fun _=>rfl)

/-! 42 loop.example/g00244/laws.sameRec -/
noncomputable abbrev P_lsameRec:List PSh:=[.agg [(.int .i64),(.int .i64),t_spiptt],.agg [(.int .i64),(.int .i64),t_spiptt]]
noncomputable def lsameRec (a0:Int) (a1:Int) (a2:LIBBe) (a3:Int) (a4:Int) (a5:LIBBe):Bool:=(cond (a0==a3) (cond (a1==a4) (lsameOps a2 a5) false) false)
noncomputable abbrev e_lsameRec (r:Bool):AV×List AObj:=((.t true .bool r),[])
noncomputable abbrev F_lsameRec (r:Bool):=some (e_lsameRec r)
noncomputable abbrev g_lsameRec:pshsDen P_lsameRec→AV×List AObj:=fun d=>e_lsameRec (lsameRec d.1.1 d.1.2.1 d.1.2.2.1 d.2.1.1 d.2.1.2.1 d.2.1.2.2.1)
noncomputable def q_lsameRec (a0:Int) (a1:Int) (a2:LIBBe) (a3:Int) (a4:Int) (a5:LIBBe):Bool:=cond (a0==a3) (cond (a1==a4) (q_lsameOps a2 a5) true) true
noncomputable abbrev pre_lsameRec:pshsDen P_lsameRec→Bool:=fun d=>q_lsameRec d.1.1 d.1.2.1 d.1.2.2.1 d.2.1.1 d.2.1.2.1 d.2.1.2.2.1
theorem run_lsameRec:RunP true G80 (fun _ _=>none) Try.f42 P_lsameRec pre_lsameRec g_lsameRec:=by
 rintro ⟨⟨a0,⟨a1,⟨a2,_⟩⟩⟩,⟨⟨a3,⟨a4,⟨a5,_⟩⟩⟩,_⟩⟩ hp
 change q_lsameRec a0 a1 a2 a3 a4 a5=true at hp
 unfold q_lsameRec at hp
 refine Eq.trans (b:=(cond (a0==a3) (cond (a1==a4) (cond (q_lsameOps a2 a5) (some (e_lsameRec (lsameOps a2 a5))) none) (some (e_lsameRec false))) (some (e_lsameRec false)))) (by kernel_rfl) ?_
 exact (cndQ (F:=F_lsameRec) hp (fun hp=>(cndQ (F:=F_lsameRec) hp (fun hp=>(cndT hp fun _h=>rfl)) (fun hp=>rfl))) (fun hp=>rfl))
theorem c_lsameRec:PContract Try.prog 42 (sumOf P_lsameRec pre_lsameRec g_lsameRec):=PContract.of_data true G80 (by kernel_rfl) (hl0 (by kernel_rfl)) _ _ _ run_lsameRec
noncomputable def S81:Tab:=Tab.add S80 42 (lift (sumOf P_lsameRec pre_lsameRec g_lsameRec))
noncomputable def QF81:FuncId→Bool:=qadd QF80 42
theorem G81:Good Try.prog tt S81 QF81:=G80.addQ c_lsameRec ⟨Try.f42,by kernel_rfl,by kernel_rfl,by kernel_rfl⟩ (fun _=>rfl)

/-! 16 loop.example/g00244/laws.sameRecs -/
noncomputable abbrev P_lsameRecs:List PSh:=[.t t_spipispiptt,.t t_spipispiptt]
noncomputable abbrev S_lsameRecs_0:SS:=⟨(.t false t_spipispiptt::.t false t_spipispiptt::.junk::.junk::.junk::.t true (.int .i64)::jS21),[]⟩
noncomputable abbrev E_lsameRecs_0_0:SS:=⟨(.junk::.junk::.junk::.junk::.t true .bool::jS22),[]⟩
noncomputable abbrev E_lsameRecs_0_1:SS:=⟨(.junk::jS26),[]⟩
noncomputable def k1_lsameRecs (x0:LIILIBBee) (x1:LIILIBBee) (x5:Int):=lsameRec ((x0.getD x5.toNat ((0:Int),((0:Int),[]))).1) (((x0.getD x5.toNat ((0:Int),((0:Int),[]))).2).1) (((x0.getD x5.toNat ((0:Int),((0:Int),[]))).2).2) ((x1.getD x5.toNat ((0:Int),((0:Int),[]))).1) (((x1.getD x5.toNat ((0:Int),((0:Int),[]))).2).1) (((x1.getD x5.toNat ((0:Int),((0:Int),[]))).2).2)
noncomputable def st_lsameRecs_0 (x0:LIILIBBee) (x1:LIILIBBee) (x5:Int):RT S_lsameRecs_0.den:=(.br (decide (x5<((x0.length:Nat):Int))) (.br (decide (0≤x5∧x5<((x0.length:Nat):Int))) (.br (decide (0≤x5∧x5<((x1.length:Nat):Int))) (.br (q_lsameRec ((x0.getD x5.toNat ((0:Int),((0:Int),[]))).1) (((x0.getD x5.toNat ((0:Int),((0:Int),[]))).2).1) (((x0.getD x5.toNat ((0:Int),((0:Int),[]))).2).2) ((x1.getD x5.toNat ((0:Int),((0:Int),[]))).1) (((x1.getD x5.toNat ((0:Int),((0:Int),[]))).2).1) (((x1.getD x5.toNat ((0:Int),((0:Int),[]))).2).2)) (.br (!(k1_lsameRecs x0 x1 x5)) (.done .ret E_lsameRecs_0_0 (((),(),(),(),false,u23),())) (.next ((x0,x1,(),(),(),IntKind.wrap .i64 (x5+(1:Int)),u22),()))) .fail) .fail) .fail) (.done (.exit 0) E_lsameRecs_0_1 ((u28),())))
noncomputable abbrev V_lsameRecs_0:=(LIILIBBee)×(LIILIBBee)×(Int)
noncomputable abbrev A_lsameRecs_0:=Nat×(Bool)
noncomputable def fl_lsameRecs_0:A_lsameRecs_0:=(99,(false:Bool))
noncomputable def ss_lsameRecs_0 (x0:LIILIBBee) (x1:LIILIBBee) (x5:Int):V_lsameRecs_0 ⊕ A_lsameRecs_0:=(cond (decide (x5<((x0.length:Nat):Int))) (cond (decide (0≤x5∧x5<((x0.length:Nat):Int))) (cond (decide (0≤x5∧x5<((x1.length:Nat):Int))) (cond (q_lsameRec ((x0.getD x5.toNat ((0:Int),((0:Int),[]))).1) (((x0.getD x5.toNat ((0:Int),((0:Int),[]))).2).1) (((x0.getD x5.toNat ((0:Int),((0:Int),[]))).2).2) ((x1.getD x5.toNat ((0:Int),((0:Int),[]))).1) (((x1.getD x5.toNat ((0:Int),((0:Int),[]))).2).1) (((x1.getD x5.toNat ((0:Int),((0:Int),[]))).2).2)) (cond (!(k1_lsameRecs x0 x1 x5)) (.inr (0,false)) (.inl (x0,x1,IntKind.wrap .i64 (x5+(1:Int))))) (.inr fl_lsameRecs_0)) (.inr fl_lsameRecs_0)) (.inr fl_lsameRecs_0)) (.inr (1,(false:Bool))))
noncomputable def it_lsameRecs_0 (x0:LIILIBBee) (x1:LIILIBBee) (x5:Int):A_lsameRecs_0:=itX (fun v:V_lsameRecs_0=>ss_lsameRecs_0 v.1 v.2.1 v.2.2) fl_lsameRecs_0 (x0,x1,x5)
noncomputable def ct_lsameRecs_0 (a:A_lsameRecs_0):CT:=(.br (a.1==0) (.done .ret E_lsameRecs_0_0 (((),(),(),(),a.2,u23),())) (.br (a.1==1) (.done (.exit 0) E_lsameRecs_0_1 ((u28),())) .fail))
noncomputable def T_lsameRecs_0 (x0:LIILIBBee) (x1:LIILIBBee) (x5:Int):CT:=ct_lsameRecs_0 (it_lsameRecs_0 x0 x1 x5)
noncomputable abbrev sp_lsameRecs_0:S_lsameRecs_0.den→RT S_lsameRecs_0.den:=fun d=>st_lsameRecs_0 d.1.1 d.1.2.1 d.1.2.2.2.2.2.1
noncomputable abbrev pk_lsameRecs_0 (x0:LIILIBBee) (x1:LIILIBBee) (x5:Int):S_lsameRecs_0.den:=((x0,x1,(),(),(),x5,u22),())
noncomputable def body_lsameRecs_0:Code:=((loopsIn 0 (bodyOf Try.f16)).getD 0 (0,.skip)).2
noncomputable abbrev pv_lsameRecs_0 (v:V_lsameRecs_0):S_lsameRecs_0.den:=pk_lsameRecs_0 v.1 v.2.1 v.2.2
theorem rdA_lsameRecs_0:RdA G81 (fun _ _=>none) 0 body_lsameRecs_0 S_lsameRecs_0 0 [] (kepts [4] [(0,[])]) (fun d=>(sp_lsameRecs_0 d).opt 0 []):=by
 intro d
 kernel_rfl
noncomputable abbrev say_lsameRecs_0:St→Option Tree:=S_lsameRecs_0.say 0 [] [] (fun d=>T_lsameRecs_0 d.1.1 d.1.2.1 d.1.2.2.2.2.2.1)
theorem lw_lsameRecs_0:LoopWp Try.prog say_lsameRecs_0 body_lsameRecs_0:=SS.wp2 (hl0 (by kernel_rfl)) [] sp_lsameRecs_0 rdA_lsameRecs_0 (fun d=>rfl) _ (fun d=>Runs.ofIt (step:=sp_lsameRecs_0) pv_lsameRecs_0 (ct:=ct_lsameRecs_0) rfl (fun v=>((relB (relB (relB (relB (relB rfl rfl) rfl) rfl) rfl) rfl):(st_lsameRecs_0 v.1 v.2.1 v.2.2).val=relS pv_lsameRecs_0 ct_lsameRecs_0 (ss_lsameRecs_0 v.1 v.2.1 v.2.2))) (fun a=>((cendB (cendD (by simp)) (cendB (cendD (by simp)) cendF)):CEnd _ (ct_lsameRecs_0 a))) (d.1.1,d.1.2.1,d.1.2.2.2.2.2.1))
noncomputable def lsameRecs (a0:LIILIBBee) (a1:LIILIBBee):Bool:=(cond (((a0.length:Nat):Int) != ((a1.length:Nat):Int)) false (cond ((it_lsameRecs_0 a0 a1 (0:Int)).1==0) ((it_lsameRecs_0 a0 a1 (0:Int)).2) true))
noncomputable abbrev e_lsameRecs (r:Bool):AV×List AObj:=((.t true .bool r),[])
noncomputable abbrev F_lsameRecs (r:Bool):=some (e_lsameRecs r)
noncomputable abbrev g_lsameRecs:pshsDen P_lsameRecs→AV×List AObj:=fun d=>e_lsameRecs (lsameRecs d.1 d.2.1)
noncomputable def q_lsameRecs (a0:LIILIBBee) (a1:LIILIBBee):Bool:=cond (((a0.length:Nat):Int) != ((a1.length:Nat):Int)) true (cond ((it_lsameRecs_0 a0 a1 (0:Int)).1==0) true ((it_lsameRecs_0 a0 a1 (0:Int)).1==1))
noncomputable abbrev pre_lsameRecs:pshsDen P_lsameRecs→Bool:=fun d=>q_lsameRecs d.1 d.2.1
noncomputable abbrev L_lsameRecs:Nat→St→Option Tree:=fun b=>match b with | 0=>say_lsameRecs_0 | _=>fun _=>none
theorem run_lsameRecs:RunP true G81 (L_lsameRecs) Try.f16 P_lsameRecs pre_lsameRecs g_lsameRecs:=by
 rintro ⟨a0,⟨a1,_⟩⟩ hp
 change q_lsameRecs a0 a1=true at hp
 unfold q_lsameRecs at hp
 refine Eq.trans (b:=(cond (((a0.length:Nat):Int) != ((a1.length:Nat):Int)) (some (e_lsameRecs false)) (cond ((it_lsameRecs_0 a0 a1 (0:Int)).1==0) (some (e_lsameRecs ((it_lsameRecs_0 a0 a1 (0:Int)).2))) (cond ((it_lsameRecs_0 a0 a1 (0:Int)).1==1) (some (e_lsameRecs true)) none)))) (by kernel_rfl) ?_
 exact (cndQ (F:=F_lsameRecs) hp (fun hp=>rfl) (fun hp=>(cndQ (F:=F_lsameRecs) hp (fun hp=>rfl) (fun hp=>(cndT hp fun _h=>rfl)))))
theorem c_lsameRecs:PContract Try.prog 16 (sumOf P_lsameRecs pre_lsameRecs g_lsameRecs):=PContract.of_data true G81 (by kernel_rfl) (hl1 (i:=0) (by kernel_rfl) lw_lsameRecs_0) _ _ _ run_lsameRecs
noncomputable def S82:Tab:=Tab.add S81 16 (lift (sumOf P_lsameRecs pre_lsameRecs g_lsameRecs))
noncomputable def QF82:FuncId→Bool:=qadd QF81 16
theorem G82:Good Try.prog tt S82 QF82:=G81.addQ c_lsameRecs ⟨Try.f16,by kernel_rfl,by kernel_rfl,by kernel_rfl⟩ (fun _=>rfl)


end Go.Proofs.Ytgglehejlddghaa.Eng

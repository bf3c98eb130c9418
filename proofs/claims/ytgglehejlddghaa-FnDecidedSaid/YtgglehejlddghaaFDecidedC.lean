/- What the functions that FnDecided reaches compute: further. -/
import Derived.Test.YtgglehejlddghaaFDecidedB
namespace Go.Proofs.Ytgglehejlddghaa.Eng
open Go Go.RowKit
set_option linter.unusedSimpArgs false
set_option linter.unusedVariables false
set_option maxRecDepth 10000
noncomputable abbrev jS35:List Sh:=.junk::jS34
noncomputable abbrev u36:=((),u35)
noncomputable abbrev jA35:List AV:=.junk::jA34
noncomputable abbrev SM_slices_DeleteFunc_iPair:SS:=⟨[.all 0 2,.fn 107 [1]],[.rows 70 true t_ptt,.box [.t true .str]]⟩
noncomputable abbrev S_slices_DeleteFunc_iPair_0:SS:=⟨(.all 0 2::.fn 107 [1]::.junk::.junk::.junk::.t true (.int .i64)::.t true (.int .i64)::jS35),[.rows 70 true t_ptt,.box [.t true .str]]⟩
noncomputable abbrev E_slices_DeleteFunc_iPair_0_0:SS:=⟨(.all 0 2::.junk::.junk::.junk::.junk::.t true (.int .i64)::jS36),[.rows 70 true t_ptt,.box [.t true .str]]⟩
noncomputable def k1_slices_DeleteFunc_iPair (x6:Int) (h0:LBBe) (q0:ByteArray):=iDelKey_1 ((h0.getD x6.toNat (bE,bE)).1) ((h0.getD x6.toNat (bE,bE)).2) q0
noncomputable def st_slices_DeleteFunc_iPair_0 (x5:Int) (x6:Int) (h0:LBBe) (q0:ByteArray):RT S_slices_DeleteFunc_iPair_0.den:=(.br (decide (x6<((h0.length:Nat):Int))) (.br (decide (0≤x6∧x6<((h0.length:Nat):Int))) (.br (!(k1_slices_DeleteFunc_iPair x6 h0 q0)) (.br (decide (0≤x5∧x5<((h0.length:Nat):Int))) (.next (((),(),(),(),(),IntKind.wrap .i64 (x5+(1:Int)),IntKind.wrap .i64 (x6+(1:Int)),u36),(h0.set x5.toNat ((h0.getD x6.toNat (bE,bE)).1,(h0.getD x6.toNat (bE,bE)).2),(q0,()),()))) .fail) (.next (((),(),(),(),(),x5,IntKind.wrap .i64 (x6+(1:Int)),u36),(h0,(q0,()),())))) .fail) (.done (.exit 0) E_slices_DeleteFunc_iPair_0_0 (((),(),(),(),(),x5,u37),(h0,(q0,()),()))))
noncomputable abbrev V_slices_DeleteFunc_iPair_0:=(Int)×(Int)×(LBBe)
noncomputable abbrev A_slices_DeleteFunc_iPair_0:=Nat×(Int)×(LBBe)
noncomputable def fl_slices_DeleteFunc_iPair_0:A_slices_DeleteFunc_iPair_0:=(99,((0:Int):Int),([]:LBBe))
noncomputable def ss_slices_DeleteFunc_iPair_0 (x5:Int) (x6:Int) (h0:LBBe) (q0:ByteArray):V_slices_DeleteFunc_iPair_0 ⊕ A_slices_DeleteFunc_iPair_0:=(cond (decide (x6<((h0.length:Nat):Int))) (cond (decide (0≤x6∧x6<((h0.length:Nat):Int))) (cond (!(k1_slices_DeleteFunc_iPair x6 h0 q0)) (cond (decide (0≤x5∧x5<((h0.length:Nat):Int))) (.inl (IntKind.wrap .i64 (x5+(1:Int)),IntKind.wrap .i64 (x6+(1:Int)),h0.set x5.toNat ((h0.getD x6.toNat (bE,bE)).1,(h0.getD x6.toNat (bE,bE)).2))) (.inr fl_slices_DeleteFunc_iPair_0)) (.inl (x5,IntKind.wrap .i64 (x6+(1:Int)),h0))) (.inr fl_slices_DeleteFunc_iPair_0)) (.inr (0,x5,h0)))
noncomputable def it_slices_DeleteFunc_iPair_0 (x5:Int) (x6:Int) (h0:LBBe) (q0:ByteArray):A_slices_DeleteFunc_iPair_0:=itX (fun v:V_slices_DeleteFunc_iPair_0=>ss_slices_DeleteFunc_iPair_0 v.1 v.2.1 v.2.2 q0) fl_slices_DeleteFunc_iPair_0 (x5,x6,h0)
noncomputable def ct_slices_DeleteFunc_iPair_0 (q0:ByteArray) (a:A_slices_DeleteFunc_iPair_0):CT:=(.br (a.1==0) (.done (.exit 0) E_slices_DeleteFunc_iPair_0_0 (((),(),(),(),(),a.2.1,u37),(a.2.2,(q0,()),()))) .fail)
noncomputable def T_slices_DeleteFunc_iPair_0 (x5:Int) (x6:Int) (h0:LBBe) (q0:ByteArray):CT:=(ct_slices_DeleteFunc_iPair_0 q0) (it_slices_DeleteFunc_iPair_0 x5 x6 h0 q0)
noncomputable abbrev sp_slices_DeleteFunc_iPair_0:S_slices_DeleteFunc_iPair_0.den→RT S_slices_DeleteFunc_iPair_0.den:=fun d=>st_slices_DeleteFunc_iPair_0 d.1.2.2.2.2.2.1 d.1.2.2.2.2.2.2.1 d.2.1 d.2.2.1.1
noncomputable abbrev pk_slices_DeleteFunc_iPair_0 (x5:Int) (x6:Int) (h0:LBBe) (q0:ByteArray):S_slices_DeleteFunc_iPair_0.den:=(((),(),(),(),(),x5,x6,u36),(h0,(q0,()),()))
noncomputable def body_slices_DeleteFunc_iPair_0:Code:=((loopsIn 0 (bodyOf Try.f106)).getD 0 (0,.skip)).2
noncomputable abbrev pv_slices_DeleteFunc_iPair_0 (q0:ByteArray) (v:V_slices_DeleteFunc_iPair_0):S_slices_DeleteFunc_iPair_0.den:=pk_slices_DeleteFunc_iPair_0 v.1 v.2.1 v.2.2 q0
noncomputable def ox_slices_DeleteFunc_iPair_0 (x5:Int) (x6:Int) (h0:LBBe) (q0:ByteArray):Option (Ex×St):=(cond (decide (x6<((h0.length:Nat):Int))) (cond (decide (0≤x6∧x6<((h0.length:Nat):Int))) (cond (!(k1_slices_DeleteFunc_iPair x6 h0 q0)) (cond (decide (0≤x5∧x5<((h0.length:Nat):Int))) (some (.normal,(⟨((.all 0 2)::(.fn 107 [(.ptr 1 0 1 0)])::.junk::.junk::.junk::(.t true (.int .i64) (IntKind.wrap .i64 (x5+(1:Int))))::(.t true (.int .i64) (IntKind.wrap .i64 (x6+(1:Int))))::jA35),[(.rows 70 true t_ptt (h0.set x5.toNat ((h0.getD x6.toNat (bE,bE)).1,(h0.getD x6.toNat (bE,bE)).2))),(.box [(.t true .str q0)])],2,[]⟩:St))) none) (some (.normal,(⟨((.all 0 2)::(.fn 107 [(.ptr 1 0 1 0)])::.junk::.junk::.junk::(.t true (.int .i64) x5)::(.t true (.int .i64) (IntKind.wrap .i64 (x6+(1:Int))))::jA35),[(.rows 70 true t_ptt h0),(.box [(.t true .str q0)])],2,[]⟩:St)))) none) (some ((.exit 0),(⟨((.all 0 2)::.junk::.junk::.junk::.junk::(.t true (.int .i64) x5)::jA36),[(.rows 70 true t_ptt h0),(.box [(.t true .str q0)])],2,[]⟩:St))))
theorem rdA_slices_DeleteFunc_iPair_0:RdA G68 (fun _ _=>none) 0 body_slices_DeleteFunc_iPair_0 S_slices_DeleteFunc_iPair_0 2 [] (kepts [] [(0,[0,5])]) (fun d=>ox_slices_DeleteFunc_iPair_0 d.1.2.2.2.2.2.1 d.1.2.2.2.2.2.2.1 d.2.1 d.2.2.1.1):=by
 intro d
 kernel_rfl
theorem rdB_slices_DeleteFunc_iPair_0:∀ d:S_slices_DeleteFunc_iPair_0.den,ox_slices_DeleteFunc_iPair_0 d.1.2.2.2.2.2.1 d.1.2.2.2.2.2.2.1 d.2.1 d.2.2.1.1=(sp_slices_DeleteFunc_iPair_0 d).opt 2 []:=by
 intro d
 kernel_rfl
noncomputable abbrev say_slices_DeleteFunc_iPair_0:St→Option Tree:=S_slices_DeleteFunc_iPair_0.say 2 [] [] (fun d=>T_slices_DeleteFunc_iPair_0 d.1.2.2.2.2.2.1 d.1.2.2.2.2.2.2.1 d.2.1 d.2.2.1.1)
theorem lw_slices_DeleteFunc_iPair_0:LoopWp Try.prog say_slices_DeleteFunc_iPair_0 body_slices_DeleteFunc_iPair_0:=SS.wp2 (hl0 (by kernel_rfl)) [] sp_slices_DeleteFunc_iPair_0 rdA_slices_DeleteFunc_iPair_0 rdB_slices_DeleteFunc_iPair_0 _ (fun d=>Runs.ofIt (step:=sp_slices_DeleteFunc_iPair_0) (pv_slices_DeleteFunc_iPair_0 d.2.2.1.1) (ct:=(ct_slices_DeleteFunc_iPair_0 d.2.2.1.1)) rfl (fun v=>((relB (relB (relB (relB rfl rfl) rfl) rfl) rfl):(st_slices_DeleteFunc_iPair_0 v.1 v.2.1 v.2.2 d.2.2.1.1).val=relS (pv_slices_DeleteFunc_iPair_0 d.2.2.1.1) (ct_slices_DeleteFunc_iPair_0 d.2.2.1.1) (ss_slices_DeleteFunc_iPair_0 v.1 v.2.1 v.2.2 d.2.2.1.1))) (fun a=>((cendB (cendD (by simp)) cendF):CEnd _ ((ct_slices_DeleteFunc_iPair_0 d.2.2.1.1) a))) (d.1.2.2.2.2.2.1,d.1.2.2.2.2.2.2.1,d.2.1))
noncomputable def k2_slices_DeleteFunc_iPair (h0:LBBe) (q0:ByteArray):=it_slices_DeleteFunc_iPair_0 (slices_IndexFunc_iPair_iDelKey_1 h0 q0) (IntKind.wrap .i64 ((slices_IndexFunc_iPair_iDelKey_1 h0 q0)+(1:Int))) h0 q0
noncomputable def slices_DeleteFunc_iPair (h0:LBBe) (q0:ByteArray):(LBBe)×ByteArray:=(cond ((slices_IndexFunc_iPair_iDelKey_1 h0 q0)==(-1:Int)) (h0,q0) (((((k2_slices_DeleteFunc_iPair h0 q0).2.2).take (((k2_slices_DeleteFunc_iPair h0 q0).2.1).toNat)++List.replicate (((((k2_slices_DeleteFunc_iPair h0 q0).2.2).length:Nat):Int).toNat - ((k2_slices_DeleteFunc_iPair h0 q0).2.1).toNat) (bE,bE))++((k2_slices_DeleteFunc_iPair h0 q0).2.2).drop ((((k2_slices_DeleteFunc_iPair h0 q0).2.1).toNat)+(((((k2_slices_DeleteFunc_iPair h0 q0).2.2).length:Nat):Int).toNat - ((k2_slices_DeleteFunc_iPair h0 q0).2.1).toNat))).take (((k2_slices_DeleteFunc_iPair h0 q0).2.1).toNat),q0))
noncomputable abbrev e_slices_DeleteFunc_iPair (r:(LBBe)×ByteArray):AV×List AObj×List Nat:=((.all 0 2),[(.rows 70 true t_ptt r.1),(.box [(.t true .str r.2)])],[0])
noncomputable abbrev F_slices_DeleteFunc_iPair (r:(LBBe)×ByteArray):=some (e_slices_DeleteFunc_iPair r)
noncomputable abbrev g_slices_DeleteFunc_iPair:SM_slices_DeleteFunc_iPair.den→AV×List AObj×List Nat:=fun d=>e_slices_DeleteFunc_iPair (slices_DeleteFunc_iPair d.2.1 d.2.2.1.1)
noncomputable def q_slices_DeleteFunc_iPair (h0:LBBe) (q0:ByteArray):Bool:=(q_slices_IndexFunc_iPair_iDelKey_1 h0 q0)&&(cond ((slices_IndexFunc_iPair_iDelKey_1 h0 q0)==(-1:Int)) true (((k2_slices_DeleteFunc_iPair h0 q0).1==0)&&((decide (0≤((k2_slices_DeleteFunc_iPair h0 q0).2.1)∧((k2_slices_DeleteFunc_iPair h0 q0).2.1)≤((((k2_slices_DeleteFunc_iPair h0 q0).2.2).length:Nat):Int)∧((((k2_slices_DeleteFunc_iPair h0 q0).2.2).length:Nat):Int)≤((((k2_slices_DeleteFunc_iPair h0 q0).2.2).length:Nat):Int)))&&(decide (0≤(0:Int)∧(0:Int)≤((k2_slices_DeleteFunc_iPair h0 q0).2.1)∧((k2_slices_DeleteFunc_iPair h0 q0).2.1)≤((((((k2_slices_DeleteFunc_iPair h0 q0).2.2).take (((k2_slices_DeleteFunc_iPair h0 q0).2.1).toNat)++List.replicate (((((k2_slices_DeleteFunc_iPair h0 q0).2.2).length:Nat):Int).toNat - ((k2_slices_DeleteFunc_iPair h0 q0).2.1).toNat) (bE,bE))++((k2_slices_DeleteFunc_iPair h0 q0).2.2).drop ((((k2_slices_DeleteFunc_iPair h0 q0).2.1).toNat)+(((((k2_slices_DeleteFunc_iPair h0 q0).2.2).length:Nat):Int).toNat - ((k2_slices_DeleteFunc_iPair h0 q0).2.1).toNat))).length:Nat):Int))))))
noncomputable abbrev pre_slices_DeleteFunc_iPair:SM_slices_DeleteFunc_iPair.den→Bool:=fun d=>q_slices_DeleteFunc_iPair d.2.1 d.2.2.1.1
noncomputable abbrev L_slices_DeleteFunc_iPair:Nat→St→Option Tree:=fun b=>match b with | 0=>say_slices_DeleteFunc_iPair_0 | _=>fun _=>none
theorem run_slices_DeleteFunc_iPair:RunE false [] [0] [] G68 (L_slices_DeleteFunc_iPair) Try.f106 SM_slices_DeleteFunc_iPair pre_slices_DeleteFunc_iPair g_slices_DeleteFunc_iPair:=by
 rintro ⟨⟨_,_,_⟩,⟨h0,⟨q0,_⟩,_⟩⟩ hp
 change q_slices_DeleteFunc_iPair h0 q0=true at hp
 unfold q_slices_DeleteFunc_iPair at hp
 refine Eq.trans (b:=(cond (q_slices_IndexFunc_iPair_iDelKey_1 h0 q0) (cond ((slices_IndexFunc_iPair_iDelKey_1 h0 q0)==(-1:Int)) (some (e_slices_DeleteFunc_iPair (h0,q0))) (cond ((k2_slices_DeleteFunc_iPair h0 q0).1==0) (cond (decide (0≤((k2_slices_DeleteFunc_iPair h0 q0).2.1)∧((k2_slices_DeleteFunc_iPair h0 q0).2.1)≤((((k2_slices_DeleteFunc_iPair h0 q0).2.2).length:Nat):Int)∧((((k2_slices_DeleteFunc_iPair h0 q0).2.2).length:Nat):Int)≤((((k2_slices_DeleteFunc_iPair h0 q0).2.2).length:Nat):Int))) (cond (decide (0≤(0:Int)∧(0:Int)≤((k2_slices_DeleteFunc_iPair h0 q0).2.1)∧((k2_slices_DeleteFunc_iPair h0 q0).2.1)≤((((((k2_slices_DeleteFunc_iPair h0 q0).2.2).take (((k2_slices_DeleteFunc_iPair h0 q0).2.1).toNat)++List.replicate (((((k2_slices_DeleteFunc_iPair h0 q0).2.2).length:Nat):Int).toNat - ((k2_slices_DeleteFunc_iPair h0 q0).2.1).toNat) ((⟨#[]⟩:ByteArray),(⟨#[]⟩:ByteArray)))++((k2_slices_DeleteFunc_iPair h0 q0).2.2).drop ((((k2_slices_DeleteFunc_iPair h0 q0).2.1).toNat)+(((((k2_slices_DeleteFunc_iPair h0 q0).2.2).length:Nat):Int).toNat - ((k2_slices_DeleteFunc_iPair h0 q0).2.1).toNat))).length:Nat):Int))) (some (e_slices_DeleteFunc_iPair (((((k2_slices_DeleteFunc_iPair h0 q0).2.2).take (((k2_slices_DeleteFunc_iPair h0 q0).2.1).toNat)++List.replicate (((((k2_slices_DeleteFunc_iPair h0 q0).2.2).length:Nat):Int).toNat - ((k2_slices_DeleteFunc_iPair h0 q0).2.1).toNat) ((⟨#[]⟩:ByteArray),(⟨#[]⟩:ByteArray)))++((k2_slices_DeleteFunc_iPair h0 q0).2.2).drop ((((k2_slices_DeleteFunc_iPair h0 q0).2.1).toNat)+(((((k2_slices_DeleteFunc_iPair h0 q0).2.2).length:Nat):Int).toNat - ((k2_slices_DeleteFunc_iPair h0 q0).2.1).toNat))).take (((k2_slices_DeleteFunc_iPair h0 q0).2.1).toNat),q0))) none) none) none)) none)) (by kernel_rfl) ?_
 exact (cndA hp fun hp=>(cndQ (F:=F_slices_DeleteFunc_iPair) hp (fun hp=>rfl) (fun hp=>(cndA hp fun hp=>(cndA hp fun hp=>(cndT hp fun _h=>rfl))))))
noncomputable abbrev m_slices_DeleteFunc_iPair:=win winIds (msum SM_slices_DeleteFunc_iPair pre_slices_DeleteFunc_iPair g_slices_DeleteFunc_iPair)
theorem c_slices_DeleteFunc_iPair:MContract Try.prog 106 m_slices_DeleteFunc_iPair:=(MContract.of_dataE false [] [0] []  G68 (by kernel_rfl) (hl1 (i:=0) (by kernel_rfl) lw_slices_DeleteFunc_iPair_0) _ _ _ run_slices_DeleteFunc_iPair).win winIds
noncomputable def S69:Tab:=Tab.add S68 106 (m_slices_DeleteFunc_iPair)
noncomputable def QF69:FuncId→Bool:=QF68
theorem G69:Good Try.prog tt S69 QF69:=G68.addM c_slices_DeleteFunc_iPair (win_local _) ⟨Try.f106,by kernel_rfl,by kernel_rfl,by kernel_rfl⟩ (by kernel_rfl)

noncomputable abbrev P_iDelKey:List PSh:=[.t tq6,.t .str]
noncomputable def iDelKey (a0:LBBe) (a1:ByteArray):LBBe:=((slices_DeleteFunc_iPair (slices_Clone_iPair a0) a1).1)
noncomputable abbrev e_iDelKey (r:LBBe):AV×List AObj:=((.all 0 2),[(.rows 70 true t_ptt r)])
noncomputable abbrev F_iDelKey (r:LBBe):=some (e_iDelKey r)
noncomputable abbrev g_iDelKey:pshsDen P_iDelKey→AV×List AObj:=fun d=>e_iDelKey (iDelKey d.1 d.2.1)
noncomputable def q_iDelKey (a0:LBBe) (a1:ByteArray):Bool:=(q_slices_Clone_iPair a0)&&(q_slices_DeleteFunc_iPair (slices_Clone_iPair a0) a1)
noncomputable abbrev pre_iDelKey:pshsDen P_iDelKey→Bool:=fun d=>q_iDelKey d.1 d.2.1
theorem run_iDelKey:RunP false G69 (fun _ _=>none) Try.f66 P_iDelKey pre_iDelKey g_iDelKey:=by
 rintro ⟨a0,⟨a1,_⟩⟩ hp
 change q_iDelKey a0 a1=true at hp
 unfold q_iDelKey at hp
 refine Eq.trans (b:=(cond (q_slices_Clone_iPair a0) (cond (q_slices_DeleteFunc_iPair (slices_Clone_iPair a0) a1) (some (e_iDelKey ((slices_DeleteFunc_iPair (slices_Clone_iPair a0) a1).1))) none) none)) (by kernel_rfl) ?_
 exact (cndA hp fun hp=>(cndT hp fun _h=>rfl))
theorem c_iDelKey:PContract Try.prog 66 (sumOf P_iDelKey pre_iDelKey g_iDelKey):=PContract.of_data false G69 (by kernel_rfl) (hl0 (by kernel_rfl)) _ _ _ run_iDelKey
noncomputable def S70:Tab:=Tab.add S69 66 (lift (sumOf P_iDelKey pre_iDelKey g_iDelKey))
noncomputable def QF70:FuncId→Bool:=QF69
theorem G70:Good Try.prog tt S70 QF70:=G69.add c_iDelKey ⟨Try.f66,by kernel_rfl,by kernel_rfl,by kernel_rfl⟩ (by kernel_rfl)

noncomputable abbrev jS21:List Sh:=.junk::jS20
noncomputable abbrev jA21:List AV:=.junk::.junk::.junk::.junk::jA17
noncomputable abbrev P_iApply:List PSh:=[.t tq6,.t tq5]
noncomputable abbrev S_iApply_0:SS:=⟨(.junk::.junk::.junk::.junk::.junk::.all 0 2::.junk::.junk::.junk::.junk::.t false tq5::.t true (.int .i64)::.t true (.int .i64)::jS21),[.rows 70 true t_ptt]⟩
noncomputable abbrev E_iApply_0_0:SS:=⟨(.junk::.junk::.junk::.junk::.junk::.all 0 2::jS28),[.rows 70 true t_ptt]⟩
noncomputable def k1_iApply (x10:Lq2) (x12:Int) (h0:LBBe):=iputKey (((x10.getD x12.toNat ((0:Int),(bE,bE))).2).1) (((x10.getD x12.toNat ((0:Int),(bE,bE))).2).2) h0
noncomputable def k2_iApply (x10:Lq2) (x12:Int) (h0:LBBe):=iDelKey h0 (((x10.getD x12.toNat ((0:Int),(bE,bE))).2).1)
noncomputable def st_iApply_0 (x10:Lq2) (x11:Int) (x12:Int) (h0:LBBe):RT S_iApply_0.den:=(.br (decide (x12<x11)) (.br (decide (0≤x12∧x12<((x10.length:Nat):Int))) (.br (((x10.getD x12.toNat ((0:Int),(bE,bE))).1)==(1:Int)) (.br (q_iputKey (((x10.getD x12.toNat ((0:Int),(bE,bE))).2).1) (((x10.getD x12.toNat ((0:Int),(bE,bE))).2).2) h0) (.next (((),(),(),(),(),(),(),(),(),(),x10,x11,IntKind.wrap .i64 (x12+(1:Int)),u22),((k1_iApply x10 x12 h0),()))) .fail) (.br (((x10.getD x12.toNat ((0:Int),(bE,bE))).1)==(2:Int)) (.br (q_iDelKey h0 (((x10.getD x12.toNat ((0:Int),(bE,bE))).2).1)) (.next (((),(),(),(),(),(),(),(),(),(),x10,x11,IntKind.wrap .i64 (x12+(1:Int)),u22),((k2_iApply x10 x12 h0),()))) .fail) (.next (((),(),(),(),(),(),(),(),(),(),x10,x11,IntKind.wrap .i64 (x12+(1:Int)),u22),(h0,()))))) .fail) (.done (.exit 0) E_iApply_0_0 ((u35),(h0,()))))
noncomputable abbrev V_iApply_0:=(Lq2)×(Int)×(Int)×(LBBe)
noncomputable abbrev A_iApply_0:=Nat×(LBBe)
noncomputable def fl_iApply_0:A_iApply_0:=(99,([]:LBBe))
noncomputable def ss_iApply_0 (x10:Lq2) (x11:Int) (x12:Int) (h0:LBBe):V_iApply_0 ⊕ A_iApply_0:=(cond (decide (x12<x11)) (cond (decide (0≤x12∧x12<((x10.length:Nat):Int))) (cond (((x10.getD x12.toNat ((0:Int),(bE,bE))).1)==(1:Int)) (cond (q_iputKey (((x10.getD x12.toNat ((0:Int),(bE,bE))).2).1) (((x10.getD x12.toNat ((0:Int),(bE,bE))).2).2) h0) (.inl (x10,x11,IntKind.wrap .i64 (x12+(1:Int)),(k1_iApply x10 x12 h0))) (.inr fl_iApply_0)) (cond (((x10.getD x12.toNat ((0:Int),(bE,bE))).1)==(2:Int)) (cond (q_iDelKey h0 (((x10.getD x12.toNat ((0:Int),(bE,bE))).2).1)) (.inl (x10,x11,IntKind.wrap .i64 (x12+(1:Int)),(k2_iApply x10 x12 h0))) (.inr fl_iApply_0)) (.inl (x10,x11,IntKind.wrap .i64 (x12+(1:Int)),h0)))) (.inr fl_iApply_0)) (.inr (0,h0)))
noncomputable def it_iApply_0 (x10:Lq2) (x11:Int) (x12:Int) (h0:LBBe):A_iApply_0:=itX (fun v:V_iApply_0=>ss_iApply_0 v.1 v.2.1 v.2.2.1 v.2.2.2) fl_iApply_0 (x10,x11,x12,h0)
noncomputable def ct_iApply_0 (a:A_iApply_0):CT:=(.br (a.1==0) (.done (.exit 0) E_iApply_0_0 ((u35),(a.2,()))) .fail)
noncomputable def T_iApply_0 (x10:Lq2) (x11:Int) (x12:Int) (h0:LBBe):CT:=ct_iApply_0 (it_iApply_0 x10 x11 x12 h0)
noncomputable abbrev sp_iApply_0:S_iApply_0.den→RT S_iApply_0.den:=fun d=>st_iApply_0 d.1.2.2.2.2.2.2.2.2.2.2.1 d.1.2.2.2.2.2.2.2.2.2.2.2.1 d.1.2.2.2.2.2.2.2.2.2.2.2.2.1 d.2.1
noncomputable abbrev pk_iApply_0 (x10:Lq2) (x11:Int) (x12:Int) (h0:LBBe):S_iApply_0.den:=(((),(),(),(),(),(),(),(),(),(),x10,x11,x12,u22),(h0,()))
noncomputable def body_iApply_0:Code:=((loopsIn 0 (bodyOf Try.f29)).getD 0 (0,.skip)).2
noncomputable abbrev pv_iApply_0 (v:V_iApply_0):S_iApply_0.den:=pk_iApply_0 v.1 v.2.1 v.2.2.1 v.2.2.2
noncomputable def ox_iApply_0 (x10:Lq2) (x11:Int) (x12:Int) (h0:LBBe):Option (Ex×St):=(cond (decide (x12<x11)) (cond (decide (0≤x12∧x12<((x10.length:Nat):Int))) (cond (((x10.getD x12.toNat ((0:Int),(bE,bE))).1)==(1:Int)) (cond (q_iputKey (((x10.getD x12.toNat ((0:Int),(bE,bE))).2).1) (((x10.getD x12.toNat ((0:Int),(bE,bE))).2).2) h0) (some (.normal,(⟨(.junk::.junk::.junk::.junk::.junk::(.all 0 2)::.junk::.junk::.junk::.junk::(.t false tq5 x10)::(.t true (.int .i64) x11)::(.t true (.int .i64) (IntKind.wrap .i64 (x12+(1:Int))))::jA21),[(.rows 70 true t_ptt (k1_iApply x10 x12 h0))],0,[]⟩:St))) none) (cond (((x10.getD x12.toNat ((0:Int),(bE,bE))).1)==(2:Int)) (cond (q_iDelKey h0 (((x10.getD x12.toNat ((0:Int),(bE,bE))).2).1)) (some (.normal,(⟨(.junk::.junk::.junk::.junk::.junk::(.all 0 2)::.junk::.junk::.junk::.junk::(.t false tq5 x10)::(.t true (.int .i64) x11)::(.t true (.int .i64) (IntKind.wrap .i64 (x12+(1:Int))))::jA21),[(.rows 70 true t_ptt (k2_iApply x10 x12 h0))],0,[]⟩:St))) none) (some (.normal,(⟨(.junk::.junk::.junk::.junk::.junk::(.all 0 2)::.junk::.junk::.junk::.junk::(.t false tq5 x10)::(.t true (.int .i64) x11)::(.t true (.int .i64) (IntKind.wrap .i64 (x12+(1:Int))))::jA21),[(.rows 70 true t_ptt h0)],0,[]⟩:St))))) none) (some ((.exit 0),(⟨(.junk::.junk::.junk::.junk::.junk::(.all 0 2)::jA28),[(.rows 70 true t_ptt h0)],0,[]⟩:St))))
theorem rdA_iApply_0:RdA G70 (fun _ _=>none) 0 body_iApply_0 S_iApply_0 0 [] (kepts [] [(0,[5])]) (fun d=>ox_iApply_0 d.1.2.2.2.2.2.2.2.2.2.2.1 d.1.2.2.2.2.2.2.2.2.2.2.2.1 d.1.2.2.2.2.2.2.2.2.2.2.2.2.1 d.2.1):=by
 intro d
 kernel_rfl
theorem rdB_iApply_0:∀ d:S_iApply_0.den,ox_iApply_0 d.1.2.2.2.2.2.2.2.2.2.2.1 d.1.2.2.2.2.2.2.2.2.2.2.2.1 d.1.2.2.2.2.2.2.2.2.2.2.2.2.1 d.2.1=(sp_iApply_0 d).opt 0 []:=by
 intro d
 kernel_rfl
noncomputable abbrev say_iApply_0:St→Option Tree:=S_iApply_0.say 0 [] [] (fun d=>T_iApply_0 d.1.2.2.2.2.2.2.2.2.2.2.1 d.1.2.2.2.2.2.2.2.2.2.2.2.1 d.1.2.2.2.2.2.2.2.2.2.2.2.2.1 d.2.1)
theorem lw_iApply_0:LoopWp Try.prog say_iApply_0 body_iApply_0:=SS.wp2 (hl0 (by kernel_rfl)) [] sp_iApply_0 rdA_iApply_0 rdB_iApply_0 _ (fun d=>Runs.ofIt (step:=sp_iApply_0) pv_iApply_0 (ct:=ct_iApply_0) rfl (fun v=>((relB (relB (relB (relB rfl rfl) (relB (relB rfl rfl) rfl)) rfl) rfl):(st_iApply_0 v.1 v.2.1 v.2.2.1 v.2.2.2).val=relS pv_iApply_0 ct_iApply_0 (ss_iApply_0 v.1 v.2.1 v.2.2.1 v.2.2.2))) (fun a=>((cendB (cendD (by simp)) cendF):CEnd _ (ct_iApply_0 a))) (d.1.2.2.2.2.2.2.2.2.2.2.1,d.1.2.2.2.2.2.2.2.2.2.2.2.1,d.1.2.2.2.2.2.2.2.2.2.2.2.2.1,d.2.1))
noncomputable def iApply (a0:LBBe) (a1:Lq2):LBBe:=((it_iApply_0 a1 ((a1.length:Nat):Int) (0:Int) (slices_Clone_iPair a0)).2)
noncomputable abbrev e_iApply (r:LBBe):AV×List AObj:=((.all 0 2),[(.rows 70 true t_ptt r)])
noncomputable abbrev F_iApply (r:LBBe):=some (e_iApply r)
noncomputable abbrev g_iApply:pshsDen P_iApply→AV×List AObj:=fun d=>e_iApply (iApply d.1 d.2.1)
noncomputable def q_iApply (a0:LBBe) (a1:Lq2):Bool:=(q_slices_Clone_iPair a0)&&((it_iApply_0 a1 ((a1.length:Nat):Int) (0:Int) (slices_Clone_iPair a0)).1==0)
noncomputable abbrev pre_iApply:pshsDen P_iApply→Bool:=fun d=>q_iApply d.1 d.2.1
noncomputable abbrev L_iApply:Nat→St→Option Tree:=fun b=>match b with | 0=>say_iApply_0 | _=>fun _=>none
theorem run_iApply:RunP false G70 (L_iApply) Try.f29 P_iApply pre_iApply g_iApply:=by
 rintro ⟨a0,⟨a1,_⟩⟩ hp
 change q_iApply a0 a1=true at hp
 unfold q_iApply at hp
 refine Eq.trans (b:=(cond (q_slices_Clone_iPair a0) (cond ((it_iApply_0 a1 ((a1.length:Nat):Int) (0:Int) (slices_Clone_iPair a0)).1==0) (some (e_iApply ((it_iApply_0 a1 ((a1.length:Nat):Int) (0:Int) (slices_Clone_iPair a0)).2))) none) none)) (by kernel_rfl) ?_
 exact (cndA hp fun hp=>(cndT hp fun _h=>rfl))
theorem c_iApply:PContract Try.prog 29 (sumOf P_iApply pre_iApply g_iApply):=PContract.of_data false G70 (by kernel_rfl) (hl1 (i:=0) (by kernel_rfl) lw_iApply_0) _ _ _ run_iApply
noncomputable def S71:Tab:=Tab.add S70 29 (lift (sumOf P_iApply pre_iApply g_iApply))
noncomputable def QF71:FuncId→Bool:=QF70
theorem G71:Good Try.prog tt S71 QF71:=G70.add c_iApply ⟨Try.f29,by kernel_rfl,by kernel_rfl,by kernel_rfl⟩ (by kernel_rfl)

noncomputable abbrev SM_ireplay_add:SS:=⟨[.ptr 0 0 1 0,.agg [.t true (.int .i64),.t true (.int .i64),.t false tq5],.t false tq3],[.box [.nil,.nil]]⟩
noncomputable def ireplay_add (x1_0:Int) (x1_1:Int) (x1_2:Lq2) (x2:Lq1):Bool×Lq1:=(cond (x1_0==(1:Int)) (cond (decide ((irecAt x2 x1_1) ≥ (0:Int))) (false,([]:Lq1)) (cond (iisHeldKey [] x1_2) (false,([]:Lq1)) (cond (!(iMeets [] x1_2)) (false,([]:Lq1)) (true,[((1:Int),(x1_1,(slices_Clone_iOp x1_2)))])))) (cond (x1_0==(3:Int)) (!(decide ((irecAt x2 x1_1) ≥ (0:Int))),([]:Lq1)) (false,([]:Lq1))))
noncomputable abbrev e_ireplay_add (r:Bool×Lq1):AV×List AObj×List Nat:=((.t true .bool r.1),[(.box [(.raw (.slice none 0 0)),(.all 1 3)]),(.rows 32 true tq4 r.2)],[])
noncomputable abbrev F_ireplay_add (r:Bool×Lq1):=some (e_ireplay_add r)
noncomputable abbrev g_ireplay_add:SM_ireplay_add.den→AV×List AObj×List Nat:=fun d=>e_ireplay_add (ireplay_add d.1.2.1.1 d.1.2.1.2.1 d.1.2.1.2.2.1 d.1.2.2.1)
noncomputable def q_ireplay_add (x1_0:Int) (x1_1:Int) (x1_2:Lq2) (x2:Lq1):Bool:=(q_irecAt x2 x1_1)&&(cond (x1_0==(1:Int)) (cond (decide ((irecAt x2 x1_1) ≥ (0:Int))) true ((q_iisHeldKey [] x1_2)&&(cond (iisHeldKey [] x1_2) true ((q_iMeets [] x1_2)&&(cond (!(iMeets [] x1_2)) true ((q_slices_Clone_iOp x1_2)&&(decide ([((1:Int),(x1_1,(slices_Clone_iOp x1_2)))].length*40≤MAXB)))))))) ((q_irecAt [] x1_1)&&(decide ((irecAt [] x1_1)<(0:Int)))))
noncomputable abbrev pre_ireplay_add:SM_ireplay_add.den→Bool:=fun d=>q_ireplay_add d.1.2.1.1 d.1.2.1.2.1 d.1.2.1.2.2.1 d.1.2.2.1
theorem run_ireplay_add:RunE false [] [] [(0,1,99999,32,tq4)] G71 (fun _ _=>none) Try.f83 SM_ireplay_add pre_ireplay_add g_ireplay_add:=by
 rintro ⟨⟨_,⟨x1_0,x1_1,x1_2,_⟩,x2,_⟩,⟨⟨_,_,_⟩,_⟩⟩ hp
 change q_ireplay_add x1_0 x1_1 x1_2 x2=true at hp
 unfold q_ireplay_add at hp
 refine Eq.trans (b:=(cond (q_irecAt x2 x1_1) (cond (x1_0==(1:Int)) (cond (decide ((irecAt x2 x1_1) ≥ (0:Int))) (some (e_ireplay_add (false,([]:Lq1)))) (cond (q_iisHeldKey [] x1_2) (cond (iisHeldKey [] x1_2) (some (e_ireplay_add (false,([]:Lq1)))) (cond (q_iMeets [] x1_2) (cond (!(iMeets [] x1_2)) (some (e_ireplay_add (false,([]:Lq1)))) (cond (q_slices_Clone_iOp x1_2) (cond (decide ([((1:Int),(x1_1,(slices_Clone_iOp x1_2)))].length*40≤MAXB)) (some (e_ireplay_add (true,[((1:Int),(x1_1,(slices_Clone_iOp x1_2)))]))) none) none)) none)) none)) (cond (q_irecAt [] x1_1) (cond (decide ((irecAt [] x1_1)<(0:Int))) (cond (x1_0==(3:Int)) (some (e_ireplay_add (!(decide ((irecAt x2 x1_1) ≥ (0:Int))),([]:Lq1)))) (some (e_ireplay_add (false,([]:Lq1))))) (cond (x1_0==(2:Int)) none none)) none)) none)) (by kernel_rfl) ?_
 exact (cndA hp fun hp=>(cndQ (F:=F_ireplay_add) hp (fun hp=>(cndQ (F:=F_ireplay_add) hp (fun hp=>rfl) (fun hp=>(cndA hp fun hp=>(cndQ (F:=F_ireplay_add) hp (fun hp=>rfl) (fun hp=>(cndA hp fun hp=>(cndQ (F:=F_ireplay_add) hp (fun hp=>rfl) (fun hp=>(cndA hp fun hp=>(cndT hp fun _h=>rfl))))))))))) (fun hp=>(cndA hp fun hp=>(cndT hp fun _h=>(cnd (F:=F_ireplay_add) (fun _h=>rfl) (fun _h=>rfl)))))))
noncomputable abbrev m_ireplay_add:=win winIds (msum SM_ireplay_add pre_ireplay_add g_ireplay_add)
theorem c_ireplay_add:MContract Try.prog 83 m_ireplay_add:=(MContract.of_dataE false [] [] [(0,1,99999,32,tq4)]  G71 (by kernel_rfl) (hl0 (by kernel_rfl)) _ _ _ run_ireplay_add).win winIds
noncomputable def S72:Tab:=Tab.add S71 83 (m_ireplay_add)
noncomputable def QF72:FuncId→Bool:=QF71
theorem G72:Good Try.prog tt S72 QF72:=G71.addM c_ireplay_add (win_local _) ⟨Try.f83,by kernel_rfl,by kernel_rfl,by kernel_rfl⟩ (by kernel_rfl)

noncomputable abbrev SM_slices_Delete_iRec:SS:=⟨[.all 0 3,.t true (.int .i64),.t true (.int .i64)],[.rows 32 true tq4]⟩
noncomputable def slices_Delete_iRec (x1:Int) (x2:Int) (h0:Lq1):Lq1:=(cond (x1==x2) h0 (((((h0.take x1.toNat++((h0.drop x2.toNat).take (((h0.length:Nat):Int).toNat - x2.toNat)))++h0.drop (x1.toNat+((h0.drop x2.toNat).take (((h0.length:Nat):Int).toNat - x2.toNat)).length)).take (((x1.toNat+((h0.drop x2.toNat).take (((h0.length:Nat):Int).toNat - x2.toNat)).length:Nat):Int).toNat)++List.replicate (((h0.length:Nat):Int).toNat - ((x1.toNat+((h0.drop x2.toNat).take (((h0.length:Nat):Int).toNat - x2.toNat)).length:Nat):Int).toNat) ((0:Int),((0:Int),[])))++((h0.take x1.toNat++((h0.drop x2.toNat).take (((h0.length:Nat):Int).toNat - x2.toNat)))++h0.drop (x1.toNat+((h0.drop x2.toNat).take (((h0.length:Nat):Int).toNat - x2.toNat)).length)).drop ((((x1.toNat+((h0.drop x2.toNat).take (((h0.length:Nat):Int).toNat - x2.toNat)).length:Nat):Int).toNat)+(((h0.length:Nat):Int).toNat - ((x1.toNat+((h0.drop x2.toNat).take (((h0.length:Nat):Int).toNat - x2.toNat)).length:Nat):Int).toNat))).take (x1.toNat+((h0.drop x2.toNat).take (((h0.length:Nat):Int).toNat - x2.toNat)).length)))
noncomputable abbrev e_slices_Delete_iRec (r:Lq1):AV×List AObj×List Nat:=((.all 0 3),[(.rows 32 true tq4 r)],[0])
noncomputable abbrev F_slices_Delete_iRec (r:Lq1):=some (e_slices_Delete_iRec r)
noncomputable abbrev g_slices_Delete_iRec:SM_slices_Delete_iRec.den→AV×List AObj×List Nat:=fun d=>e_slices_Delete_iRec (slices_Delete_iRec d.1.2.1 d.1.2.2.1 d.2.1)
noncomputable def q_slices_Delete_iRec (x1:Int) (x2:Int) (h0:Lq1):Bool:=(decide (0≤x1∧x1≤x2∧x2≤((h0.length:Nat):Int)∧((h0.length:Nat):Int)≤((h0.length:Nat):Int)))&&(cond (x1==x2) true ((decide (0≤(0:Int)∧(0:Int)≤x1∧x1≤((h0.length:Nat):Int)))&&((decide (0≤x2∧x2≤((h0.length:Nat):Int)∧((h0.length:Nat):Int)≤((h0.length:Nat):Int)))&&((decide (x1.toNat+((h0.drop x2.toNat).take (((h0.length:Nat):Int).toNat - x2.toNat)).length≤h0.length))&&(decide (0≤((x1.toNat+((h0.drop x2.toNat).take (((h0.length:Nat):Int).toNat - x2.toNat)).length:Nat):Int)∧((x1.toNat+((h0.drop x2.toNat).take (((h0.length:Nat):Int).toNat - x2.toNat)).length:Nat):Int)≤((h0.length:Nat):Int)∧((h0.length:Nat):Int)≤((((h0.take x1.toNat++((h0.drop x2.toNat).take (((h0.length:Nat):Int).toNat - x2.toNat)))++h0.drop (x1.toNat+((h0.drop x2.toNat).take (((h0.length:Nat):Int).toNat - x2.toNat)).length)).length:Nat):Int)))))))
noncomputable abbrev pre_slices_Delete_iRec:SM_slices_Delete_iRec.den→Bool:=fun d=>q_slices_Delete_iRec d.1.2.1 d.1.2.2.1 d.2.1
theorem run_slices_Delete_iRec:RunE false [] [0] [] G72 (fun _ _=>none) Try.f103 SM_slices_Delete_iRec pre_slices_Delete_iRec g_slices_Delete_iRec:=by
 rintro ⟨⟨_,x1,x2,_⟩,⟨h0,_⟩⟩ hp
 change q_slices_Delete_iRec x1 x2 h0=true at hp
 unfold q_slices_Delete_iRec at hp
 refine Eq.trans (b:=(cond (decide (0≤x1∧x1≤x2∧x2≤((h0.length:Nat):Int)∧((h0.length:Nat):Int)≤((h0.length:Nat):Int))) (cond (x1==x2) (some (e_slices_Delete_iRec h0)) (cond (decide (0≤(0:Int)∧(0:Int)≤x1∧x1≤((h0.length:Nat):Int))) (cond (decide (0≤x2∧x2≤((h0.length:Nat):Int)∧((h0.length:Nat):Int)≤((h0.length:Nat):Int))) (cond (decide (x1.toNat+((h0.drop x2.toNat).take (((h0.length:Nat):Int).toNat - x2.toNat)).length≤h0.length)) (cond (decide (0≤((x1.toNat+((h0.drop x2.toNat).take (((h0.length:Nat):Int).toNat - x2.toNat)).length:Nat):Int)∧((x1.toNat+((h0.drop x2.toNat).take (((h0.length:Nat):Int).toNat - x2.toNat)).length:Nat):Int)≤((h0.length:Nat):Int)∧((h0.length:Nat):Int)≤((((h0.take x1.toNat++((h0.drop x2.toNat).take (((h0.length:Nat):Int).toNat - x2.toNat)))++h0.drop (x1.toNat+((h0.drop x2.toNat).take (((h0.length:Nat):Int).toNat - x2.toNat)).length)).length:Nat):Int))) (some (e_slices_Delete_iRec (((((h0.take x1.toNat++((h0.drop x2.toNat).take (((h0.length:Nat):Int).toNat - x2.toNat)))++h0.drop (x1.toNat+((h0.drop x2.toNat).take (((h0.length:Nat):Int).toNat - x2.toNat)).length)).take (((x1.toNat+((h0.drop x2.toNat).take (((h0.length:Nat):Int).toNat - x2.toNat)).length:Nat):Int).toNat)++List.replicate (((h0.length:Nat):Int).toNat - ((x1.toNat+((h0.drop x2.toNat).take (((h0.length:Nat):Int).toNat - x2.toNat)).length:Nat):Int).toNat) ((0:Int),((0:Int),[])))++((h0.take x1.toNat++((h0.drop x2.toNat).take (((h0.length:Nat):Int).toNat - x2.toNat)))++h0.drop (x1.toNat+((h0.drop x2.toNat).take (((h0.length:Nat):Int).toNat - x2.toNat)).length)).drop ((((x1.toNat+((h0.drop x2.toNat).take (((h0.length:Nat):Int).toNat - x2.toNat)).length:Nat):Int).toNat)+(((h0.length:Nat):Int).toNat - ((x1.toNat+((h0.drop x2.toNat).take (((h0.length:Nat):Int).toNat - x2.toNat)).length:Nat):Int).toNat))).take (x1.toNat+((h0.drop x2.toNat).take (((h0.length:Nat):Int).toNat - x2.toNat)).length)))) none) none) none) none)) none)) (by kernel_rfl) ?_
 exact (cndA hp fun hp=>(cndQ (F:=F_slices_Delete_iRec) hp (fun hp=>rfl) (fun hp=>(cndA hp fun hp=>(cndA hp fun hp=>(cndA hp fun hp=>(cndT hp fun _h=>rfl)))))))
noncomputable abbrev m_slices_Delete_iRec:=win winIds (msum SM_slices_Delete_iRec pre_slices_Delete_iRec g_slices_Delete_iRec)
theorem c_slices_Delete_iRec:MContract Try.prog 103 m_slices_Delete_iRec:=(MContract.of_dataE false [] [0] []  G72 (by kernel_rfl) (hl0 (by kernel_rfl)) _ _ _ run_slices_Delete_iRec).win winIds
noncomputable def S73:Tab:=Tab.add S72 103 (m_slices_Delete_iRec)
noncomputable def QF73:FuncId→Bool:=QF72
theorem G73:Good Try.prog tt S73 QF73:=G72.addM c_slices_Delete_iRec (win_local _) ⟨Try.f103,by kernel_rfl,by kernel_rfl,by kernel_rfl⟩ (by kernel_rfl)

noncomputable abbrev SM_ireplay_add_w1:SS:=⟨[.ptr 0 0 1 0,.agg [.t true (.int .i64),.t true (.int .i64),.t false tq5],.t false tq3],[.box [.nil,.all 1 3],.rows 32 true tq4]⟩
noncomputable def ireplay_add_w1 (x1_0:Int) (x1_1:Int) (x1_2:Lq2) (x2:Lq1) (h1:Lq1):Bool×(Lq1)×LBBe:=(cond (x1_0==(1:Int)) (cond (decide ((irecAt x2 x1_1) ≥ (0:Int))) (false,h1,([]:LBBe)) (cond (iisHeldKey h1 x1_2) (false,h1,([]:LBBe)) (cond (!(iMeets [] x1_2)) (false,h1,([]:LBBe)) (true,h1++[((1:Int),(x1_1,(slices_Clone_iOp x1_2)))],([]:LBBe))))) (cond (decide ((irecAt h1 x1_1)<(0:Int))) (cond (x1_0==(3:Int)) (!(decide ((irecAt x2 x1_1) ≥ (0:Int))),h1,([]:LBBe)) (false,h1,([]:LBBe))) (cond (x1_0==(2:Int)) (decide ((((iApply [] (((h1.getD ((irecAt h1 x1_1).toNat) ((0:Int),((0:Int),[]))).2).2)).length:Nat):Int)≤(60:Int)),(slices_Delete_iRec (irecAt h1 x1_1) (IntKind.wrap .i64 ((irecAt h1 x1_1)+(1:Int))) h1),(iApply [] (((h1.getD ((irecAt h1 x1_1).toNat) ((0:Int),((0:Int),[]))).2).2))) (decide (((0:Nat):Int)≤(60:Int)),(slices_Delete_iRec (irecAt h1 x1_1) (IntKind.wrap .i64 ((irecAt h1 x1_1)+(1:Int))) h1),([]:LBBe)))))
noncomputable abbrev e_ireplay_add_w1 (r:Bool×(Lq1)×LBBe):AV×List AObj×List Nat:=((.t true .bool r.1),[(.box [(.all 2 2),(.all 1 3)]),(.rows 32 true tq4 r.2.1),(.rows 70 true t_ptt r.2.2)],[1])
noncomputable abbrev F_ireplay_add_w1 (r:Bool×(Lq1)×LBBe):=some (e_ireplay_add_w1 r)
noncomputable abbrev g_ireplay_add_w1:SM_ireplay_add_w1.den→AV×List AObj×List Nat:=fun d=>e_ireplay_add_w1 (ireplay_add_w1 d.1.2.1.1 d.1.2.1.2.1 d.1.2.1.2.2.1 d.1.2.2.1 d.2.2.1)
noncomputable def q_ireplay_add_w1 (x1_0:Int) (x1_1:Int) (x1_2:Lq2) (x2:Lq1) (h1:Lq1):Bool:=(q_irecAt x2 x1_1)&&(cond (x1_0==(1:Int)) (cond (decide ((irecAt x2 x1_1) ≥ (0:Int))) true ((q_iisHeldKey h1 x1_2)&&(cond (iisHeldKey h1 x1_2) true ((q_iMeets [] x1_2)&&(cond (!(iMeets [] x1_2)) true ((q_slices_Clone_iOp x1_2)&&(decide ((h1.length+[((1:Int),(x1_1,(slices_Clone_iOp x1_2)))].length)*40≤MAXB)))))))) ((q_irecAt h1 x1_1)&&(cond (decide ((irecAt h1 x1_1)<(0:Int))) true (cond (x1_0==(2:Int)) ((decide (0≤(irecAt h1 x1_1)∧(irecAt h1 x1_1)<((h1.length:Nat):Int)))&&((q_iApply [] (((h1.getD ((irecAt h1 x1_1).toNat) ((0:Int),((0:Int),[]))).2).2))&&(q_slices_Delete_iRec (irecAt h1 x1_1) (IntKind.wrap .i64 ((irecAt h1 x1_1)+(1:Int))) h1))) (q_slices_Delete_iRec (irecAt h1 x1_1) (IntKind.wrap .i64 ((irecAt h1 x1_1)+(1:Int))) h1)))))
noncomputable abbrev pre_ireplay_add_w1:SM_ireplay_add_w1.den→Bool:=fun d=>q_ireplay_add_w1 d.1.2.1.1 d.1.2.1.2.1 d.1.2.1.2.2.1 d.1.2.2.1 d.2.2.1
theorem run_ireplay_add_w1:RunE false [] [1] [(0,0,99999,70,t_ptt)] G73 (fun _ _=>none) Try.f83 SM_ireplay_add_w1 pre_ireplay_add_w1 g_ireplay_add_w1:=by
 rintro ⟨⟨_,⟨x1_0,x1_1,x1_2,_⟩,x2,_⟩,⟨⟨_,_,_⟩,h1,_⟩⟩ hp
 change q_ireplay_add_w1 x1_0 x1_1 x1_2 x2 h1=true at hp
 unfold q_ireplay_add_w1 at hp
 refine Eq.trans (b:=(cond (q_irecAt x2 x1_1) (cond (x1_0==(1:Int)) (cond (decide ((irecAt x2 x1_1) ≥ (0:Int))) (some (e_ireplay_add_w1 (false,h1,([]:LBBe)))) (cond (q_iisHeldKey h1 x1_2) (cond (iisHeldKey h1 x1_2) (some (e_ireplay_add_w1 (false,h1,([]:LBBe)))) (cond (q_iMeets [] x1_2) (cond (!(iMeets [] x1_2)) (some (e_ireplay_add_w1 (false,h1,([]:LBBe)))) (cond (q_slices_Clone_iOp x1_2) (cond (decide ((h1.length+[((1:Int),(x1_1,(slices_Clone_iOp x1_2)))].length)*40≤MAXB)) (some (e_ireplay_add_w1 (true,h1++[((1:Int),(x1_1,(slices_Clone_iOp x1_2)))],([]:LBBe)))) none) none)) none)) none)) (cond (q_irecAt h1 x1_1) (cond (decide ((irecAt h1 x1_1)<(0:Int))) (cond (x1_0==(3:Int)) (some (e_ireplay_add_w1 (!(decide ((irecAt x2 x1_1) ≥ (0:Int))),h1,([]:LBBe)))) (some (e_ireplay_add_w1 (false,h1,([]:LBBe))))) (cond (x1_0==(2:Int)) (cond (decide (0≤(irecAt h1 x1_1)∧(irecAt h1 x1_1)<((h1.length:Nat):Int))) (cond (q_iApply [] (((h1.getD ((irecAt h1 x1_1).toNat) ((0:Int),((0:Int),[]))).2).2)) (cond (q_slices_Delete_iRec (irecAt h1 x1_1) (IntKind.wrap .i64 ((irecAt h1 x1_1)+(1:Int))) h1) (some (e_ireplay_add_w1 (decide ((((iApply [] (((h1.getD ((irecAt h1 x1_1).toNat) ((0:Int),((0:Int),[]))).2).2)).length:Nat):Int)≤(60:Int)),(slices_Delete_iRec (irecAt h1 x1_1) (IntKind.wrap .i64 ((irecAt h1 x1_1)+(1:Int))) h1),(iApply [] (((h1.getD ((irecAt h1 x1_1).toNat) ((0:Int),((0:Int),[]))).2).2))))) none) none) none) (cond (q_slices_Delete_iRec (irecAt h1 x1_1) (IntKind.wrap .i64 ((irecAt h1 x1_1)+(1:Int))) h1) (some (e_ireplay_add_w1 (decide (((0:Nat):Int)≤(60:Int)),(slices_Delete_iRec (irecAt h1 x1_1) (IntKind.wrap .i64 ((irecAt h1 x1_1)+(1:Int))) h1),([]:LBBe)))) none))) none)) none)) (by kernel_rfl) ?_
 exact (cndA hp fun hp=>(cndQ (F:=F_ireplay_add_w1) hp (fun hp=>(cndQ (F:=F_ireplay_add_w1) hp (fun hp=>rfl) (fun hp=>(cndA hp fun hp=>(cndQ (F:=F_ireplay_add_w1) hp (fun hp=>rfl) (fun hp=>(cndA hp fun hp=>(cndQ (F:=F_ireplay_add_w1) hp (fun hp=>rfl) (fun hp=>(cndA hp fun hp=>(cndT hp fun _h=>rfl))))))))))) (fun hp=>(cndA hp fun hp=>(cndQ (F:=F_ireplay_add_w1) hp (fun hp=>(cnd (F:=F_ireplay_add_w1) (fun _h=>rfl) (fun _h=>rfl))) (fun hp=>(cndQ (F:=F_ireplay_add_w1) hp (fun hp=>(cndA hp fun hp=>(cndA hp fun hp=>(cndT hp fun _h=>rfl)))) (fun hp=>(cndT hp fun _h=>rfl)))))))))
noncomputable abbrev m_ireplay_add_w1:=win winIds (msum SM_ireplay_add_w1 pre_ireplay_add_w1 g_ireplay_add_w1)
theorem c_ireplay_add_w1:MContract Try.prog 83 m_ireplay_add_w1:=(MContract.of_dataE false [] [1] [(0,0,99999,70,t_ptt)]  G73 (by kernel_rfl) (hl0 (by kernel_rfl)) _ _ _ run_ireplay_add_w1).win winIds
noncomputable def S74:Tab:=Tab.add S73 83 (orElseS (m_ireplay_add) (m_ireplay_add_w1))
noncomputable def QF74:FuncId→Bool:=QF73
theorem G74:Good Try.prog tt S74 QF74:=G73.addM (MContract.orElse c_ireplay_add c_ireplay_add_w1) (orElse_local (win_local _) (win_local _)) ⟨Try.f83,by kernel_rfl,by kernel_rfl,by kernel_rfl⟩ (by kernel_rfl)

noncomputable abbrev SM_ireplay_add_w2:SS:=⟨[.ptr 0 0 1 0,.agg [.t true (.int .i64),.t true (.int .i64),.t false tq5],.t false tq3],[.box [.all 1 2,.all 2 3],.rows 70 true t_ptt,.rows 32 true tq4]⟩
noncomputable def ireplay_add_w2 (x1_0:Int) (x1_1:Int) (x1_2:Lq2) (x2:Lq1) (h1:LBBe) (h2:Lq1):Bool×(LBBe)×Lq1:=(cond (x1_0==(1:Int)) (cond (decide ((irecAt x2 x1_1) ≥ (0:Int))) (false,h1,h2) (cond (iisHeldKey h2 x1_2) (false,h1,h2) (cond (!(iMeets h1 x1_2)) (false,h1,h2) (true,h1,h2++[((1:Int),(x1_1,(slices_Clone_iOp x1_2)))])))) (cond (decide ((irecAt h2 x1_1)<(0:Int))) (cond (x1_0==(3:Int)) (!(decide ((irecAt x2 x1_1) ≥ (0:Int))),h1,h2) (false,h1,h2)) (cond (x1_0==(2:Int)) (decide ((((iApply h1 (((h2.getD ((irecAt h2 x1_1).toNat) ((0:Int),((0:Int),[]))).2).2)).length:Nat):Int)≤(60:Int)),(iApply h1 (((h2.getD ((irecAt h2 x1_1).toNat) ((0:Int),((0:Int),[]))).2).2)),(slices_Delete_iRec (irecAt h2 x1_1) (IntKind.wrap .i64 ((irecAt h2 x1_1)+(1:Int))) h2)) (decide (((h1.length:Nat):Int)≤(60:Int)),h1,(slices_Delete_iRec (irecAt h2 x1_1) (IntKind.wrap .i64 ((irecAt h2 x1_1)+(1:Int))) h2)))))
noncomputable abbrev e_ireplay_add_w2 (r:Bool×(LBBe)×Lq1):AV×List AObj×List Nat:=((.t true .bool r.1),[(.box [(.all 1 2),(.all 2 3)]),(.rows 70 true t_ptt r.2.1),(.rows 32 true tq4 r.2.2)],[1,2])
noncomputable abbrev F_ireplay_add_w2 (r:Bool×(LBBe)×Lq1):=some (e_ireplay_add_w2 r)
noncomputable abbrev g_ireplay_add_w2:SM_ireplay_add_w2.den→AV×List AObj×List Nat:=fun d=>e_ireplay_add_w2 (ireplay_add_w2 d.1.2.1.1 d.1.2.1.2.1 d.1.2.1.2.2.1 d.1.2.2.1 d.2.2.1 d.2.2.2.1)
noncomputable def q_ireplay_add_w2 (x1_0:Int) (x1_1:Int) (x1_2:Lq2) (x2:Lq1) (h1:LBBe) (h2:Lq1):Bool:=(q_irecAt x2 x1_1)&&(cond (x1_0==(1:Int)) (cond (decide ((irecAt x2 x1_1) ≥ (0:Int))) true ((q_iisHeldKey h2 x1_2)&&(cond (iisHeldKey h2 x1_2) true ((q_iMeets h1 x1_2)&&(cond (!(iMeets h1 x1_2)) true ((q_slices_Clone_iOp x1_2)&&(decide ((h2.length+[((1:Int),(x1_1,(slices_Clone_iOp x1_2)))].length)*40≤MAXB)))))))) ((q_irecAt h2 x1_1)&&(cond (decide ((irecAt h2 x1_1)<(0:Int))) true (cond (x1_0==(2:Int)) ((decide (0≤(irecAt h2 x1_1)∧(irecAt h2 x1_1)<((h2.length:Nat):Int)))&&((q_iApply h1 (((h2.getD ((irecAt h2 x1_1).toNat) ((0:Int),((0:Int),[]))).2).2))&&(q_slices_Delete_iRec (irecAt h2 x1_1) (IntKind.wrap .i64 ((irecAt h2 x1_1)+(1:Int))) h2))) (q_slices_Delete_iRec (irecAt h2 x1_1) (IntKind.wrap .i64 ((irecAt h2 x1_1)+(1:Int))) h2)))))
noncomputable abbrev pre_ireplay_add_w2:SM_ireplay_add_w2.den→Bool:=fun d=>q_ireplay_add_w2 d.1.2.1.1 d.1.2.1.2.1 d.1.2.1.2.2.1 d.1.2.2.1 d.2.2.1 d.2.2.2.1
theorem run_ireplay_add_w2:RunE false [] [1,2] [(0,0,1,70,t_ptt)] G74 (fun _ _=>none) Try.f83 SM_ireplay_add_w2 pre_ireplay_add_w2 g_ireplay_add_w2:=by
 rintro ⟨⟨_,⟨x1_0,x1_1,x1_2,_⟩,x2,_⟩,⟨⟨_,_,_⟩,h1,h2,_⟩⟩ hp
 change q_ireplay_add_w2 x1_0 x1_1 x1_2 x2 h1 h2=true at hp
 unfold q_ireplay_add_w2 at hp
 refine Eq.trans (b:=(cond (q_irecAt x2 x1_1) (cond (x1_0==(1:Int)) (cond (decide ((irecAt x2 x1_1) ≥ (0:Int))) (some (e_ireplay_add_w2 (false,h1,h2))) (cond (q_iisHeldKey h2 x1_2) (cond (iisHeldKey h2 x1_2) (some (e_ireplay_add_w2 (false,h1,h2))) (cond (q_iMeets h1 x1_2) (cond (!(iMeets h1 x1_2)) (some (e_ireplay_add_w2 (false,h1,h2))) (cond (q_slices_Clone_iOp x1_2) (cond (decide ((h2.length+[((1:Int),(x1_1,(slices_Clone_iOp x1_2)))].length)*40≤MAXB)) (some (e_ireplay_add_w2 (true,h1,h2++[((1:Int),(x1_1,(slices_Clone_iOp x1_2)))]))) none) none)) none)) none)) (cond (q_irecAt h2 x1_1) (cond (decide ((irecAt h2 x1_1)<(0:Int))) (cond (x1_0==(3:Int)) (some (e_ireplay_add_w2 (!(decide ((irecAt x2 x1_1) ≥ (0:Int))),h1,h2))) (some (e_ireplay_add_w2 (false,h1,h2)))) (cond (x1_0==(2:Int)) (cond (decide (0≤(irecAt h2 x1_1)∧(irecAt h2 x1_1)<((h2.length:Nat):Int))) (cond (q_iApply h1 (((h2.getD ((irecAt h2 x1_1).toNat) ((0:Int),((0:Int),[]))).2).2)) (cond (q_slices_Delete_iRec (irecAt h2 x1_1) (IntKind.wrap .i64 ((irecAt h2 x1_1)+(1:Int))) h2) (some (e_ireplay_add_w2 (decide ((((iApply h1 (((h2.getD ((irecAt h2 x1_1).toNat) ((0:Int),((0:Int),[]))).2).2)).length:Nat):Int)≤(60:Int)),(iApply h1 (((h2.getD ((irecAt h2 x1_1).toNat) ((0:Int),((0:Int),[]))).2).2)),(slices_Delete_iRec (irecAt h2 x1_1) (IntKind.wrap .i64 ((irecAt h2 x1_1)+(1:Int))) h2)))) none) none) none) (cond (q_slices_Delete_iRec (irecAt h2 x1_1) (IntKind.wrap .i64 ((irecAt h2 x1_1)+(1:Int))) h2) (some (e_ireplay_add_w2 (decide (((h1.length:Nat):Int)≤(60:Int)),h1,(slices_Delete_iRec (irecAt h2 x1_1) (IntKind.wrap .i64 ((irecAt h2 x1_1)+(1:Int))) h2)))) none))) none)) none)) (by kernel_rfl) ?_
 exact (cndA hp fun hp=>(cndQ (F:=F_ireplay_add_w2) hp (fun hp=>(cndQ (F:=F_ireplay_add_w2) hp (fun hp=>rfl) (fun hp=>(cndA hp fun hp=>(cndQ (F:=F_ireplay_add_w2) hp (fun hp=>rfl) (fun hp=>(cndA hp fun hp=>(cndQ (F:=F_ireplay_add_w2) hp (fun hp=>rfl) (fun hp=>(cndA hp fun hp=>(cndT hp fun _h=>rfl))))))))))) (fun hp=>(cndA hp fun hp=>(cndQ (F:=F_ireplay_add_w2) hp (fun hp=>(cnd (F:=F_ireplay_add_w2) (fun _h=>rfl) (fun _h=>rfl))) (fun hp=>(cndQ (F:=F_ireplay_add_w2) hp (fun hp=>(cndA hp fun hp=>(cndA hp fun hp=>(cndT hp fun _h=>rfl)))) (fun hp=>(cndT hp fun _h=>rfl)))))))))
noncomputable abbrev m_ireplay_add_w2:=win winIds (msum SM_ireplay_add_w2 pre_ireplay_add_w2 g_ireplay_add_w2)
theorem c_ireplay_add_w2:MContract Try.prog 83 m_ireplay_add_w2:=(MContract.of_dataE false [] [1,2] [(0,0,1,70,t_ptt)]  G74 (by kernel_rfl) (hl0 (by kernel_rfl)) _ _ _ run_ireplay_add_w2).win winIds
noncomputable def S75:Tab:=Tab.add S74 83 (orElseS (orElseS (m_ireplay_add) (m_ireplay_add_w1)) (m_ireplay_add_w2))
noncomputable def QF75:FuncId→Bool:=QF74
theorem G75:Good Try.prog tt S75 QF75:=G74.addM (MContract.orElse (MContract.orElse c_ireplay_add c_ireplay_add_w1) c_ireplay_add_w2) (orElse_local (orElse_local (win_local _) (win_local _)) (win_local _)) ⟨Try.f83,by kernel_rfl,by kernel_rfl,by kernel_rfl⟩ (by kernel_rfl)

noncomputable abbrev jA20:List AV:=.junk::.junk::.junk::jA17
noncomputable abbrev P_iReplayRecs:List PSh:=[.t tq3]
noncomputable abbrev S_iReplayRecs_0:SS:=⟨(.t false tq3::.junk::.junk::.junk::.junk::.ptr 0 0 1 0::.junk::.junk::.t false tq3::.t true (.int .i64)::.t true (.int .i64)::jS20),[.box [.all 1 2,.all 2 3],.rows 70 true t_ptt,.rows 32 true tq4]⟩
noncomputable abbrev E_iReplayRecs_0_0:SS:=⟨(.junk::.junk::.nil::.nil::.t true .bool::jS26),[]⟩
noncomputable abbrev E_iReplayRecs_0_1:SS:=⟨(.junk::.junk::.junk::.junk::.junk::.ptr 0 0 1 0::jS25),[.box [.all 1 2,.all 2 3],.rows 70 true t_ptt,.rows 32 true tq4]⟩
noncomputable def k1_iReplayRecs (x8:Lq1) (x10:Int):=iRecOk ((x8.getD x10.toNat ((0:Int),((0:Int),[]))).1) (((x8.getD x10.toNat ((0:Int),((0:Int),[]))).2).1) (((x8.getD x10.toNat ((0:Int),((0:Int),[]))).2).2)
noncomputable def k2_iReplayRecs (x0:Lq1) (x8:Lq1) (x10:Int) (h1:LBBe) (h2:Lq1):=ireplay_add_w2 ((x8.getD x10.toNat ((0:Int),((0:Int),[]))).1) (((x8.getD x10.toNat ((0:Int),((0:Int),[]))).2).1) (((x8.getD x10.toNat ((0:Int),((0:Int),[]))).2).2) ((x0.take x10.toNat).drop (0:Int).toNat) h1 h2
noncomputable def st_iReplayRecs_0 (x0:Lq1) (x8:Lq1) (x9:Int) (x10:Int) (h1:LBBe) (h2:Lq1):RT S_iReplayRecs_0.den:=(.br (decide (x10<x9)) (.br (decide (0≤x10∧x10<((x8.length:Nat):Int))) (.br (q_iRecOk ((x8.getD x10.toNat ((0:Int),((0:Int),[]))).1) (((x8.getD x10.toNat ((0:Int),((0:Int),[]))).2).1) (((x8.getD x10.toNat ((0:Int),((0:Int),[]))).2).2)) (.br (!(k1_iReplayRecs x8 x10)) (.done .ret E_iReplayRecs_0_0 (((),(),(),(),false,u27),())) (.br (decide (0≤(0:Int)∧(0:Int)≤x10∧x10≤((x0.length:Nat):Int))) (.br (q_ireplay_add_w2 ((x8.getD x10.toNat ((0:Int),((0:Int),[]))).1) (((x8.getD x10.toNat ((0:Int),((0:Int),[]))).2).1) (((x8.getD x10.toNat ((0:Int),((0:Int),[]))).2).2) ((x0.take x10.toNat).drop (0:Int).toNat) h1 h2) (.br (!((k2_iReplayRecs x0 x8 x10 h1 h2).1)) (.done .ret E_iReplayRecs_0_0 (((),(),(),(),false,u27),())) (.next ((x0,(),(),(),(),(),(),(),x8,x9,IntKind.wrap .i64 (x10+(1:Int)),u21),(((),(),()),((k2_iReplayRecs x0 x8 x10 h1 h2).2.1),((k2_iReplayRecs x0 x8 x10 h1 h2).2.2),())))) .fail) .fail)) .fail) .fail) (.done (.exit 0) E_iReplayRecs_0_1 ((u32),(((),(),()),h1,h2,()))))
noncomputable abbrev V_iReplayRecs_0:=(Lq1)×(Lq1)×(Int)×(Int)×(LBBe)×(Lq1)
noncomputable abbrev A_iReplayRecs_0:=Nat×(Bool)×(LBBe)×(Lq1)
noncomputable def fl_iReplayRecs_0:A_iReplayRecs_0:=(99,(false:Bool),([]:LBBe),([]:Lq1))
noncomputable def ss_iReplayRecs_0 (x0:Lq1) (x8:Lq1) (x9:Int) (x10:Int) (h1:LBBe) (h2:Lq1):V_iReplayRecs_0 ⊕ A_iReplayRecs_0:=(cond (decide (x10<x9)) (cond (decide (0≤x10∧x10<((x8.length:Nat):Int))) (cond (q_iRecOk ((x8.getD x10.toNat ((0:Int),((0:Int),[]))).1) (((x8.getD x10.toNat ((0:Int),((0:Int),[]))).2).1) (((x8.getD x10.toNat ((0:Int),((0:Int),[]))).2).2)) (cond (!(k1_iReplayRecs x8 x10)) (.inr (0,false,([]:LBBe),([]:Lq1))) (cond (decide (0≤(0:Int)∧(0:Int)≤x10∧x10≤((x0.length:Nat):Int))) (cond (q_ireplay_add_w2 ((x8.getD x10.toNat ((0:Int),((0:Int),[]))).1) (((x8.getD x10.toNat ((0:Int),((0:Int),[]))).2).1) (((x8.getD x10.toNat ((0:Int),((0:Int),[]))).2).2) ((x0.take x10.toNat).drop (0:Int).toNat) h1 h2) (cond (!((k2_iReplayRecs x0 x8 x10 h1 h2).1)) (.inr (0,false,([]:LBBe),([]:Lq1))) (.inl (x0,x8,x9,IntKind.wrap .i64 (x10+(1:Int)),((k2_iReplayRecs x0 x8 x10 h1 h2).2.1),((k2_iReplayRecs x0 x8 x10 h1 h2).2.2)))) (.inr fl_iReplayRecs_0)) (.inr fl_iReplayRecs_0))) (.inr fl_iReplayRecs_0)) (.inr fl_iReplayRecs_0)) (.inr (1,(false:Bool),h1,h2)))
noncomputable def it_iReplayRecs_0 (x0:Lq1) (x8:Lq1) (x9:Int) (x10:Int) (h1:LBBe) (h2:Lq1):A_iReplayRecs_0:=itX (fun v:V_iReplayRecs_0=>ss_iReplayRecs_0 v.1 v.2.1 v.2.2.1 v.2.2.2.1 v.2.2.2.2.1 v.2.2.2.2.2) fl_iReplayRecs_0 (x0,x8,x9,x10,h1,h2)
noncomputable def ct_iReplayRecs_0 (a:A_iReplayRecs_0):CT:=(.br (a.1==0) (.done .ret E_iReplayRecs_0_0 (((),(),(),(),a.2.1,u27),())) (.br (a.1==1) (.done (.exit 0) E_iReplayRecs_0_1 ((u32),(((),(),()),a.2.2.1,a.2.2.2,()))) .fail))
noncomputable def T_iReplayRecs_0 (x0:Lq1) (x8:Lq1) (x9:Int) (x10:Int) (h1:LBBe) (h2:Lq1):CT:=ct_iReplayRecs_0 (it_iReplayRecs_0 x0 x8 x9 x10 h1 h2)
noncomputable abbrev sp_iReplayRecs_0:S_iReplayRecs_0.den→RT S_iReplayRecs_0.den:=fun d=>st_iReplayRecs_0 d.1.1 d.1.2.2.2.2.2.2.2.2.1 d.1.2.2.2.2.2.2.2.2.2.1 d.1.2.2.2.2.2.2.2.2.2.2.1 d.2.2.1 d.2.2.2.1
noncomputable abbrev pk_iReplayRecs_0 (x0:Lq1) (x8:Lq1) (x9:Int) (x10:Int) (h1:LBBe) (h2:Lq1):S_iReplayRecs_0.den:=((x0,(),(),(),(),(),(),(),x8,x9,x10,u21),(((),(),()),h1,h2,()))
noncomputable def body_iReplayRecs_0:Code:=((loopsIn 0 (bodyOf Try.f45)).getD 0 (0,.skip)).2
noncomputable abbrev pv_iReplayRecs_0 (v:V_iReplayRecs_0):S_iReplayRecs_0.den:=pk_iReplayRecs_0 v.1 v.2.1 v.2.2.1 v.2.2.2.1 v.2.2.2.2.1 v.2.2.2.2.2
noncomputable def ox_iReplayRecs_0 (x0:Lq1) (x8:Lq1) (x9:Int) (x10:Int) (h1:LBBe) (h2:Lq1):Option (Ex×St):=(cond (decide (x10<x9)) (cond (decide (0≤x10∧x10<((x8.length:Nat):Int))) (cond (q_iRecOk ((x8.getD x10.toNat ((0:Int),((0:Int),[]))).1) (((x8.getD x10.toNat ((0:Int),((0:Int),[]))).2).1) (((x8.getD x10.toNat ((0:Int),((0:Int),[]))).2).2)) (cond (!(k1_iReplayRecs x8 x10)) (some (.ret,(⟨(.junk::.junk::(.raw (.slice none 0 0))::(.raw (.slice none 0 0))::(.t true .bool false)::jA26),[],0,[]⟩:St))) (cond (decide (0≤(0:Int)∧(0:Int)≤x10∧x10≤((x0.length:Nat):Int))) (cond (q_ireplay_add_w2 ((x8.getD x10.toNat ((0:Int),((0:Int),[]))).1) (((x8.getD x10.toNat ((0:Int),((0:Int),[]))).2).1) (((x8.getD x10.toNat ((0:Int),((0:Int),[]))).2).2) ((x0.take x10.toNat).drop (0:Int).toNat) h1 h2) (cond (!((k2_iReplayRecs x0 x8 x10 h1 h2).1)) (some (.ret,(⟨(.junk::.junk::(.raw (.slice none 0 0))::(.raw (.slice none 0 0))::(.t true .bool false)::jA26),[],0,[]⟩:St))) (some (.normal,(⟨((.t false tq3 x0)::.junk::.junk::.junk::.junk::(.ptr 0 0 1 0)::.junk::.junk::(.t false tq3 x8)::(.t true (.int .i64) x9)::(.t true (.int .i64) (IntKind.wrap .i64 (x10+(1:Int))))::jA20),[(.box [(.all 1 2),(.all 2 3)]),(.rows 70 true t_ptt ((k2_iReplayRecs x0 x8 x10 h1 h2).2.1)),(.rows 32 true tq4 ((k2_iReplayRecs x0 x8 x10 h1 h2).2.2))],0,[]⟩:St)))) none) none)) none) none) (some ((.exit 0),(⟨(.junk::.junk::.junk::.junk::.junk::(.ptr 0 0 1 0)::jA25),[(.box [(.all 1 2),(.all 2 3)]),(.rows 70 true t_ptt h1),(.rows 32 true tq4 h2)],0,[]⟩:St))))
theorem rdA_iReplayRecs_0:RdA G75 (fun _ _=>none) 0 body_iReplayRecs_0 S_iReplayRecs_0 0 [] (kepts [2,3,4] [(0,[5])]) (fun d=>ox_iReplayRecs_0 d.1.1 d.1.2.2.2.2.2.2.2.2.1 d.1.2.2.2.2.2.2.2.2.2.1 d.1.2.2.2.2.2.2.2.2.2.2.1 d.2.2.1 d.2.2.2.1):=by
 intro d
 kernel_rfl
theorem rdB_iReplayRecs_0:∀ d:S_iReplayRecs_0.den,ox_iReplayRecs_0 d.1.1 d.1.2.2.2.2.2.2.2.2.1 d.1.2.2.2.2.2.2.2.2.2.1 d.1.2.2.2.2.2.2.2.2.2.2.1 d.2.2.1 d.2.2.2.1=(sp_iReplayRecs_0 d).opt 0 []:=by
 intro d
 kernel_rfl
noncomputable abbrev say_iReplayRecs_0:St→Option Tree:=S_iReplayRecs_0.say 0 [] [(2005001,32,tq4),(2005000,70,t_ptt)] (fun d=>T_iReplayRecs_0 d.1.1 d.1.2.2.2.2.2.2.2.2.1 d.1.2.2.2.2.2.2.2.2.2.1 d.1.2.2.2.2.2.2.2.2.2.2.1 d.2.2.1 d.2.2.2.1)
theorem lw_iReplayRecs_0:LoopWp Try.prog say_iReplayRecs_0 body_iReplayRecs_0:=SS.wp2 (hl0 (by kernel_rfl)) [(2005001,32,tq4),(2005000,70,t_ptt)] sp_iReplayRecs_0 rdA_iReplayRecs_0 rdB_iReplayRecs_0 _ (fun d=>Runs.ofIt (step:=sp_iReplayRecs_0) pv_iReplayRecs_0 (ct:=ct_iReplayRecs_0) rfl (fun v=>((relB (relB (relB (relB rfl (relB (relB (relB rfl rfl) rfl) rfl)) rfl) rfl) rfl):(st_iReplayRecs_0 v.1 v.2.1 v.2.2.1 v.2.2.2.1 v.2.2.2.2.1 v.2.2.2.2.2).val=relS pv_iReplayRecs_0 ct_iReplayRecs_0 (ss_iReplayRecs_0 v.1 v.2.1 v.2.2.1 v.2.2.2.1 v.2.2.2.2.1 v.2.2.2.2.2))) (fun a=>((cendB (cendD (by simp)) (cendB (cendD (by simp)) cendF)):CEnd _ (ct_iReplayRecs_0 a))) (d.1.1,d.1.2.2.2.2.2.2.2.2.1,d.1.2.2.2.2.2.2.2.2.2.1,d.1.2.2.2.2.2.2.2.2.2.2.1,d.2.2.1,d.2.2.2.1))
noncomputable def k3_iReplayRecs (a0:Lq1):=it_iReplayRecs_0 a0 a0 ((a0.length:Nat):Int) (0:Int) ([]:LBBe) ([]:Lq1)
noncomputable def iReplayRecs (a0:Lq1):(LBBe)×(Lq1)×Bool:=(cond ((k3_iReplayRecs a0).1==0) ([],[],((k3_iReplayRecs a0).2.1)) (((k3_iReplayRecs a0).2.2.1),((k3_iReplayRecs a0).2.2.2),true))
noncomputable abbrev e_iReplayRecs (r:(LBBe)×(Lq1)×Bool):AV×List AObj:=((.tup [(.t true tq6 r.1),(.t true tq3 r.2.1),(.t true .bool r.2.2)]),[])
noncomputable abbrev F_iReplayRecs (r:(LBBe)×(Lq1)×Bool):=some (e_iReplayRecs r)
noncomputable abbrev g_iReplayRecs:pshsDen P_iReplayRecs→AV×List AObj:=fun d=>e_iReplayRecs (iReplayRecs d.1)
noncomputable def q_iReplayRecs (a0:Lq1):Bool:=cond ((k3_iReplayRecs a0).1==0) true ((k3_iReplayRecs a0).1==1)
noncomputable abbrev pre_iReplayRecs:pshsDen P_iReplayRecs→Bool:=fun d=>q_iReplayRecs d.1
noncomputable abbrev L_iReplayRecs:Nat→St→Option Tree:=fun b=>match b with | 0=>say_iReplayRecs_0 | _=>fun _=>none
theorem run_iReplayRecs:RunP true G75 (L_iReplayRecs) Try.f45 P_iReplayRecs pre_iReplayRecs g_iReplayRecs:=by
 rintro ⟨a0,_⟩ hp
 change q_iReplayRecs a0=true at hp
 unfold q_iReplayRecs at hp
 refine Eq.trans (b:=(cond ((k3_iReplayRecs a0).1==0) (some (e_iReplayRecs ([],[],((k3_iReplayRecs a0).2.1)))) (cond ((k3_iReplayRecs a0).1==1) (some (e_iReplayRecs (((k3_iReplayRecs a0).2.2.1),((k3_iReplayRecs a0).2.2.2),true))) none))) (by kernel_rfl) ?_
 exact (cndQ (F:=F_iReplayRecs) hp (fun hp=>rfl) (fun hp=>(cndT hp fun _h=>rfl)))
theorem c_iReplayRecs:PContract Try.prog 45 (sumOf P_iReplayRecs pre_iReplayRecs g_iReplayRecs):=PContract.of_data true G75 (by kernel_rfl) (hl1 (i:=0) (by kernel_rfl) lw_iReplayRecs_0) _ _ _ run_iReplayRecs
noncomputable def S76:Tab:=Tab.add S75 45 (lift (sumOf P_iReplayRecs pre_iReplayRecs g_iReplayRecs))
noncomputable def QF76:FuncId→Bool:=qadd QF75 45
theorem G76:Good Try.prog tt S76 QF76:=G75.addQ c_iReplayRecs ⟨Try.f45,by kernel_rfl,by kernel_rfl,by kernel_rfl⟩ (fun _=>rfl)

noncomputable abbrev P_slices_Equal_iPair:List PSh:=[.t tq6,.t tq6]
noncomputable abbrev S_slices_Equal_iPair_0:SS:=⟨(.t false tq6::.t false tq6::.junk::.junk::.junk::.junk::.junk::.junk::.junk::.junk::.junk::.junk::.t true (.int .i64)::.t true (.int .i64)::jS12),[]⟩
noncomputable abbrev E_slices_Equal_iPair_0_0:SS:=⟨(.junk::.junk::.junk::.junk::.t true .bool::jS21),[]⟩
noncomputable abbrev E_slices_Equal_iPair_0_1:SS:=⟨(.junk::jS25),[]⟩
noncomputable def st_slices_Equal_iPair_0 (x0:LBBe) (x1:LBBe) (x12:Int) (x13:Int):RT S_slices_Equal_iPair_0.den:=(.br (decide (x13<x12)) (.br (decide (0≤x13∧x13<((x0.length:Nat):Int))) (.br (decide (0≤x13∧x13<((x1.length:Nat):Int))) (.br (!((((x0.getD x13.toNat (bE,bE)).1).toList==((x1.getD x13.toNat (bE,bE)).1).toList)&&((((x0.getD x13.toNat (bE,bE)).2).toList==((x1.getD x13.toNat (bE,bE)).2).toList)&&true))) (.done .ret E_slices_Equal_iPair_0_0 (((),(),(),(),false,u22),())) (.next ((x0,x1,(),(),(),(),(),(),(),(),(),(),x12,IntKind.wrap .i64 (x13+(1:Int)),u13),()))) .fail) .fail) (.done (.exit 0) E_slices_Equal_iPair_0_1 ((u27),())))
noncomputable abbrev V_slices_Equal_iPair_0:=(LBBe)×(LBBe)×(Int)×(Int)
noncomputable abbrev A_slices_Equal_iPair_0:=Nat×(Bool)
noncomputable def fl_slices_Equal_iPair_0:A_slices_Equal_iPair_0:=(99,(false:Bool))
noncomputable def ss_slices_Equal_iPair_0 (x0:LBBe) (x1:LBBe) (x12:Int) (x13:Int):V_slices_Equal_iPair_0 ⊕ A_slices_Equal_iPair_0:=(cond (decide (x13<x12)) (cond (decide (0≤x13∧x13<((x0.length:Nat):Int))) (cond (decide (0≤x13∧x13<((x1.length:Nat):Int))) (cond (!((((x0.getD x13.toNat (bE,bE)).1).toList==((x1.getD x13.toNat (bE,bE)).1).toList)&&((((x0.getD x13.toNat (bE,bE)).2).toList==((x1.getD x13.toNat (bE,bE)).2).toList)&&true))) (.inr (0,false)) (.inl (x0,x1,x12,IntKind.wrap .i64 (x13+(1:Int))))) (.inr fl_slices_Equal_iPair_0)) (.inr fl_slices_Equal_iPair_0)) (.inr (1,(false:Bool))))
noncomputable def it_slices_Equal_iPair_0 (x0:LBBe) (x1:LBBe) (x12:Int) (x13:Int):A_slices_Equal_iPair_0:=itX (fun v:V_slices_Equal_iPair_0=>ss_slices_Equal_iPair_0 v.1 v.2.1 v.2.2.1 v.2.2.2) fl_slices_Equal_iPair_0 (x0,x1,x12,x13)
noncomputable def ct_slices_Equal_iPair_0 (a:A_slices_Equal_iPair_0):CT:=(.br (a.1==0) (.done .ret E_slices_Equal_iPair_0_0 (((),(),(),(),a.2,u22),())) (.br (a.1==1) (.done (.exit 0) E_slices_Equal_iPair_0_1 ((u27),())) .fail))
noncomputable def T_slices_Equal_iPair_0 (x0:LBBe) (x1:LBBe) (x12:Int) (x13:Int):CT:=ct_slices_Equal_iPair_0 (it_slices_Equal_iPair_0 x0 x1 x12 x13)
noncomputable abbrev sp_slices_Equal_iPair_0:S_slices_Equal_iPair_0.den→RT S_slices_Equal_iPair_0.den:=fun d=>st_slices_Equal_iPair_0 d.1.1 d.1.2.1 d.1.2.2.2.2.2.2.2.2.2.2.2.2.1 d.1.2.2.2.2.2.2.2.2.2.2.2.2.2.1
noncomputable abbrev pk_slices_Equal_iPair_0 (x0:LBBe) (x1:LBBe) (x12:Int) (x13:Int):S_slices_Equal_iPair_0.den:=((x0,x1,(),(),(),(),(),(),(),(),(),(),x12,x13,u13),())
noncomputable def body_slices_Equal_iPair_0:Code:=((loopsIn 0 (bodyOf Try.f46)).getD 0 (0,.skip)).2
noncomputable abbrev pv_slices_Equal_iPair_0 (v:V_slices_Equal_iPair_0):S_slices_Equal_iPair_0.den:=pk_slices_Equal_iPair_0 v.1 v.2.1 v.2.2.1 v.2.2.2
theorem rdA_slices_Equal_iPair_0:RdA G76 (fun _ _=>none) 0 body_slices_Equal_iPair_0 S_slices_Equal_iPair_0 0 [] (kepts [4] [(0,[])]) (fun d=>(sp_slices_Equal_iPair_0 d).opt 0 []):=by
 intro d
 kernel_rfl
noncomputable abbrev say_slices_Equal_iPair_0:St→Option Tree:=S_slices_Equal_iPair_0.say 0 [] [] (fun d=>T_slices_Equal_iPair_0 d.1.1 d.1.2.1 d.1.2.2.2.2.2.2.2.2.2.2.2.2.1 d.1.2.2.2.2.2.2.2.2.2.2.2.2.2.1)
theorem lw_slices_Equal_iPair_0:LoopWp Try.prog say_slices_Equal_iPair_0 body_slices_Equal_iPair_0:=SS.wp2 (hl0 (by kernel_rfl)) [] sp_slices_Equal_iPair_0 rdA_slices_Equal_iPair_0 (fun d=>rfl) _ (fun d=>Runs.ofIt (step:=sp_slices_Equal_iPair_0) pv_slices_Equal_iPair_0 (ct:=ct_slices_Equal_iPair_0) rfl (fun v=>((relB (relB (relB (relB rfl rfl) rfl) rfl) rfl):(st_slices_Equal_iPair_0 v.1 v.2.1 v.2.2.1 v.2.2.2).val=relS pv_slices_Equal_iPair_0 ct_slices_Equal_iPair_0 (ss_slices_Equal_iPair_0 v.1 v.2.1 v.2.2.1 v.2.2.2))) (fun a=>((cendB (cendD (by simp)) (cendB (cendD (by simp)) cendF)):CEnd _ (ct_slices_Equal_iPair_0 a))) (d.1.1,d.1.2.1,d.1.2.2.2.2.2.2.2.2.2.2.2.2.1,d.1.2.2.2.2.2.2.2.2.2.2.2.2.2.1))
noncomputable def slices_Equal_iPair (a0:LBBe) (a1:LBBe):Bool:=(cond (((a0.length:Nat):Int) != ((a1.length:Nat):Int)) false (cond ((it_slices_Equal_iPair_0 a0 a1 ((a0.length:Nat):Int) (0:Int)).1==0) ((it_slices_Equal_iPair_0 a0 a1 ((a0.length:Nat):Int) (0:Int)).2) true))
noncomputable abbrev e_slices_Equal_iPair (r:Bool):AV×List AObj:=((.t true .bool r),[])
noncomputable abbrev F_slices_Equal_iPair (r:Bool):=some (e_slices_Equal_iPair r)
noncomputable abbrev g_slices_Equal_iPair:pshsDen P_slices_Equal_iPair→AV×List AObj:=fun d=>e_slices_Equal_iPair (slices_Equal_iPair d.1 d.2.1)
noncomputable def q_slices_Equal_iPair (a0:LBBe) (a1:LBBe):Bool:=cond (((a0.length:Nat):Int) != ((a1.length:Nat):Int)) true (cond ((it_slices_Equal_iPair_0 a0 a1 ((a0.length:Nat):Int) (0:Int)).1==0) true ((it_slices_Equal_iPair_0 a0 a1 ((a0.length:Nat):Int) (0:Int)).1==1))
noncomputable abbrev pre_slices_Equal_iPair:pshsDen P_slices_Equal_iPair→Bool:=fun d=>q_slices_Equal_iPair d.1 d.2.1
noncomputable abbrev L_slices_Equal_iPair:Nat→St→Option Tree:=fun b=>match b with | 0=>say_slices_Equal_iPair_0 | _=>fun _=>none
theorem run_slices_Equal_iPair:RunP true G76 (L_slices_Equal_iPair) Try.f46 P_slices_Equal_iPair pre_slices_Equal_iPair g_slices_Equal_iPair:=by
 rintro ⟨a0,⟨a1,_⟩⟩ hp
 change q_slices_Equal_iPair a0 a1=true at hp
 unfold q_slices_Equal_iPair at hp
 refine Eq.trans (b:=(cond (((a0.length:Nat):Int) != ((a1.length:Nat):Int)) (some (e_slices_Equal_iPair false)) (cond ((it_slices_Equal_iPair_0 a0 a1 ((a0.length:Nat):Int) (0:Int)).1==0) (some (e_slices_Equal_iPair ((it_slices_Equal_iPair_0 a0 a1 ((a0.length:Nat):Int) (0:Int)).2))) (cond ((it_slices_Equal_iPair_0 a0 a1 ((a0.length:Nat):Int) (0:Int)).1==1) (some (e_slices_Equal_iPair true)) none)))) (by kernel_rfl) ?_
 exact (cndQ (F:=F_slices_Equal_iPair) hp (fun hp=>rfl) (fun hp=>(cndQ (F:=F_slices_Equal_iPair) hp (fun hp=>rfl) (fun hp=>(cndT hp fun _h=>rfl)))))
theorem c_slices_Equal_iPair:PContract Try.prog 46 (sumOf P_slices_Equal_iPair pre_slices_Equal_iPair g_slices_Equal_iPair):=PContract.of_data true G76 (by kernel_rfl) (hl1 (i:=0) (by kernel_rfl) lw_slices_Equal_iPair_0) _ _ _ run_slices_Equal_iPair
noncomputable def S77:Tab:=Tab.add S76 46 (lift (sumOf P_slices_Equal_iPair pre_slices_Equal_iPair g_slices_Equal_iPair))
noncomputable def QF77:FuncId→Bool:=qadd QF76 46
theorem G77:Good Try.prog tt S77 QF77:=G76.addQ c_slices_Equal_iPair ⟨Try.f46,by kernel_rfl,by kernel_rfl,by kernel_rfl⟩ (fun _=>rfl)

noncomputable abbrev P_slices_Equal_iOp:List PSh:=[.t tq5,.t tq5]
noncomputable abbrev S_slices_Equal_iOp_0:SS:=⟨(.t false tq5::.t false tq5::.junk::.junk::.junk::.junk::.junk::.junk::.junk::.junk::.junk::.junk::.t true (.int .i64)::.t true (.int .i64)::jS12),[]⟩
noncomputable abbrev E_slices_Equal_iOp_0_0:SS:=⟨(.junk::.junk::.junk::.junk::.t true .bool::jS21),[]⟩
noncomputable abbrev E_slices_Equal_iOp_0_1:SS:=⟨(.junk::jS25),[]⟩
noncomputable def st_slices_Equal_iOp_0 (x0:Lq2) (x1:Lq2) (x12:Int) (x13:Int):RT S_slices_Equal_iOp_0.den:=(.br (decide (x13<x12)) (.br (decide (0≤x13∧x13<((x0.length:Nat):Int))) (.br (decide (0≤x13∧x13<((x1.length:Nat):Int))) (.br (!((((x0.getD x13.toNat ((0:Int),(bE,bE))).1)==((x1.getD x13.toNat ((0:Int),(bE,bE))).1))&&(((((x0.getD x13.toNat ((0:Int),(bE,bE))).2).1).toList==(((x1.getD x13.toNat ((0:Int),(bE,bE))).2).1).toList)&&(((((x0.getD x13.toNat ((0:Int),(bE,bE))).2).2).toList==(((x1.getD x13.toNat ((0:Int),(bE,bE))).2).2).toList)&&true)))) (.done .ret E_slices_Equal_iOp_0_0 (((),(),(),(),false,u22),())) (.next ((x0,x1,(),(),(),(),(),(),(),(),(),(),x12,IntKind.wrap .i64 (x13+(1:Int)),u13),()))) .fail) .fail) (.done (.exit 0) E_slices_Equal_iOp_0_1 ((u27),())))
noncomputable abbrev V_slices_Equal_iOp_0:=(Lq2)×(Lq2)×(Int)×(Int)
noncomputable abbrev A_slices_Equal_iOp_0:=Nat×(Bool)
noncomputable def fl_slices_Equal_iOp_0:A_slices_Equal_iOp_0:=(99,(false:Bool))
noncomputable def ss_slices_Equal_iOp_0 (x0:Lq2) (x1:Lq2) (x12:Int) (x13:Int):V_slices_Equal_iOp_0 ⊕ A_slices_Equal_iOp_0:=(cond (decide (x13<x12)) (cond (decide (0≤x13∧x13<((x0.length:Nat):Int))) (cond (decide (0≤x13∧x13<((x1.length:Nat):Int))) (cond (!((((x0.getD x13.toNat ((0:Int),(bE,bE))).1)==((x1.getD x13.toNat ((0:Int),(bE,bE))).1))&&(((((x0.getD x13.toNat ((0:Int),(bE,bE))).2).1).toList==(((x1.getD x13.toNat ((0:Int),(bE,bE))).2).1).toList)&&(((((x0.getD x13.toNat ((0:Int),(bE,bE))).2).2).toList==(((x1.getD x13.toNat ((0:Int),(bE,bE))).2).2).toList)&&true)))) (.inr (0,false)) (.inl (x0,x1,x12,IntKind.wrap .i64 (x13+(1:Int))))) (.inr fl_slices_Equal_iOp_0)) (.inr fl_slices_Equal_iOp_0)) (.inr (1,(false:Bool))))
noncomputable def it_slices_Equal_iOp_0 (x0:Lq2) (x1:Lq2) (x12:Int) (x13:Int):A_slices_Equal_iOp_0:=itX (fun v:V_slices_Equal_iOp_0=>ss_slices_Equal_iOp_0 v.1 v.2.1 v.2.2.1 v.2.2.2) fl_slices_Equal_iOp_0 (x0,x1,x12,x13)
noncomputable def ct_slices_Equal_iOp_0 (a:A_slices_Equal_iOp_0):CT:=(.br (a.1==0) (.done .ret E_slices_Equal_iOp_0_0 (((),(),(),(),a.2,u22),())) (.br (a.1==1) (.done (.exit 0) E_slices_Equal_iOp_0_1 ((u27),())) .fail))
noncomputable def T_slices_Equal_iOp_0 (x0:Lq2) (x1:Lq2) (x12:Int) (x13:Int):CT:=ct_slices_Equal_iOp_0 (it_slices_Equal_iOp_0 x0 x1 x12 x13)
noncomputable abbrev sp_slices_Equal_iOp_0:S_slices_Equal_iOp_0.den→RT S_slices_Equal_iOp_0.den:=fun d=>st_slices_Equal_iOp_0 d.1.1 d.1.2.1 d.1.2.2.2.2.2.2.2.2.2.2.2.2.1 d.1.2.2.2.2.2.2.2.2.2.2.2.2.2.1
noncomputable abbrev pk_slices_Equal_iOp_0 (x0:Lq2) (x1:Lq2) (x12:Int) (x13:Int):S_slices_Equal_iOp_0.den:=((x0,x1,(),(),(),(),(),(),(),(),(),(),x12,x13,u13),())
noncomputable def body_slices_Equal_iOp_0:Code:=((loopsIn 0 (bodyOf Try.f84)).getD 0 (0,.skip)).2
noncomputable abbrev pv_slices_Equal_iOp_0 (v:V_slices_Equal_iOp_0):S_slices_Equal_iOp_0.den:=pk_slices_Equal_iOp_0 v.1 v.2.1 v.2.2.1 v.2.2.2
theorem rdA_slices_Equal_iOp_0:RdA G77 (fun _ _=>none) 0 body_slices_Equal_iOp_0 S_slices_Equal_iOp_0 0 [] (kepts [4] [(0,[])]) (fun d=>(sp_slices_Equal_iOp_0 d).opt 0 []):=by
 intro d
 kernel_rfl
noncomputable abbrev say_slices_Equal_iOp_0:St→Option Tree:=S_slices_Equal_iOp_0.say 0 [] [] (fun d=>T_slices_Equal_iOp_0 d.1.1 d.1.2.1 d.1.2.2.2.2.2.2.2.2.2.2.2.2.1 d.1.2.2.2.2.2.2.2.2.2.2.2.2.2.1)
theorem lw_slices_Equal_iOp_0:LoopWp Try.prog say_slices_Equal_iOp_0 body_slices_Equal_iOp_0:=SS.wp2 (hl0 (by kernel_rfl)) [] sp_slices_Equal_iOp_0 rdA_slices_Equal_iOp_0 (fun d=>rfl) _ (fun d=>Runs.ofIt (step:=sp_slices_Equal_iOp_0) pv_slices_Equal_iOp_0 (ct:=ct_slices_Equal_iOp_0) rfl (fun v=>((relB (relB (relB (relB rfl rfl) rfl) rfl) rfl):(st_slices_Equal_iOp_0 v.1 v.2.1 v.2.2.1 v.2.2.2).val=relS pv_slices_Equal_iOp_0 ct_slices_Equal_iOp_0 (ss_slices_Equal_iOp_0 v.1 v.2.1 v.2.2.1 v.2.2.2))) (fun a=>((cendB (cendD (by simp)) (cendB (cendD (by simp)) cendF)):CEnd _ (ct_slices_Equal_iOp_0 a))) (d.1.1,d.1.2.1,d.1.2.2.2.2.2.2.2.2.2.2.2.2.1,d.1.2.2.2.2.2.2.2.2.2.2.2.2.2.1))
noncomputable def slices_Equal_iOp (a0:Lq2) (a1:Lq2):Bool:=(cond (((a0.length:Nat):Int) != ((a1.length:Nat):Int)) false (cond ((it_slices_Equal_iOp_0 a0 a1 ((a0.length:Nat):Int) (0:Int)).1==0) ((it_slices_Equal_iOp_0 a0 a1 ((a0.length:Nat):Int) (0:Int)).2) true))
noncomputable abbrev e_slices_Equal_iOp (r:Bool):AV×List AObj:=((.t true .bool r),[])
noncomputable abbrev F_slices_Equal_iOp (r:Bool):=some (e_slices_Equal_iOp r)
noncomputable abbrev g_slices_Equal_iOp:pshsDen P_slices_Equal_iOp→AV×List AObj:=fun d=>e_slices_Equal_iOp (slices_Equal_iOp d.1 d.2.1)
noncomputable def q_slices_Equal_iOp (a0:Lq2) (a1:Lq2):Bool:=cond (((a0.length:Nat):Int) != ((a1.length:Nat):Int)) true (cond ((it_slices_Equal_iOp_0 a0 a1 ((a0.length:Nat):Int) (0:Int)).1==0) true ((it_slices_Equal_iOp_0 a0 a1 ((a0.length:Nat):Int) (0:Int)).1==1))
noncomputable abbrev pre_slices_Equal_iOp:pshsDen P_slices_Equal_iOp→Bool:=fun d=>q_slices_Equal_iOp d.1 d.2.1
noncomputable abbrev L_slices_Equal_iOp:Nat→St→Option Tree:=fun b=>match b with | 0=>say_slices_Equal_iOp_0 | _=>fun _=>none
theorem run_slices_Equal_iOp:RunP true G77 (L_slices_Equal_iOp) Try.f84 P_slices_Equal_iOp pre_slices_Equal_iOp g_slices_Equal_iOp:=by
 rintro ⟨a0,⟨a1,_⟩⟩ hp
 change q_slices_Equal_iOp a0 a1=true at hp
 unfold q_slices_Equal_iOp at hp
 refine Eq.trans (b:=(cond (((a0.length:Nat):Int) != ((a1.length:Nat):Int)) (some (e_slices_Equal_iOp false)) (cond ((it_slices_Equal_iOp_0 a0 a1 ((a0.length:Nat):Int) (0:Int)).1==0) (some (e_slices_Equal_iOp ((it_slices_Equal_iOp_0 a0 a1 ((a0.length:Nat):Int) (0:Int)).2))) (cond ((it_slices_Equal_iOp_0 a0 a1 ((a0.length:Nat):Int) (0:Int)).1==1) (some (e_slices_Equal_iOp true)) none)))) (by kernel_rfl) ?_
 exact (cndQ (F:=F_slices_Equal_iOp) hp (fun hp=>rfl) (fun hp=>(cndQ (F:=F_slices_Equal_iOp) hp (fun hp=>rfl) (fun hp=>(cndT hp fun _h=>rfl)))))
theorem c_slices_Equal_iOp:PContract Try.prog 84 (sumOf P_slices_Equal_iOp pre_slices_Equal_iOp g_slices_Equal_iOp):=PContract.of_data true G77 (by kernel_rfl) (hl1 (i:=0) (by kernel_rfl) lw_slices_Equal_iOp_0) _ _ _ run_slices_Equal_iOp
noncomputable def S78:Tab:=Tab.add S77 84 (lift (sumOf P_slices_Equal_iOp pre_slices_Equal_iOp g_slices_Equal_iOp))
noncomputable def QF78:FuncId→Bool:=qadd QF77 84
theorem G78:Good Try.prog tt S78 QF78:=G77.addQ c_slices_Equal_iOp ⟨Try.f84,by kernel_rfl,by kernel_rfl,by kernel_rfl⟩ (fun _=>rfl)

noncomputable abbrev P_isameRec:List PSh:=[.agg [(.int .i64),(.int .i64),tq5],.agg [(.int .i64),(.int .i64),tq5]]
noncomputable def isameRec (a0:Int) (a1:Int) (a2:Lq2) (a3:Int) (a4:Int) (a5:Lq2):Bool:=(cond (a0==a3) (cond (a1==a4) (slices_Equal_iOp a2 a5) false) false)
noncomputable abbrev e_isameRec (r:Bool):AV×List AObj:=((.t true .bool r),[])
noncomputable abbrev F_isameRec (r:Bool):=some (e_isameRec r)
noncomputable abbrev g_isameRec:pshsDen P_isameRec→AV×List AObj:=fun d=>e_isameRec (isameRec d.1.1 d.1.2.1 d.1.2.2.1 d.2.1.1 d.2.1.2.1 d.2.1.2.2.1)
noncomputable def q_isameRec (a0:Int) (a1:Int) (a2:Lq2) (a3:Int) (a4:Int) (a5:Lq2):Bool:=cond (a0==a3) (cond (a1==a4) (q_slices_Equal_iOp a2 a5) true) true
noncomputable abbrev pre_isameRec:pshsDen P_isameRec→Bool:=fun d=>q_isameRec d.1.1 d.1.2.1 d.1.2.2.1 d.2.1.1 d.2.1.2.1 d.2.1.2.2.1
theorem run_isameRec:RunP true G78 (fun _ _=>none) Try.f48 P_isameRec pre_isameRec g_isameRec:=by
 rintro ⟨⟨a0,⟨a1,⟨a2,_⟩⟩⟩,⟨⟨a3,⟨a4,⟨a5,_⟩⟩⟩,_⟩⟩ hp
 change q_isameRec a0 a1 a2 a3 a4 a5=true at hp
 unfold q_isameRec at hp
 refine Eq.trans (b:=(cond (a0==a3) (cond (a1==a4) (cond (q_slices_Equal_iOp a2 a5) (some (e_isameRec (slices_Equal_iOp a2 a5))) none) (some (e_isameRec false))) (some (e_isameRec false)))) (by kernel_rfl) ?_
 exact (cndQ (F:=F_isameRec) hp (fun hp=>(cndQ (F:=F_isameRec) hp (fun hp=>(cndT hp fun _h=>rfl)) (fun hp=>rfl))) (fun hp=>rfl))
theorem c_isameRec:PContract Try.prog 48 (sumOf P_isameRec pre_isameRec g_isameRec):=PContract.of_data true G78 (by kernel_rfl) (hl0 (by kernel_rfl)) _ _ _ run_isameRec
noncomputable def S79:Tab:=Tab.add S78 48 (lift (sumOf P_isameRec pre_isameRec g_isameRec))
noncomputable def QF79:FuncId→Bool:=qadd QF78 48
theorem G79:Good Try.prog tt S79 QF79:=G78.addQ c_isameRec ⟨Try.f48,by kernel_rfl,by kernel_rfl,by kernel_rfl⟩ (fun _=>rfl)

noncomputable abbrev jA14:List AV:=.junk::.junk::.junk::jA11
noncomputable abbrev SM_slices_EqualFunc_iReciRec_iRec_iRec_:SS:=⟨[.t false tq3,.t false tq3,.fn 48 []],[]⟩
noncomputable abbrev S_slices_EqualFunc_iReciRec_iRec_iRec__0:SS:=⟨(.junk::.t false tq3::.fn 48 []::.junk::.junk::.junk::.junk::.junk::.junk::.junk::.junk::.junk::.junk::.junk::.junk::.t false tq3::.t true (.int .i64)::.t true (.int .i64)::jS14),[]⟩
noncomputable abbrev E_slices_EqualFunc_iReciRec_iRec_iRec__0_0:SS:=⟨(.junk::.junk::.junk::.junk::.junk::.junk::.t true .bool::jS25),[]⟩
noncomputable abbrev E_slices_EqualFunc_iReciRec_iRec_iRec__0_1:SS:=⟨(.junk::jS31),[]⟩
noncomputable def k1_slices_EqualFunc_iReciRec_iRec_iRec_ (x1:Lq1) (x15:Lq1) (x17:Int):=isameRec ((x15.getD x17.toNat ((0:Int),((0:Int),[]))).1) (((x15.getD x17.toNat ((0:Int),((0:Int),[]))).2).1) (((x15.getD x17.toNat ((0:Int),((0:Int),[]))).2).2) ((x1.getD x17.toNat ((0:Int),((0:Int),[]))).1) (((x1.getD x17.toNat ((0:Int),((0:Int),[]))).2).1) (((x1.getD x17.toNat ((0:Int),((0:Int),[]))).2).2)
noncomputable def st_slices_EqualFunc_iReciRec_iRec_iRec__0 (x1:Lq1) (x15:Lq1) (x16:Int) (x17:Int):RT S_slices_EqualFunc_iReciRec_iRec_iRec__0.den:=(.br (decide (x17<x16)) (.br (decide (0≤x17∧x17<((x15.length:Nat):Int))) (.br (decide (0≤x17∧x17<((x1.length:Nat):Int))) (.br (q_isameRec ((x15.getD x17.toNat ((0:Int),((0:Int),[]))).1) (((x15.getD x17.toNat ((0:Int),((0:Int),[]))).2).1) (((x15.getD x17.toNat ((0:Int),((0:Int),[]))).2).2) ((x1.getD x17.toNat ((0:Int),((0:Int),[]))).1) (((x1.getD x17.toNat ((0:Int),((0:Int),[]))).2).1) (((x1.getD x17.toNat ((0:Int),((0:Int),[]))).2).2)) (.br (!(k1_slices_EqualFunc_iReciRec_iRec_iRec_ x1 x15 x17)) (.done .ret E_slices_EqualFunc_iReciRec_iRec_iRec__0_0 (((),(),(),(),(),(),false,u26),())) (.next (((),x1,(),(),(),(),(),(),(),(),(),(),(),(),(),x15,x16,IntKind.wrap .i64 (x17+(1:Int)),u15),()))) .fail) .fail) .fail) (.done (.exit 0) E_slices_EqualFunc_iReciRec_iRec_iRec__0_1 ((u33),())))
noncomputable abbrev V_slices_EqualFunc_iReciRec_iRec_iRec__0:=(Lq1)×(Lq1)×(Int)×(Int)
noncomputable abbrev A_slices_EqualFunc_iReciRec_iRec_iRec__0:=Nat×(Bool)
noncomputable def fl_slices_EqualFunc_iReciRec_iRec_iRec__0:A_slices_EqualFunc_iReciRec_iRec_iRec__0:=(99,(false:Bool))
noncomputable def ss_slices_EqualFunc_iReciRec_iRec_iRec__0 (x1:Lq1) (x15:Lq1) (x16:Int) (x17:Int):V_slices_EqualFunc_iReciRec_iRec_iRec__0 ⊕ A_slices_EqualFunc_iReciRec_iRec_iRec__0:=(cond (decide (x17<x16)) (cond (decide (0≤x17∧x17<((x15.length:Nat):Int))) (cond (decide (0≤x17∧x17<((x1.length:Nat):Int))) (cond (q_isameRec ((x15.getD x17.toNat ((0:Int),((0:Int),[]))).1) (((x15.getD x17.toNat ((0:Int),((0:Int),[]))).2).1) (((x15.getD x17.toNat ((0:Int),((0:Int),[]))).2).2) ((x1.getD x17.toNat ((0:Int),((0:Int),[]))).1) (((x1.getD x17.toNat ((0:Int),((0:Int),[]))).2).1) (((x1.getD x17.toNat ((0:Int),((0:Int),[]))).2).2)) (cond (!(k1_slices_EqualFunc_iReciRec_iRec_iRec_ x1 x15 x17)) (.inr (0,false)) (.inl (x1,x15,x16,IntKind.wrap .i64 (x17+(1:Int))))) (.inr fl_slices_EqualFunc_iReciRec_iRec_iRec__0)) (.inr fl_slices_EqualFunc_iReciRec_iRec_iRec__0)) (.inr fl_slices_EqualFunc_iReciRec_iRec_iRec__0)) (.inr (1,(false:Bool))))
noncomputable def it_slices_EqualFunc_iReciRec_iRec_iRec__0 (x1:Lq1) (x15:Lq1) (x16:Int) (x17:Int):A_slices_EqualFunc_iReciRec_iRec_iRec__0:=itX (fun v:V_slices_EqualFunc_iReciRec_iRec_iRec__0=>ss_slices_EqualFunc_iReciRec_iRec_iRec__0 v.1 v.2.1 v.2.2.1 v.2.2.2) fl_slices_EqualFunc_iReciRec_iRec_iRec__0 (x1,x15,x16,x17)
noncomputable def ct_slices_EqualFunc_iReciRec_iRec_iRec__0 (a:A_slices_EqualFunc_iReciRec_iRec_iRec__0):CT:=(.br (a.1==0) (.done .ret E_slices_EqualFunc_iReciRec_iRec_iRec__0_0 (((),(),(),(),(),(),a.2,u26),())) (.br (a.1==1) (.done (.exit 0) E_slices_EqualFunc_iReciRec_iRec_iRec__0_1 ((u33),())) .fail))
noncomputable def T_slices_EqualFunc_iReciRec_iRec_iRec__0 (x1:Lq1) (x15:Lq1) (x16:Int) (x17:Int):CT:=ct_slices_EqualFunc_iReciRec_iRec_iRec__0 (it_slices_EqualFunc_iReciRec_iRec_iRec__0 x1 x15 x16 x17)
noncomputable abbrev sp_slices_EqualFunc_iReciRec_iRec_iRec__0:S_slices_EqualFunc_iReciRec_iRec_iRec__0.den→RT S_slices_EqualFunc_iReciRec_iRec_iRec__0.den:=fun d=>st_slices_EqualFunc_iReciRec_iRec_iRec__0 d.1.2.1 d.1.2.2.2.2.2.2.2.2.2.2.2.2.2.2.2.1 d.1.2.2.2.2.2.2.2.2.2.2.2.2.2.2.2.2.1 d.1.2.2.2.2.2.2.2.2.2.2.2.2.2.2.2.2.2.1
noncomputable abbrev pk_slices_EqualFunc_iReciRec_iRec_iRec__0 (x1:Lq1) (x15:Lq1) (x16:Int) (x17:Int):S_slices_EqualFunc_iReciRec_iRec_iRec__0.den:=(((),x1,(),(),(),(),(),(),(),(),(),(),(),(),(),x15,x16,x17,u15),())
noncomputable def body_slices_EqualFunc_iReciRec_iRec_iRec__0:Code:=((loopsIn 0 (bodyOf Try.f47)).getD 0 (0,.skip)).2
noncomputable abbrev pv_slices_EqualFunc_iReciRec_iRec_iRec__0 (v:V_slices_EqualFunc_iReciRec_iRec_iRec__0):S_slices_EqualFunc_iReciRec_iRec_iRec__0.den:=pk_slices_EqualFunc_iReciRec_iRec_iRec__0 v.1 v.2.1 v.2.2.1 v.2.2.2
noncomputable def ox_slices_EqualFunc_iReciRec_iRec_iRec__0 (x1:Lq1) (x15:Lq1) (x16:Int) (x17:Int):Option (Ex×St):=(cond (decide (x17<x16)) (cond (decide (0≤x17∧x17<((x15.length:Nat):Int))) (cond (decide (0≤x17∧x17<((x1.length:Nat):Int))) (cond (q_isameRec ((x15.getD x17.toNat ((0:Int),((0:Int),[]))).1) (((x15.getD x17.toNat ((0:Int),((0:Int),[]))).2).1) (((x15.getD x17.toNat ((0:Int),((0:Int),[]))).2).2) ((x1.getD x17.toNat ((0:Int),((0:Int),[]))).1) (((x1.getD x17.toNat ((0:Int),((0:Int),[]))).2).1) (((x1.getD x17.toNat ((0:Int),((0:Int),[]))).2).2)) (cond (!(k1_slices_EqualFunc_iReciRec_iRec_iRec_ x1 x15 x17)) (some (.ret,(⟨(.junk::.junk::.junk::.junk::.junk::.junk::(.t true .bool false)::jA25),[],0,[]⟩:St))) (some (.normal,(⟨(.junk::(.t false tq3 x1)::(.fn 48 [])::.junk::.junk::.junk::.junk::.junk::.junk::.junk::.junk::.junk::.junk::.junk::.junk::(.t false tq3 x15)::(.t true (.int .i64) x16)::(.t true (.int .i64) (IntKind.wrap .i64 (x17+(1:Int))))::jA14),[],0,[]⟩:St)))) none) none) none) (some ((.exit 0),(⟨(.junk::jA31),[],0,[]⟩:St))))
theorem rdA_slices_EqualFunc_iReciRec_iRec_iRec__0:RdA G79 (fun _ _=>none) 0 body_slices_EqualFunc_iReciRec_iRec_iRec__0 S_slices_EqualFunc_iReciRec_iRec_iRec__0 0 [] (kepts [6] [(0,[])]) (fun d=>ox_slices_EqualFunc_iReciRec_iRec_iRec__0 d.1.2.1 d.1.2.2.2.2.2.2.2.2.2.2.2.2.2.2.2.1 d.1.2.2.2.2.2.2.2.2.2.2.2.2.2.2.2.2.1 d.1.2.2.2.2.2.2.2.2.2.2.2.2.2.2.2.2.2.1):=by
 intro d
 kernel_rfl
theorem rdB_slices_EqualFunc_iReciRec_iRec_iRec__0:∀ d:S_slices_EqualFunc_iReciRec_iRec_iRec__0.den,ox_slices_EqualFunc_iReciRec_iRec_iRec__0 d.1.2.1 d.1.2.2.2.2.2.2.2.2.2.2.2.2.2.2.2.1 d.1.2.2.2.2.2.2.2.2.2.2.2.2.2.2.2.2.1 d.1.2.2.2.2.2.2.2.2.2.2.2.2.2.2.2.2.2.1=(sp_slices_EqualFunc_iReciRec_iRec_iRec__0 d).opt 0 []:=by
 intro d
 kernel_rfl
noncomputable abbrev say_slices_EqualFunc_iReciRec_iRec_iRec__0:St→Option Tree:=S_slices_EqualFunc_iReciRec_iRec_iRec__0.say 0 [] [] (fun d=>T_slices_EqualFunc_iReciRec_iRec_iRec__0 d.1.2.1 d.1.2.2.2.2.2.2.2.2.2.2.2.2.2.2.2.1 d.1.2.2.2.2.2.2.2.2.2.2.2.2.2.2.2.2.1 d.1.2.2.2.2.2.2.2.2.2.2.2.2.2.2.2.2.2.1)
theorem lw_slices_EqualFunc_iReciRec_iRec_iRec__0:LoopWp Try.prog say_slices_EqualFunc_iReciRec_iRec_iRec__0 body_slices_EqualFunc_iReciRec_iRec_iRec__0:=SS.wp2 (hl0 (by kernel_rfl)) [] sp_slices_EqualFunc_iReciRec_iRec_iRec__0 rdA_slices_EqualFunc_iReciRec_iRec_iRec__0 rdB_slices_EqualFunc_iReciRec_iRec_iRec__0 _ (fun d=>Runs.ofIt (step:=sp_slices_EqualFunc_iReciRec_iRec_iRec__0) pv_slices_EqualFunc_iReciRec_iRec_iRec__0 (ct:=ct_slices_EqualFunc_iReciRec_iRec_iRec__0) rfl (fun v=>((relB (relB (relB (relB (relB rfl rfl) rfl) rfl) rfl) rfl):(st_slices_EqualFunc_iReciRec_iRec_iRec__0 v.1 v.2.1 v.2.2.1 v.2.2.2).val=relS pv_slices_EqualFunc_iReciRec_iRec_iRec__0 ct_slices_EqualFunc_iReciRec_iRec_iRec__0 (ss_slices_EqualFunc_iReciRec_iRec_iRec__0 v.1 v.2.1 v.2.2.1 v.2.2.2))) (fun a=>((cendB (cendD (by simp)) (cendB (cendD (by simp)) cendF)):CEnd _ (ct_slices_EqualFunc_iReciRec_iRec_iRec__0 a))) (d.1.2.1,d.1.2.2.2.2.2.2.2.2.2.2.2.2.2.2.2.1,d.1.2.2.2.2.2.2.2.2.2.2.2.2.2.2.2.2.1,d.1.2.2.2.2.2.2.2.2.2.2.2.2.2.2.2.2.2.1))
noncomputable def slices_EqualFunc_iReciRec_iRec_iRec_ (x0:Lq1) (x1:Lq1):Bool:=(cond (((x0.length:Nat):Int) != ((x1.length:Nat):Int)) false (cond ((it_slices_EqualFunc_iReciRec_iRec_iRec__0 x1 x0 ((x0.length:Nat):Int) (0:Int)).1==0) ((it_slices_EqualFunc_iReciRec_iRec_iRec__0 x1 x0 ((x0.length:Nat):Int) (0:Int)).2) true))
noncomputable abbrev e_slices_EqualFunc_iReciRec_iRec_iRec_ (r:Bool):AV×List AObj×List Nat:=((.t true .bool r),[],[])
noncomputable abbrev F_slices_EqualFunc_iReciRec_iRec_iRec_ (r:Bool):=some (e_slices_EqualFunc_iReciRec_iRec_iRec_ r)
noncomputable abbrev g_slices_EqualFunc_iReciRec_iRec_iRec_:SM_slices_EqualFunc_iReciRec_iRec_iRec_.den→AV×List AObj×List Nat:=fun d=>e_slices_EqualFunc_iReciRec_iRec_iRec_ (slices_EqualFunc_iReciRec_iRec_iRec_ d.1.1 d.1.2.1)
noncomputable def q_slices_EqualFunc_iReciRec_iRec_iRec_ (x0:Lq1) (x1:Lq1):Bool:=cond (((x0.length:Nat):Int) != ((x1.length:Nat):Int)) true (cond ((it_slices_EqualFunc_iReciRec_iRec_iRec__0 x1 x0 ((x0.length:Nat):Int) (0:Int)).1==0) true ((it_slices_EqualFunc_iReciRec_iRec_iRec__0 x1 x0 ((x0.length:Nat):Int) (0:Int)).1==1))
noncomputable abbrev pre_slices_EqualFunc_iReciRec_iRec_iRec_:SM_slices_EqualFunc_iReciRec_iRec_iRec_.den→Bool:=fun d=>q_slices_EqualFunc_iReciRec_iRec_iRec_ d.1.1 d.1.2.1
noncomputable abbrev L_slices_EqualFunc_iReciRec_iRec_iRec_:Nat→St→Option Tree:=fun b=>match b with | 0=>say_slices_EqualFunc_iReciRec_iRec_iRec__0 | _=>fun _=>none
theorem run_slices_EqualFunc_iReciRec_iRec_iRec_:RunM G79 (L_slices_EqualFunc_iReciRec_iRec_iRec_) Try.f47 SM_slices_EqualFunc_iReciRec_iRec_iRec_ pre_slices_EqualFunc_iReciRec_iRec_iRec_ g_slices_EqualFunc_iReciRec_iRec_iRec_:=by
 rintro ⟨⟨x0,x1,_,_⟩,_⟩ hp
 change q_slices_EqualFunc_iReciRec_iRec_iRec_ x0 x1=true at hp
 unfold q_slices_EqualFunc_iReciRec_iRec_iRec_ at hp
 refine Eq.trans (b:=(cond (((x0.length:Nat):Int) != ((x1.length:Nat):Int)) (some (e_slices_EqualFunc_iReciRec_iRec_iRec_ false)) (cond ((it_slices_EqualFunc_iReciRec_iRec_iRec__0 x1 x0 ((x0.length:Nat):Int) (0:Int)).1==0) (some (e_slices_EqualFunc_iReciRec_iRec_iRec_ ((it_slices_EqualFunc_iReciRec_iRec_iRec__0 x1 x0 ((x0.length:Nat):Int) (0:Int)).2))) (cond ((it_slices_EqualFunc_iReciRec_iRec_iRec__0 x1 x0 ((x0.length:Nat):Int) (0:Int)).1==1) (some (e_slices_EqualFunc_iReciRec_iRec_iRec_ true)) none)))) (by kernel_rfl) ?_
 exact (cndQ (F:=F_slices_EqualFunc_iReciRec_iRec_iRec_) hp (fun hp=>rfl) (fun hp=>(cndQ (F:=F_slices_EqualFunc_iReciRec_iRec_iRec_) hp (fun hp=>rfl) (fun hp=>(cndT hp fun _h=>rfl)))))
noncomputable abbrev m_slices_EqualFunc_iReciRec_iRec_iRec_:=winQ (msum SM_slices_EqualFunc_iReciRec_iRec_iRec_ pre_slices_EqualFunc_iReciRec_iRec_iRec_ g_slices_EqualFunc_iReciRec_iRec_iRec_)
theorem c_slices_EqualFunc_iReciRec_iRec_iRec_:MContract Try.prog 47 m_slices_EqualFunc_iReciRec_iRec_iRec_:=(MContract.of_data G79 (by kernel_rfl) (hl1 (i:=0) (by kernel_rfl) lw_slices_EqualFunc_iReciRec_iRec_iRec__0) _ _ _ run_slices_EqualFunc_iReciRec_iRec_iRec_).winQ (msum_quiet fun d=>⟨rfl,rfl⟩)
noncomputable def S80:Tab:=Tab.add S79 47 (m_slices_EqualFunc_iReciRec_iRec_iRec_)
noncomputable def QF80:FuncId→Bool:=qadd QF79 47
theorem G80:Good Try.prog tt S80 QF80:=G79.addMQ c_slices_EqualFunc_iReciRec_iRec_iRec_ (winQ_local _) ⟨Try.f47,by kernel_rfl,by kernel_rfl,by kernel_rfl⟩ (winQ_quiet _)

noncomputable abbrev P_iShardOk:List PSh:=[.agg [(.int .i64),tq3,(.int .i64),tq6,tq3]]
noncomputable def iShardOk (a0:Int) (a1:Lq1) (a2:Int) (a3:LBBe) (a4:Lq1):Bool:=(cond (!(iisId a0)) false (cond (!(iinRange a2 (0:Int) ((a1.length:Nat):Int))) false (cond (decide ((IntKind.wrap .i64 (((a1.length:Nat):Int)+((a4.length:Nat):Int))) > (300:Int))) false (cond ((iReplayRecs a1).2.2) (cond (slices_Equal_iPair ((iReplayRecs a1).1) a3) (slices_EqualFunc_iReciRec_iRec_iRec_ ((iReplayRecs a1).2.1) a4) false) false))))
noncomputable abbrev e_iShardOk (r:Bool):AV×List AObj:=((.t true .bool r),[])
noncomputable abbrev F_iShardOk (r:Bool):=some (e_iShardOk r)
noncomputable abbrev g_iShardOk:pshsDen P_iShardOk→AV×List AObj:=fun d=>e_iShardOk (iShardOk d.1.1 d.1.2.1 d.1.2.2.1 d.1.2.2.2.1 d.1.2.2.2.2.1)
noncomputable def q_iShardOk (a0:Int) (a1:Lq1) (a2:Int) (a3:LBBe) (a4:Lq1):Bool:=cond (!(iisId a0)) true (cond (!(iinRange a2 (0:Int) ((a1.length:Nat):Int))) true (cond (decide ((IntKind.wrap .i64 (((a1.length:Nat):Int)+((a4.length:Nat):Int))) > (300:Int))) true ((q_iReplayRecs a1)&&(cond ((iReplayRecs a1).2.2) ((q_slices_Equal_iPair ((iReplayRecs a1).1) a3)&&(cond (slices_Equal_iPair ((iReplayRecs a1).1) a3) (q_slices_EqualFunc_iReciRec_iRec_iRec_ ((iReplayRecs a1).2.1) a4) true)) true))))
noncomputable abbrev pre_iShardOk:pshsDen P_iShardOk→Bool:=fun d=>q_iShardOk d.1.1 d.1.2.1 d.1.2.2.1 d.1.2.2.2.1 d.1.2.2.2.2.1
theorem run_iShardOk:RunP true G80 (fun _ _=>none) Try.f17 P_iShardOk pre_iShardOk g_iShardOk:=by
 rintro ⟨⟨a0,⟨a1,⟨a2,⟨a3,⟨a4,_⟩⟩⟩⟩⟩,_⟩ hp
 change q_iShardOk a0 a1 a2 a3 a4=true at hp
 unfold q_iShardOk at hp
 refine Eq.trans (b:=(cond (!(iisId a0)) (some (e_iShardOk false)) (cond (!(iinRange a2 (0:Int) ((a1.length:Nat):Int))) (some (e_iShardOk false)) (cond (decide ((IntKind.wrap .i64 (((a1.length:Nat):Int)+((a4.length:Nat):Int))) > (300:Int))) (some (e_iShardOk false)) (cond (q_iReplayRecs a1) (cond ((iReplayRecs a1).2.2) (cond (q_slices_Equal_iPair ((iReplayRecs a1).1) a3) (cond (slices_Equal_iPair ((iReplayRecs a1).1) a3) (cond (q_slices_EqualFunc_iReciRec_iRec_iRec_ ((iReplayRecs a1).2.1) a4) (some (e_iShardOk (slices_EqualFunc_iReciRec_iRec_iRec_ ((iReplayRecs a1).2.1) a4))) none) (some (e_iShardOk false))) none) (some (e_iShardOk false))) none))))) (by kernel_rfl) ?_
 exact (cndQ (F:=F_iShardOk) hp (fun hp=>rfl) (fun hp=>(cndQ (F:=F_iShardOk) hp (fun hp=>rfl) (fun hp=>(cndQ (F:=F_iShardOk) hp (fun hp=>rfl) (fun hp=>(cndA hp fun hp=>(cndQ (F:=F_iShardOk) hp (fun hp=>(cndA hp fun hp=>(cndQ (F:=F_iShardOk) hp (fun hp=>(cndT hp fun _h=>rfl)) (fun hp=>rfl)))) (fun hp=>rfl)))))))))
theorem c_iShardOk:PContract Try.prog 17 (sumOf P_iShardOk pre_iShardOk g_iShardOk):=PContract.of_data true G80 (by kernel_rfl) (hl0 (by kernel_rfl)) _ _ _ run_iShardOk
noncomputable def S81:Tab:=Tab.add S80 17 (lift (sumOf P_iShardOk pre_iShardOk g_iShardOk))
noncomputable def QF81:FuncId→Bool:=qadd QF80 17
theorem G81:Good Try.prog tt S81 QF81:=G80.addQ c_iShardOk ⟨Try.f17,by kernel_rfl,by kernel_rfl,by kernel_rfl⟩ (fun _=>rfl)

noncomputable abbrev SM_iShard_outcome:SS:=⟨[.ptr 0 0 1 0,.t true (.int .i64)],[.box [.t true (.int .i64),.all 1 3,.t true (.int .i64),.all 2 2,.all 3 3],.rows 32 true tq4,.rows 70 true t_ptt,.rows 32 true tq4]⟩
noncomputable def iShard_outcome (x1:Int) (p0:Int) (p2:Int) (h1:Lq1) (h2:LBBe) (h3:Lq1):Int×Int×Int×(Lq1)×(LBBe)×Lq1:=(cond (decide ((irecAt h3 x1) ≥ (0:Int))) ((1:Int),p0,p2,h1,h2,h3) (cond (decide ((irecAt h1 x1)<(0:Int))) ((2:Int),p0,p2,h1,h2,h3) (cond (((h1.getD ((irecAt h1 x1).toNat) ((0:Int),((0:Int),[]))).1)==(2:Int)) ((3:Int),p0,p2,h1,h2,h3) ((4:Int),p0,p2,h1,h2,h3))))
noncomputable abbrev e_iShard_outcome (r:Int×Int×Int×(Lq1)×(LBBe)×Lq1):AV×List AObj×List Nat:=((.t true (.int .i64) r.1),[(.box [(.t true (.int .i64) r.2.1),(.all 1 3),(.t true (.int .i64) r.2.2.1),(.all 2 2),(.all 3 3)]),(.rows 32 true tq4 r.2.2.2.1),(.rows 70 true t_ptt r.2.2.2.2.1),(.rows 32 true tq4 r.2.2.2.2.2)],[])
noncomputable abbrev F_iShard_outcome (r:Int×Int×Int×(Lq1)×(LBBe)×Lq1):=some (e_iShard_outcome r)
noncomputable abbrev g_iShard_outcome:SM_iShard_outcome.den→AV×List AObj×List Nat:=fun d=>e_iShard_outcome (iShard_outcome d.1.2.1 d.2.1.1 d.2.1.2.2.1 d.2.2.1 d.2.2.2.1 d.2.2.2.2.1)
noncomputable def q_iShard_outcome (x1:Int) (p0:Int) (p2:Int) (h1:Lq1) (h2:LBBe) (h3:Lq1):Bool:=(q_irecAt h1 x1)&&((q_irecAt h3 x1)&&(cond (decide ((irecAt h3 x1) ≥ (0:Int))) true (cond (decide ((irecAt h1 x1)<(0:Int))) true (decide (0≤(irecAt h1 x1)∧(irecAt h1 x1)<((h1.length:Nat):Int))))))
noncomputable abbrev pre_iShard_outcome:SM_iShard_outcome.den→Bool:=fun d=>q_iShard_outcome d.1.2.1 d.2.1.1 d.2.1.2.2.1 d.2.2.1 d.2.2.2.1 d.2.2.2.2.1
theorem run_iShard_outcome:RunM G81 (fun _ _=>none) Try.f39 SM_iShard_outcome pre_iShard_outcome g_iShard_outcome:=by
 rintro ⟨⟨_,x1,_⟩,⟨⟨p0,_,p2,_,_,_⟩,h1,h2,h3,_⟩⟩ hp
 change q_iShard_outcome x1 p0 p2 h1 h2 h3=true at hp
 unfold q_iShard_outcome at hp
 refine Eq.trans (b:=(cond (q_irecAt h1 x1) (cond (q_irecAt h3 x1) (cond (decide ((irecAt h3 x1) ≥ (0:Int))) (some (e_iShard_outcome ((1:Int),p0,p2,h1,h2,h3))) (cond (decide ((irecAt h1 x1)<(0:Int))) (some (e_iShard_outcome ((2:Int),p0,p2,h1,h2,h3))) (cond (decide (0≤(irecAt h1 x1)∧(irecAt h1 x1)<((h1.length:Nat):Int))) (cond (((h1.getD ((irecAt h1 x1).toNat) ((0:Int),((0:Int),[]))).1)==(2:Int)) (some (e_iShard_outcome ((3:Int),p0,p2,h1,h2,h3))) (some (e_iShard_outcome ((4:Int),p0,p2,h1,h2,h3)))) none))) none) none)) (by kernel_rfl) ?_
 exact (cndA hp fun hp=>(cndA hp fun hp=>(cndQ (F:=F_iShard_outcome) hp (fun hp=>rfl) (fun hp=>(cndQ (F:=F_iShard_outcome) hp (fun hp=>rfl) (fun hp=>(cndT hp fun _h=>(cnd (F:=F_iShard_outcome) (fun _h=>rfl) (fun _h=>rfl)))))))))
noncomputable abbrev m_iShard_outcome:=win winIds (msum SM_iShard_outcome pre_iShard_outcome g_iShard_outcome)
theorem c_iShard_outcome:MContract Try.prog 39 m_iShard_outcome:=(MContract.of_data G81 (by kernel_rfl) (hl0 (by kernel_rfl)) _ _ _ run_iShard_outcome).win winIds
noncomputable def S82:Tab:=Tab.add S81 39 (m_iShard_outcome)
noncomputable def QF82:FuncId→Bool:=QF81
theorem G82:Good Try.prog tt S82 QF82:=G81.addM c_iShard_outcome (win_local _) ⟨Try.f39,by kernel_rfl,by kernel_rfl,by kernel_rfl⟩ (by kernel_rfl)

noncomputable abbrev SM_iShard_decide:SS:=⟨[.ptr 0 0 1 0,.t true (.int .i64),.t true .bool],[.box [.t true (.int .i64),.all 1 3,.t true (.int .i64),.all 2 2,.all 3 3],.rows 32 true tq4,.rows 70 true t_ptt,.rows 32 true tq4]⟩
noncomputable def k1_iShard_decide (x1:Int) (p0:Int) (p2:Int) (h1:Lq1) (h2:LBBe) (h3:Lq1):=iApply ((iShard_outcome x1 p0 p2 h1 h2 h3).2.2.2.2.1) (((((iShard_outcome x1 p0 p2 h1 h2 h3).2.2.2.2.2).getD ((irecAt h3 x1).toNat) ((0:Int),((0:Int),[]))).2).2)
noncomputable def k2_iShard_decide (x1:Int) (p0:Int) (p2:Int) (h1:Lq1) (h2:LBBe) (h3:Lq1):=slices_Delete_iRec (irecAt h3 x1) (IntKind.wrap .i64 ((irecAt h3 x1)+(1:Int))) ((iShard_outcome x1 p0 p2 h1 h2 h3).2.2.2.2.2)
noncomputable def iShard_decide (x1:Int) (x2:Bool) (p0:Int) (p2:Int) (h1:Lq1) (h2:LBBe) (h3:Lq1):Bool×Int×Int×(Lq1)×(LBBe)×Lq1:=(cond (!(iisTx x1)) (false,p0,p2,h1,h2,h3) (cond x2 (cond (((iShard_outcome x1 p0 p2 h1 h2 h3).1)==(1:Int)) (cond x2 (true,((iShard_outcome x1 p0 p2 h1 h2 h3).2.1),((iShard_outcome x1 p0 p2 h1 h2 h3).2.2.1),((iShard_outcome x1 p0 p2 h1 h2 h3).2.2.2.1)++([((2:Int),(x1,[]))]),(k1_iShard_decide x1 p0 p2 h1 h2 h3),(k2_iShard_decide x1 p0 p2 h1 h2 h3)) (true,((iShard_outcome x1 p0 p2 h1 h2 h3).2.1),((iShard_outcome x1 p0 p2 h1 h2 h3).2.2.1),((iShard_outcome x1 p0 p2 h1 h2 h3).2.2.2.1)++([((2:Int),(x1,[]))]),((iShard_outcome x1 p0 p2 h1 h2 h3).2.2.2.2.1),(k2_iShard_decide x1 p0 p2 h1 h2 h3))) (cond (((iShard_outcome x1 p0 p2 h1 h2 h3).1)==(3:Int)) (x2,((iShard_outcome x1 p0 p2 h1 h2 h3).2.1),((iShard_outcome x1 p0 p2 h1 h2 h3).2.2.1),((iShard_outcome x1 p0 p2 h1 h2 h3).2.2.2.1),((iShard_outcome x1 p0 p2 h1 h2 h3).2.2.2.2.1),((iShard_outcome x1 p0 p2 h1 h2 h3).2.2.2.2.2)) (cond (((iShard_outcome x1 p0 p2 h1 h2 h3).1)==(4:Int)) (!x2,((iShard_outcome x1 p0 p2 h1 h2 h3).2.1),((iShard_outcome x1 p0 p2 h1 h2 h3).2.2.1),((iShard_outcome x1 p0 p2 h1 h2 h3).2.2.2.1),((iShard_outcome x1 p0 p2 h1 h2 h3).2.2.2.2.1),((iShard_outcome x1 p0 p2 h1 h2 h3).2.2.2.2.2)) (cond x2 (false,((iShard_outcome x1 p0 p2 h1 h2 h3).2.1),((iShard_outcome x1 p0 p2 h1 h2 h3).2.2.1),((iShard_outcome x1 p0 p2 h1 h2 h3).2.2.2.1),((iShard_outcome x1 p0 p2 h1 h2 h3).2.2.2.2.1),((iShard_outcome x1 p0 p2 h1 h2 h3).2.2.2.2.2)) (cond (decide ((IntKind.wrap .i64 (((((iShard_outcome x1 p0 p2 h1 h2 h3).2.2.2.1).length:Nat):Int)+((((iShard_outcome x1 p0 p2 h1 h2 h3).2.2.2.2.2).length:Nat):Int))) ≥ (300:Int))) (false,((iShard_outcome x1 p0 p2 h1 h2 h3).2.1),((iShard_outcome x1 p0 p2 h1 h2 h3).2.2.1),((iShard_outcome x1 p0 p2 h1 h2 h3).2.2.2.1),((iShard_outcome x1 p0 p2 h1 h2 h3).2.2.2.2.1),((iShard_outcome x1 p0 p2 h1 h2 h3).2.2.2.2.2)) (true,((iShard_outcome x1 p0 p2 h1 h2 h3).2.1),((iShard_outcome x1 p0 p2 h1 h2 h3).2.2.1),((iShard_outcome x1 p0 p2 h1 h2 h3).2.2.2.1)++([((2:Int),(x1,[]))]),((iShard_outcome x1 p0 p2 h1 h2 h3).2.2.2.2.1),((iShard_outcome x1 p0 p2 h1 h2 h3).2.2.2.2.2))))))) (cond (((iShard_outcome x1 p0 p2 h1 h2 h3).1)==(1:Int)) (cond x2 (true,((iShard_outcome x1 p0 p2 h1 h2 h3).2.1),((iShard_outcome x1 p0 p2 h1 h2 h3).2.2.1),((iShard_outcome x1 p0 p2 h1 h2 h3).2.2.2.1)++([((3:Int),(x1,[]))]),(k1_iShard_decide x1 p0 p2 h1 h2 h3),(k2_iShard_decide x1 p0 p2 h1 h2 h3)) (true,((iShard_outcome x1 p0 p2 h1 h2 h3).2.1),((iShard_outcome x1 p0 p2 h1 h2 h3).2.2.1),((iShard_outcome x1 p0 p2 h1 h2 h3).2.2.2.1)++([((3:Int),(x1,[]))]),((iShard_outcome x1 p0 p2 h1 h2 h3).2.2.2.2.1),(k2_iShard_decide x1 p0 p2 h1 h2 h3))) (cond (((iShard_outcome x1 p0 p2 h1 h2 h3).1)==(3:Int)) (x2,((iShard_outcome x1 p0 p2 h1 h2 h3).2.1),((iShard_outcome x1 p0 p2 h1 h2 h3).2.2.1),((iShard_outcome x1 p0 p2 h1 h2 h3).2.2.2.1),((iShard_outcome x1 p0 p2 h1 h2 h3).2.2.2.2.1),((iShard_outcome x1 p0 p2 h1 h2 h3).2.2.2.2.2)) (cond (((iShard_outcome x1 p0 p2 h1 h2 h3).1)==(4:Int)) (!x2,((iShard_outcome x1 p0 p2 h1 h2 h3).2.1),((iShard_outcome x1 p0 p2 h1 h2 h3).2.2.1),((iShard_outcome x1 p0 p2 h1 h2 h3).2.2.2.1),((iShard_outcome x1 p0 p2 h1 h2 h3).2.2.2.2.1),((iShard_outcome x1 p0 p2 h1 h2 h3).2.2.2.2.2)) (cond x2 (false,((iShard_outcome x1 p0 p2 h1 h2 h3).2.1),((iShard_outcome x1 p0 p2 h1 h2 h3).2.2.1),((iShard_outcome x1 p0 p2 h1 h2 h3).2.2.2.1),((iShard_outcome x1 p0 p2 h1 h2 h3).2.2.2.2.1),((iShard_outcome x1 p0 p2 h1 h2 h3).2.2.2.2.2)) (cond (decide ((IntKind.wrap .i64 (((((iShard_outcome x1 p0 p2 h1 h2 h3).2.2.2.1).length:Nat):Int)+((((iShard_outcome x1 p0 p2 h1 h2 h3).2.2.2.2.2).length:Nat):Int))) ≥ (300:Int))) (false,((iShard_outcome x1 p0 p2 h1 h2 h3).2.1),((iShard_outcome x1 p0 p2 h1 h2 h3).2.2.1),((iShard_outcome x1 p0 p2 h1 h2 h3).2.2.2.1),((iShard_outcome x1 p0 p2 h1 h2 h3).2.2.2.2.1),((iShard_outcome x1 p0 p2 h1 h2 h3).2.2.2.2.2)) (true,((iShard_outcome x1 p0 p2 h1 h2 h3).2.1),((iShard_outcome x1 p0 p2 h1 h2 h3).2.2.1),((iShard_outcome x1 p0 p2 h1 h2 h3).2.2.2.1)++([((3:Int),(x1,[]))]),((iShard_outcome x1 p0 p2 h1 h2 h3).2.2.2.2.1),((iShard_outcome x1 p0 p2 h1 h2 h3).2.2.2.2.2)))))))))
noncomputable abbrev e_iShard_decide (r:Bool×Int×Int×(Lq1)×(LBBe)×Lq1):AV×List AObj×List Nat:=((.t true .bool r.1),[(.box [(.t true (.int .i64) r.2.1),(.all 1 3),(.t true (.int .i64) r.2.2.1),(.all 2 2),(.all 3 3)]),(.rows 32 true tq4 r.2.2.2.1),(.rows 70 true t_ptt r.2.2.2.2.1),(.rows 32 true tq4 r.2.2.2.2.2)],[1,2,3])
noncomputable abbrev F_iShard_decide (r:Bool×Int×Int×(Lq1)×(LBBe)×Lq1):=some (e_iShard_decide r)
noncomputable abbrev g_iShard_decide:SM_iShard_decide.den→AV×List AObj×List Nat:=fun d=>e_iShard_decide (iShard_decide d.1.2.1 d.1.2.2.1 d.2.1.1 d.2.1.2.2.1 d.2.2.1 d.2.2.2.1 d.2.2.2.2.1)
noncomputable def q_iShard_decide (x1:Int) (x2:Bool) (p0:Int) (p2:Int) (h1:Lq1) (h2:LBBe) (h3:Lq1):Bool:=cond (!(iisTx x1)) true (cond x2 ((q_irecAt h3 x1)&&((q_iShard_outcome x1 p0 p2 h1 h2 h3)&&(cond (((iShard_outcome x1 p0 p2 h1 h2 h3).1)==(1:Int)) (cond x2 ((decide (0≤(irecAt h3 x1)∧(irecAt h3 x1)<((((iShard_outcome x1 p0 p2 h1 h2 h3).2.2.2.2.2).length:Nat):Int)))&&((q_iApply ((iShard_outcome x1 p0 p2 h1 h2 h3).2.2.2.2.1) (((((iShard_outcome x1 p0 p2 h1 h2 h3).2.2.2.2.2).getD ((irecAt h3 x1).toNat) ((0:Int),((0:Int),[]))).2).2))&&((q_slices_Delete_iRec (irecAt h3 x1) (IntKind.wrap .i64 ((irecAt h3 x1)+(1:Int))) ((iShard_outcome x1 p0 p2 h1 h2 h3).2.2.2.2.2))&&(decide ((((iShard_outcome x1 p0 p2 h1 h2 h3).2.2.2.1).length+([((2:Int),(x1,[]))]:Lq1).length)*40≤MAXB))))) ((q_slices_Delete_iRec (irecAt h3 x1) (IntKind.wrap .i64 ((irecAt h3 x1)+(1:Int))) ((iShard_outcome x1 p0 p2 h1 h2 h3).2.2.2.2.2))&&(decide ((((iShard_outcome x1 p0 p2 h1 h2 h3).2.2.2.1).length+([((2:Int),(x1,[]))]:Lq1).length)*40≤MAXB)))) (cond (((iShard_outcome x1 p0 p2 h1 h2 h3).1)==(3:Int)) true (cond (((iShard_outcome x1 p0 p2 h1 h2 h3).1)==(4:Int)) true (cond x2 true (cond (decide ((IntKind.wrap .i64 (((((iShard_outcome x1 p0 p2 h1 h2 h3).2.2.2.1).length:Nat):Int)+((((iShard_outcome x1 p0 p2 h1 h2 h3).2.2.2.2.2).length:Nat):Int))) ≥ (300:Int))) true (decide ((((iShard_outcome x1 p0 p2 h1 h2 h3).2.2.2.1).length+([((2:Int),(x1,[]))]:Lq1).length)*40≤MAXB))))))))) ((q_irecAt h3 x1)&&((q_iShard_outcome x1 p0 p2 h1 h2 h3)&&(cond (((iShard_outcome x1 p0 p2 h1 h2 h3).1)==(1:Int)) (cond x2 ((decide (0≤(irecAt h3 x1)∧(irecAt h3 x1)<((((iShard_outcome x1 p0 p2 h1 h2 h3).2.2.2.2.2).length:Nat):Int)))&&((q_iApply ((iShard_outcome x1 p0 p2 h1 h2 h3).2.2.2.2.1) (((((iShard_outcome x1 p0 p2 h1 h2 h3).2.2.2.2.2).getD ((irecAt h3 x1).toNat) ((0:Int),((0:Int),[]))).2).2))&&((q_slices_Delete_iRec (irecAt h3 x1) (IntKind.wrap .i64 ((irecAt h3 x1)+(1:Int))) ((iShard_outcome x1 p0 p2 h1 h2 h3).2.2.2.2.2))&&(decide ((((iShard_outcome x1 p0 p2 h1 h2 h3).2.2.2.1).length+([((3:Int),(x1,[]))]:Lq1).length)*40≤MAXB))))) ((q_slices_Delete_iRec (irecAt h3 x1) (IntKind.wrap .i64 ((irecAt h3 x1)+(1:Int))) ((iShard_outcome x1 p0 p2 h1 h2 h3).2.2.2.2.2))&&(decide ((((iShard_outcome x1 p0 p2 h1 h2 h3).2.2.2.1).length+([((3:Int),(x1,[]))]:Lq1).length)*40≤MAXB)))) (cond (((iShard_outcome x1 p0 p2 h1 h2 h3).1)==(3:Int)) true (cond (((iShard_outcome x1 p0 p2 h1 h2 h3).1)==(4:Int)) true (cond x2 true (cond (decide ((IntKind.wrap .i64 (((((iShard_outcome x1 p0 p2 h1 h2 h3).2.2.2.1).length:Nat):Int)+((((iShard_outcome x1 p0 p2 h1 h2 h3).2.2.2.2.2).length:Nat):Int))) ≥ (300:Int))) true (decide ((((iShard_outcome x1 p0 p2 h1 h2 h3).2.2.2.1).length+([((3:Int),(x1,[]))]:Lq1).length)*40≤MAXB))))))))))
noncomputable abbrev pre_iShard_decide:SM_iShard_decide.den→Bool:=fun d=>q_iShard_decide d.1.2.1 d.1.2.2.1 d.2.1.1 d.2.1.2.2.1 d.2.2.1 d.2.2.2.1 d.2.2.2.2.1
theorem run_iShard_decide:RunE false [] [1,2,3] [(0,3,2,70,t_ptt)] G82 (fun _ _=>none) Try.f62 SM_iShard_decide pre_iShard_decide g_iShard_decide:=by
 rintro ⟨⟨_,x1,x2,_⟩,⟨⟨p0,_,p2,_,_,_⟩,h1,h2,h3,_⟩⟩ hp
 change q_iShard_decide x1 x2 p0 p2 h1 h2 h3=true at hp
 unfold q_iShard_decide at hp
 refine Eq.trans (b:=(cond (!(iisTx x1)) (some (e_iShard_decide (false,p0,p2,h1,h2,h3))) (cond x2 (cond (q_irecAt h3 x1) (cond (q_iShard_outcome x1 p0 p2 h1 h2 h3) (cond (((iShard_outcome x1 p0 p2 h1 h2 h3).1)==(1:Int)) (cond x2 (cond (decide (0≤(irecAt h3 x1)∧(irecAt h3 x1)<((((iShard_outcome x1 p0 p2 h1 h2 h3).2.2.2.2.2).length:Nat):Int))) (cond (q_iApply ((iShard_outcome x1 p0 p2 h1 h2 h3).2.2.2.2.1) (((((iShard_outcome x1 p0 p2 h1 h2 h3).2.2.2.2.2).getD ((irecAt h3 x1).toNat) ((0:Int),((0:Int),[]))).2).2)) (cond (q_slices_Delete_iRec (irecAt h3 x1) (IntKind.wrap .i64 ((irecAt h3 x1)+(1:Int))) ((iShard_outcome x1 p0 p2 h1 h2 h3).2.2.2.2.2)) (cond (decide ((((iShard_outcome x1 p0 p2 h1 h2 h3).2.2.2.1).length+([((2:Int),(x1,[]))]:Lq1).length)*40≤MAXB)) (some (e_iShard_decide (true,((iShard_outcome x1 p0 p2 h1 h2 h3).2.1),((iShard_outcome x1 p0 p2 h1 h2 h3).2.2.1),((iShard_outcome x1 p0 p2 h1 h2 h3).2.2.2.1)++([((2:Int),(x1,[]))]),(k1_iShard_decide x1 p0 p2 h1 h2 h3),(k2_iShard_decide x1 p0 p2 h1 h2 h3)))) none) none) none) none) (cond (q_slices_Delete_iRec (irecAt h3 x1) (IntKind.wrap .i64 ((irecAt h3 x1)+(1:Int))) ((iShard_outcome x1 p0 p2 h1 h2 h3).2.2.2.2.2)) (cond (decide ((((iShard_outcome x1 p0 p2 h1 h2 h3).2.2.2.1).length+([((2:Int),(x1,[]))]:Lq1).length)*40≤MAXB)) (some (e_iShard_decide (true,((iShard_outcome x1 p0 p2 h1 h2 h3).2.1),((iShard_outcome x1 p0 p2 h1 h2 h3).2.2.1),((iShard_outcome x1 p0 p2 h1 h2 h3).2.2.2.1)++([((2:Int),(x1,[]))]),((iShard_outcome x1 p0 p2 h1 h2 h3).2.2.2.2.1),(k2_iShard_decide x1 p0 p2 h1 h2 h3)))) none) none)) (cond (((iShard_outcome x1 p0 p2 h1 h2 h3).1)==(3:Int)) (some (e_iShard_decide (x2,((iShard_outcome x1 p0 p2 h1 h2 h3).2.1),((iShard_outcome x1 p0 p2 h1 h2 h3).2.2.1),((iShard_outcome x1 p0 p2 h1 h2 h3).2.2.2.1),((iShard_outcome x1 p0 p2 h1 h2 h3).2.2.2.2.1),((iShard_outcome x1 p0 p2 h1 h2 h3).2.2.2.2.2)))) (cond (((iShard_outcome x1 p0 p2 h1 h2 h3).1)==(4:Int)) (some (e_iShard_decide (!x2,((iShard_outcome x1 p0 p2 h1 h2 h3).2.1),((iShard_outcome x1 p0 p2 h1 h2 h3).2.2.1),((iShard_outcome x1 p0 p2 h1 h2 h3).2.2.2.1),((iShard_outcome x1 p0 p2 h1 h2 h3).2.2.2.2.1),((iShard_outcome x1 p0 p2 h1 h2 h3).2.2.2.2.2)))) (cond x2 (some (e_iShard_decide (false,((iShard_outcome x1 p0 p2 h1 h2 h3).2.1),((iShard_outcome x1 p0 p2 h1 h2 h3).2.2.1),((iShard_outcome x1 p0 p2 h1 h2 h3).2.2.2.1),((iShard_outcome x1 p0 p2 h1 h2 h3).2.2.2.2.1),((iShard_outcome x1 p0 p2 h1 h2 h3).2.2.2.2.2)))) (cond (decide ((IntKind.wrap .i64 (((((iShard_outcome x1 p0 p2 h1 h2 h3).2.2.2.1).length:Nat):Int)+((((iShard_outcome x1 p0 p2 h1 h2 h3).2.2.2.2.2).length:Nat):Int))) ≥ (300:Int))) (some (e_iShard_decide (false,((iShard_outcome x1 p0 p2 h1 h2 h3).2.1),((iShard_outcome x1 p0 p2 h1 h2 h3).2.2.1),((iShard_outcome x1 p0 p2 h1 h2 h3).2.2.2.1),((iShard_outcome x1 p0 p2 h1 h2 h3).2.2.2.2.1),((iShard_outcome x1 p0 p2 h1 h2 h3).2.2.2.2.2)))) (cond (decide ((((iShard_outcome x1 p0 p2 h1 h2 h3).2.2.2.1).length+([((2:Int),(x1,[]))]:Lq1).length)*40≤MAXB)) (some (e_iShard_decide (true,((iShard_outcome x1 p0 p2 h1 h2 h3).2.1),((iShard_outcome x1 p0 p2 h1 h2 h3).2.2.1),((iShard_outcome x1 p0 p2 h1 h2 h3).2.2.2.1)++([((2:Int),(x1,[]))]),((iShard_outcome x1 p0 p2 h1 h2 h3).2.2.2.2.1),((iShard_outcome x1 p0 p2 h1 h2 h3).2.2.2.2.2)))) none)))))) none) none) (cond (q_irecAt h3 x1) (cond (q_iShard_outcome x1 p0 p2 h1 h2 h3) (cond (((iShard_outcome x1 p0 p2 h1 h2 h3).1)==(1:Int)) (cond x2 (cond (decide (0≤(irecAt h3 x1)∧(irecAt h3 x1)<((((iShard_outcome x1 p0 p2 h1 h2 h3).2.2.2.2.2).length:Nat):Int))) (cond (q_iApply ((iShard_outcome x1 p0 p2 h1 h2 h3).2.2.2.2.1) (((((iShard_outcome x1 p0 p2 h1 h2 h3).2.2.2.2.2).getD ((irecAt h3 x1).toNat) ((0:Int),((0:Int),[]))).2).2)) (cond (q_slices_Delete_iRec (irecAt h3 x1) (IntKind.wrap .i64 ((irecAt h3 x1)+(1:Int))) ((iShard_outcome x1 p0 p2 h1 h2 h3).2.2.2.2.2)) (cond (decide ((((iShard_outcome x1 p0 p2 h1 h2 h3).2.2.2.1).length+([((3:Int),(x1,[]))]:Lq1).length)*40≤MAXB)) (some (e_iShard_decide (true,((iShard_outcome x1 p0 p2 h1 h2 h3).2.1),((iShard_outcome x1 p0 p2 h1 h2 h3).2.2.1),((iShard_outcome x1 p0 p2 h1 h2 h3).2.2.2.1)++([((3:Int),(x1,[]))]),(k1_iShard_decide x1 p0 p2 h1 h2 h3),(k2_iShard_decide x1 p0 p2 h1 h2 h3)))) none) none) none) none) (cond (q_slices_Delete_iRec (irecAt h3 x1) (IntKind.wrap .i64 ((irecAt h3 x1)+(1:Int))) ((iShard_outcome x1 p0 p2 h1 h2 h3).2.2.2.2.2)) (cond (decide ((((iShard_outcome x1 p0 p2 h1 h2 h3).2.2.2.1).length+([((3:Int),(x1,[]))]:Lq1).length)*40≤MAXB)) (some (e_iShard_decide (true,((iShard_outcome x1 p0 p2 h1 h2 h3).2.1),((iShard_outcome x1 p0 p2 h1 h2 h3).2.2.1),((iShard_outcome x1 p0 p2 h1 h2 h3).2.2.2.1)++([((3:Int),(x1,[]))]),((iShard_outcome x1 p0 p2 h1 h2 h3).2.2.2.2.1),(k2_iShard_decide x1 p0 p2 h1 h2 h3)))) none) none)) (cond (((iShard_outcome x1 p0 p2 h1 h2 h3).1)==(3:Int)) (some (e_iShard_decide (x2,((iShard_outcome x1 p0 p2 h1 h2 h3).2.1),((iShard_outcome x1 p0 p2 h1 h2 h3).2.2.1),((iShard_outcome x1 p0 p2 h1 h2 h3).2.2.2.1),((iShard_outcome x1 p0 p2 h1 h2 h3).2.2.2.2.1),((iShard_outcome x1 p0 p2 h1 h2 h3).2.2.2.2.2)))) (cond (((iShard_outcome x1 p0 p2 h1 h2 h3).1)==(4:Int)) (some (e_iShard_decide (!x2,((iShard_outcome x1 p0 p2 h1 h2 h3).2.1),((iShard_outcome x1 p0 p2 h1 h2 h3).2.2.1),((iShard_outcome x1 p0 p2 h1 h2 h3).2.2.2.1),((iShard_outcome x1 p0 p2 h1 h2 h3).2.2.2.2.1),((iShard_outcome x1 p0 p2 h1 h2 h3).2.2.2.2.2)))) (cond x2 (some (e_iShard_decide (false,((iShard_outcome x1 p0 p2 h1 h2 h3).2.1),((iShard_outcome x1 p0 p2 h1 h2 h3).2.2.1),((iShard_outcome x1 p0 p2 h1 h2 h3).2.2.2.1),((iShard_outcome x1 p0 p2 h1 h2 h3).2.2.2.2.1),((iShard_outcome x1 p0 p2 h1 h2 h3).2.2.2.2.2)))) (cond (decide ((IntKind.wrap .i64 (((((iShard_outcome x1 p0 p2 h1 h2 h3).2.2.2.1).length:Nat):Int)+((((iShard_outcome x1 p0 p2 h1 h2 h3).2.2.2.2.2).length:Nat):Int))) ≥ (300:Int))) (some (e_iShard_decide (false,((iShard_outcome x1 p0 p2 h1 h2 h3).2.1),((iShard_outcome x1 p0 p2 h1 h2 h3).2.2.1),((iShard_outcome x1 p0 p2 h1 h2 h3).2.2.2.1),((iShard_outcome x1 p0 p2 h1 h2 h3).2.2.2.2.1),((iShard_outcome x1 p0 p2 h1 h2 h3).2.2.2.2.2)))) (cond (decide ((((iShard_outcome x1 p0 p2 h1 h2 h3).2.2.2.1).length+([((3:Int),(x1,[]))]:Lq1).length)*40≤MAXB)) (some (e_iShard_decide (true,((iShard_outcome x1 p0 p2 h1 h2 h3).2.1),((iShard_outcome x1 p0 p2 h1 h2 h3).2.2.1),((iShard_outcome x1 p0 p2 h1 h2 h3).2.2.2.1)++([((3:Int),(x1,[]))]),((iShard_outcome x1 p0 p2 h1 h2 h3).2.2.2.2.1),((iShard_outcome x1 p0 p2 h1 h2 h3).2.2.2.2.2)))) none)))))) none) none)))) (by kernel_rfl) ?_
 exact (cndQ (F:=F_iShard_decide) hp (fun hp=>rfl) (fun hp=>(cndQ (F:=F_iShard_decide) hp (fun hp=>(cndA hp fun hp=>(cndA hp fun hp=>(cndQ (F:=F_iShard_decide) hp (fun hp=>(cndQ (F:=F_iShard_decide) hp (fun hp=>(cndA hp fun hp=>(cndA hp fun hp=>(cndA hp fun hp=>(cndT hp fun _h=>rfl))))) (fun hp=>(cndA hp fun hp=>(cndT hp fun _h=>rfl))))) (fun hp=>(cndQ (F:=F_iShard_decide) hp (fun hp=>rfl) (fun hp=>(cndQ (F:=F_iShard_decide) hp (fun hp=>rfl) (fun hp=>(cndQ (F:=F_iShard_decide) hp (fun hp=>rfl) (fun hp=>(cndQ (F:=F_iShard_decide) hp (fun hp=>rfl) (fun hp=>(cndT hp fun _h=>rfl)))))))))))))) (fun hp=>(cndA hp fun hp=>(cndA hp fun hp=>(cndQ (F:=F_iShard_decide) hp (fun hp=>(cndQ (F:=F_iShard_decide) hp (fun hp=>(cndA hp fun hp=>(cndA hp fun hp=>(cndA hp fun hp=>(cndT hp fun _h=>rfl))))) (fun hp=>(cndA hp fun hp=>(cndT hp fun _h=>rfl))))) (fun hp=>(cndQ (F:=F_iShard_decide) hp (fun hp=>rfl) (fun hp=>(cndQ (F:=F_iShard_decide) hp (fun hp=>rfl) (fun hp=>(cndQ (F:=F_iShard_decide) hp (fun hp=>rfl) (fun hp=>(cndQ (F:=F_iShard_decide) hp (fun hp=>rfl) (fun hp=>(cndT hp fun _h=>rfl)))))))))))))))))
noncomputable abbrev m_iShard_decide:=win winIds (msum SM_iShard_decide pre_iShard_decide g_iShard_decide)
theorem c_iShard_decide:MContract Try.prog 62 m_iShard_decide:=(MContract.of_dataE false [] [1,2,3] [(0,3,2,70,t_ptt)]  G82 (by kernel_rfl) (hl0 (by kernel_rfl)) _ _ _ run_iShard_decide).win winIds
noncomputable def S83:Tab:=Tab.add S82 62 (m_iShard_decide)
noncomputable def QF83:FuncId→Bool:=QF82
theorem G83:Good Try.prog tt S83 QF83:=G82.addM c_iShard_decide (win_local _) ⟨Try.f62,by kernel_rfl,by kernel_rfl,by kernel_rfl⟩ (by kernel_rfl)

noncomputable abbrev P_iDecide:List PSh:=[.agg [(.int .i64),tq3,(.int .i64),tq6,tq3],.t (.int .i64),.t .bool]
noncomputable def k1_iDecide (a0:Int) (a1:Lq1) (a2:Int) (a3:LBBe) (a4:Lq1) (a5:Int) (a6:Bool):=iShard_decide a5 a6 ((icopyShard a0 a1 a2 a3 a4).1) ((icopyShard a0 a1 a2 a3 a4).2.1) ((icopyShard a0 a1 a2 a3 a4).2.2.1) ((icopyShard a0 a1 a2 a3 a4).2.2.2.1) ((icopyShard a0 a1 a2 a3 a4).2.2.2.2)
noncomputable def iDecide (a0:Int) (a1:Lq1) (a2:Int) (a3:LBBe) (a4:Lq1) (a5:Int) (a6:Bool):Int×(Lq1)×Int×(LBBe)×(Lq1)×Bool:=(cond (iShardOk a0 a1 a2 a3 a4) (((k1_iDecide a0 a1 a2 a3 a4 a5 a6).2.1),((k1_iDecide a0 a1 a2 a3 a4 a5 a6).2.2.2.1),((k1_iDecide a0 a1 a2 a3 a4 a5 a6).2.2.1),((k1_iDecide a0 a1 a2 a3 a4 a5 a6).2.2.2.2.1),((k1_iDecide a0 a1 a2 a3 a4 a5 a6).2.2.2.2.2),((k1_iDecide a0 a1 a2 a3 a4 a5 a6).1)) (((icopyShard a0 a1 a2 a3 a4).1),((icopyShard a0 a1 a2 a3 a4).2.2.1),((icopyShard a0 a1 a2 a3 a4).2.1),((icopyShard a0 a1 a2 a3 a4).2.2.2.1),((icopyShard a0 a1 a2 a3 a4).2.2.2.2),false))
noncomputable abbrev e_iDecide (r:Int×(Lq1)×Int×(LBBe)×(Lq1)×Bool):AV×List AObj:=((.tup [(.agg [(.t true (.int .i64) r.1),(.t true tq3 r.2.1),(.t true (.int .i64) r.2.2.1),(.t true tq6 r.2.2.2.1),(.t true tq3 r.2.2.2.2.1)]),(.t true .bool r.2.2.2.2.2)]),[])
noncomputable abbrev F_iDecide (r:Int×(Lq1)×Int×(LBBe)×(Lq1)×Bool):=some (e_iDecide r)
noncomputable abbrev g_iDecide:pshsDen P_iDecide→AV×List AObj:=fun d=>e_iDecide (iDecide d.1.1 d.1.2.1 d.1.2.2.1 d.1.2.2.2.1 d.1.2.2.2.2.1 d.2.1 d.2.2.1)
noncomputable def q_iDecide (a0:Int) (a1:Lq1) (a2:Int) (a3:LBBe) (a4:Lq1) (a5:Int) (a6:Bool):Bool:=(q_icopyShard a0 a1 a2 a3 a4)&&((q_iShardOk a0 a1 a2 a3 a4)&&(cond (iShardOk a0 a1 a2 a3 a4) (q_iShard_decide a5 a6 ((icopyShard a0 a1 a2 a3 a4).1) ((icopyShard a0 a1 a2 a3 a4).2.1) ((icopyShard a0 a1 a2 a3 a4).2.2.1) ((icopyShard a0 a1 a2 a3 a4).2.2.2.1) ((icopyShard a0 a1 a2 a3 a4).2.2.2.2)) true))
noncomputable abbrev pre_iDecide:pshsDen P_iDecide→Bool:=fun d=>q_iDecide d.1.1 d.1.2.1 d.1.2.2.1 d.1.2.2.2.1 d.1.2.2.2.2.1 d.2.1 d.2.2.1
theorem run_iDecide:RunP true G83 (fun _ _=>none) Try.f27 P_iDecide pre_iDecide g_iDecide:=by
 rintro ⟨⟨a0,⟨a1,⟨a2,⟨a3,⟨a4,_⟩⟩⟩⟩⟩,⟨a5,⟨a6,_⟩⟩⟩ hp
 change q_iDecide a0 a1 a2 a3 a4 a5 a6=true at hp
 unfold q_iDecide at hp
 refine Eq.trans (b:=(cond (q_icopyShard a0 a1 a2 a3 a4) (cond (q_iShardOk a0 a1 a2 a3 a4) (cond (iShardOk a0 a1 a2 a3 a4) (cond (q_iShard_decide a5 a6 ((icopyShard a0 a1 a2 a3 a4).1) ((icopyShard a0 a1 a2 a3 a4).2.1) ((icopyShard a0 a1 a2 a3 a4).2.2.1) ((icopyShard a0 a1 a2 a3 a4).2.2.2.1) ((icopyShard a0 a1 a2 a3 a4).2.2.2.2)) (some (e_iDecide (((k1_iDecide a0 a1 a2 a3 a4 a5 a6).2.1),((k1_iDecide a0 a1 a2 a3 a4 a5 a6).2.2.2.1),((k1_iDecide a0 a1 a2 a3 a4 a5 a6).2.2.1),((k1_iDecide a0 a1 a2 a3 a4 a5 a6).2.2.2.2.1),((k1_iDecide a0 a1 a2 a3 a4 a5 a6).2.2.2.2.2),((k1_iDecide a0 a1 a2 a3 a4 a5 a6).1)))) none) (some (e_iDecide (((icopyShard a0 a1 a2 a3 a4).1),((icopyShard a0 a1 a2 a3 a4).2.2.1),((icopyShard a0 a1 a2 a3 a4).2.1),((icopyShard a0 a1 a2 a3 a4).2.2.2.1),((icopyShard a0 a1 a2 a3 a4).2.2.2.2),false)))) none) none)) (by kernel_rfl) ?_
 exact (cndA hp fun hp=>(cndA hp fun hp=>(cndQ (F:=F_iDecide) hp (fun hp=>(cndT hp fun _h=>rfl)) (fun hp=>rfl))))
theorem c_iDecide:PContract Try.prog 27 (sumOf P_iDecide pre_iDecide g_iDecide):=PContract.of_data true G83 (by kernel_rfl) (hl0 (by kernel_rfl)) _ _ _ run_iDecide
noncomputable def S84:Tab:=Tab.add S83 27 (lift (sumOf P_iDecide pre_iDecide g_iDecide))
noncomputable def QF84:FuncId→Bool:=qadd QF83 27
theorem G84:Good Try.prog tt S84 QF84:=G83.addQ c_iDecide ⟨Try.f27,by kernel_rfl,by kernel_rfl,by kernel_rfl⟩ (fun _=>rfl)

noncomputable abbrev P_sl8CopyRecs:List PSh:=[.t tq3]
noncomputable abbrev S_sl8CopyRecs_0:SS:=⟨(.t false tq3::.junk::.junk::.all 0 3::.t true (.int .i64)::jS16),[.rows 32 true tq4]⟩
noncomputable abbrev E_sl8CopyRecs_0_0:SS:=⟨(.junk::.junk::.junk::.all 0 3::jS17),[.rows 32 true tq4]⟩
noncomputable def k1_sl8CopyRecs (x0:Lq1) (x4:Int):=sl8CopyRec ((x0.getD x4.toNat ((0:Int),((0:Int),[]))).1) (((x0.getD x4.toNat ((0:Int),((0:Int),[]))).2).1) (((x0.getD x4.toNat ((0:Int),((0:Int),[]))).2).2)
noncomputable def st_sl8CopyRecs_0 (x0:Lq1) (x4:Int) (h0:Lq1):RT S_sl8CopyRecs_0.den:=(.br (decide (x4<((x0.length:Nat):Int))) (.br (decide (0≤x4∧x4<((x0.length:Nat):Int))) (.br (q_sl8CopyRec ((x0.getD x4.toNat ((0:Int),((0:Int),[]))).1) (((x0.getD x4.toNat ((0:Int),((0:Int),[]))).2).1) (((x0.getD x4.toNat ((0:Int),((0:Int),[]))).2).2)) (.br (decide ((h0.length+[(((k1_sl8CopyRecs x0 x4).1),(((k1_sl8CopyRecs x0 x4).2.1),((k1_sl8CopyRecs x0 x4).2.2)))].length)*40≤MAXB)) (.next ((x0,(),(),(),IntKind.wrap .i64 (x4+(1:Int)),u17),(h0++[(((k1_sl8CopyRecs x0 x4).1),(((k1_sl8CopyRecs x0 x4).2.1),((k1_sl8CopyRecs x0 x4).2.2)))],()))) .fail) .fail) .fail) (.done (.exit 0) E_sl8CopyRecs_0_0 ((u22),(h0,()))))
noncomputable abbrev V_sl8CopyRecs_0:=(Lq1)×(Int)×(Lq1)
noncomputable abbrev A_sl8CopyRecs_0:=Nat×(Lq1)
noncomputable def fl_sl8CopyRecs_0:A_sl8CopyRecs_0:=(99,([]:Lq1))
noncomputable def ss_sl8CopyRecs_0 (x0:Lq1) (x4:Int) (h0:Lq1):V_sl8CopyRecs_0 ⊕ A_sl8CopyRecs_0:=(cond (decide (x4<((x0.length:Nat):Int))) (cond (decide (0≤x4∧x4<((x0.length:Nat):Int))) (cond (q_sl8CopyRec ((x0.getD x4.toNat ((0:Int),((0:Int),[]))).1) (((x0.getD x4.toNat ((0:Int),((0:Int),[]))).2).1) (((x0.getD x4.toNat ((0:Int),((0:Int),[]))).2).2)) (cond (decide ((h0.length+[(((k1_sl8CopyRecs x0 x4).1),(((k1_sl8CopyRecs x0 x4).2.1),((k1_sl8CopyRecs x0 x4).2.2)))].length)*40≤MAXB)) (.inl (x0,IntKind.wrap .i64 (x4+(1:Int)),h0++[(((k1_sl8CopyRecs x0 x4).1),(((k1_sl8CopyRecs x0 x4).2.1),((k1_sl8CopyRecs x0 x4).2.2)))])) (.inr fl_sl8CopyRecs_0)) (.inr fl_sl8CopyRecs_0)) (.inr fl_sl8CopyRecs_0)) (.inr (0,h0)))
noncomputable def it_sl8CopyRecs_0 (x0:Lq1) (x4:Int) (h0:Lq1):A_sl8CopyRecs_0:=itX (fun v:V_sl8CopyRecs_0=>ss_sl8CopyRecs_0 v.1 v.2.1 v.2.2) fl_sl8CopyRecs_0 (x0,x4,h0)
noncomputable def ct_sl8CopyRecs_0 (a:A_sl8CopyRecs_0):CT:=(.br (a.1==0) (.done (.exit 0) E_sl8CopyRecs_0_0 ((u22),(a.2,()))) .fail)
noncomputable def T_sl8CopyRecs_0 (x0:Lq1) (x4:Int) (h0:Lq1):CT:=ct_sl8CopyRecs_0 (it_sl8CopyRecs_0 x0 x4 h0)
noncomputable abbrev sp_sl8CopyRecs_0:S_sl8CopyRecs_0.den→RT S_sl8CopyRecs_0.den:=fun d=>st_sl8CopyRecs_0 d.1.1 d.1.2.2.2.2.1 d.2.1
noncomputable abbrev pk_sl8CopyRecs_0 (x0:Lq1) (x4:Int) (h0:Lq1):S_sl8CopyRecs_0.den:=((x0,(),(),(),x4,u17),(h0,()))
noncomputable def body_sl8CopyRecs_0:Code:=((loopsIn 0 (bodyOf Try.f88)).getD 0 (0,.skip)).2
noncomputable abbrev pv_sl8CopyRecs_0 (v:V_sl8CopyRecs_0):S_sl8CopyRecs_0.den:=pk_sl8CopyRecs_0 v.1 v.2.1 v.2.2
theorem rdA_sl8CopyRecs_0:RdA G84 (fun _ _=>none) 0 body_sl8CopyRecs_0 S_sl8CopyRecs_0 0 [] (kepts [] [(0,[3])]) (fun d=>(sp_sl8CopyRecs_0 d).opt 0 []):=by
 intro d
 kernel_rfl
noncomputable abbrev say_sl8CopyRecs_0:St→Option Tree:=S_sl8CopyRecs_0.say 0 [] [] (fun d=>T_sl8CopyRecs_0 d.1.1 d.1.2.2.2.2.1 d.2.1)
theorem lw_sl8CopyRecs_0:LoopWp Try.prog say_sl8CopyRecs_0 body_sl8CopyRecs_0:=SS.wp2 (hl0 (by kernel_rfl)) [] sp_sl8CopyRecs_0 rdA_sl8CopyRecs_0 (fun d=>rfl) _ (fun d=>Runs.ofIt (step:=sp_sl8CopyRecs_0) pv_sl8CopyRecs_0 (ct:=ct_sl8CopyRecs_0) rfl (fun v=>((relB (relB (relB (relB rfl rfl) rfl) rfl) rfl):(st_sl8CopyRecs_0 v.1 v.2.1 v.2.2).val=relS pv_sl8CopyRecs_0 ct_sl8CopyRecs_0 (ss_sl8CopyRecs_0 v.1 v.2.1 v.2.2))) (fun a=>((cendB (cendD (by simp)) cendF):CEnd _ (ct_sl8CopyRecs_0 a))) (d.1.1,d.1.2.2.2.2.1,d.2.1))
noncomputable def sl8CopyRecs (a0:Lq1):Lq1:=((it_sl8CopyRecs_0 a0 (0:Int) ([]:Lq1)).2)
noncomputable abbrev e_sl8CopyRecs (r:Lq1):AV×List AObj:=((.all 0 3),[(.rows 32 true tq4 r)])
noncomputable abbrev F_sl8CopyRecs (r:Lq1):=some (e_sl8CopyRecs r)
noncomputable abbrev g_sl8CopyRecs:pshsDen P_sl8CopyRecs→AV×List AObj:=fun d=>e_sl8CopyRecs (sl8CopyRecs d.1)
noncomputable def q_sl8CopyRecs (a0:Lq1):Bool:=((it_sl8CopyRecs_0 a0 (0:Int) ([]:Lq1)).1==0)
noncomputable abbrev pre_sl8CopyRecs:pshsDen P_sl8CopyRecs→Bool:=fun d=>q_sl8CopyRecs d.1
noncomputable abbrev L_sl8CopyRecs:Nat→St→Option Tree:=fun b=>match b with | 0=>say_sl8CopyRecs_0 | _=>fun _=>none
theorem run_sl8CopyRecs:RunP false G84 (L_sl8CopyRecs) Try.f88 P_sl8CopyRecs pre_sl8CopyRecs g_sl8CopyRecs:=by
 rintro ⟨a0,_⟩ hp
 change q_sl8CopyRecs a0=true at hp
 unfold q_sl8CopyRecs at hp
 refine Eq.trans (b:=(cond ((it_sl8CopyRecs_0 a0 (0:Int) ([]:Lq1)).1==0) (some (e_sl8CopyRecs ((it_sl8CopyRecs_0 a0 (0:Int) ([]:Lq1)).2))) none)) (by kernel_rfl) ?_
 exact (cndT hp fun _h=>rfl)
theorem c_sl8CopyRecs:PContract Try.prog 88 (sumOf P_sl8CopyRecs pre_sl8CopyRecs g_sl8CopyRecs):=PContract.of_data false G84 (by kernel_rfl) (hl1 (i:=0) (by kernel_rfl) lw_sl8CopyRecs_0) _ _ _ run_sl8CopyRecs
noncomputable def S85:Tab:=Tab.add S84 88 (lift (sumOf P_sl8CopyRecs pre_sl8CopyRecs g_sl8CopyRecs))
noncomputable def QF85:FuncId→Bool:=QF84
theorem G85:Good Try.prog tt S85 QF85:=G84.add c_sl8CopyRecs ⟨Try.f88,by kernel_rfl,by kernel_rfl,by kernel_rfl⟩ (by kernel_rfl)

noncomputable abbrev P_sl9Copy:List PSh:=[.agg [(.int .i64),tq3,(.int .i64),tq6,tq3]]
noncomputable def sl9Copy (a0:Int) (a1:Lq1) (a2:Int) (a3:LBBe) (a4:Lq1):Int×Int×(Lq1)×(LBBe)×Lq1:=(a0,a2,(sl8CopyRecs a1),([]:LBBe)++a3,(sl8CopyRecs a4))
noncomputable abbrev e_sl9Copy (r:Int×Int×(Lq1)×(LBBe)×Lq1):AV×List AObj:=((.agg [(.t true (.int .i64) r.1),(.all 0 3),(.t true (.int .i64) r.2.1),(.all 1 2),(.all 2 3)]),[(.rows 32 true tq4 r.2.2.1),(.rows 70 true t_ptt r.2.2.2.1),(.rows 32 true tq4 r.2.2.2.2)])
noncomputable abbrev F_sl9Copy (r:Int×Int×(Lq1)×(LBBe)×Lq1):=some (e_sl9Copy r)
noncomputable abbrev g_sl9Copy:pshsDen P_sl9Copy→AV×List AObj:=fun d=>e_sl9Copy (sl9Copy d.1.1 d.1.2.1 d.1.2.2.1 d.1.2.2.2.1 d.1.2.2.2.2.1)
noncomputable def q_sl9Copy (a0:Int) (a1:Lq1) (a2:Int) (a3:LBBe) (a4:Lq1):Bool:=(q_sl8CopyRecs a1)&&((decide ((([]:LBBe).length+a3.length)*32≤MAXB))&&(q_sl8CopyRecs a4))
noncomputable abbrev pre_sl9Copy:pshsDen P_sl9Copy→Bool:=fun d=>q_sl9Copy d.1.1 d.1.2.1 d.1.2.2.1 d.1.2.2.2.1 d.1.2.2.2.2.1
theorem run_sl9Copy:RunP false G85 (fun _ _=>none) Try.f55 P_sl9Copy pre_sl9Copy g_sl9Copy:=by
 rintro ⟨⟨a0,⟨a1,⟨a2,⟨a3,⟨a4,_⟩⟩⟩⟩⟩,_⟩ hp
 change q_sl9Copy a0 a1 a2 a3 a4=true at hp
 unfold q_sl9Copy at hp
 refine Eq.trans (b:=(cond (q_sl8CopyRecs a1) (cond (decide ((([]:LBBe).length+a3.length)*32≤MAXB)) (cond (q_sl8CopyRecs a4) (some (e_sl9Copy (a0,a2,(sl8CopyRecs a1),([]:LBBe)++a3,(sl8CopyRecs a4)))) none) none) none)) (by kernel_rfl) ?_
 exact (cndA hp fun hp=>(cndA hp fun hp=>(cndT hp fun _h=>rfl)))
theorem c_sl9Copy:PContract Try.prog 55 (sumOf P_sl9Copy pre_sl9Copy g_sl9Copy):=PContract.of_data false G85 (by kernel_rfl) (hl0 (by kernel_rfl)) _ _ _ run_sl9Copy
noncomputable def S86:Tab:=Tab.add S85 55 (lift (sumOf P_sl9Copy pre_sl9Copy g_sl9Copy))
noncomputable def QF86:FuncId→Bool:=QF85
theorem G86:Good Try.prog tt S86 QF86:=G85.add c_sl9Copy ⟨Try.f55,by kernel_rfl,by kernel_rfl,by kernel_rfl⟩ (by kernel_rfl)

noncomputable abbrev P_sl9SamePairs:List PSh:=[.t tq6,.t tq6]
noncomputable abbrev S_sl9SamePairs_0:SS:=⟨(.t false tq6::.t false tq6::.junk::.junk::.junk::.t true (.int .i64)::jS20),[]⟩
noncomputable abbrev E_sl9SamePairs_0_0:SS:=⟨(.junk::.junk::.junk::.junk::.t true .bool::jS21),[]⟩
noncomputable abbrev E_sl9SamePairs_0_1:SS:=⟨(.junk::jS25),[]⟩
noncomputable def st_sl9SamePairs_0 (x0:LBBe) (x1:LBBe) (x5:Int):RT S_sl9SamePairs_0.den:=(.br (decide (x5<((x0.length:Nat):Int))) (.br (decide (0≤x5∧x5<((x0.length:Nat):Int))) (.br (decide (0≤x5∧x5<((x1.length:Nat):Int))) (.br (!((((x0.getD x5.toNat (bE,bE)).1).toList==((x1.getD x5.toNat (bE,bE)).1).toList)&&((((x0.getD x5.toNat (bE,bE)).2).toList==((x1.getD x5.toNat (bE,bE)).2).toList)&&true))) (.done .ret E_sl9SamePairs_0_0 (((),(),(),(),false,u22),())) (.next ((x0,x1,(),(),(),IntKind.wrap .i64 (x5+(1:Int)),u21),()))) .fail) .fail) (.done (.exit 0) E_sl9SamePairs_0_1 ((u27),())))
noncomputable abbrev V_sl9SamePairs_0:=(LBBe)×(LBBe)×(Int)
noncomputable abbrev A_sl9SamePairs_0:=Nat×(Bool)
noncomputable def fl_sl9SamePairs_0:A_sl9SamePairs_0:=(99,(false:Bool))
noncomputable def ss_sl9SamePairs_0 (x0:LBBe) (x1:LBBe) (x5:Int):V_sl9SamePairs_0 ⊕ A_sl9SamePairs_0:=(cond (decide (x5<((x0.length:Nat):Int))) (cond (decide (0≤x5∧x5<((x0.length:Nat):Int))) (cond (decide (0≤x5∧x5<((x1.length:Nat):Int))) (cond (!((((x0.getD x5.toNat (bE,bE)).1).toList==((x1.getD x5.toNat (bE,bE)).1).toList)&&((((x0.getD x5.toNat (bE,bE)).2).toList==((x1.getD x5.toNat (bE,bE)).2).toList)&&true))) (.inr (0,false)) (.inl (x0,x1,IntKind.wrap .i64 (x5+(1:Int))))) (.inr fl_sl9SamePairs_0)) (.inr fl_sl9SamePairs_0)) (.inr (1,(false:Bool))))
noncomputable def it_sl9SamePairs_0 (x0:LBBe) (x1:LBBe) (x5:Int):A_sl9SamePairs_0:=itX (fun v:V_sl9SamePairs_0=>ss_sl9SamePairs_0 v.1 v.2.1 v.2.2) fl_sl9SamePairs_0 (x0,x1,x5)
noncomputable def ct_sl9SamePairs_0 (a:A_sl9SamePairs_0):CT:=(.br (a.1==0) (.done .ret E_sl9SamePairs_0_0 (((),(),(),(),a.2,u22),())) (.br (a.1==1) (.done (.exit 0) E_sl9SamePairs_0_1 ((u27),())) .fail))
noncomputable def T_sl9SamePairs_0 (x0:LBBe) (x1:LBBe) (x5:Int):CT:=ct_sl9SamePairs_0 (it_sl9SamePairs_0 x0 x1 x5)
noncomputable abbrev sp_sl9SamePairs_0:S_sl9SamePairs_0.den→RT S_sl9SamePairs_0.den:=fun d=>st_sl9SamePairs_0 d.1.1 d.1.2.1 d.1.2.2.2.2.2.1
noncomputable abbrev pk_sl9SamePairs_0 (x0:LBBe) (x1:LBBe) (x5:Int):S_sl9SamePairs_0.den:=((x0,x1,(),(),(),x5,u21),())
noncomputable def body_sl9SamePairs_0:Code:=((loopsIn 0 (bodyOf Try.f53)).getD 0 (0,.skip)).2
noncomputable abbrev pv_sl9SamePairs_0 (v:V_sl9SamePairs_0):S_sl9SamePairs_0.den:=pk_sl9SamePairs_0 v.1 v.2.1 v.2.2
theorem rdA_sl9SamePairs_0:RdA G86 (fun _ _=>none) 0 body_sl9SamePairs_0 S_sl9SamePairs_0 0 [] (kepts [4] [(0,[])]) (fun d=>(sp_sl9SamePairs_0 d).opt 0 []):=by
 intro d
 kernel_rfl
noncomputable abbrev say_sl9SamePairs_0:St→Option Tree:=S_sl9SamePairs_0.say 0 [] [] (fun d=>T_sl9SamePairs_0 d.1.1 d.1.2.1 d.1.2.2.2.2.2.1)
theorem lw_sl9SamePairs_0:LoopWp Try.prog say_sl9SamePairs_0 body_sl9SamePairs_0:=SS.wp2 (hl0 (by kernel_rfl)) [] sp_sl9SamePairs_0 rdA_sl9SamePairs_0 (fun d=>rfl) _ (fun d=>Runs.ofIt (step:=sp_sl9SamePairs_0) pv_sl9SamePairs_0 (ct:=ct_sl9SamePairs_0) rfl (fun v=>((relB (relB (relB (relB rfl rfl) rfl) rfl) rfl):(st_sl9SamePairs_0 v.1 v.2.1 v.2.2).val=relS pv_sl9SamePairs_0 ct_sl9SamePairs_0 (ss_sl9SamePairs_0 v.1 v.2.1 v.2.2))) (fun a=>((cendB (cendD (by simp)) (cendB (cendD (by simp)) cendF)):CEnd _ (ct_sl9SamePairs_0 a))) (d.1.1,d.1.2.1,d.1.2.2.2.2.2.1))
noncomputable def sl9SamePairs (a0:LBBe) (a1:LBBe):Bool:=(cond (((a0.length:Nat):Int) != ((a1.length:Nat):Int)) false (cond ((it_sl9SamePairs_0 a0 a1 (0:Int)).1==0) ((it_sl9SamePairs_0 a0 a1 (0:Int)).2) true))
noncomputable abbrev e_sl9SamePairs (r:Bool):AV×List AObj:=((.t true .bool r),[])
noncomputable abbrev F_sl9SamePairs (r:Bool):=some (e_sl9SamePairs r)
noncomputable abbrev g_sl9SamePairs:pshsDen P_sl9SamePairs→AV×List AObj:=fun d=>e_sl9SamePairs (sl9SamePairs d.1 d.2.1)
noncomputable def q_sl9SamePairs (a0:LBBe) (a1:LBBe):Bool:=cond (((a0.length:Nat):Int) != ((a1.length:Nat):Int)) true (cond ((it_sl9SamePairs_0 a0 a1 (0:Int)).1==0) true ((it_sl9SamePairs_0 a0 a1 (0:Int)).1==1))
noncomputable abbrev pre_sl9SamePairs:pshsDen P_sl9SamePairs→Bool:=fun d=>q_sl9SamePairs d.1 d.2.1
noncomputable abbrev L_sl9SamePairs:Nat→St→Option Tree:=fun b=>match b with | 0=>say_sl9SamePairs_0 | _=>fun _=>none
theorem run_sl9SamePairs:RunP true G86 (L_sl9SamePairs) Try.f53 P_sl9SamePairs pre_sl9SamePairs g_sl9SamePairs:=by
 rintro ⟨a0,⟨a1,_⟩⟩ hp
 change q_sl9SamePairs a0 a1=true at hp
 unfold q_sl9SamePairs at hp
 refine Eq.trans (b:=(cond (((a0.length:Nat):Int) != ((a1.length:Nat):Int)) (some (e_sl9SamePairs false)) (cond ((it_sl9SamePairs_0 a0 a1 (0:Int)).1==0) (some (e_sl9SamePairs ((it_sl9SamePairs_0 a0 a1 (0:Int)).2))) (cond ((it_sl9SamePairs_0 a0 a1 (0:Int)).1==1) (some (e_sl9SamePairs true)) none)))) (by kernel_rfl) ?_
 exact (cndQ (F:=F_sl9SamePairs) hp (fun hp=>rfl) (fun hp=>(cndQ (F:=F_sl9SamePairs) hp (fun hp=>rfl) (fun hp=>(cndT hp fun _h=>rfl)))))
theorem c_sl9SamePairs:PContract Try.prog 53 (sumOf P_sl9SamePairs pre_sl9SamePairs g_sl9SamePairs):=PContract.of_data true G86 (by kernel_rfl) (hl1 (i:=0) (by kernel_rfl) lw_sl9SamePairs_0) _ _ _ run_sl9SamePairs
noncomputable def S87:Tab:=Tab.add S86 53 (lift (sumOf P_sl9SamePairs pre_sl9SamePairs g_sl9SamePairs))
noncomputable def QF87:FuncId→Bool:=qadd QF86 53
theorem G87:Good Try.prog tt S87 QF87:=G86.addQ c_sl9SamePairs ⟨Try.f53,by kernel_rfl,by kernel_rfl,by kernel_rfl⟩ (fun _=>rfl)

noncomputable abbrev P_sl9SameOps:List PSh:=[.t tq5,.t tq5]
noncomputable abbrev S_sl9SameOps_0:SS:=⟨(.t false tq5::.t false tq5::.junk::.junk::.junk::.t true (.int .i64)::jS20),[]⟩
noncomputable abbrev E_sl9SameOps_0_0:SS:=⟨(.junk::.junk::.junk::.junk::.t true .bool::jS21),[]⟩
noncomputable abbrev E_sl9SameOps_0_1:SS:=⟨(.junk::jS25),[]⟩
noncomputable def st_sl9SameOps_0 (x0:Lq2) (x1:Lq2) (x5:Int):RT S_sl9SameOps_0.den:=(.br (decide (x5<((x0.length:Nat):Int))) (.br (decide (0≤x5∧x5<((x0.length:Nat):Int))) (.br (decide (0≤x5∧x5<((x1.length:Nat):Int))) (.br (!((((x0.getD x5.toNat ((0:Int),(bE,bE))).1)==((x1.getD x5.toNat ((0:Int),(bE,bE))).1))&&(((((x0.getD x5.toNat ((0:Int),(bE,bE))).2).1).toList==(((x1.getD x5.toNat ((0:Int),(bE,bE))).2).1).toList)&&(((((x0.getD x5.toNat ((0:Int),(bE,bE))).2).2).toList==(((x1.getD x5.toNat ((0:Int),(bE,bE))).2).2).toList)&&true)))) (.done .ret E_sl9SameOps_0_0 (((),(),(),(),false,u22),())) (.next ((x0,x1,(),(),(),IntKind.wrap .i64 (x5+(1:Int)),u21),()))) .fail) .fail) (.done (.exit 0) E_sl9SameOps_0_1 ((u27),())))
noncomputable abbrev V_sl9SameOps_0:=(Lq2)×(Lq2)×(Int)
noncomputable abbrev A_sl9SameOps_0:=Nat×(Bool)
noncomputable def fl_sl9SameOps_0:A_sl9SameOps_0:=(99,(false:Bool))
noncomputable def ss_sl9SameOps_0 (x0:Lq2) (x1:Lq2) (x5:Int):V_sl9SameOps_0 ⊕ A_sl9SameOps_0:=(cond (decide (x5<((x0.length:Nat):Int))) (cond (decide (0≤x5∧x5<((x0.length:Nat):Int))) (cond (decide (0≤x5∧x5<((x1.length:Nat):Int))) (cond (!((((x0.getD x5.toNat ((0:Int),(bE,bE))).1)==((x1.getD x5.toNat ((0:Int),(bE,bE))).1))&&(((((x0.getD x5.toNat ((0:Int),(bE,bE))).2).1).toList==(((x1.getD x5.toNat ((0:Int),(bE,bE))).2).1).toList)&&(((((x0.getD x5.toNat ((0:Int),(bE,bE))).2).2).toList==(((x1.getD x5.toNat ((0:Int),(bE,bE))).2).2).toList)&&true)))) (.inr (0,false)) (.inl (x0,x1,IntKind.wrap .i64 (x5+(1:Int))))) (.inr fl_sl9SameOps_0)) (.inr fl_sl9SameOps_0)) (.inr (1,(false:Bool))))
noncomputable def it_sl9SameOps_0 (x0:Lq2) (x1:Lq2) (x5:Int):A_sl9SameOps_0:=itX (fun v:V_sl9SameOps_0=>ss_sl9SameOps_0 v.1 v.2.1 v.2.2) fl_sl9SameOps_0 (x0,x1,x5)
noncomputable def ct_sl9SameOps_0 (a:A_sl9SameOps_0):CT:=(.br (a.1==0) (.done .ret E_sl9SameOps_0_0 (((),(),(),(),a.2,u22),())) (.br (a.1==1) (.done (.exit 0) E_sl9SameOps_0_1 ((u27),())) .fail))
noncomputable def T_sl9SameOps_0 (x0:Lq2) (x1:Lq2) (x5:Int):CT:=ct_sl9SameOps_0 (it_sl9SameOps_0 x0 x1 x5)
noncomputable abbrev sp_sl9SameOps_0:S_sl9SameOps_0.den→RT S_sl9SameOps_0.den:=fun d=>st_sl9SameOps_0 d.1.1 d.1.2.1 d.1.2.2.2.2.2.1
noncomputable abbrev pk_sl9SameOps_0 (x0:Lq2) (x1:Lq2) (x5:Int):S_sl9SameOps_0.den:=((x0,x1,(),(),(),x5,u21),())
noncomputable def body_sl9SameOps_0:Code:=((loopsIn 0 (bodyOf Try.f87)).getD 0 (0,.skip)).2
noncomputable abbrev pv_sl9SameOps_0 (v:V_sl9SameOps_0):S_sl9SameOps_0.den:=pk_sl9SameOps_0 v.1 v.2.1 v.2.2
theorem rdA_sl9SameOps_0:RdA G87 (fun _ _=>none) 0 body_sl9SameOps_0 S_sl9SameOps_0 0 [] (kepts [4] [(0,[])]) (fun d=>(sp_sl9SameOps_0 d).opt 0 []):=by
 intro d
 kernel_rfl
noncomputable abbrev say_sl9SameOps_0:St→Option Tree:=S_sl9SameOps_0.say 0 [] [] (fun d=>T_sl9SameOps_0 d.1.1 d.1.2.1 d.1.2.2.2.2.2.1)
theorem lw_sl9SameOps_0:LoopWp Try.prog say_sl9SameOps_0 body_sl9SameOps_0:=SS.wp2 (hl0 (by kernel_rfl)) [] sp_sl9SameOps_0 rdA_sl9SameOps_0 (fun d=>rfl) _ (fun d=>Runs.ofIt (step:=sp_sl9SameOps_0) pv_sl9SameOps_0 (ct:=ct_sl9SameOps_0) rfl (fun v=>((relB (relB (relB (relB rfl rfl) rfl) rfl) rfl):(st_sl9SameOps_0 v.1 v.2.1 v.2.2).val=relS pv_sl9SameOps_0 ct_sl9SameOps_0 (ss_sl9SameOps_0 v.1 v.2.1 v.2.2))) (fun a=>((cendB (cendD (by simp)) (cendB (cendD (by simp)) cendF)):CEnd _ (ct_sl9SameOps_0 a))) (d.1.1,d.1.2.1,d.1.2.2.2.2.2.1))
noncomputable def sl9SameOps (a0:Lq2) (a1:Lq2):Bool:=(cond (((a0.length:Nat):Int) != ((a1.length:Nat):Int)) false (cond ((it_sl9SameOps_0 a0 a1 (0:Int)).1==0) ((it_sl9SameOps_0 a0 a1 (0:Int)).2) true))
noncomputable abbrev e_sl9SameOps (r:Bool):AV×List AObj:=((.t true .bool r),[])
noncomputable abbrev F_sl9SameOps (r:Bool):=some (e_sl9SameOps r)
noncomputable abbrev g_sl9SameOps:pshsDen P_sl9SameOps→AV×List AObj:=fun d=>e_sl9SameOps (sl9SameOps d.1 d.2.1)
noncomputable def q_sl9SameOps (a0:Lq2) (a1:Lq2):Bool:=cond (((a0.length:Nat):Int) != ((a1.length:Nat):Int)) true (cond ((it_sl9SameOps_0 a0 a1 (0:Int)).1==0) true ((it_sl9SameOps_0 a0 a1 (0:Int)).1==1))
noncomputable abbrev pre_sl9SameOps:pshsDen P_sl9SameOps→Bool:=fun d=>q_sl9SameOps d.1 d.2.1
noncomputable abbrev L_sl9SameOps:Nat→St→Option Tree:=fun b=>match b with | 0=>say_sl9SameOps_0 | _=>fun _=>none
theorem run_sl9SameOps:RunP true G87 (L_sl9SameOps) Try.f87 P_sl9SameOps pre_sl9SameOps g_sl9SameOps:=by
 rintro ⟨a0,⟨a1,_⟩⟩ hp
 change q_sl9SameOps a0 a1=true at hp
 unfold q_sl9SameOps at hp
 refine Eq.trans (b:=(cond (((a0.length:Nat):Int) != ((a1.length:Nat):Int)) (some (e_sl9SameOps false)) (cond ((it_sl9SameOps_0 a0 a1 (0:Int)).1==0) (some (e_sl9SameOps ((it_sl9SameOps_0 a0 a1 (0:Int)).2))) (cond ((it_sl9SameOps_0 a0 a1 (0:Int)).1==1) (some (e_sl9SameOps true)) none)))) (by kernel_rfl) ?_
 exact (cndQ (F:=F_sl9SameOps) hp (fun hp=>rfl) (fun hp=>(cndQ (F:=F_sl9SameOps) hp (fun hp=>rfl) (fun hp=>(cndT hp fun _h=>rfl)))))
theorem c_sl9SameOps:PContract Try.prog 87 (sumOf P_sl9SameOps pre_sl9SameOps g_sl9SameOps):=PContract.of_data true G87 (by kernel_rfl) (hl1 (i:=0) (by kernel_rfl) lw_sl9SameOps_0) _ _ _ run_sl9SameOps
noncomputable def S88:Tab:=Tab.add S87 87 (lift (sumOf P_sl9SameOps pre_sl9SameOps g_sl9SameOps))
noncomputable def QF88:FuncId→Bool:=qadd QF87 87
theorem G88:Good Try.prog tt S88 QF88:=G87.addQ c_sl9SameOps ⟨Try.f87,by kernel_rfl,by kernel_rfl,by kernel_rfl⟩ (fun _=>rfl)

noncomputable abbrev jS49:List Sh:=.junk::jS48
noncomputable abbrev jS50:List Sh:=.junk::jS49
noncomputable abbrev jS54:List Sh:=.junk::jS53
noncomputable abbrev u51:=((),(),u49)
noncomputable abbrev u50:=((),u49)
noncomputable abbrev u56:=((),(),u54)
noncomputable abbrev jA50:List AV:=.junk::.junk::jA48
noncomputable abbrev jA49:List AV:=.junk::jA48
noncomputable abbrev jA54:List AV:=.junk::jA53
noncomputable abbrev P_sl9SameRecs:List PSh:=[.t tq3,.t tq3]
noncomputable abbrev S_sl9SameRecs_0:SS:=⟨(.t false tq3::.t false tq3::.junk::.junk::.junk::.t true (.int .i64)::jS49),[]⟩
noncomputable abbrev E_sl9SameRecs_0_0:SS:=⟨(.junk::.junk::.junk::.junk::.t true .bool::jS50),[]⟩
noncomputable abbrev E_sl9SameRecs_0_1:SS:=⟨(.junk::jS54),[]⟩
noncomputable def k1_sl9SameRecs (x0:Lq1) (x1:Lq1) (x5:Int):=sl9SameOps (((x0.getD x5.toNat ((0:Int),((0:Int),[]))).2).2) (((x1.getD x5.toNat ((0:Int),((0:Int),[]))).2).2)
noncomputable def st_sl9SameRecs_0 (x0:Lq1) (x1:Lq1) (x5:Int):RT S_sl9SameRecs_0.den:=(.br (decide (x5<((x0.length:Nat):Int))) (.br (decide (0≤x5∧x5<((x0.length:Nat):Int))) (.br (decide (0≤x5∧x5<((x1.length:Nat):Int))) (.br (((x0.getD x5.toNat ((0:Int),((0:Int),[]))).1) != ((x1.getD x5.toNat ((0:Int),((0:Int),[]))).1)) (.done .ret E_sl9SameRecs_0_0 (((),(),(),(),false,u51),())) (.br (decide (0≤x5∧x5<((x0.length:Nat):Int))) (.br (decide (0≤x5∧x5<((x1.length:Nat):Int))) (.br ((((x0.getD x5.toNat ((0:Int),((0:Int),[]))).2).1) != (((x1.getD x5.toNat ((0:Int),((0:Int),[]))).2).1)) (.done .ret E_sl9SameRecs_0_0 (((),(),(),(),false,u51),())) (.br (decide (0≤x5∧x5<((x0.length:Nat):Int))) (.br (decide (0≤x5∧x5<((x1.length:Nat):Int))) (.br (q_sl9SameOps (((x0.getD x5.toNat ((0:Int),((0:Int),[]))).2).2) (((x1.getD x5.toNat ((0:Int),((0:Int),[]))).2).2)) (.br (!(k1_sl9SameRecs x0 x1 x5)) (.done .ret E_sl9SameRecs_0_0 (((),(),(),(),false,u51),())) (.next ((x0,x1,(),(),(),IntKind.wrap .i64 (x5+(1:Int)),u50),()))) .fail) .fail) .fail)) .fail) .fail)) .fail) .fail) (.done (.exit 0) E_sl9SameRecs_0_1 ((u56),())))
noncomputable abbrev V_sl9SameRecs_0:=(Lq1)×(Lq1)×(Int)
noncomputable abbrev A_sl9SameRecs_0:=Nat×(Bool)
noncomputable def fl_sl9SameRecs_0:A_sl9SameRecs_0:=(99,(false:Bool))
noncomputable def ss_sl9SameRecs_0 (x0:Lq1) (x1:Lq1) (x5:Int):V_sl9SameRecs_0 ⊕ A_sl9SameRecs_0:=(cond (decide (x5<((x0.length:Nat):Int))) (cond (decide (0≤x5∧x5<((x0.length:Nat):Int))) (cond (decide (0≤x5∧x5<((x1.length:Nat):Int))) (cond (((x0.getD x5.toNat ((0:Int),((0:Int),[]))).1) != ((x1.getD x5.toNat ((0:Int),((0:Int),[]))).1)) (.inr (0,false)) (cond (decide (0≤x5∧x5<((x0.length:Nat):Int))) (cond (decide (0≤x5∧x5<((x1.length:Nat):Int))) (cond ((((x0.getD x5.toNat ((0:Int),((0:Int),[]))).2).1) != (((x1.getD x5.toNat ((0:Int),((0:Int),[]))).2).1)) (.inr (0,false)) (cond (decide (0≤x5∧x5<((x0.length:Nat):Int))) (cond (decide (0≤x5∧x5<((x1.length:Nat):Int))) (cond (q_sl9SameOps (((x0.getD x5.toNat ((0:Int),((0:Int),[]))).2).2) (((x1.getD x5.toNat ((0:Int),((0:Int),[]))).2).2)) (cond (!(k1_sl9SameRecs x0 x1 x5)) (.inr (0,false)) (.inl (x0,x1,IntKind.wrap .i64 (x5+(1:Int))))) (.inr fl_sl9SameRecs_0)) (.inr fl_sl9SameRecs_0)) (.inr fl_sl9SameRecs_0))) (.inr fl_sl9SameRecs_0)) (.inr fl_sl9SameRecs_0))) (.inr fl_sl9SameRecs_0)) (.inr fl_sl9SameRecs_0)) (.inr (1,(false:Bool))))
noncomputable def it_sl9SameRecs_0 (x0:Lq1) (x1:Lq1) (x5:Int):A_sl9SameRecs_0:=itX (fun v:V_sl9SameRecs_0=>ss_sl9SameRecs_0 v.1 v.2.1 v.2.2) fl_sl9SameRecs_0 (x0,x1,x5)
noncomputable def ct_sl9SameRecs_0 (a:A_sl9SameRecs_0):CT:=(.br (a.1==0) (.done .ret E_sl9SameRecs_0_0 (((),(),(),(),a.2,u51),())) (.br (a.1==1) (.done (.exit 0) E_sl9SameRecs_0_1 ((u56),())) .fail))
noncomputable def T_sl9SameRecs_0 (x0:Lq1) (x1:Lq1) (x5:Int):CT:=ct_sl9SameRecs_0 (it_sl9SameRecs_0 x0 x1 x5)
noncomputable abbrev sp_sl9SameRecs_0:S_sl9SameRecs_0.den→RT S_sl9SameRecs_0.den:=fun d=>st_sl9SameRecs_0 d.1.1 d.1.2.1 d.1.2.2.2.2.2.1
noncomputable abbrev pk_sl9SameRecs_0 (x0:Lq1) (x1:Lq1) (x5:Int):S_sl9SameRecs_0.den:=((x0,x1,(),(),(),x5,u50),())
noncomputable def body_sl9SameRecs_0:Code:=((loopsIn 0 (bodyOf Try.f54)).getD 0 (0,.skip)).2
noncomputable abbrev pv_sl9SameRecs_0 (v:V_sl9SameRecs_0):S_sl9SameRecs_0.den:=pk_sl9SameRecs_0 v.1 v.2.1 v.2.2
noncomputable def ox_sl9SameRecs_0 (x0:Lq1) (x1:Lq1) (x5:Int):Option (Ex×St):=(cond (decide (x5<((x0.length:Nat):Int))) (cond (decide (0≤x5∧x5<((x0.length:Nat):Int))) (cond (decide (0≤x5∧x5<((x1.length:Nat):Int))) (cond (((x0.getD x5.toNat ((0:Int),((0:Int),[]))).1) != ((x1.getD x5.toNat ((0:Int),((0:Int),[]))).1)) (some (.ret,(⟨(.junk::.junk::.junk::.junk::(.t true .bool false)::jA50),[],0,[]⟩:St))) (cond (decide (0≤x5∧x5<((x0.length:Nat):Int))) (cond (decide (0≤x5∧x5<((x1.length:Nat):Int))) (cond ((((x0.getD x5.toNat ((0:Int),((0:Int),[]))).2).1) != (((x1.getD x5.toNat ((0:Int),((0:Int),[]))).2).1)) (some (.ret,(⟨(.junk::.junk::.junk::.junk::(.t true .bool false)::jA50),[],0,[]⟩:St))) (cond (decide (0≤x5∧x5<((x0.length:Nat):Int))) (cond (decide (0≤x5∧x5<((x1.length:Nat):Int))) (cond (q_sl9SameOps (((x0.getD x5.toNat ((0:Int),((0:Int),[]))).2).2) (((x1.getD x5.toNat ((0:Int),((0:Int),[]))).2).2)) (cond (!(k1_sl9SameRecs x0 x1 x5)) (some (.ret,(⟨(.junk::.junk::.junk::.junk::(.t true .bool false)::jA50),[],0,[]⟩:St))) (some (.normal,(⟨((.t false tq3 x0)::(.t false tq3 x1)::.junk::.junk::.junk::(.t true (.int .i64) (IntKind.wrap .i64 (x5+(1:Int))))::jA49),[],0,[]⟩:St)))) none) none) none)) none) none)) none) none) (some ((.exit 0),(⟨(.junk::jA54),[],0,[]⟩:St))))
theorem rdA_sl9SameRecs_0:RdA G88 (fun _ _=>none) 0 body_sl9SameRecs_0 S_sl9SameRecs_0 0 [] (kepts [4] [(0,[])]) (fun d=>ox_sl9SameRecs_0 d.1.1 d.1.2.1 d.1.2.2.2.2.2.1):=by
 intro d
 kernel_rfl
theorem rdB_sl9SameRecs_0:∀ d:S_sl9SameRecs_0.den,ox_sl9SameRecs_0 d.1.1 d.1.2.1 d.1.2.2.2.2.2.1=(sp_sl9SameRecs_0 d).opt 0 []:=by
 intro d
 kernel_rfl
noncomputable abbrev say_sl9SameRecs_0:St→Option Tree:=S_sl9SameRecs_0.say 0 [] [] (fun d=>T_sl9SameRecs_0 d.1.1 d.1.2.1 d.1.2.2.2.2.2.1)
theorem lw_sl9SameRecs_0:LoopWp Try.prog say_sl9SameRecs_0 body_sl9SameRecs_0:=SS.wp2 (hl0 (by kernel_rfl)) [] sp_sl9SameRecs_0 rdA_sl9SameRecs_0 rdB_sl9SameRecs_0 _ (fun d=>Runs.ofIt (step:=sp_sl9SameRecs_0) pv_sl9SameRecs_0 (ct:=ct_sl9SameRecs_0) rfl (fun v=>((relB (relB (relB (relB rfl (relB (relB (relB rfl (relB (relB (relB (relB rfl rfl) rfl) rfl) rfl)) rfl) rfl)) rfl) rfl) rfl):(st_sl9SameRecs_0 v.1 v.2.1 v.2.2).val=relS pv_sl9SameRecs_0 ct_sl9SameRecs_0 (ss_sl9SameRecs_0 v.1 v.2.1 v.2.2))) (fun a=>((cendB (cendD (by simp)) (cendB (cendD (by simp)) cendF)):CEnd _ (ct_sl9SameRecs_0 a))) (d.1.1,d.1.2.1,d.1.2.2.2.2.2.1))
noncomputable def sl9SameRecs (a0:Lq1) (a1:Lq1):Bool:=(cond (((a0.length:Nat):Int) != ((a1.length:Nat):Int)) false (cond ((it_sl9SameRecs_0 a0 a1 (0:Int)).1==0) ((it_sl9SameRecs_0 a0 a1 (0:Int)).2) true))
noncomputable abbrev e_sl9SameRecs (r:Bool):AV×List AObj:=((.t true .bool r),[])
noncomputable abbrev F_sl9SameRecs (r:Bool):=some (e_sl9SameRecs r)
noncomputable abbrev g_sl9SameRecs:pshsDen P_sl9SameRecs→AV×List AObj:=fun d=>e_sl9SameRecs (sl9SameRecs d.1 d.2.1)
noncomputable def q_sl9SameRecs (a0:Lq1) (a1:Lq1):Bool:=cond (((a0.length:Nat):Int) != ((a1.length:Nat):Int)) true (cond ((it_sl9SameRecs_0 a0 a1 (0:Int)).1==0) true ((it_sl9SameRecs_0 a0 a1 (0:Int)).1==1))
noncomputable abbrev pre_sl9SameRecs:pshsDen P_sl9SameRecs→Bool:=fun d=>q_sl9SameRecs d.1 d.2.1
noncomputable abbrev L_sl9SameRecs:Nat→St→Option Tree:=fun b=>match b with | 0=>say_sl9SameRecs_0 | _=>fun _=>none
theorem run_sl9SameRecs:RunP true G88 (L_sl9SameRecs) Try.f54 P_sl9SameRecs pre_sl9SameRecs g_sl9SameRecs:=by
 rintro ⟨a0,⟨a1,_⟩⟩ hp
 change q_sl9SameRecs a0 a1=true at hp
 unfold q_sl9SameRecs at hp
 refine Eq.trans (b:=(cond (((a0.length:Nat):Int) != ((a1.length:Nat):Int)) (some (e_sl9SameRecs false)) (cond ((it_sl9SameRecs_0 a0 a1 (0:Int)).1==0) (some (e_sl9SameRecs ((it_sl9SameRecs_0 a0 a1 (0:Int)).2))) (cond ((it_sl9SameRecs_0 a0 a1 (0:Int)).1==1) (some (e_sl9SameRecs true)) none)))) (by kernel_rfl) ?_
 exact (cndQ (F:=F_sl9SameRecs) hp (fun hp=>rfl) (fun hp=>(cndQ (F:=F_sl9SameRecs) hp (fun hp=>rfl) (fun hp=>(cndT hp fun _h=>rfl)))))
theorem c_sl9SameRecs:PContract Try.prog 54 (sumOf P_sl9SameRecs pre_sl9SameRecs g_sl9SameRecs):=PContract.of_data true G88 (by kernel_rfl) (hl1 (i:=0) (by kernel_rfl) lw_sl9SameRecs_0) _ _ _ run_sl9SameRecs
noncomputable def S89:Tab:=Tab.add S88 54 (lift (sumOf P_sl9SameRecs pre_sl9SameRecs g_sl9SameRecs))
noncomputable def QF89:FuncId→Bool:=qadd QF88 54
theorem G89:Good Try.prog tt S89 QF89:=G88.addQ c_sl9SameRecs ⟨Try.f54,by kernel_rfl,by kernel_rfl,by kernel_rfl⟩ (fun _=>rfl)

noncomputable abbrev P_sShardOk:List PSh:=[.agg [(.int .i64),tq3,(.int .i64),tq6,tq3]]
noncomputable def sShardOk (a0:Int) (a1:Lq1) (a2:Int) (a3:LBBe) (a4:Lq1):Bool:=(cond (!(sl1In a0 (0:Int) (7:Int))) false (cond (decide (((a1.length:Nat):Int) > (300:Int))) false (cond (!(sl1In a2 (0:Int) ((a1.length:Nat):Int))) false (cond ((sReplayRecs a1).1) (cond (sl9SamePairs ((sReplayRecs a1).2.1) a3) (cond (sl9SameRecs ((sReplayRecs a1).2.2) a4) (decide ((IntKind.wrap .i64 (((a1.length:Nat):Int)+((((sReplayRecs a1).2.2).length:Nat):Int)))≤(300:Int))) false) false) false))))
noncomputable abbrev e_sShardOk (r:Bool):AV×List AObj:=((.t true .bool r),[])
noncomputable abbrev F_sShardOk (r:Bool):=some (e_sShardOk r)
noncomputable abbrev g_sShardOk:pshsDen P_sShardOk→AV×List AObj:=fun d=>e_sShardOk (sShardOk d.1.1 d.1.2.1 d.1.2.2.1 d.1.2.2.2.1 d.1.2.2.2.2.1)
noncomputable def q_sShardOk (a0:Int) (a1:Lq1) (a2:Int) (a3:LBBe) (a4:Lq1):Bool:=cond (!(sl1In a0 (0:Int) (7:Int))) true (cond (decide (((a1.length:Nat):Int) > (300:Int))) true (cond (!(sl1In a2 (0:Int) ((a1.length:Nat):Int))) true ((q_sReplayRecs a1)&&(cond ((sReplayRecs a1).1) ((q_sl9SamePairs ((sReplayRecs a1).2.1) a3)&&(cond (sl9SamePairs ((sReplayRecs a1).2.1) a3) (q_sl9SameRecs ((sReplayRecs a1).2.2) a4) true)) true))))
noncomputable abbrev pre_sShardOk:pshsDen P_sShardOk→Bool:=fun d=>q_sShardOk d.1.1 d.1.2.1 d.1.2.2.1 d.1.2.2.2.1 d.1.2.2.2.2.1
theorem run_sShardOk:RunP true G89 (fun _ _=>none) Try.f20 P_sShardOk pre_sShardOk g_sShardOk:=by
 rintro ⟨⟨a0,⟨a1,⟨a2,⟨a3,⟨a4,_⟩⟩⟩⟩⟩,_⟩ hp
 change q_sShardOk a0 a1 a2 a3 a4=true at hp
 unfold q_sShardOk at hp
 refine Eq.trans (b:=(cond (!(sl1In a0 (0:Int) (7:Int))) (some (e_sShardOk false)) (cond (decide (((a1.length:Nat):Int) > (300:Int))) (some (e_sShardOk false)) (cond (!(sl1In a2 (0:Int) ((a1.length:Nat):Int))) (some (e_sShardOk false)) (cond (q_sReplayRecs a1) (cond ((sReplayRecs a1).1) (cond (q_sl9SamePairs ((sReplayRecs a1).2.1) a3) (cond (sl9SamePairs ((sReplayRecs a1).2.1) a3) (cond (q_sl9SameRecs ((sReplayRecs a1).2.2) a4) (cond (sl9SameRecs ((sReplayRecs a1).2.2) a4) (some (e_sShardOk (decide ((IntKind.wrap .i64 (((a1.length:Nat):Int)+((((sReplayRecs a1).2.2).length:Nat):Int)))≤(300:Int))))) (some (e_sShardOk false))) none) (some (e_sShardOk false))) none) (some (e_sShardOk false))) none))))) (by kernel_rfl) ?_
 exact (cndQ (F:=F_sShardOk) hp (fun hp=>rfl) (fun hp=>(cndQ (F:=F_sShardOk) hp (fun hp=>rfl) (fun hp=>(cndQ (F:=F_sShardOk) hp (fun hp=>rfl) (fun hp=>(cndA hp fun hp=>(cndQ (F:=F_sShardOk) hp (fun hp=>(cndA hp fun hp=>(cndQ (F:=F_sShardOk) hp (fun hp=>(cndT hp fun _h=>(cnd (F:=F_sShardOk) (fun _h=>rfl) (fun _h=>rfl)))) (fun hp=>rfl)))) (fun hp=>rfl)))))))))
theorem c_sShardOk:PContract Try.prog 20 (sumOf P_sShardOk pre_sShardOk g_sShardOk):=PContract.of_data true G89 (by kernel_rfl) (hl0 (by kernel_rfl)) _ _ _ run_sShardOk
noncomputable def S90:Tab:=Tab.add S89 20 (lift (sumOf P_sShardOk pre_sShardOk g_sShardOk))
noncomputable def QF90:FuncId→Bool:=qadd QF89 20
theorem G90:Good Try.prog tt S90 QF90:=G89.addQ c_sShardOk ⟨Try.f20,by kernel_rfl,by kernel_rfl,by kernel_rfl⟩ (fun _=>rfl)

noncomputable abbrev P_sDecide:List PSh:=[.agg [(.int .i64),tq3,(.int .i64),tq6,tq3],.t (.int .i64),.t .bool]
noncomputable def k1_sDecide (a0:Int) (a1:Lq1) (a2:Int) (a3:LBBe) (a4:Lq1) (a5:Int) (a6:Bool):=sl9Decide a5 a6 ((sl9Copy a0 a1 a2 a3 a4).1) ((sl9Copy a0 a1 a2 a3 a4).2.1) ((sl9Copy a0 a1 a2 a3 a4).2.2.1) ((sl9Copy a0 a1 a2 a3 a4).2.2.2.1) ((sl9Copy a0 a1 a2 a3 a4).2.2.2.2)
noncomputable def sDecide (a0:Int) (a1:Lq1) (a2:Int) (a3:LBBe) (a4:Lq1) (a5:Int) (a6:Bool):Int×(Lq1)×Int×(LBBe)×(Lq1)×Bool:=(cond (!(sShardOk a0 a1 a2 a3 a4)) (((sl9Copy a0 a1 a2 a3 a4).1),((sl9Copy a0 a1 a2 a3 a4).2.2.1),((sl9Copy a0 a1 a2 a3 a4).2.1),((sl9Copy a0 a1 a2 a3 a4).2.2.2.1),((sl9Copy a0 a1 a2 a3 a4).2.2.2.2),false) (cond (!((k1_sDecide a0 a1 a2 a3 a4 a5 a6).1)) (((sl9Copy a0 a1 a2 a3 a4).1),((sl9Copy a0 a1 a2 a3 a4).2.2.1),((sl9Copy a0 a1 a2 a3 a4).2.1),((sl9Copy a0 a1 a2 a3 a4).2.2.2.1),((sl9Copy a0 a1 a2 a3 a4).2.2.2.2),false) (((k1_sDecide a0 a1 a2 a3 a4 a5 a6).2.1),((k1_sDecide a0 a1 a2 a3 a4 a5 a6).2.2.2.1),((k1_sDecide a0 a1 a2 a3 a4 a5 a6).2.2.1),((k1_sDecide a0 a1 a2 a3 a4 a5 a6).2.2.2.2.1),((k1_sDecide a0 a1 a2 a3 a4 a5 a6).2.2.2.2.2),true)))
noncomputable abbrev e_sDecide (r:Int×(Lq1)×Int×(LBBe)×(Lq1)×Bool):AV×List AObj:=((.tup [(.agg [(.t true (.int .i64) r.1),(.t true tq3 r.2.1),(.t true (.int .i64) r.2.2.1),(.t true tq6 r.2.2.2.1),(.t true tq3 r.2.2.2.2.1)]),(.t true .bool r.2.2.2.2.2)]),[])
noncomputable abbrev F_sDecide (r:Int×(Lq1)×Int×(LBBe)×(Lq1)×Bool):=some (e_sDecide r)
noncomputable abbrev g_sDecide:pshsDen P_sDecide→AV×List AObj:=fun d=>e_sDecide (sDecide d.1.1 d.1.2.1 d.1.2.2.1 d.1.2.2.2.1 d.1.2.2.2.2.1 d.2.1 d.2.2.1)
noncomputable def q_sDecide (a0:Int) (a1:Lq1) (a2:Int) (a3:LBBe) (a4:Lq1) (a5:Int) (a6:Bool):Bool:=(q_sl9Copy a0 a1 a2 a3 a4)&&((q_sShardOk a0 a1 a2 a3 a4)&&(cond (!(sShardOk a0 a1 a2 a3 a4)) (q_sl9Copy a0 a1 a2 a3 a4) ((q_sl9Decide a5 a6 ((sl9Copy a0 a1 a2 a3 a4).1) ((sl9Copy a0 a1 a2 a3 a4).2.1) ((sl9Copy a0 a1 a2 a3 a4).2.2.1) ((sl9Copy a0 a1 a2 a3 a4).2.2.2.1) ((sl9Copy a0 a1 a2 a3 a4).2.2.2.2))&&(cond (!((k1_sDecide a0 a1 a2 a3 a4 a5 a6).1)) (q_sl9Copy a0 a1 a2 a3 a4) true))))
noncomputable abbrev pre_sDecide:pshsDen P_sDecide→Bool:=fun d=>q_sDecide d.1.1 d.1.2.1 d.1.2.2.1 d.1.2.2.2.1 d.1.2.2.2.2.1 d.2.1 d.2.2.1
theorem run_sDecide:RunP true G90 (fun _ _=>none) Try.f28 P_sDecide pre_sDecide g_sDecide:=by
 rintro ⟨⟨a0,⟨a1,⟨a2,⟨a3,⟨a4,_⟩⟩⟩⟩⟩,⟨a5,⟨a6,_⟩⟩⟩ hp
 change q_sDecide a0 a1 a2 a3 a4 a5 a6=true at hp
 unfold q_sDecide at hp
 refine Eq.trans (b:=(cond (q_sl9Copy a0 a1 a2 a3 a4) (cond (q_sShardOk a0 a1 a2 a3 a4) (cond (!(sShardOk a0 a1 a2 a3 a4)) (cond (q_sl9Copy a0 a1 a2 a3 a4) (some (e_sDecide (((sl9Copy a0 a1 a2 a3 a4).1),((sl9Copy a0 a1 a2 a3 a4).2.2.1),((sl9Copy a0 a1 a2 a3 a4).2.1),((sl9Copy a0 a1 a2 a3 a4).2.2.2.1),((sl9Copy a0 a1 a2 a3 a4).2.2.2.2),false))) none) (cond (q_sl9Decide a5 a6 ((sl9Copy a0 a1 a2 a3 a4).1) ((sl9Copy a0 a1 a2 a3 a4).2.1) ((sl9Copy a0 a1 a2 a3 a4).2.2.1) ((sl9Copy a0 a1 a2 a3 a4).2.2.2.1) ((sl9Copy a0 a1 a2 a3 a4).2.2.2.2)) (cond (!((k1_sDecide a0 a1 a2 a3 a4 a5 a6).1)) (cond (q_sl9Copy a0 a1 a2 a3 a4) (some (e_sDecide (((sl9Copy a0 a1 a2 a3 a4).1),((sl9Copy a0 a1 a2 a3 a4).2.2.1),((sl9Copy a0 a1 a2 a3 a4).2.1),((sl9Copy a0 a1 a2 a3 a4).2.2.2.1),((sl9Copy a0 a1 a2 a3 a4).2.2.2.2),false))) none) (some (e_sDecide (((k1_sDecide a0 a1 a2 a3 a4 a5 a6).2.1),((k1_sDecide a0 a1 a2 a3 a4 a5 a6).2.2.2.1),((k1_sDecide a0 a1 a2 a3 a4 a5 a6).2.2.1),((k1_sDecide a0 a1 a2 a3 a4 a5 a6).2.2.2.2.1),((k1_sDecide a0 a1 a2 a3 a4 a5 a6).2.2.2.2.2),true)))) none)) none) none)) (by kernel_rfl) ?_
 exact (cndA hp fun hp=>(cndA hp fun hp=>(cndQ (F:=F_sDecide) hp (fun hp=>(cndT hp fun _h=>rfl)) (fun hp=>(cndA hp fun hp=>(cndQ (F:=F_sDecide) hp (fun hp=>(cndT hp fun _h=>rfl)) (fun hp=>rfl)))))))
theorem c_sDecide:PContract Try.prog 28 (sumOf P_sDecide pre_sDecide g_sDecide):=PContract.of_data true G90 (by kernel_rfl) (hl0 (by kernel_rfl)) _ _ _ run_sDecide
noncomputable def S91:Tab:=Tab.add S90 28 (lift (sumOf P_sDecide pre_sDecide g_sDecide))
noncomputable def QF91:FuncId→Bool:=qadd QF90 28
theorem G91:Good Try.prog tt S91 QF91:=G90.addQ c_sDecide ⟨Try.f28,by kernel_rfl,by kernel_rfl,by kernel_rfl⟩ (fun _=>rfl)

noncomputable abbrev SM_iShard_outcome_w1:SS:=⟨[.ptr 0 0 1 0,.t true (.int .i64)],[.box [.t true (.int .i64),.t false tq3,.t true (.int .i64),.t false tq6,.t false tq3]]⟩
noncomputable def iShard_outcome_w1 (x1:Int) (p0:Int) (p1:Lq1) (p2:Int) (p3:LBBe) (p4:Lq1):Int×Int×(Lq1)×Int×(LBBe)×Lq1:=(cond (decide ((irecAt p4 x1) ≥ (0:Int))) ((1:Int),p0,p1,p2,p3,p4) (cond (decide ((irecAt p1 x1)<(0:Int))) ((2:Int),p0,p1,p2,p3,p4) (cond (((p1.getD ((irecAt p1 x1).toNat) ((0:Int),((0:Int),[]))).1)==(2:Int)) ((3:Int),p0,p1,p2,p3,p4) ((4:Int),p0,p1,p2,p3,p4))))
noncomputable abbrev e_iShard_outcome_w1 (r:Int×Int×(Lq1)×Int×(LBBe)×Lq1):AV×List AObj×List Nat:=((.t true (.int .i64) r.1),[(.box [(.t true (.int .i64) r.2.1),(.t false tq3 r.2.2.1),(.t true (.int .i64) r.2.2.2.1),(.t false tq6 r.2.2.2.2.1),(.t false tq3 r.2.2.2.2.2)])],[])
noncomputable abbrev F_iShard_outcome_w1 (r:Int×Int×(Lq1)×Int×(LBBe)×Lq1):=some (e_iShard_outcome_w1 r)
noncomputable abbrev g_iShard_outcome_w1:SM_iShard_outcome_w1.den→AV×List AObj×List Nat:=fun d=>e_iShard_outcome_w1 (iShard_outcome_w1 d.1.2.1 d.2.1.1 d.2.1.2.1 d.2.1.2.2.1 d.2.1.2.2.2.1 d.2.1.2.2.2.2.1)
noncomputable def q_iShard_outcome_w1 (x1:Int) (p0:Int) (p1:Lq1) (p2:Int) (p3:LBBe) (p4:Lq1):Bool:=(q_irecAt p1 x1)&&((q_irecAt p4 x1)&&(cond (decide ((irecAt p4 x1) ≥ (0:Int))) true (cond (decide ((irecAt p1 x1)<(0:Int))) true (decide (0≤(irecAt p1 x1)∧(irecAt p1 x1)<((p1.length:Nat):Int))))))
noncomputable abbrev pre_iShard_outcome_w1:SM_iShard_outcome_w1.den→Bool:=fun d=>q_iShard_outcome_w1 d.1.2.1 d.2.1.1 d.2.1.2.1 d.2.1.2.2.1 d.2.1.2.2.2.1 d.2.1.2.2.2.2.1
theorem run_iShard_outcome_w1:RunM G91 (fun _ _=>none) Try.f39 SM_iShard_outcome_w1 pre_iShard_outcome_w1 g_iShard_outcome_w1:=by
 rintro ⟨⟨_,x1,_⟩,⟨⟨p0,p1,p2,p3,p4,_⟩,_⟩⟩ hp
 change q_iShard_outcome_w1 x1 p0 p1 p2 p3 p4=true at hp
 unfold q_iShard_outcome_w1 at hp
 refine Eq.trans (b:=(cond (q_irecAt p1 x1) (cond (q_irecAt p4 x1) (cond (decide ((irecAt p4 x1) ≥ (0:Int))) (some (e_iShard_outcome_w1 ((1:Int),p0,p1,p2,p3,p4))) (cond (decide ((irecAt p1 x1)<(0:Int))) (some (e_iShard_outcome_w1 ((2:Int),p0,p1,p2,p3,p4))) (cond (decide (0≤(irecAt p1 x1)∧(irecAt p1 x1)<((p1.length:Nat):Int))) (cond (((p1.getD ((irecAt p1 x1).toNat) ((0:Int),((0:Int),[]))).1)==(2:Int)) (some (e_iShard_outcome_w1 ((3:Int),p0,p1,p2,p3,p4))) (some (e_iShard_outcome_w1 ((4:Int),p0,p1,p2,p3,p4)))) none))) none) none)) (by kernel_rfl) ?_
 exact (cndA hp fun hp=>(cndA hp fun hp=>(cndQ (F:=F_iShard_outcome_w1) hp (fun hp=>rfl) (fun hp=>(cndQ (F:=F_iShard_outcome_w1) hp (fun hp=>rfl) (fun hp=>(cndT hp fun _h=>(cnd (F:=F_iShard_outcome_w1) (fun _h=>rfl) (fun _h=>rfl)))))))))
noncomputable abbrev m_iShard_outcome_w1:=win winIds (msum SM_iShard_outcome_w1 pre_iShard_outcome_w1 g_iShard_outcome_w1)
theorem c_iShard_outcome_w1:MContract Try.prog 39 m_iShard_outcome_w1:=(MContract.of_data G91 (by kernel_rfl) (hl0 (by kernel_rfl)) _ _ _ run_iShard_outcome_w1).win winIds
noncomputable def S92:Tab:=Tab.add S91 39 (orElseS (m_iShard_outcome) (m_iShard_outcome_w1))
noncomputable def QF92:FuncId→Bool:=QF91
theorem G92:Good Try.prog tt S92 QF92:=G91.addM (MContract.orElse c_iShard_outcome c_iShard_outcome_w1) (orElse_local (win_local _) (win_local _)) ⟨Try.f39,by kernel_rfl,by kernel_rfl,by kernel_rfl⟩ (by kernel_rfl)

noncomputable abbrev P_iOutcome:List PSh:=[.agg [(.int .i64),tq3,(.int .i64),tq6,tq3],.t (.int .i64)]
noncomputable def iOutcome (a0:Int) (a1:Lq1) (a2:Int) (a3:LBBe) (a4:Lq1) (a5:Int):Int:=(cond (!(iShardOk a0 a1 a2 a3 a4)) (5:Int) ((iShard_outcome_w1 a5 a0 a1 a2 a3 a4).1))
noncomputable abbrev e_iOutcome (r:Int):AV×List AObj:=((.t true (.int .i64) r),[])
noncomputable abbrev F_iOutcome (r:Int):=some (e_iOutcome r)
noncomputable abbrev g_iOutcome:pshsDen P_iOutcome→AV×List AObj:=fun d=>e_iOutcome (iOutcome d.1.1 d.1.2.1 d.1.2.2.1 d.1.2.2.2.1 d.1.2.2.2.2.1 d.2.1)
noncomputable def q_iOutcome (a0:Int) (a1:Lq1) (a2:Int) (a3:LBBe) (a4:Lq1) (a5:Int):Bool:=(q_iShardOk a0 a1 a2 a3 a4)&&(cond (!(iShardOk a0 a1 a2 a3 a4)) true (q_iShard_outcome_w1 a5 a0 a1 a2 a3 a4))
noncomputable abbrev pre_iOutcome:pshsDen P_iOutcome→Bool:=fun d=>q_iOutcome d.1.1 d.1.2.1 d.1.2.2.1 d.1.2.2.2.1 d.1.2.2.2.2.1 d.2.1
theorem run_iOutcome:RunP true G92 (fun _ _=>none) Try.f13 P_iOutcome pre_iOutcome g_iOutcome:=by
 rintro ⟨⟨a0,⟨a1,⟨a2,⟨a3,⟨a4,_⟩⟩⟩⟩⟩,⟨a5,_⟩⟩ hp
 change q_iOutcome a0 a1 a2 a3 a4 a5=true at hp
 unfold q_iOutcome at hp
 refine Eq.trans (b:=(cond (q_iShardOk a0 a1 a2 a3 a4) (cond (!(iShardOk a0 a1 a2 a3 a4)) (some (e_iOutcome (5:Int))) (cond (q_iShard_outcome_w1 a5 a0 a1 a2 a3 a4) (some (e_iOutcome ((iShard_outcome_w1 a5 a0 a1 a2 a3 a4).1))) none)) none)) (by kernel_rfl) ?_
 exact (cndA hp fun hp=>(cndQ (F:=F_iOutcome) hp (fun hp=>rfl) (fun hp=>(cndT hp fun _h=>rfl))))
theorem c_iOutcome:PContract Try.prog 13 (sumOf P_iOutcome pre_iOutcome g_iOutcome):=PContract.of_data true G92 (by kernel_rfl) (hl0 (by kernel_rfl)) _ _ _ run_iOutcome
noncomputable def S93:Tab:=Tab.add S92 13 (lift (sumOf P_iOutcome pre_iOutcome g_iOutcome))
noncomputable def QF93:FuncId→Bool:=qadd QF92 13
theorem G93:Good Try.prog tt S93 QF93:=G92.addQ c_iOutcome ⟨Try.f13,by kernel_rfl,by kernel_rfl,by kernel_rfl⟩ (fun _=>rfl)

noncomputable abbrev P_lsamePairs:List PSh:=[.t tq6,.t tq6]
noncomputable abbrev S_lsamePairs_0:SS:=⟨(.t false tq6::.t false tq6::.junk::.junk::.junk::.t true (.int .i64)::jS20),[]⟩
noncomputable abbrev E_lsamePairs_0_0:SS:=⟨(.junk::.junk::.junk::.junk::.t true .bool::jS21),[]⟩
noncomputable abbrev E_lsamePairs_0_1:SS:=⟨(.junk::jS25),[]⟩
noncomputable def st_lsamePairs_0 (x0:LBBe) (x1:LBBe) (x5:Int):RT S_lsamePairs_0.den:=(.br (decide (x5<((x0.length:Nat):Int))) (.br (decide (0≤x5∧x5<((x0.length:Nat):Int))) (.br (decide (0≤x5∧x5<((x1.length:Nat):Int))) (.br (!((((x0.getD x5.toNat (bE,bE)).1).toList==((x1.getD x5.toNat (bE,bE)).1).toList)&&((((x0.getD x5.toNat (bE,bE)).2).toList==((x1.getD x5.toNat (bE,bE)).2).toList)&&true))) (.done .ret E_lsamePairs_0_0 (((),(),(),(),false,u22),())) (.next ((x0,x1,(),(),(),IntKind.wrap .i64 (x5+(1:Int)),u21),()))) .fail) .fail) (.done (.exit 0) E_lsamePairs_0_1 ((u27),())))
noncomputable abbrev V_lsamePairs_0:=(LBBe)×(LBBe)×(Int)
noncomputable abbrev A_lsamePairs_0:=Nat×(Bool)
noncomputable def fl_lsamePairs_0:A_lsamePairs_0:=(99,(false:Bool))
noncomputable def ss_lsamePairs_0 (x0:LBBe) (x1:LBBe) (x5:Int):V_lsamePairs_0 ⊕ A_lsamePairs_0:=(cond (decide (x5<((x0.length:Nat):Int))) (cond (decide (0≤x5∧x5<((x0.length:Nat):Int))) (cond (decide (0≤x5∧x5<((x1.length:Nat):Int))) (cond (!((((x0.getD x5.toNat (bE,bE)).1).toList==((x1.getD x5.toNat (bE,bE)).1).toList)&&((((x0.getD x5.toNat (bE,bE)).2).toList==((x1.getD x5.toNat (bE,bE)).2).toList)&&true))) (.inr (0,false)) (.inl (x0,x1,IntKind.wrap .i64 (x5+(1:Int))))) (.inr fl_lsamePairs_0)) (.inr fl_lsamePairs_0)) (.inr (1,(false:Bool))))
noncomputable def it_lsamePairs_0 (x0:LBBe) (x1:LBBe) (x5:Int):A_lsamePairs_0:=itX (fun v:V_lsamePairs_0=>ss_lsamePairs_0 v.1 v.2.1 v.2.2) fl_lsamePairs_0 (x0,x1,x5)
noncomputable def ct_lsamePairs_0 (a:A_lsamePairs_0):CT:=(.br (a.1==0) (.done .ret E_lsamePairs_0_0 (((),(),(),(),a.2,u22),())) (.br (a.1==1) (.done (.exit 0) E_lsamePairs_0_1 ((u27),())) .fail))
noncomputable def T_lsamePairs_0 (x0:LBBe) (x1:LBBe) (x5:Int):CT:=ct_lsamePairs_0 (it_lsamePairs_0 x0 x1 x5)
noncomputable abbrev sp_lsamePairs_0:S_lsamePairs_0.den→RT S_lsamePairs_0.den:=fun d=>st_lsamePairs_0 d.1.1 d.1.2.1 d.1.2.2.2.2.2.1
noncomputable abbrev pk_lsamePairs_0 (x0:LBBe) (x1:LBBe) (x5:Int):S_lsamePairs_0.den:=((x0,x1,(),(),(),x5,u21),())
noncomputable def body_lsamePairs_0:Code:=((loopsIn 0 (bodyOf Try.f21)).getD 0 (0,.skip)).2
noncomputable abbrev pv_lsamePairs_0 (v:V_lsamePairs_0):S_lsamePairs_0.den:=pk_lsamePairs_0 v.1 v.2.1 v.2.2
theorem rdA_lsamePairs_0:RdA G93 (fun _ _=>none) 0 body_lsamePairs_0 S_lsamePairs_0 0 [] (kepts [4] [(0,[])]) (fun d=>(sp_lsamePairs_0 d).opt 0 []):=by
 intro d
 kernel_rfl
noncomputable abbrev say_lsamePairs_0:St→Option Tree:=S_lsamePairs_0.say 0 [] [] (fun d=>T_lsamePairs_0 d.1.1 d.1.2.1 d.1.2.2.2.2.2.1)
theorem lw_lsamePairs_0:LoopWp Try.prog say_lsamePairs_0 body_lsamePairs_0:=SS.wp2 (hl0 (by kernel_rfl)) [] sp_lsamePairs_0 rdA_lsamePairs_0 (fun d=>rfl) _ (fun d=>Runs.ofIt (step:=sp_lsamePairs_0) pv_lsamePairs_0 (ct:=ct_lsamePairs_0) rfl (fun v=>((relB (relB (relB (relB rfl rfl) rfl) rfl) rfl):(st_lsamePairs_0 v.1 v.2.1 v.2.2).val=relS pv_lsamePairs_0 ct_lsamePairs_0 (ss_lsamePairs_0 v.1 v.2.1 v.2.2))) (fun a=>((cendB (cendD (by simp)) (cendB (cendD (by simp)) cendF)):CEnd _ (ct_lsamePairs_0 a))) (d.1.1,d.1.2.1,d.1.2.2.2.2.2.1))
noncomputable def lsamePairs (a0:LBBe) (a1:LBBe):Bool:=(cond (((a0.length:Nat):Int) != ((a1.length:Nat):Int)) false (cond ((it_lsamePairs_0 a0 a1 (0:Int)).1==0) ((it_lsamePairs_0 a0 a1 (0:Int)).2) true))
noncomputable abbrev e_lsamePairs (r:Bool):AV×List AObj:=((.t true .bool r),[])
noncomputable abbrev F_lsamePairs (r:Bool):=some (e_lsamePairs r)
noncomputable abbrev g_lsamePairs:pshsDen P_lsamePairs→AV×List AObj:=fun d=>e_lsamePairs (lsamePairs d.1 d.2.1)
noncomputable def q_lsamePairs (a0:LBBe) (a1:LBBe):Bool:=cond (((a0.length:Nat):Int) != ((a1.length:Nat):Int)) true (cond ((it_lsamePairs_0 a0 a1 (0:Int)).1==0) true ((it_lsamePairs_0 a0 a1 (0:Int)).1==1))
noncomputable abbrev pre_lsamePairs:pshsDen P_lsamePairs→Bool:=fun d=>q_lsamePairs d.1 d.2.1
noncomputable abbrev L_lsamePairs:Nat→St→Option Tree:=fun b=>match b with | 0=>say_lsamePairs_0 | _=>fun _=>none
theorem run_lsamePairs:RunP true G93 (L_lsamePairs) Try.f21 P_lsamePairs pre_lsamePairs g_lsamePairs:=by
 rintro ⟨a0,⟨a1,_⟩⟩ hp
 change q_lsamePairs a0 a1=true at hp
 unfold q_lsamePairs at hp
 refine Eq.trans (b:=(cond (((a0.length:Nat):Int) != ((a1.length:Nat):Int)) (some (e_lsamePairs false)) (cond ((it_lsamePairs_0 a0 a1 (0:Int)).1==0) (some (e_lsamePairs ((it_lsamePairs_0 a0 a1 (0:Int)).2))) (cond ((it_lsamePairs_0 a0 a1 (0:Int)).1==1) (some (e_lsamePairs true)) none)))) (by kernel_rfl) ?_
 exact (cndQ (F:=F_lsamePairs) hp (fun hp=>rfl) (fun hp=>(cndQ (F:=F_lsamePairs) hp (fun hp=>rfl) (fun hp=>(cndT hp fun _h=>rfl)))))
theorem c_lsamePairs:PContract Try.prog 21 (sumOf P_lsamePairs pre_lsamePairs g_lsamePairs):=PContract.of_data true G93 (by kernel_rfl) (hl1 (i:=0) (by kernel_rfl) lw_lsamePairs_0) _ _ _ run_lsamePairs
noncomputable def S94:Tab:=Tab.add S93 21 (lift (sumOf P_lsamePairs pre_lsamePairs g_lsamePairs))
noncomputable def QF94:FuncId→Bool:=qadd QF93 21
theorem G94:Good Try.prog tt S94 QF94:=G93.addQ c_lsamePairs ⟨Try.f21,by kernel_rfl,by kernel_rfl,by kernel_rfl⟩ (fun _=>rfl)


end Go.Proofs.Ytgglehejlddghaa.Eng

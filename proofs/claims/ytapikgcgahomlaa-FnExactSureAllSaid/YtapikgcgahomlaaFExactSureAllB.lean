/- What the functions that FnExactSureAll reaches compute: further. -/
import Derived.Test.YtapikgcgahomlaaFExactSureAllA
namespace Go.Proofs.Ytapikgcgahomlaa.Eng
open Go Go.RowKit
set_option linter.unusedSimpArgs false
set_option linter.unusedVariables false
set_option maxRecDepth 10000
noncomputable abbrev SM_iCoord_choiceAt:SS:=⟨[.ptr 0 0 1 0,.t true (.int .i64)],[.box [.t true (.int .i64),.t true (.int .i64),.t true (.int .i64),.t false tq2,.t false tq3,.t true (.int .i64)]]⟩
noncomputable def iCoord_choiceAt (x1:Int) (p0:Int) (p1:Int) (p2:Int) (p3:List (Int×(Lq1)×Int×List Int)) (p4:LIbe) (p5:Int):Int:=(slices_IndexFunc_iChoice p4 x1)
noncomputable abbrev e_iCoord_choiceAt (p0:Int) (p1:Int) (p2:Int) (p3:List (Int×(Lq1)×Int×List Int)) (p4:LIbe) (p5:Int) (r:Int):AV×List AObj×List Nat:=((.t true (.int .i64) r),[(.box [(.t true (.int .i64) p0),(.t true (.int .i64) p1),(.t true (.int .i64) p2),(.t false tq2 p3),(.t false tq3 p4),(.t true (.int .i64) p5)])],[])
noncomputable abbrev g_iCoord_choiceAt:SM_iCoord_choiceAt.den→AV×List AObj×List Nat:=fun d=>e_iCoord_choiceAt d.2.1.1 d.2.1.2.1 d.2.1.2.2.1 d.2.1.2.2.2.1 d.2.1.2.2.2.2.1 d.2.1.2.2.2.2.2.1 (iCoord_choiceAt d.1.2.1 d.2.1.1 d.2.1.2.1 d.2.1.2.2.1 d.2.1.2.2.2.1 d.2.1.2.2.2.2.1 d.2.1.2.2.2.2.2.1)
noncomputable def q_iCoord_choiceAt (x1:Int) (p0:Int) (p1:Int) (p2:Int) (p3:List (Int×(Lq1)×Int×List Int)) (p4:LIbe) (p5:Int):Bool:=q_slices_IndexFunc_iChoice p4 x1
noncomputable abbrev pre_iCoord_choiceAt:SM_iCoord_choiceAt.den→Bool:=fun d=>q_iCoord_choiceAt d.1.2.1 d.2.1.1 d.2.1.2.1 d.2.1.2.2.1 d.2.1.2.2.2.1 d.2.1.2.2.2.2.1 d.2.1.2.2.2.2.2.1
theorem run_iCoord_choiceAt:RunM G39 (fun _ _=>none) Try.f49 SM_iCoord_choiceAt pre_iCoord_choiceAt g_iCoord_choiceAt:=by
 rintro ⟨⟨_,x1,_⟩,⟨⟨p0,p1,p2,p3,p4,p5,_⟩,_⟩⟩ hp
 change q_iCoord_choiceAt x1 p0 p1 p2 p3 p4 p5=true at hp
 unfold q_iCoord_choiceAt at hp
 refine Eq.trans (b:=(cond (q_slices_IndexFunc_iChoice p4 x1) (some (e_iCoord_choiceAt p0 p1 p2 p3 p4 p5 (slices_IndexFunc_iChoice p4 x1))) none)) (by kernel_rfl) ?_
 exact (cndT hp fun _h=>rfl)
noncomputable abbrev m_iCoord_choiceAt:=winQ (msum SM_iCoord_choiceAt pre_iCoord_choiceAt g_iCoord_choiceAt)
theorem c_iCoord_choiceAt:MContract Try.prog 49 m_iCoord_choiceAt:=(mcM G39 hlz run_iCoord_choiceAt).winQ (msum_quiet fun d=>⟨rfl,rfl⟩)
noncomputable def S40:Tab:=Tab.add S39 49 (m_iCoord_choiceAt)
noncomputable def QF40:FuncId→Bool:=qadd QF39 49
theorem G40:Good Try.prog tt S40 QF40:=G39.addMQ c_iCoord_choiceAt (winQ_local _) (cbl Try.f49) (winQ_quiet _)

noncomputable abbrev P_iisKeyByte:List PSh:=[.t (.int .u8)]
noncomputable def iisKeyByte (a0:Int):Bool:=(cond (decide (a0 ≥ (97:Int))) (cond (decide (a0≤(122:Int))) true (cond (decide (a0 ≥ (48:Int))) (decide (a0≤(57:Int))) false)) (cond (decide (a0 ≥ (48:Int))) (decide (a0≤(57:Int))) false))
noncomputable abbrev e_iisKeyByte (r:Bool):AV×List AObj:=((.t true .bool r),[])
noncomputable abbrev g_iisKeyByte:pshsDen P_iisKeyByte→AV×List AObj:=fun d=>e_iisKeyByte (iisKeyByte d.1)
noncomputable abbrev pre_iisKeyByte:pshsDen P_iisKeyByte→Bool:=fun d=>true
theorem run_iisKeyByte:RunP true G40 (fun _ _=>none) Try.f158 P_iisKeyByte pre_iisKeyByte g_iisKeyByte:=by
 rintro ⟨a0,_⟩ hp
 refine Eq.trans (b:=(cond (decide (a0 ≥ (97:Int))) (cond (decide (a0≤(122:Int))) (some (e_iisKeyByte true)) (cond (decide (a0 ≥ (48:Int))) (some (e_iisKeyByte (decide (a0≤(57:Int))))) (some (e_iisKeyByte false)))) (cond (decide (a0 ≥ (48:Int))) (some (e_iisKeyByte (decide (a0≤(57:Int))))) (some (e_iisKeyByte false))))) (by kernel_rfl) ?_
 exact (cndG e_iisKeyByte (fun _h=>(cndG e_iisKeyByte (fun _h=>rfl) (fun _h=>(cndG e_iisKeyByte (fun _h=>rfl) (fun _h=>rfl))))) (fun _h=>(cndG e_iisKeyByte (fun _h=>rfl) (fun _h=>rfl))))
theorem c_iisKeyByte:PContract Try.prog 158 (sumOf P_iisKeyByte pre_iisKeyByte g_iisKeyByte):=pcD true G40 hlz run_iisKeyByte
noncomputable def S41:Tab:=Tab.add S40 158 (lift (sumOf P_iisKeyByte pre_iisKeyByte g_iisKeyByte))
noncomputable def QF41:FuncId→Bool:=qadd QF40 158
theorem G41:Good Try.prog tt S41 QF41:=G40.addQ c_iisKeyByte (cbl Try.f158) (fun _=>rfl)

noncomputable abbrev jS11:List Sh:=.junk::jS10
noncomputable abbrev u12:=((),u11)
noncomputable def iKeyAt (s:ByteArray) (i:Nat):Bool:=iisKeyByte (bt s (i:Int))
noncomputable abbrev P_iisWord:List PSh:=[.t .str]
noncomputable abbrev S_iisWord_0:SS:=⟨(.t true .str::.junk::.junk::.t true (.int .i64)::jS11),[]⟩
noncomputable abbrev E_iisWord_0_0:SS:=⟨(.junk::.junk::.t true .bool::jS12),[]⟩
noncomputable abbrev E_iisWord_0_1:SS:=⟨(.junk::jS14),[]⟩
noncomputable def st_iisWord_0 (x0:ByteArray) (x3:Int):RT S_iisWord_0.den:=(.br (decide (x3<((x0.size:Nat):Int))) (.br (decide (0≤x3∧x3<((x0.size:Nat):Int))) (.br (!(iisKeyByte (bt x0 x3))) (.done .ret E_iisWord_0_0 (((),(),false,u13),())) (.next ((x0,(),(),IntKind.wrap .i64 (x3+(1:Int)),u12),()))) .fail) (.done (.exit 0) E_iisWord_0_1 ((u16),())))
noncomputable def T_iisWord_0 (x0:ByteArray) (x3:Int):CT:=(.br (decide (0≤x3)&&okS x0) (.br (allF (iKeyAt x0) (x0.size - x3.toNat) x3.toNat) (.done (.exit 0) E_iisWord_0_1 ((u16),())) (.done .ret E_iisWord_0_0 (((),(),false,u13),()))) .fail)
noncomputable abbrev sp_iisWord_0:S_iisWord_0.den→RT S_iisWord_0.den:=(fun d=>st_iisWord_0 d.1.1 d.1.2.2.2.1)
noncomputable abbrev pk_iisWord_0 (x0:ByteArray) (x3:Int):S_iisWord_0.den:=((x0,(),(),x3,u12),())
noncomputable def body_iisWord_0:Code:=((loopsIn 0 (bodyOf Try.f156)).getD 0 (0,.skip)).2
theorem R_iisWord_0 (x0:ByteArray) (x3:Int):(T_iisWord_0 x0 x3).val (D:=S_iisWord_0.den)=.fail∨Runs sp_iisWord_0 (pk_iisWord_0 x0 x3) (T_iisWord_0 x0 x3).val:=by
 cases hc:(decide (0≤x3)&&okS x0) with
 | false=>left;simp only [T_iisWord_0,CT.val,hc,cond_false]
 | true =>
  right
  simp only [T_iisWord_0,CT.val,hc,cond_true]
  simp only [Bool.and_eq_true,decide_eq_true_eq] at hc
  obtain ⟨i,rfl⟩:=Int.eq_ofNat_of_zero_le hc.1
  have hs:=okS_le hc.2
  simp only [Int.toNat_natCast]
  refine Runs.scan (fun j=>pk_iisWord_0 x0 (j:Int)) (x0.size) (iKeyAt x0) (fun i hi=>?_) (fun i hi=>?_) ⟨_,_,_,rfl,by simp⟩ ⟨_,_,_,rfl,by simp⟩ _ _ rfl
  ·
   have h0a:decide ((i:Int)<((x0.size:Nat):Int))=true:=decide_eq_true (by omega)
   have h0b:decide (0≤(i:Int)∧(i:Int)<((x0.size:Nat):Int))=true:=decide_eq_true (by omega)
   simp only [sp_iisWord_0,st_iisWord_0,RT.val,h0a,h0b,cond_true,wrapS i (by omega),Int.toNat_natCast]
   simp only [iKeyAt]
   cases iisKeyByte (bt x0 (i:Int))<;>rfl
  ·have h1:decide ((i:Int)<((x0.size:Nat):Int))=false:=decide_eq_false (by omega)
   simp only [sp_iisWord_0,st_iisWord_0,RT.val,h1,cond_false]
theorem rdA_iisWord_0:RdA G41 (fun _ _=>none) 0 body_iisWord_0 S_iisWord_0 0 [] (kepts [2] [(0,[])]) (fun d=>(sp_iisWord_0 d).opt 0 []):=by
 intro d
 kernel_rfl
noncomputable abbrev say_iisWord_0:St→Option Tree:=S_iisWord_0.say 0 [] [] (fun d=>T_iisWord_0 d.1.1 d.1.2.2.2.1)
theorem lw_iisWord_0:LoopWp Try.prog say_iisWord_0 body_iisWord_0:=SS.wp2 hlz [] sp_iisWord_0 rdA_iisWord_0 (fun d=>rfl) _ (fun d=>R_iisWord_0 d.1.1 d.1.2.2.2.1)
noncomputable def iisWord (a0:ByteArray):Bool:=(cond (allF (iKeyAt a0) (a0.size - (0:Int).toNat) (0:Int).toNat) true false)
noncomputable abbrev e_iisWord (r:Bool):AV×List AObj:=((.t true .bool r),[])
noncomputable abbrev g_iisWord:pshsDen P_iisWord→AV×List AObj:=fun d=>e_iisWord (iisWord d.1)
noncomputable def q_iisWord (a0:ByteArray):Bool:=okS a0
noncomputable abbrev pre_iisWord:pshsDen P_iisWord→Bool:=fun d=>q_iisWord d.1
noncomputable abbrev L_iisWord:Nat→St→Option Tree:=fun b=>match b with | 0=>say_iisWord_0 | _=>fun _=>none
theorem run_iisWord:RunP true G41 (L_iisWord) Try.f156 P_iisWord pre_iisWord g_iisWord:=by
 rintro ⟨a0,_⟩ hp
 change q_iisWord a0=true at hp
 unfold q_iisWord at hp
 refine Eq.trans (b:=(cond (decide (0≤(0:Int))&&okS a0) (cond (allF (iKeyAt a0) (a0.size - (0:Int).toNat) (0:Int).toNat) (some (e_iisWord true)) (some (e_iisWord false))) none)) (by kernel_rfl) ?_
 exact (cndT (by first | rfl | decide | exact hp | (simp only [Bool.and_eq_true] at hp;simp only [hp];done) | (simp [*];done) | (simp [okL] at hp;simp [okL,MAXB];omega) | (simp_all;done) | (simp at *;omega)) (fun _h=>(cndG e_iisWord (fun _h=>rfl) (fun _h=>rfl))))
theorem c_iisWord:PContract Try.prog 156 (sumOf P_iisWord pre_iisWord g_iisWord):=pcD true G41 (hl1 (i:=0) (by kernel_rfl) lw_iisWord_0) run_iisWord
noncomputable def S42:Tab:=Tab.add S41 156 (lift (sumOf P_iisWord pre_iisWord g_iisWord))
noncomputable def QF42:FuncId→Bool:=qadd QF41 156
theorem G42:Good Try.prog tt S42 QF42:=G41.addQ c_iisWord (cbl Try.f156) (fun _=>rfl)

noncomputable abbrev P_iKeyOk:List PSh:=[.t .str]
noncomputable def iKeyOk (a0:ByteArray):Bool:=(cond (iinRange ((a0.size:Nat):Int) (1:Int) (12:Int)) (iisWord a0) false)
noncomputable abbrev e_iKeyOk (r:Bool):AV×List AObj:=((.t true .bool r),[])
noncomputable abbrev g_iKeyOk:pshsDen P_iKeyOk→AV×List AObj:=fun d=>e_iKeyOk (iKeyOk d.1)
noncomputable def q_iKeyOk (a0:ByteArray):Bool:=okS a0
noncomputable abbrev pre_iKeyOk:pshsDen P_iKeyOk→Bool:=fun d=>q_iKeyOk d.1
theorem run_iKeyOk:RunP true G42 (fun _ _=>none) Try.f141 P_iKeyOk pre_iKeyOk g_iKeyOk:=by
 rintro ⟨a0,_⟩ hp
 change q_iKeyOk a0=true at hp
 unfold q_iKeyOk at hp
 refine Eq.trans (b:=(cond (iinRange ((a0.size:Nat):Int) (1:Int) (12:Int)) (cond (q_iisWord a0) (some (e_iKeyOk (iisWord a0))) none) (some (e_iKeyOk false)))) (by kernel_rfl) ?_
 exact (cndG e_iKeyOk (fun _h=>(cndT (by first | rfl | decide | exact hp | (simp only [Bool.and_eq_true] at hp;simp only [hp];done) | (simp [*];done) | (simp [okL] at hp;simp [okL,MAXB];omega) | (simp_all;done) | (simp at *;omega)) (fun _h=>rfl))) (fun _h=>rfl))
theorem c_iKeyOk:PContract Try.prog 141 (sumOf P_iKeyOk pre_iKeyOk g_iKeyOk):=pcD true G42 hlz run_iKeyOk
noncomputable def S43:Tab:=Tab.add S42 141 (lift (sumOf P_iKeyOk pre_iKeyOk g_iKeyOk))
noncomputable def QF43:FuncId→Bool:=qadd QF42 141
theorem G43:Good Try.prog tt S43 QF43:=G42.addQ c_iKeyOk (cbl Try.f141) (fun _=>rfl)

noncomputable abbrev P_iopOk:List PSh:=[.agg [(.int .i64),.str,.str]]
noncomputable def iopOk (a0:Int) (a1:ByteArray) (a2:ByteArray):Bool:=(cond (a0==(1:Int)) (cond (iKeyOk a1) (decide (((a2.size:Nat):Int)≤(20:Int))) false) (cond (a0==(3:Int)) (cond (iKeyOk a1) (decide (((a2.size:Nat):Int)≤(20:Int))) false) (cond (a0==(2:Int)) (cond (iKeyOk a1) (a2.toList==bE.toList) false) false)))
noncomputable abbrev e_iopOk (r:Bool):AV×List AObj:=((.t true .bool r),[])
noncomputable abbrev g_iopOk:pshsDen P_iopOk→AV×List AObj:=fun d=>e_iopOk (iopOk d.1.1 d.1.2.1 d.1.2.2.1)
noncomputable def q_iopOk (a0:Int) (a1:ByteArray) (a2:ByteArray):Bool:=okS a1
noncomputable abbrev pre_iopOk:pshsDen P_iopOk→Bool:=fun d=>q_iopOk d.1.1 d.1.2.1 d.1.2.2.1
theorem run_iopOk:RunP true G43 (fun _ _=>none) Try.f113 P_iopOk pre_iopOk g_iopOk:=by
 rintro ⟨⟨a0,⟨a1,⟨a2,_⟩⟩⟩,_⟩ hp
 change q_iopOk a0 a1 a2=true at hp
 unfold q_iopOk at hp
 refine Eq.trans (b:=(cond (a0==(1:Int)) (cond (q_iKeyOk a1) (cond (iKeyOk a1) (some (e_iopOk (decide (((a2.size:Nat):Int)≤(20:Int))))) (some (e_iopOk false))) none) (cond (a0==(3:Int)) (cond (q_iKeyOk a1) (cond (iKeyOk a1) (some (e_iopOk (decide (((a2.size:Nat):Int)≤(20:Int))))) (some (e_iopOk false))) none) (cond (a0==(2:Int)) (cond (q_iKeyOk a1) (cond (iKeyOk a1) (some (e_iopOk (a2.toList==(⟨#[]⟩:ByteArray).toList))) (some (e_iopOk false))) none) (some (e_iopOk false)))))) (by kernel_rfl) ?_
 exact (cndG e_iopOk (fun _h=>(cndT (by first | rfl | decide | exact hp | (simp only [Bool.and_eq_true] at hp;simp only [hp];done) | (simp [*];done) | (simp [okL] at hp;simp [okL,MAXB];omega) | (simp_all;done) | (simp at *;omega)) (fun _h=>(cndG e_iopOk (fun _h=>rfl) (fun _h=>rfl))))) (fun _h=>(cndG e_iopOk (fun _h=>(cndT (by first | rfl | decide | exact hp | (simp only [Bool.and_eq_true] at hp;simp only [hp];done) | (simp [*];done) | (simp [okL] at hp;simp [okL,MAXB];omega) | (simp_all;done) | (simp at *;omega)) (fun _h=>(cndG e_iopOk (fun _h=>rfl) (fun _h=>rfl))))) (fun _h=>(cndG e_iopOk (fun _h=>(cndT (by first | rfl | decide | exact hp | (simp only [Bool.and_eq_true] at hp;simp only [hp];done) | (simp [*];done) | (simp [okL] at hp;simp [okL,MAXB];omega) | (simp_all;done) | (simp at *;omega)) (fun _h=>(cndG e_iopOk (fun _h=>rfl) (fun _h=>rfl))))) (fun _h=>rfl))))))
theorem c_iopOk:PContract Try.prog 113 (sumOf P_iopOk pre_iopOk g_iopOk):=pcD true G43 hlz run_iopOk
noncomputable def S44:Tab:=Tab.add S43 113 (lift (sumOf P_iopOk pre_iopOk g_iopOk))
noncomputable def QF44:FuncId→Bool:=qadd QF43 113
theorem G44:Good Try.prog tt S44 QF44:=G43.addQ c_iopOk (cbl Try.f113) (fun _=>rfl)

noncomputable abbrev u32:=((),(),(),(),(),u27)
noncomputable abbrev jA26:List AV:=.junk::.junk::.junk::jA23
noncomputable def iOpAt (l:Lq1) (i:Nat):Bool:=iopOk (l.getD i dOp).1 (l.getD i dOp).2.1 (l.getD i dOp).2.2&&(decide (i=0)||!(Op.bytesLess (l.getD i dOp).2.1.toList (l.getD (i - 1) dOp).2.1.toList||((l.getD i dOp).2.1.toList==(l.getD (i - 1) dOp).2.1.toList)))
noncomputable abbrev P_iOpsOk:List PSh:=[.t tq4]
noncomputable abbrev S_iOpsOk_0:SS:=⟨(.t false tq4::.junk::.junk::.junk::.junk::.t false tq4::.t true (.int .i64)::.t true (.int .i64)::jS26),[]⟩
noncomputable abbrev E_iOpsOk_0_0:SS:=⟨(.junk::.junk::.t true .bool::jS31),[]⟩
noncomputable abbrev E_iOpsOk_0_1:SS:=⟨(.t false tq4::jS33),[]⟩
noncomputable def st_iOpsOk_0 (x0:Lq1) (x5:Lq1) (x6:Int) (x7:Int):RT S_iOpsOk_0.den:=(.br (decide (x7<x6)) (.br (decide (0≤x7∧x7<((x5.length:Nat):Int))) (.br (q_iopOk ((x5.getD x7.toNat ((0:Int),(bE,bE))).1) (((x5.getD x7.toNat ((0:Int),(bE,bE))).2).1) (((x5.getD x7.toNat ((0:Int),(bE,bE))).2).2)) (.br (!(iopOk ((x5.getD x7.toNat ((0:Int),(bE,bE))).1) (((x5.getD x7.toNat ((0:Int),(bE,bE))).2).1) (((x5.getD x7.toNat ((0:Int),(bE,bE))).2).2))) (.done .ret E_iOpsOk_0_0 (((),(),false,u32),())) (.br (decide (x7 > (0:Int))) (.br (decide (0≤(IntKind.wrap .i64 (x7 - (1:Int)))∧(IntKind.wrap .i64 (x7 - (1:Int)))<((x0.length:Nat):Int))) (.br (Op.bytesLess (((x5.getD x7.toNat ((0:Int),(bE,bE))).2).1).toList (((x0.getD ((IntKind.wrap .i64 (x7 - (1:Int))).toNat) ((0:Int),(bE,bE))).2).1).toList||((((x5.getD x7.toNat ((0:Int),(bE,bE))).2).1).toList==(((x0.getD ((IntKind.wrap .i64 (x7 - (1:Int))).toNat) ((0:Int),(bE,bE))).2).1).toList)) (.done .ret E_iOpsOk_0_0 (((),(),false,u32),())) (.next ((x0,(),(),(),(),x5,x6,IntKind.wrap .i64 (x7+(1:Int)),u27),()))) .fail) (.next ((x0,(),(),(),(),x5,x6,IntKind.wrap .i64 (x7+(1:Int)),u27),())))) .fail) .fail) (.done (.exit 0) E_iOpsOk_0_1 ((x0,u34),())))
noncomputable def T_iOpsOk_0 (x0:Lq1) (x5:Lq1) (x6:Int) (x7:Int):CT:=(.br (decide (0≤x7)&&(decide (x6=((x5.length:Nat):Int))&&(decide (x5=x0)&&okOps x5))) (.br (allF (iOpAt x5) (x5.length - x7.toNat) x7.toNat) (.done (.exit 0) E_iOpsOk_0_1 ((x0,u34),())) (.done .ret E_iOpsOk_0_0 (((),(),false,u32),()))) .fail)
noncomputable abbrev ap_iOpsOk_0 {α:Sort _} (f:(Lq1)→(Lq1)→Int→Int→α) (d:S_iOpsOk_0.den):α:=f d.1.1 d.1.2.2.2.2.2.1 d.1.2.2.2.2.2.2.1 d.1.2.2.2.2.2.2.2.1
noncomputable abbrev sp_iOpsOk_0:S_iOpsOk_0.den→RT S_iOpsOk_0.den:=(ap_iOpsOk_0 st_iOpsOk_0)
noncomputable abbrev pk_iOpsOk_0 (x0:Lq1) (x5:Lq1) (x6:Int) (x7:Int):S_iOpsOk_0.den:=((x0,(),(),(),(),x5,x6,x7,u27),())
noncomputable def body_iOpsOk_0:Code:=((loopsIn 0 (bodyOf Try.f77)).getD 0 (0,.skip)).2
theorem R_iOpsOk_0 (x0:Lq1) (x5:Lq1) (x6:Int) (x7:Int):(T_iOpsOk_0 x0 x5 x6 x7).val (D:=S_iOpsOk_0.den)=.fail∨Runs sp_iOpsOk_0 (pk_iOpsOk_0 x0 x5 x6 x7) (T_iOpsOk_0 x0 x5 x6 x7).val:=by
 cases hc:(decide (0≤x7)&&(decide (x6=((x5.length:Nat):Int))&&(decide (x5=x0)&&okOps x5))) with
 | false=>left;simp only [T_iOpsOk_0,CT.val,hc,cond_false]
 | true =>
  right
  simp only [T_iOpsOk_0,CT.val,hc,cond_true]
  simp only [Bool.and_eq_true,decide_eq_true_eq] at hc
  obtain ⟨i,rfl⟩:=Int.eq_ofNat_of_zero_le hc.1
  obtain ⟨_,e6,e5,hc⟩:=hc
  subst e5;subst e6
  have hs:=okOps_len hc
  simp only [Int.toNat_natCast]
  refine Runs.scan (fun j=>pk_iOpsOk_0 x5 x5 ((x5.length:Nat):Int) (j:Int)) (x5.length) (iOpAt x5) (fun i hi=>?_) (fun i hi=>?_) ⟨_,_,_,rfl,by simp⟩ ⟨_,_,_,rfl,by simp⟩ _ _ rfl
  ·
   have h0a:decide ((i:Int)<((x5.length:Nat):Int))=true:=decide_eq_true (by omega)
   have h0b:decide (0≤(i:Int)∧(i:Int)<((x5.length:Nat):Int))=true:=decide_eq_true (by omega)
   simp only [sp_iOpsOk_0,st_iOpsOk_0,RT.val,h0a,h0b,cond_true,wrapS i (by omega),Int.toNat_natCast]
   have hq:q_iopOk (x5.getD i dOp).1 (x5.getD i dOp).2.1 (x5.getD i dOp).2.2=true:=(okOps_at hc i hi).1
   simp only [dOp] at hq
   simp only [hq,cond_true,iOpAt,dOp]
   cases iopOk (x5.getD i ((0:Int),((⟨#[]⟩:ByteArray),(⟨#[]⟩:ByteArray)))).1 (x5.getD i ((0:Int),((⟨#[]⟩:ByteArray),(⟨#[]⟩:ByteArray)))).2.1 (x5.getD i ((0:Int),((⟨#[]⟩:ByteArray),(⟨#[]⟩:ByteArray)))).2.2 with
   | false=>rfl
   | true =>
    cases i with
    | zero=>rfl
    | succ i =>
     have h3:decide (((i+1:Nat):Int) > 0)=true:=decide_eq_true (by omega)
     have h4:IntKind.wrap .i64 (((i+1:Nat):Int) - 1)=(i:Int):=by have:=wrap64 (n:=((i+1:Nat):Int) - 1) (by omega) (by omega);omega
     have h5:decide (0≤(i:Int)∧(i:Int)<((x5.length:Nat):Int))=true:=decide_eq_true (by omega)
     have h6:decide (i+1=0)=false:=by simp
     simp only [h3,h4,h5,h6,cond_true,Bool.true_and,Bool.false_or,Int.toNat_natCast,Nat.add_sub_cancel,Bool.not_true,cond_false]
     cases (Op.bytesLess (x5.getD (i+1) ((0:Int),((⟨#[]⟩:ByteArray),(⟨#[]⟩:ByteArray)))).2.1.toList (x5.getD i ((0:Int),((⟨#[]⟩:ByteArray),(⟨#[]⟩:ByteArray)))).2.1.toList||((x5.getD (i+1) ((0:Int),((⟨#[]⟩:ByteArray),(⟨#[]⟩:ByteArray)))).2.1.toList==(x5.getD i ((0:Int),((⟨#[]⟩:ByteArray),(⟨#[]⟩:ByteArray)))).2.1.toList))<;>rfl
  ·have h1:decide ((i:Int)<((x5.length:Nat):Int))=false:=decide_eq_false (by omega)
   simp only [sp_iOpsOk_0,st_iOpsOk_0,RT.val,h1,cond_false]
noncomputable def ox_iOpsOk_0 (x0:Lq1) (x5:Lq1) (x6:Int) (x7:Int):Option (Ex×St):=(cond (decide (x7<x6)) (cond (decide (0≤x7∧x7<((x5.length:Nat):Int))) (cond (q_iopOk ((x5.getD x7.toNat ((0:Int),(bE,bE))).1) (((x5.getD x7.toNat ((0:Int),(bE,bE))).2).1) (((x5.getD x7.toNat ((0:Int),(bE,bE))).2).2)) (cond (!(iopOk ((x5.getD x7.toNat ((0:Int),(bE,bE))).1) (((x5.getD x7.toNat ((0:Int),(bE,bE))).2).1) (((x5.getD x7.toNat ((0:Int),(bE,bE))).2).2))) (some (.ret,(⟨(.junk::.junk::(.t true .bool false)::jA31),[],0,[]⟩:St))) (cond (decide (x7 > (0:Int))) (cond (decide (0≤(IntKind.wrap .i64 (x7 - (1:Int)))∧(IntKind.wrap .i64 (x7 - (1:Int)))<((x0.length:Nat):Int))) (cond (Op.bytesLess (((x5.getD x7.toNat ((0:Int),(bE,bE))).2).1).toList (((x0.getD ((IntKind.wrap .i64 (x7 - (1:Int))).toNat) ((0:Int),(bE,bE))).2).1).toList||((((x5.getD x7.toNat ((0:Int),(bE,bE))).2).1).toList==(((x0.getD ((IntKind.wrap .i64 (x7 - (1:Int))).toNat) ((0:Int),(bE,bE))).2).1).toList)) (some (.ret,(⟨(.junk::.junk::(.t true .bool false)::jA31),[],0,[]⟩:St))) (some (.normal,(⟨((.t false tq4 x0)::.junk::.junk::.junk::.junk::(.t false tq4 x5)::(.t true (.int .i64) x6)::(.t true (.int .i64) (IntKind.wrap .i64 (x7+(1:Int))))::jA26),[],0,[]⟩:St)))) none) (some (.normal,(⟨((.t false tq4 x0)::.junk::.junk::.junk::.junk::(.t false tq4 x5)::(.t true (.int .i64) x6)::(.t true (.int .i64) (IntKind.wrap .i64 (x7+(1:Int))))::jA26),[],0,[]⟩:St))))) none) none) (some ((.exit 0),(⟨((.t false tq4 x0)::jA33),[],0,[]⟩:St))))
theorem rdA_iOpsOk_0:RdA G44 (fun _ _=>none) 0 body_iOpsOk_0 S_iOpsOk_0 0 [] (kepts [2] [(0,[0])]) (ap_iOpsOk_0 ox_iOpsOk_0):=by
 intro d
 kernel_rfl
theorem rdB_iOpsOk_0:∀ d:S_iOpsOk_0.den,(ap_iOpsOk_0 ox_iOpsOk_0) d=(sp_iOpsOk_0 d).opt 0 []:=by
 intro d
 kernel_rfl
noncomputable abbrev say_iOpsOk_0:St→Option Tree:=S_iOpsOk_0.say 0 [] [] (ap_iOpsOk_0 T_iOpsOk_0)
theorem lw_iOpsOk_0:LoopWp Try.prog say_iOpsOk_0 body_iOpsOk_0:=SS.wp2 hlz [] sp_iOpsOk_0 rdA_iOpsOk_0 rdB_iOpsOk_0 _ (fun d=>R_iOpsOk_0 d.1.1 d.1.2.2.2.2.2.1 d.1.2.2.2.2.2.2.1 d.1.2.2.2.2.2.2.2.1)
noncomputable def iOpsOk (a0:Lq1):Bool:=(cond (allF (iOpAt a0) (a0.length - (0:Int).toNat) (0:Int).toNat) (iinRange ((a0.length:Nat):Int) (1:Int) (8:Int)) false)
noncomputable abbrev e_iOpsOk (r:Bool):AV×List AObj:=((.t true .bool r),[])
noncomputable abbrev g_iOpsOk:pshsDen P_iOpsOk→AV×List AObj:=fun d=>e_iOpsOk (iOpsOk d.1)
noncomputable def q_iOpsOk (a0:Lq1):Bool:=okOps a0
noncomputable abbrev pre_iOpsOk:pshsDen P_iOpsOk→Bool:=fun d=>q_iOpsOk d.1
noncomputable abbrev L_iOpsOk:Nat→St→Option Tree:=fun b=>match b with | 0=>say_iOpsOk_0 | _=>fun _=>none
theorem run_iOpsOk:RunP true G44 (L_iOpsOk) Try.f77 P_iOpsOk pre_iOpsOk g_iOpsOk:=by
 rintro ⟨a0,_⟩ hp
 change q_iOpsOk a0=true at hp
 unfold q_iOpsOk at hp
 refine Eq.trans (b:=(cond (decide (0≤(0:Int))&&(decide (((a0.length:Nat):Int)=((a0.length:Nat):Int))&&(decide (a0=a0)&&okOps a0))) (cond (allF (iOpAt a0) (a0.length - (0:Int).toNat) (0:Int).toNat) (some (e_iOpsOk (iinRange ((a0.length:Nat):Int) (1:Int) (8:Int)))) (some (e_iOpsOk false))) none)) (by kernel_rfl) ?_
 exact (cndT (by first | rfl | decide | exact hp | (simp only [Bool.and_eq_true] at hp;simp only [hp];done) | (simp [*];done) | (simp [okL] at hp;simp [okL,MAXB];omega) | (simp_all;done) | (simp at *;omega)) (fun _h=>(cndG e_iOpsOk (fun _h=>rfl) (fun _h=>rfl))))
theorem c_iOpsOk:PContract Try.prog 77 (sumOf P_iOpsOk pre_iOpsOk g_iOpsOk):=pcD true G44 (hl1 (i:=0) (by kernel_rfl) lw_iOpsOk_0) run_iOpsOk
noncomputable def S45:Tab:=Tab.add S44 77 (lift (sumOf P_iOpsOk pre_iOpsOk g_iOpsOk))
noncomputable def QF45:FuncId→Bool:=qadd QF44 77
theorem G45:Good Try.prog tt S45 QF45:=G44.addQ c_iOpsOk (cbl Try.f77) (fun _=>rfl)

noncomputable abbrev P_iHash:List PSh:=[.t .str]
noncomputable abbrev S_iHash_0:SS:=⟨(.t true .str::.junk::.junk::.t true (.int .u32)::.t true (.int .i64)::jS16),[]⟩
noncomputable abbrev E_iHash_0_0:SS:=⟨(.junk::.junk::.junk::.t true (.int .u32)::jS17),[]⟩
noncomputable def st_iHash_0 (x0:ByteArray) (x3:Int) (x4:Int):RT S_iHash_0.den:=(.br (decide (x4<((x0.size:Nat):Int))) (.br (decide (0≤x4∧x4<((x0.size:Nat):Int))) (.next ((x0,(),(),IntKind.wrap .u32 ((ixor .u32 x3 (IntKind.wrap .u32 (bt x0 x4)))*(16777619:Int)),IntKind.wrap .i64 (x4+(1:Int)),u17),())) .fail) (.done (.exit 0) E_iHash_0_0 (((),(),(),x3,u18),())))
noncomputable abbrev V_iHash_0:=(ByteArray)×(Int)×(Int)
noncomputable abbrev A_iHash_0:=Nat×(Int)
noncomputable def fl_iHash_0:A_iHash_0:=(99,((0:Int):Int))
noncomputable def ss_iHash_0 (x0:ByteArray) (x3:Int) (x4:Int):V_iHash_0 ⊕ A_iHash_0:=(cond (decide (x4<((x0.size:Nat):Int))) (cond (decide (0≤x4∧x4<((x0.size:Nat):Int))) (.inl (x0,IntKind.wrap .u32 ((ixor .u32 x3 (IntKind.wrap .u32 (bt x0 x4)))*(16777619:Int)),IntKind.wrap .i64 (x4+(1:Int)))) (.inr fl_iHash_0)) (.inr (0,x3)))
noncomputable def it_iHash_0 (x0:ByteArray) (x3:Int) (x4:Int):A_iHash_0:=itX (fun v:V_iHash_0=>ss_iHash_0 v.1 v.2.1 v.2.2) fl_iHash_0 (x0,x3,x4)
noncomputable def ct_iHash_0 (a:A_iHash_0):CT:=(.br (a.1==0) (.done (.exit 0) E_iHash_0_0 (((),(),(),a.2,u18),())) .fail)
noncomputable def T_iHash_0 (x0:ByteArray) (x3:Int) (x4:Int):CT:=ct_iHash_0 (it_iHash_0 x0 x3 x4)
noncomputable abbrev sp_iHash_0:S_iHash_0.den→RT S_iHash_0.den:=(fun d=>st_iHash_0 d.1.1 d.1.2.2.2.1 d.1.2.2.2.2.1)
noncomputable def body_iHash_0:Code:=((loopsIn 0 (bodyOf Try.f108)).getD 0 (0,.skip)).2
noncomputable abbrev pv_iHash_0 (v:V_iHash_0):S_iHash_0.den:=((v.1,(),(),v.2.1,v.2.2,u17),())
theorem rl_iHash_0:(∀ v:V_iHash_0,(st_iHash_0 v.1 v.2.1 v.2.2).val=relS pv_iHash_0 ct_iHash_0 (ss_iHash_0 v.1 v.2.1 v.2.2))∧∀ a:A_iHash_0,CEnd S_iHash_0.den (ct_iHash_0 a):=⟨fun v=>(relB (relB rfl rfl) rfl),fun a=>(cendB (cendD (by simp)) cendF)⟩
theorem rdA_iHash_0:RdA G45 (fun _ _=>none) 0 body_iHash_0 S_iHash_0 0 [] (kepts [] [(0,[3])]) (fun d=>(sp_iHash_0 d).opt 0 []):=by
 intro d
 kernel_rfl
noncomputable abbrev say_iHash_0:St→Option Tree:=S_iHash_0.say 0 [] [] (fun d=>T_iHash_0 d.1.1 d.1.2.2.2.1 d.1.2.2.2.2.1)
theorem lw_iHash_0:LoopWp Try.prog say_iHash_0 body_iHash_0:=SS.wp2 hlz [] sp_iHash_0 rdA_iHash_0 (fun d=>rfl) _ (fun d=>Runs.ofI2 (step:=sp_iHash_0) pv_iHash_0 rl_iHash_0 rfl (d.1.1,d.1.2.2.2.1,d.1.2.2.2.2.1))
noncomputable def iHash (a0:ByteArray):Int:=(IntKind.wrap .i64 ((it_iHash_0 a0 (2166136261:Int) (0:Int)).2))
noncomputable abbrev e_iHash (r:Int):AV×List AObj:=((.t true (.int .i64) r),[])
noncomputable abbrev g_iHash:pshsDen P_iHash→AV×List AObj:=fun d=>e_iHash (iHash d.1)
noncomputable def q_iHash (a0:ByteArray):Bool:=((it_iHash_0 a0 (2166136261:Int) (0:Int)).1==0)
noncomputable abbrev pre_iHash:pshsDen P_iHash→Bool:=fun d=>q_iHash d.1
noncomputable abbrev L_iHash:Nat→St→Option Tree:=fun b=>match b with | 0=>say_iHash_0 | _=>fun _=>none
theorem run_iHash:RunP true G45 (L_iHash) Try.f108 P_iHash pre_iHash g_iHash:=by
 rintro ⟨a0,_⟩ hp
 change q_iHash a0=true at hp
 unfold q_iHash at hp
 refine Eq.trans (b:=(cond ((it_iHash_0 a0 (2166136261:Int) (0:Int)).1==0) (some (e_iHash (IntKind.wrap .i64 ((it_iHash_0 a0 (2166136261:Int) (0:Int)).2)))) none)) (by kernel_rfl) ?_
 exact (cndT hp fun _h=>rfl)
theorem c_iHash:PContract Try.prog 108 (sumOf P_iHash pre_iHash g_iHash):=pcD true G45 (hl1 (i:=0) (by kernel_rfl) lw_iHash_0) run_iHash
noncomputable def S46:Tab:=Tab.add S45 108 (lift (sumOf P_iHash pre_iHash g_iHash))
noncomputable def QF46:FuncId→Bool:=qadd QF45 108
theorem G46:Good Try.prog tt S46 QF46:=G45.addQ c_iHash (cbl Try.f108) (fun _=>rfl)

noncomputable abbrev P_iShardOf:List PSh:=[.t .str,.t (.int .i64)]
noncomputable def iShardOf (a0:ByteArray) (a1:Int):Int:=(cond (decide (a1<(1:Int))) (0:Int) (Int.tmod (iHash a0) a1))
noncomputable abbrev e_iShardOf (r:Int):AV×List AObj:=((.t true (.int .i64) r),[])
noncomputable abbrev g_iShardOf:pshsDen P_iShardOf→AV×List AObj:=fun d=>e_iShardOf (iShardOf d.1 d.2.1)
noncomputable def q_iShardOf (a0:ByteArray) (a1:Int):Bool:=cond (decide (a1<(1:Int))) true ((q_iHash a0)&&(decide (a1 ≠ 0)))
noncomputable abbrev pre_iShardOf:pshsDen P_iShardOf→Bool:=fun d=>q_iShardOf d.1 d.2.1
theorem run_iShardOf:RunP true G46 (fun _ _=>none) Try.f69 P_iShardOf pre_iShardOf g_iShardOf:=by
 rintro ⟨a0,⟨a1,_⟩⟩ hp
 change q_iShardOf a0 a1=true at hp
 unfold q_iShardOf at hp
 refine Eq.trans (b:=(cond (decide (a1<(1:Int))) (some (e_iShardOf (0:Int))) (cond (q_iHash a0) (cond (decide (a1 ≠ 0)) (some (e_iShardOf (Int.tmod (iHash a0) a1))) none) none))) (by kernel_rfl) ?_
 exact (cndE e_iShardOf hp (fun hp=>rfl) (fun hp=>(cndA hp fun hp=>(cndT hp fun _h=>rfl))))
theorem c_iShardOf:PContract Try.prog 69 (sumOf P_iShardOf pre_iShardOf g_iShardOf):=pcD true G46 hlz run_iShardOf
noncomputable def S47:Tab:=Tab.add S46 69 (lift (sumOf P_iShardOf pre_iShardOf g_iShardOf))
noncomputable def QF47:FuncId→Bool:=qadd QF46 69
theorem G47:Good Try.prog tt S47 QF47:=G46.addQ c_iShardOf (cbl Try.f69) (fun _=>rfl)

noncomputable def S48:Tab:=Tab.add S47 70 (orLend (win winIds sortSum))
noncomputable def QF48:FuncId→Bool:=QF47
theorem G48:Good Try.prog tt S48 QF48:=G47.addM c_sortInt.orLend (orLend_local (win_local _)) ⟨Try.f70,by kernel_rfl,by kernel_rfl,by kernel_rfl⟩ (by kernel_rfl)

noncomputable def S49:Tab:=Tab.add S48 72 (win winIds compactSum)
noncomputable def QF49:FuncId→Bool:=QF48
theorem G49:Good Try.prog tt S49 QF49:=G48.addM c_compactInt (win_local _) ⟨Try.f72,by kernel_rfl,by kernel_rfl,by kernel_rfl⟩ (by kernel_rfl)

noncomputable abbrev SM_slices_Clip_int:SS:=⟨[.arr 0 1],[.rows 3 true (.int .i64)]⟩
noncomputable def slices_Clip_int (x0a:Nat) (x0b:Nat) (h0:List Int):Nat×Nat×List Int:=(x0a,((x0b:Nat):Int).toNat,h0)
noncomputable abbrev e_slices_Clip_int (r:Nat×Nat×List Int):AV×List AObj×List Nat:=((.arr 0 1 r.1 r.2.1),[(.rows 3 true (.int .i64) r.2.2)],[])
noncomputable abbrev g_slices_Clip_int:SM_slices_Clip_int.den→AV×List AObj×List Nat:=fun d=>e_slices_Clip_int (slices_Clip_int d.1.1.1 d.1.1.2 d.2.1)
noncomputable def q_slices_Clip_int (x0a:Nat) (x0b:Nat) (h0:List Int):Bool:=decide (0≤((x0b:Nat):Int)∧((x0b:Nat):Int)≤((x0b:Nat):Int)∧((x0b:Nat):Int)≤((x0b:Nat):Int))
noncomputable abbrev pre_slices_Clip_int:SM_slices_Clip_int.den→Bool:=fun d=>q_slices_Clip_int d.1.1.1 d.1.1.2 d.2.1
theorem run_slices_Clip_int:RunM G49 (fun _ _=>none) Try.f71 SM_slices_Clip_int pre_slices_Clip_int g_slices_Clip_int:=by
 rintro ⟨⟨⟨x0a,x0b⟩,_⟩,⟨h0,_⟩⟩ hp
 change q_slices_Clip_int x0a x0b h0=true at hp
 unfold q_slices_Clip_int at hp
 refine Eq.trans (b:=(cond (decide (0≤((x0b:Nat):Int)∧((x0b:Nat):Int)≤((x0b:Nat):Int)∧((x0b:Nat):Int)≤((x0b:Nat):Int))) (some (e_slices_Clip_int (x0a,((x0b:Nat):Int).toNat,h0))) none)) (by kernel_rfl) ?_
 exact (cndT hp fun _h=>rfl)
noncomputable abbrev m_slices_Clip_int:=win winIds (msum SM_slices_Clip_int pre_slices_Clip_int g_slices_Clip_int)
theorem c_slices_Clip_int:MContract Try.prog 71 m_slices_Clip_int:=(mcM G49 hlz run_slices_Clip_int).win winIds
noncomputable def S50:Tab:=Tab.add S49 71 (m_slices_Clip_int)
noncomputable def QF50:FuncId→Bool:=QF49
theorem G50:Good Try.prog tt S50 QF50:=G49.addM c_slices_Clip_int (win_local _) (cbl Try.f71) (by kernel_rfl)

noncomputable abbrev u28:=((),u27)
noncomputable abbrev P_iShardsOf:List PSh:=[.t tq4,.t (.int .i64)]
noncomputable abbrev S_iShardsOf_0:SS:=⟨(.junk::.t true (.int .i64)::.junk::.junk::.junk::.all 0 1::.junk::.junk::.t false tq4::.t true (.int .i64)::.t true (.int .i64)::jS16),[.rows 3 true (.int .i64)]⟩
noncomputable abbrev E_iShardsOf_0_0:SS:=⟨(.junk::.junk::.junk::.junk::.junk::.all 0 1::jS21),[.rows 3 true (.int .i64)]⟩
noncomputable def k1_iShardsOf (x1:Int) (x8:Lq1) (x10:Int):=iShardOf (((x8.getD x10.toNat ((0:Int),(bE,bE))).2).1) x1
noncomputable def st_iShardsOf_0 (x1:Int) (x8:Lq1) (x9:Int) (x10:Int) (h0:List Int):RT S_iShardsOf_0.den:=(.br (decide (x10<x9)) (.br (decide (0≤x10∧x10<((x8.length:Nat):Int))) (.br (q_iShardOf (((x8.getD x10.toNat ((0:Int),(bE,bE))).2).1) x1) (.br (decide ((h0.length+[(k1_iShardsOf x1 x8 x10)].length)*8≤MAXB)) (.next (((),x1,(),(),(),(),(),(),x8,x9,IntKind.wrap .i64 (x10+(1:Int)),u17),(h0++[(k1_iShardsOf x1 x8 x10)],()))) .fail) .fail) .fail) (.done (.exit 0) E_iShardsOf_0_0 ((u28),(h0,()))))
noncomputable abbrev V_iShardsOf_0:=(Int)×(Lq1)×(Int)×(Int)×(List Int)
noncomputable abbrev A_iShardsOf_0:=Nat×(List Int)
noncomputable def fl_iShardsOf_0:A_iShardsOf_0:=(99,([]:List Int))
noncomputable def ss_iShardsOf_0 (x1:Int) (x8:Lq1) (x9:Int) (x10:Int) (h0:List Int):V_iShardsOf_0 ⊕ A_iShardsOf_0:=(cond (decide (x10<x9)) (cond (decide (0≤x10∧x10<((x8.length:Nat):Int))) (cond (q_iShardOf (((x8.getD x10.toNat ((0:Int),(bE,bE))).2).1) x1) (cond (decide ((h0.length+[(k1_iShardsOf x1 x8 x10)].length)*8≤MAXB)) (.inl (x1,x8,x9,IntKind.wrap .i64 (x10+(1:Int)),h0++[(k1_iShardsOf x1 x8 x10)])) (.inr fl_iShardsOf_0)) (.inr fl_iShardsOf_0)) (.inr fl_iShardsOf_0)) (.inr (0,h0)))
noncomputable def it_iShardsOf_0 (x1:Int) (x8:Lq1) (x9:Int) (x10:Int) (h0:List Int):A_iShardsOf_0:=itX (fun v:V_iShardsOf_0=>ss_iShardsOf_0 v.1 v.2.1 v.2.2.1 v.2.2.2.1 v.2.2.2.2) fl_iShardsOf_0 (x1,x8,x9,x10,h0)
noncomputable def ct_iShardsOf_0 (a:A_iShardsOf_0):CT:=(.br (a.1==0) (.done (.exit 0) E_iShardsOf_0_0 ((u28),(a.2,()))) .fail)
noncomputable def T_iShardsOf_0 (x1:Int) (x8:Lq1) (x9:Int) (x10:Int) (h0:List Int):CT:=ct_iShardsOf_0 (it_iShardsOf_0 x1 x8 x9 x10 h0)
noncomputable abbrev ap_iShardsOf_0 {α:Sort _} (f:Int→(Lq1)→Int→Int→(List Int)→α) (d:S_iShardsOf_0.den):α:=f d.1.2.1 d.1.2.2.2.2.2.2.2.2.1 d.1.2.2.2.2.2.2.2.2.2.1 d.1.2.2.2.2.2.2.2.2.2.2.1 d.2.1
noncomputable abbrev sp_iShardsOf_0:S_iShardsOf_0.den→RT S_iShardsOf_0.den:=(ap_iShardsOf_0 st_iShardsOf_0)
noncomputable def body_iShardsOf_0:Code:=((loopsIn 0 (bodyOf Try.f29)).getD 0 (0,.skip)).2
noncomputable abbrev pv_iShardsOf_0 (v:V_iShardsOf_0):S_iShardsOf_0.den:=(((),v.1,(),(),(),(),(),(),v.2.1,v.2.2.1,v.2.2.2.1,u17),(v.2.2.2.2,()))
theorem rl_iShardsOf_0:(∀ v:V_iShardsOf_0,(st_iShardsOf_0 v.1 v.2.1 v.2.2.1 v.2.2.2.1 v.2.2.2.2).val=relS pv_iShardsOf_0 ct_iShardsOf_0 (ss_iShardsOf_0 v.1 v.2.1 v.2.2.1 v.2.2.2.1 v.2.2.2.2))∧∀ a:A_iShardsOf_0,CEnd S_iShardsOf_0.den (ct_iShardsOf_0 a):=⟨fun v=>(relB (relB (relB (relB rfl rfl) rfl) rfl) rfl),fun a=>(cendB (cendD (by simp)) cendF)⟩
theorem rdA_iShardsOf_0:RdA G50 (fun _ _=>none) 0 body_iShardsOf_0 S_iShardsOf_0 0 [] (kepts [] [(0,[5])]) (fun d=>(sp_iShardsOf_0 d).opt 0 []):=by
 intro d
 kernel_rfl
noncomputable abbrev say_iShardsOf_0:St→Option Tree:=S_iShardsOf_0.say 0 [] [(5,3,(.int .i64))] (ap_iShardsOf_0 T_iShardsOf_0)
theorem lw_iShardsOf_0:LoopWp Try.prog say_iShardsOf_0 body_iShardsOf_0:=SS.wp2 hlz [(5,3,(.int .i64))] sp_iShardsOf_0 rdA_iShardsOf_0 (fun d=>rfl) _ (fun d=>Runs.ofI2 (step:=sp_iShardsOf_0) pv_iShardsOf_0 rl_iShardsOf_0 rfl (d.1.2.1,d.1.2.2.2.2.2.2.2.2.1,d.1.2.2.2.2.2.2.2.2.2.1,d.1.2.2.2.2.2.2.2.2.2.2.1,d.2.1))
noncomputable def k2_iShardsOf (a0:Lq1) (a1:Int):=compactP (sortL ((it_iShardsOf_0 a1 a0 ((a0.length:Nat):Int) (0:Int) ([]:List Int)).2))
noncomputable def iShardsOf (a0:Lq1) (a1:Int):List Int:=((((slices_Clip_int 0 ((k2_iShardsOf a0 a1).1) ((k2_iShardsOf a0 a1).2)).2.2).drop ((slices_Clip_int 0 ((k2_iShardsOf a0 a1).1) ((k2_iShardsOf a0 a1).2)).1)).take ((slices_Clip_int 0 ((k2_iShardsOf a0 a1).1) ((k2_iShardsOf a0 a1).2)).2.1))
noncomputable abbrev e_iShardsOf (r:List Int):AV×List AObj:=((.t true t_si r),[])
noncomputable abbrev g_iShardsOf:pshsDen P_iShardsOf→AV×List AObj:=fun d=>e_iShardsOf (iShardsOf d.1 d.2.1)
noncomputable def q_iShardsOf (a0:Lq1) (a1:Int):Bool:=((it_iShardsOf_0 a1 a0 ((a0.length:Nat):Int) (0:Int) ([]:List Int)).1==0)&&((q_sortL ((it_iShardsOf_0 a1 a0 ((a0.length:Nat):Int) (0:Int) ([]:List Int)).2))&&((q_sortL (sortL ((it_iShardsOf_0 a1 a0 ((a0.length:Nat):Int) (0:Int) ([]:List Int)).2)))&&(q_slices_Clip_int 0 ((k2_iShardsOf a0 a1).1) ((k2_iShardsOf a0 a1).2))))
noncomputable abbrev pre_iShardsOf:pshsDen P_iShardsOf→Bool:=fun d=>q_iShardsOf d.1 d.2.1
noncomputable abbrev L_iShardsOf:Nat→St→Option Tree:=fun b=>match b with | 0=>say_iShardsOf_0 | _=>fun _=>none
theorem run_iShardsOf:RunP true G50 (L_iShardsOf) Try.f29 P_iShardsOf pre_iShardsOf g_iShardsOf:=by
 rintro ⟨a0,⟨a1,_⟩⟩ hp
 change q_iShardsOf a0 a1=true at hp
 unfold q_iShardsOf at hp
 refine Eq.trans (b:=(cond ((it_iShardsOf_0 a1 a0 ((a0.length:Nat):Int) (0:Int) ([]:List Int)).1==0) (cond (q_sortL ((it_iShardsOf_0 a1 a0 ((a0.length:Nat):Int) (0:Int) ([]:List Int)).2)) (cond (q_sortL (sortL ((it_iShardsOf_0 a1 a0 ((a0.length:Nat):Int) (0:Int) ([]:List Int)).2))) (cond (q_slices_Clip_int 0 ((k2_iShardsOf a0 a1).1) ((k2_iShardsOf a0 a1).2)) (some (e_iShardsOf ((((slices_Clip_int 0 ((k2_iShardsOf a0 a1).1) ((k2_iShardsOf a0 a1).2)).2.2).drop ((slices_Clip_int 0 ((k2_iShardsOf a0 a1).1) ((k2_iShardsOf a0 a1).2)).1)).take ((slices_Clip_int 0 ((k2_iShardsOf a0 a1).1) ((k2_iShardsOf a0 a1).2)).2.1)))) none) none) none) none)) (by kernel_rfl) ?_
 exact (cndA hp fun hp=>(cndA hp fun hp=>(cndA hp fun hp=>(cndT hp fun _h=>rfl))))
theorem c_iShardsOf:PContract Try.prog 29 (sumOf P_iShardsOf pre_iShardsOf g_iShardsOf):=pcD true G50 (hl1 (i:=0) (by kernel_rfl) lw_iShardsOf_0) run_iShardsOf
noncomputable def S51:Tab:=Tab.add S50 29 (lift (sumOf P_iShardsOf pre_iShardsOf g_iShardsOf))
noncomputable def QF51:FuncId→Bool:=qadd QF50 29
theorem G51:Good Try.prog tt S51 QF51:=G50.addQ c_iShardsOf (cbl Try.f29) (fun _=>rfl)

noncomputable abbrev P_slices_Index_int:List PSh:=[.t t_si,.t (.int .i64)]
noncomputable abbrev S_slices_Index_int_0:SS:=⟨(.t false t_si::.t true (.int .i64)::.junk::.junk::.junk::.junk::.junk::.t true (.int .i64)::.t true (.int .i64)::jS10),[]⟩
noncomputable abbrev E_slices_Index_int_0_0:SS:=⟨(.junk::.junk::.junk::.junk::.t true (.int .i64)::jS14),[]⟩
noncomputable abbrev E_slices_Index_int_0_1:SS:=⟨(.junk::jS18),[]⟩
noncomputable def st_slices_Index_int_0 (x0:List Int) (x1:Int) (x7:Int) (x8:Int):RT S_slices_Index_int_0.den:=(.br (decide (x8<x7)) (.br (decide (0≤x8∧x8<((x0.length:Nat):Int))) (.br (x1==(x0.getD x8.toNat (0:Int))) (.done .ret E_slices_Index_int_0_0 (((),(),(),(),x8,u15),())) (.next ((x0,x1,(),(),(),(),(),x7,IntKind.wrap .i64 (x8+(1:Int)),u11),()))) .fail) (.done (.exit 0) E_slices_Index_int_0_1 ((u20),())))
noncomputable abbrev V_slices_Index_int_0:=(List Int)×(Int)×(Int)×(Int)
noncomputable abbrev A_slices_Index_int_0:=Nat×(Int)
noncomputable def fl_slices_Index_int_0:A_slices_Index_int_0:=(99,((0:Int):Int))
noncomputable def ss_slices_Index_int_0 (x0:List Int) (x1:Int) (x7:Int) (x8:Int):V_slices_Index_int_0 ⊕ A_slices_Index_int_0:=(cond (decide (x8<x7)) (cond (decide (0≤x8∧x8<((x0.length:Nat):Int))) (cond (x1==(x0.getD x8.toNat (0:Int))) (.inr (0,x8)) (.inl (x0,x1,x7,IntKind.wrap .i64 (x8+(1:Int))))) (.inr fl_slices_Index_int_0)) (.inr (1,((0:Int):Int))))
noncomputable def it_slices_Index_int_0 (x0:List Int) (x1:Int) (x7:Int) (x8:Int):A_slices_Index_int_0:=itX (fun v:V_slices_Index_int_0=>ss_slices_Index_int_0 v.1 v.2.1 v.2.2.1 v.2.2.2) fl_slices_Index_int_0 (x0,x1,x7,x8)
noncomputable def ct_slices_Index_int_0 (a:A_slices_Index_int_0):CT:=(.br (a.1==0) (.done .ret E_slices_Index_int_0_0 (((),(),(),(),a.2,u15),())) (.br (a.1==1) (.done (.exit 0) E_slices_Index_int_0_1 ((u20),())) .fail))
noncomputable def T_slices_Index_int_0 (x0:List Int) (x1:Int) (x7:Int) (x8:Int):CT:=ct_slices_Index_int_0 (it_slices_Index_int_0 x0 x1 x7 x8)
noncomputable abbrev ap_slices_Index_int_0 {α:Sort _} (f:(List Int)→Int→Int→Int→α) (d:S_slices_Index_int_0.den):α:=f d.1.1 d.1.2.1 d.1.2.2.2.2.2.2.2.1 d.1.2.2.2.2.2.2.2.2.1
noncomputable abbrev sp_slices_Index_int_0:S_slices_Index_int_0.den→RT S_slices_Index_int_0.den:=(ap_slices_Index_int_0 st_slices_Index_int_0)
noncomputable def body_slices_Index_int_0:Code:=((loopsIn 0 (bodyOf Try.f124)).getD 0 (0,.skip)).2
noncomputable abbrev pv_slices_Index_int_0 (v:V_slices_Index_int_0):S_slices_Index_int_0.den:=((v.1,v.2.1,(),(),(),(),(),v.2.2.1,v.2.2.2,u11),())
theorem rl_slices_Index_int_0:(∀ v:V_slices_Index_int_0,(st_slices_Index_int_0 v.1 v.2.1 v.2.2.1 v.2.2.2).val=relS pv_slices_Index_int_0 ct_slices_Index_int_0 (ss_slices_Index_int_0 v.1 v.2.1 v.2.2.1 v.2.2.2))∧∀ a:A_slices_Index_int_0,CEnd S_slices_Index_int_0.den (ct_slices_Index_int_0 a):=⟨fun v=>(relB (relB (relB rfl rfl) rfl) rfl),fun a=>(cendB (cendD (by simp)) (cendB (cendD (by simp)) cendF))⟩
theorem rdA_slices_Index_int_0:RdA G51 (fun _ _=>none) 0 body_slices_Index_int_0 S_slices_Index_int_0 0 [] (kepts [4] [(0,[])]) (fun d=>(sp_slices_Index_int_0 d).opt 0 []):=by
 intro d
 kernel_rfl
noncomputable abbrev say_slices_Index_int_0:St→Option Tree:=S_slices_Index_int_0.say 0 [] [] (ap_slices_Index_int_0 T_slices_Index_int_0)
theorem lw_slices_Index_int_0:LoopWp Try.prog say_slices_Index_int_0 body_slices_Index_int_0:=SS.wp2 hlz [] sp_slices_Index_int_0 rdA_slices_Index_int_0 (fun d=>rfl) _ (fun d=>Runs.ofI2 (step:=sp_slices_Index_int_0) pv_slices_Index_int_0 rl_slices_Index_int_0 rfl (d.1.1,d.1.2.1,d.1.2.2.2.2.2.2.2.1,d.1.2.2.2.2.2.2.2.2.1))
noncomputable def slices_Index_int (a0:List Int) (a1:Int):Int:=(cond ((it_slices_Index_int_0 a0 a1 ((a0.length:Nat):Int) (0:Int)).1==0) ((it_slices_Index_int_0 a0 a1 ((a0.length:Nat):Int) (0:Int)).2) (-1:Int))
noncomputable abbrev e_slices_Index_int (r:Int):AV×List AObj:=((.t true (.int .i64) r),[])
noncomputable abbrev g_slices_Index_int:pshsDen P_slices_Index_int→AV×List AObj:=fun d=>e_slices_Index_int (slices_Index_int d.1 d.2.1)
noncomputable def q_slices_Index_int (a0:List Int) (a1:Int):Bool:=cond ((it_slices_Index_int_0 a0 a1 ((a0.length:Nat):Int) (0:Int)).1==0) true ((it_slices_Index_int_0 a0 a1 ((a0.length:Nat):Int) (0:Int)).1==1)
noncomputable abbrev pre_slices_Index_int:pshsDen P_slices_Index_int→Bool:=fun d=>q_slices_Index_int d.1 d.2.1
noncomputable abbrev L_slices_Index_int:Nat→St→Option Tree:=fun b=>match b with | 0=>say_slices_Index_int_0 | _=>fun _=>none
theorem run_slices_Index_int:RunP true G51 (L_slices_Index_int) Try.f124 P_slices_Index_int pre_slices_Index_int g_slices_Index_int:=by
 rintro ⟨a0,⟨a1,_⟩⟩ hp
 change q_slices_Index_int a0 a1=true at hp
 unfold q_slices_Index_int at hp
 refine Eq.trans (b:=(cond ((it_slices_Index_int_0 a0 a1 ((a0.length:Nat):Int) (0:Int)).1==0) (some (e_slices_Index_int ((it_slices_Index_int_0 a0 a1 ((a0.length:Nat):Int) (0:Int)).2))) (cond ((it_slices_Index_int_0 a0 a1 ((a0.length:Nat):Int) (0:Int)).1==1) (some (e_slices_Index_int (-1:Int))) none))) (by kernel_rfl) ?_
 exact (cndE e_slices_Index_int hp (fun hp=>rfl) (fun hp=>(cndT hp fun _h=>rfl)))
theorem c_slices_Index_int:PContract Try.prog 124 (sumOf P_slices_Index_int pre_slices_Index_int g_slices_Index_int):=pcD true G51 (hl1 (i:=0) (by kernel_rfl) lw_slices_Index_int_0) run_slices_Index_int
noncomputable def S52:Tab:=Tab.add S51 124 (lift (sumOf P_slices_Index_int pre_slices_Index_int g_slices_Index_int))
noncomputable def QF52:FuncId→Bool:=qadd QF51 124
theorem G52:Good Try.prog tt S52 QF52:=G51.addQ c_slices_Index_int (cbl Try.f124) (fun _=>rfl)

noncomputable abbrev P_slices_Contains_int:List PSh:=[.t t_si,.t (.int .i64)]
noncomputable def slices_Contains_int (a0:List Int) (a1:Int):Bool:=(decide ((slices_Index_int a0 a1) ≥ (0:Int)))
noncomputable abbrev e_slices_Contains_int (r:Bool):AV×List AObj:=((.t true .bool r),[])
noncomputable abbrev g_slices_Contains_int:pshsDen P_slices_Contains_int→AV×List AObj:=fun d=>e_slices_Contains_int (slices_Contains_int d.1 d.2.1)
noncomputable def q_slices_Contains_int (a0:List Int) (a1:Int):Bool:=q_slices_Index_int a0 a1
noncomputable abbrev pre_slices_Contains_int:pshsDen P_slices_Contains_int→Bool:=fun d=>q_slices_Contains_int d.1 d.2.1
theorem run_slices_Contains_int:RunP true G52 (fun _ _=>none) Try.f93 P_slices_Contains_int pre_slices_Contains_int g_slices_Contains_int:=by
 rintro ⟨a0,⟨a1,_⟩⟩ hp
 change q_slices_Contains_int a0 a1=true at hp
 unfold q_slices_Contains_int at hp
 refine Eq.trans (b:=(cond (q_slices_Index_int a0 a1) (some (e_slices_Contains_int (decide ((slices_Index_int a0 a1) ≥ (0:Int))))) none)) (by kernel_rfl) ?_
 exact (cndT hp fun _h=>rfl)
theorem c_slices_Contains_int:PContract Try.prog 93 (sumOf P_slices_Contains_int pre_slices_Contains_int g_slices_Contains_int):=pcD true G52 hlz run_slices_Contains_int
noncomputable def S53:Tab:=Tab.add S52 93 (lift (sumOf P_slices_Contains_int pre_slices_Contains_int g_slices_Contains_int))
noncomputable def QF53:FuncId→Bool:=qadd QF52 93
theorem G53:Good Try.prog tt S53 QF53:=G52.addQ c_slices_Contains_int (cbl Try.f93) (fun _=>rfl)

noncomputable abbrev jS62:List Sh:=.junk::.junk::.junk::.junk::.junk::.junk::.junk::.junk::.junk::.junk::.junk::.junk::.junk::.junk::.junk::.junk::.junk::.junk::.junk::.junk::.junk::.junk::.junk::jS39
noncomputable abbrev jS95:List Sh:=.junk::.junk::.junk::.junk::.junk::.junk::.junk::.junk::.junk::.junk::.junk::.junk::.junk::.junk::.junk::jS80
noncomputable abbrev jS96:List Sh:=.junk::jS95
noncomputable abbrev u96:=((),(),(),(),(),(),(),(),(),(),(),(),(),(),u82)
noncomputable abbrev u63:=((),(),(),(),(),(),(),(),(),(),(),(),(),(),(),(),(),(),(),(),u43)
noncomputable abbrev u101:=((),(),(),(),(),u96)
noncomputable abbrev jA95:List AV:=.junk::.junk::.junk::.junk::.junk::.junk::.junk::.junk::.junk::.junk::.junk::.junk::.junk::.junk::.junk::jA80
noncomputable abbrev jA62:List AV:=.junk::.junk::.junk::.junk::.junk::.junk::.junk::.junk::.junk::.junk::.junk::.junk::.junk::.junk::.junk::.junk::.junk::.junk::.junk::.junk::.junk::.junk::.junk::jA39
noncomputable abbrev jA96:List AV:=.junk::jA95
noncomputable abbrev SM_iCoord_jobOk:SS:=⟨[.ptr 0 0 1 0,.agg [.t true (.int .i64),.t false tq4,.t true (.int .i64),.t false t_si]],[.box [.t true (.int .i64),.t true (.int .i64),.t true (.int .i64),.t false tq2,.t false tq3,.t true (.int .i64)]]⟩
noncomputable abbrev S_iCoord_jobOk_0:SS:=⟨(.ptr 0 0 1 0::.junk::.junk::.ptr 1 0 1 0::.junk::.t true t_si::.junk::.junk::.junk::.junk::.junk::.junk::.junk::.junk::.junk::.junk::.junk::.junk::.junk::.junk::.junk::.junk::.junk::.junk::.junk::.junk::.junk::.junk::.junk::.junk::.junk::.junk::.junk::.junk::.junk::.t false t_si::.t true (.int .i64)::.t true (.int .i64)::jS62),[.box [.t true (.int .i64),.t true (.int .i64),.t true (.int .i64),.t false tq2,.t false tq3,.t true (.int .i64)],.box [.t true (.int .i64),.t false tq4,.t true (.int .i64),.t false t_si]]⟩
noncomputable abbrev E_iCoord_jobOk_0_0:SS:=⟨(.junk::.junk::.junk::.junk::.t true .bool::jS95),[.box [.t true (.int .i64),.t true (.int .i64),.t true (.int .i64),.t false tq2,.t false tq3,.t true (.int .i64)]]⟩
noncomputable abbrev E_iCoord_jobOk_0_1:SS:=⟨(.ptr 0 0 1 0::.junk::.junk::.ptr 1 0 1 0::jS96),[.box [.t true (.int .i64),.t true (.int .i64),.t true (.int .i64),.t false tq2,.t false tq3,.t true (.int .i64)],.box [.t true (.int .i64),.t false tq4,.t true (.int .i64),.t false t_si]]⟩
noncomputable def st_iCoord_jobOk_0 (x5:List Int) (x35:List Int) (x36:Int) (x37:Int) (p0:Int) (p1:Int) (p2:Int) (p3:List (Int×(Lq1)×Int×List Int)) (p4:LIbe) (p5:Int) (q0:Int) (q1:Lq1) (q2:Int) (q3:List Int):RT S_iCoord_jobOk_0.den:=(.br (decide (x37<x36)) (.br (decide (0≤x37∧x37<((x35.length:Nat):Int))) (.br (q_slices_Contains_int x5 (x35.getD x37.toNat (0:Int))) (.br (!(slices_Contains_int x5 (x35.getD x37.toNat (0:Int)))) (.done .ret E_iCoord_jobOk_0_0 (((),(),(),(),false,u96),((p0,p1,p2,p3,p4,p5,()),()))) (.br (decide (x37 > (0:Int))) (.br (decide (0≤(IntKind.wrap .i64 (x37 - (1:Int)))∧(IntKind.wrap .i64 (x37 - (1:Int)))<((q3.length:Nat):Int))) (.br (decide ((x35.getD x37.toNat (0:Int))≤(q3.getD ((IntKind.wrap .i64 (x37 - (1:Int))).toNat) (0:Int)))) (.done .ret E_iCoord_jobOk_0_0 (((),(),(),(),false,u96),((p0,p1,p2,p3,p4,p5,()),()))) (.next (((),(),(),(),(),x5,(),(),(),(),(),(),(),(),(),(),(),(),(),(),(),(),(),(),(),(),(),(),(),(),(),(),(),(),(),x35,x36,IntKind.wrap .i64 (x37+(1:Int)),u63),((p0,p1,p2,p3,p4,p5,()),(q0,q1,q2,q3,()),())))) .fail) (.next (((),(),(),(),(),x5,(),(),(),(),(),(),(),(),(),(),(),(),(),(),(),(),(),(),(),(),(),(),(),(),(),(),(),(),(),x35,x36,IntKind.wrap .i64 (x37+(1:Int)),u63),((p0,p1,p2,p3,p4,p5,()),(q0,q1,q2,q3,()),()))))) .fail) .fail) (.done (.exit 0) E_iCoord_jobOk_0_1 ((u101),((p0,p1,p2,p3,p4,p5,()),(q0,q1,q2,q3,()),()))))
noncomputable abbrev V_iCoord_jobOk_0:=(List Int)×(List Int)×(Int)×(Int)
noncomputable abbrev A_iCoord_jobOk_0:=Nat×(Bool)
noncomputable def fl_iCoord_jobOk_0:A_iCoord_jobOk_0:=(99,(false:Bool))
noncomputable def ss_iCoord_jobOk_0 (x5:List Int) (x35:List Int) (x36:Int) (x37:Int) (p0:Int) (p1:Int) (p2:Int) (p3:List (Int×(Lq1)×Int×List Int)) (p4:LIbe) (p5:Int) (q0:Int) (q1:Lq1) (q2:Int) (q3:List Int):V_iCoord_jobOk_0 ⊕ A_iCoord_jobOk_0:=(cond (decide (x37<x36)) (cond (decide (0≤x37∧x37<((x35.length:Nat):Int))) (cond (q_slices_Contains_int x5 (x35.getD x37.toNat (0:Int))) (cond (!(slices_Contains_int x5 (x35.getD x37.toNat (0:Int)))) (.inr (0,false)) (cond (decide (x37 > (0:Int))) (cond (decide (0≤(IntKind.wrap .i64 (x37 - (1:Int)))∧(IntKind.wrap .i64 (x37 - (1:Int)))<((q3.length:Nat):Int))) (cond (decide ((x35.getD x37.toNat (0:Int))≤(q3.getD ((IntKind.wrap .i64 (x37 - (1:Int))).toNat) (0:Int)))) (.inr (0,false)) (.inl (x5,x35,x36,IntKind.wrap .i64 (x37+(1:Int))))) (.inr fl_iCoord_jobOk_0)) (.inl (x5,x35,x36,IntKind.wrap .i64 (x37+(1:Int)))))) (.inr fl_iCoord_jobOk_0)) (.inr fl_iCoord_jobOk_0)) (.inr (1,(false:Bool))))
noncomputable def it_iCoord_jobOk_0 (x5:List Int) (x35:List Int) (x36:Int) (x37:Int) (p0:Int) (p1:Int) (p2:Int) (p3:List (Int×(Lq1)×Int×List Int)) (p4:LIbe) (p5:Int) (q0:Int) (q1:Lq1) (q2:Int) (q3:List Int):A_iCoord_jobOk_0:=itX (fun v:V_iCoord_jobOk_0=>ss_iCoord_jobOk_0 v.1 v.2.1 v.2.2.1 v.2.2.2 p0 p1 p2 p3 p4 p5 q0 q1 q2 q3) fl_iCoord_jobOk_0 (x5,x35,x36,x37)
noncomputable def ct_iCoord_jobOk_0 (p0:Int) (p1:Int) (p2:Int) (p3:List (Int×(Lq1)×Int×List Int)) (p4:LIbe) (p5:Int) (q0:Int) (q1:Lq1) (q2:Int) (q3:List Int) (a:A_iCoord_jobOk_0):CT:=(.br (a.1==0) (.done .ret E_iCoord_jobOk_0_0 (((),(),(),(),a.2,u96),((p0,p1,p2,p3,p4,p5,()),()))) (.br (a.1==1) (.done (.exit 0) E_iCoord_jobOk_0_1 ((u101),((p0,p1,p2,p3,p4,p5,()),(q0,q1,q2,q3,()),()))) .fail))
noncomputable def T_iCoord_jobOk_0 (x5:List Int) (x35:List Int) (x36:Int) (x37:Int) (p0:Int) (p1:Int) (p2:Int) (p3:List (Int×(Lq1)×Int×List Int)) (p4:LIbe) (p5:Int) (q0:Int) (q1:Lq1) (q2:Int) (q3:List Int):CT:=(ct_iCoord_jobOk_0 p0 p1 p2 p3 p4 p5 q0 q1 q2 q3) (it_iCoord_jobOk_0 x5 x35 x36 x37 p0 p1 p2 p3 p4 p5 q0 q1 q2 q3)
noncomputable abbrev ap_iCoord_jobOk_0 {α:Sort _} (f:(List Int)→(List Int)→Int→Int→Int→Int→Int→(List (Int×(Lq1)×Int×List Int))→(LIbe)→Int→Int→(Lq1)→Int→(List Int)→α) (d:S_iCoord_jobOk_0.den):α:=f d.1.2.2.2.2.2.1 d.1.2.2.2.2.2.2.2.2.2.2.2.2.2.2.2.2.2.2.2.2.2.2.2.2.2.2.2.2.2.2.2.2.2.2.2.1 d.1.2.2.2.2.2.2.2.2.2.2.2.2.2.2.2.2.2.2.2.2.2.2.2.2.2.2.2.2.2.2.2.2.2.2.2.2.1 d.1.2.2.2.2.2.2.2.2.2.2.2.2.2.2.2.2.2.2.2.2.2.2.2.2.2.2.2.2.2.2.2.2.2.2.2.2.2.1 d.2.1.1 d.2.1.2.1 d.2.1.2.2.1 d.2.1.2.2.2.1 d.2.1.2.2.2.2.1 d.2.1.2.2.2.2.2.1 d.2.2.1.1 d.2.2.1.2.1 d.2.2.1.2.2.1 d.2.2.1.2.2.2.1
noncomputable abbrev sp_iCoord_jobOk_0:S_iCoord_jobOk_0.den→RT S_iCoord_jobOk_0.den:=(ap_iCoord_jobOk_0 st_iCoord_jobOk_0)
noncomputable def body_iCoord_jobOk_0:Code:=((loopsIn 0 (bodyOf Try.f50)).getD 0 (0,.skip)).2
noncomputable abbrev pv_iCoord_jobOk_0 (p0:Int) (p1:Int) (p2:Int) (p3:List (Int×(Lq1)×Int×List Int)) (p4:LIbe) (p5:Int) (q0:Int) (q1:Lq1) (q2:Int) (q3:List Int) (v:V_iCoord_jobOk_0):S_iCoord_jobOk_0.den:=(((),(),(),(),(),v.1,(),(),(),(),(),(),(),(),(),(),(),(),(),(),(),(),(),(),(),(),(),(),(),(),(),(),(),(),(),v.2.1,v.2.2.1,v.2.2.2,u63),((p0,p1,p2,p3,p4,p5,()),(q0,q1,q2,q3,()),()))
theorem rl_iCoord_jobOk_0 (p0:Int) (p1:Int) (p2:Int) (p3:List (Int×(Lq1)×Int×List Int)) (p4:LIbe) (p5:Int) (q0:Int) (q1:Lq1) (q2:Int) (q3:List Int):(∀ v:V_iCoord_jobOk_0,(st_iCoord_jobOk_0 v.1 v.2.1 v.2.2.1 v.2.2.2 p0 p1 p2 p3 p4 p5 q0 q1 q2 q3).val=relS (pv_iCoord_jobOk_0 p0 p1 p2 p3 p4 p5 q0 q1 q2 q3) (ct_iCoord_jobOk_0 p0 p1 p2 p3 p4 p5 q0 q1 q2 q3) (ss_iCoord_jobOk_0 v.1 v.2.1 v.2.2.1 v.2.2.2 p0 p1 p2 p3 p4 p5 q0 q1 q2 q3))∧∀ a:A_iCoord_jobOk_0,CEnd S_iCoord_jobOk_0.den ((ct_iCoord_jobOk_0 p0 p1 p2 p3 p4 p5 q0 q1 q2 q3) a):=⟨fun v=>by repeat' first | apply relB | rfl,fun a=>(cendB (cendD (by simp)) (cendB (cendD (by simp)) cendF))⟩
noncomputable def ox_iCoord_jobOk_0 (x5:List Int) (x35:List Int) (x36:Int) (x37:Int) (p0:Int) (p1:Int) (p2:Int) (p3:List (Int×(Lq1)×Int×List Int)) (p4:LIbe) (p5:Int) (q0:Int) (q1:Lq1) (q2:Int) (q3:List Int):Option (Ex×St):=(cond (decide (x37<x36)) (cond (decide (0≤x37∧x37<((x35.length:Nat):Int))) (cond (q_slices_Contains_int x5 (x35.getD x37.toNat (0:Int))) (cond (!(slices_Contains_int x5 (x35.getD x37.toNat (0:Int)))) (some (.ret,(⟨(.junk::.junk::.junk::.junk::(.t true .bool false)::jA95),[(.box [(.t true (.int .i64) p0),(.t true (.int .i64) p1),(.t true (.int .i64) p2),(.t false tq2 p3),(.t false tq3 p4),(.t true (.int .i64) p5)])],1,[]⟩:St))) (cond (decide (x37 > (0:Int))) (cond (decide (0≤(IntKind.wrap .i64 (x37 - (1:Int)))∧(IntKind.wrap .i64 (x37 - (1:Int)))<((q3.length:Nat):Int))) (cond (decide ((x35.getD x37.toNat (0:Int))≤(q3.getD ((IntKind.wrap .i64 (x37 - (1:Int))).toNat) (0:Int)))) (some (.ret,(⟨(.junk::.junk::.junk::.junk::(.t true .bool false)::jA95),[(.box [(.t true (.int .i64) p0),(.t true (.int .i64) p1),(.t true (.int .i64) p2),(.t false tq2 p3),(.t false tq3 p4),(.t true (.int .i64) p5)])],1,[]⟩:St))) (some (.normal,(⟨((.ptr 0 0 1 0)::.junk::.junk::(.ptr 1 0 1 0)::.junk::(.t true t_si x5)::.junk::.junk::.junk::.junk::.junk::.junk::.junk::.junk::.junk::.junk::.junk::.junk::.junk::.junk::.junk::.junk::.junk::.junk::.junk::.junk::.junk::.junk::.junk::.junk::.junk::.junk::.junk::.junk::.junk::(.t false t_si x35)::(.t true (.int .i64) x36)::(.t true (.int .i64) (IntKind.wrap .i64 (x37+(1:Int))))::jA62),[(.box [(.t true (.int .i64) p0),(.t true (.int .i64) p1),(.t true (.int .i64) p2),(.t false tq2 p3),(.t false tq3 p4),(.t true (.int .i64) p5)]),(.box [(.t true (.int .i64) q0),(.t false tq4 q1),(.t true (.int .i64) q2),(.t false t_si q3)])],1,[]⟩:St)))) none) (some (.normal,(⟨((.ptr 0 0 1 0)::.junk::.junk::(.ptr 1 0 1 0)::.junk::(.t true t_si x5)::.junk::.junk::.junk::.junk::.junk::.junk::.junk::.junk::.junk::.junk::.junk::.junk::.junk::.junk::.junk::.junk::.junk::.junk::.junk::.junk::.junk::.junk::.junk::.junk::.junk::.junk::.junk::.junk::.junk::(.t false t_si x35)::(.t true (.int .i64) x36)::(.t true (.int .i64) (IntKind.wrap .i64 (x37+(1:Int))))::jA62),[(.box [(.t true (.int .i64) p0),(.t true (.int .i64) p1),(.t true (.int .i64) p2),(.t false tq2 p3),(.t false tq3 p4),(.t true (.int .i64) p5)]),(.box [(.t true (.int .i64) q0),(.t false tq4 q1),(.t true (.int .i64) q2),(.t false t_si q3)])],1,[]⟩:St))))) none) none) (some ((.exit 0),(⟨((.ptr 0 0 1 0)::.junk::.junk::(.ptr 1 0 1 0)::jA96),[(.box [(.t true (.int .i64) p0),(.t true (.int .i64) p1),(.t true (.int .i64) p2),(.t false tq2 p3),(.t false tq3 p4),(.t true (.int .i64) p5)]),(.box [(.t true (.int .i64) q0),(.t false tq4 q1),(.t true (.int .i64) q2),(.t false t_si q3)])],1,[]⟩:St))))
theorem rdA_iCoord_jobOk_0:RdA G53 (fun _ _=>none) 0 body_iCoord_jobOk_0 S_iCoord_jobOk_0 1 [] (kepts [4] [(0,[0,3])]) (ap_iCoord_jobOk_0 ox_iCoord_jobOk_0):=by
 intro d
 kernel_rfl
theorem rdB_iCoord_jobOk_0:∀ d:S_iCoord_jobOk_0.den,(ap_iCoord_jobOk_0 ox_iCoord_jobOk_0) d=(sp_iCoord_jobOk_0 d).opt 1 []:=by
 intro d
 kernel_rfl
noncomputable abbrev say_iCoord_jobOk_0:St→Option Tree:=S_iCoord_jobOk_0.say 1 [] [] (ap_iCoord_jobOk_0 T_iCoord_jobOk_0)
theorem lw_iCoord_jobOk_0:LoopWp Try.prog say_iCoord_jobOk_0 body_iCoord_jobOk_0:=SS.wp2 hlz [] sp_iCoord_jobOk_0 rdA_iCoord_jobOk_0 rdB_iCoord_jobOk_0 _ (fun d=>Runs.ofI2 (step:=sp_iCoord_jobOk_0) (pv_iCoord_jobOk_0 d.2.1.1 d.2.1.2.1 d.2.1.2.2.1 d.2.1.2.2.2.1 d.2.1.2.2.2.2.1 d.2.1.2.2.2.2.2.1 d.2.2.1.1 d.2.2.1.2.1 d.2.2.1.2.2.1 d.2.2.1.2.2.2.1) (rl_iCoord_jobOk_0 d.2.1.1 d.2.1.2.1 d.2.1.2.2.1 d.2.1.2.2.2.1 d.2.1.2.2.2.2.1 d.2.1.2.2.2.2.2.1 d.2.2.1.1 d.2.2.1.2.1 d.2.2.1.2.2.1 d.2.2.1.2.2.2.1) rfl (d.1.2.2.2.2.2.1,d.1.2.2.2.2.2.2.2.2.2.2.2.2.2.2.2.2.2.2.2.2.2.2.2.2.2.2.2.2.2.2.2.2.2.2.2.1,d.1.2.2.2.2.2.2.2.2.2.2.2.2.2.2.2.2.2.2.2.2.2.2.2.2.2.2.2.2.2.2.2.2.2.2.2.2.1,d.1.2.2.2.2.2.2.2.2.2.2.2.2.2.2.2.2.2.2.2.2.2.2.2.2.2.2.2.2.2.2.2.2.2.2.2.2.2.1))
noncomputable def k1_iCoord_jobOk (x1_0:Int) (p0:Int) (p1:Int) (p2:Int) (p3:List (Int×(Lq1)×Int×List Int)) (p4:LIbe) (p5:Int):=iinRange x1_0 (IntKind.wrap .i64 (p1*(1000:Int))) (IntKind.wrap .i64 ((iCoord_nextTx p0 p1 p2 p3 p4 p5) - (1:Int)))
noncomputable def k2_iCoord_jobOk (x1_0:Int) (x1_1:Lq1) (x1_2:Int) (x1_3:List Int) (p0:Int) (p1:Int) (p2:Int) (p3:List (Int×(Lq1)×Int×List Int)) (p4:LIbe) (p5:Int):=it_iCoord_jobOk_0 (iShardsOf x1_1 p0) x1_3 ((x1_3.length:Nat):Int) (0:Int) p0 p1 p2 p3 p4 p5 x1_0 x1_1 x1_2 x1_3
noncomputable def iCoord_jobOk (x1_0:Int) (x1_1:Lq1) (x1_2:Int) (x1_3:List Int) (p0:Int) (p1:Int) (p2:Int) (p3:List (Int×(Lq1)×Int×List Int)) (p4:LIbe) (p5:Int):Bool:=(cond (!(k1_iCoord_jobOk x1_0 p0 p1 p2 p3 p4 p5)) false (cond (!(iOpsOk x1_1)) false (cond ((k2_iCoord_jobOk x1_0 x1_1 x1_2 x1_3 p0 p1 p2 p3 p4 p5).1==0) ((k2_iCoord_jobOk x1_0 x1_1 x1_2 x1_3 p0 p1 p2 p3 p4 p5).2) (cond (x1_2==(1:Int)) (decide ((iCoord_choiceAt x1_0 p0 p1 p2 p3 p4 p5)<(0:Int))) (cond (x1_2==(2:Int)) (cond (decide ((iCoord_choiceAt x1_0 p0 p1 p2 p3 p4 p5) ≥ (0:Int))) ((p4.getD ((iCoord_choiceAt x1_0 p0 p1 p2 p3 p4 p5).toNat) ((0:Int),false)).2) false) (cond (x1_2==(3:Int)) (cond (decide ((iCoord_choiceAt x1_0 p0 p1 p2 p3 p4 p5) ≥ (0:Int))) (!((p4.getD ((iCoord_choiceAt x1_0 p0 p1 p2 p3 p4 p5).toNat) ((0:Int),false)).2)) false) false))))))
noncomputable abbrev e_iCoord_jobOk (p0:Int) (p1:Int) (p2:Int) (p3:List (Int×(Lq1)×Int×List Int)) (p4:LIbe) (p5:Int) (r:Bool):AV×List AObj×List Nat:=((.t true .bool r),[(.box [(.t true (.int .i64) p0),(.t true (.int .i64) p1),(.t true (.int .i64) p2),(.t false tq2 p3),(.t false tq3 p4),(.t true (.int .i64) p5)])],[])
noncomputable abbrev g_iCoord_jobOk:SM_iCoord_jobOk.den→AV×List AObj×List Nat:=fun d=>e_iCoord_jobOk d.2.1.1 d.2.1.2.1 d.2.1.2.2.1 d.2.1.2.2.2.1 d.2.1.2.2.2.2.1 d.2.1.2.2.2.2.2.1 (iCoord_jobOk d.1.2.1.1 d.1.2.1.2.1 d.1.2.1.2.2.1 d.1.2.1.2.2.2.1 d.2.1.1 d.2.1.2.1 d.2.1.2.2.1 d.2.1.2.2.2.1 d.2.1.2.2.2.2.1 d.2.1.2.2.2.2.2.1)
noncomputable def q_iCoord_jobOk (x1_0:Int) (x1_1:Lq1) (x1_2:Int) (x1_3:List Int) (p0:Int) (p1:Int) (p2:Int) (p3:List (Int×(Lq1)×Int×List Int)) (p4:LIbe) (p5:Int):Bool:=cond (!(k1_iCoord_jobOk x1_0 p0 p1 p2 p3 p4 p5)) true ((q_iOpsOk x1_1)&&(cond (!(iOpsOk x1_1)) true ((q_iShardsOf x1_1 p0)&&(cond ((k2_iCoord_jobOk x1_0 x1_1 x1_2 x1_3 p0 p1 p2 p3 p4 p5).1==0) true (((k2_iCoord_jobOk x1_0 x1_1 x1_2 x1_3 p0 p1 p2 p3 p4 p5).1==1)&&((q_iCoord_choiceAt x1_0 p0 p1 p2 p3 p4 p5)&&(cond (x1_2==(1:Int)) true (cond (x1_2==(2:Int)) (cond (decide ((iCoord_choiceAt x1_0 p0 p1 p2 p3 p4 p5) ≥ (0:Int))) (decide (0≤(iCoord_choiceAt x1_0 p0 p1 p2 p3 p4 p5)∧(iCoord_choiceAt x1_0 p0 p1 p2 p3 p4 p5)<((p4.length:Nat):Int))) true) (cond (x1_2==(3:Int)) (cond (decide ((iCoord_choiceAt x1_0 p0 p1 p2 p3 p4 p5) ≥ (0:Int))) (decide (0≤(iCoord_choiceAt x1_0 p0 p1 p2 p3 p4 p5)∧(iCoord_choiceAt x1_0 p0 p1 p2 p3 p4 p5)<((p4.length:Nat):Int))) true) true)))))))))
noncomputable abbrev pre_iCoord_jobOk:SM_iCoord_jobOk.den→Bool:=fun d=>q_iCoord_jobOk d.1.2.1.1 d.1.2.1.2.1 d.1.2.1.2.2.1 d.1.2.1.2.2.2.1 d.2.1.1 d.2.1.2.1 d.2.1.2.2.1 d.2.1.2.2.2.1 d.2.1.2.2.2.2.1 d.2.1.2.2.2.2.2.1
noncomputable abbrev L_iCoord_jobOk:Nat→St→Option Tree:=fun b=>match b with | 0=>say_iCoord_jobOk_0 | _=>fun _=>none
theorem run_iCoord_jobOk:RunM G53 (L_iCoord_jobOk) Try.f50 SM_iCoord_jobOk pre_iCoord_jobOk g_iCoord_jobOk:=by
 rintro ⟨⟨_,⟨x1_0,x1_1,x1_2,x1_3,_⟩,_⟩,⟨⟨p0,p1,p2,p3,p4,p5,_⟩,_⟩⟩ hp
 change q_iCoord_jobOk x1_0 x1_1 x1_2 x1_3 p0 p1 p2 p3 p4 p5=true at hp
 unfold q_iCoord_jobOk at hp
 refine Eq.trans (b:=(cond (!(k1_iCoord_jobOk x1_0 p0 p1 p2 p3 p4 p5)) (some (e_iCoord_jobOk p0 p1 p2 p3 p4 p5 false)) (cond (q_iOpsOk x1_1) (cond (!(iOpsOk x1_1)) (some (e_iCoord_jobOk p0 p1 p2 p3 p4 p5 false)) (cond (q_iShardsOf x1_1 p0) (cond ((k2_iCoord_jobOk x1_0 x1_1 x1_2 x1_3 p0 p1 p2 p3 p4 p5).1==0) (some (e_iCoord_jobOk p0 p1 p2 p3 p4 p5 ((k2_iCoord_jobOk x1_0 x1_1 x1_2 x1_3 p0 p1 p2 p3 p4 p5).2))) (cond ((k2_iCoord_jobOk x1_0 x1_1 x1_2 x1_3 p0 p1 p2 p3 p4 p5).1==1) (cond (q_iCoord_choiceAt x1_0 p0 p1 p2 p3 p4 p5) (cond (x1_2==(1:Int)) (some (e_iCoord_jobOk p0 p1 p2 p3 p4 p5 (decide ((iCoord_choiceAt x1_0 p0 p1 p2 p3 p4 p5)<(0:Int))))) (cond (x1_2==(2:Int)) (cond (decide ((iCoord_choiceAt x1_0 p0 p1 p2 p3 p4 p5) ≥ (0:Int))) (cond (decide (0≤(iCoord_choiceAt x1_0 p0 p1 p2 p3 p4 p5)∧(iCoord_choiceAt x1_0 p0 p1 p2 p3 p4 p5)<((p4.length:Nat):Int))) (some (e_iCoord_jobOk p0 p1 p2 p3 p4 p5 ((p4.getD ((iCoord_choiceAt x1_0 p0 p1 p2 p3 p4 p5).toNat) ((0:Int),false)).2))) none) (some (e_iCoord_jobOk p0 p1 p2 p3 p4 p5 false))) (cond (x1_2==(3:Int)) (cond (decide ((iCoord_choiceAt x1_0 p0 p1 p2 p3 p4 p5) ≥ (0:Int))) (cond (decide (0≤(iCoord_choiceAt x1_0 p0 p1 p2 p3 p4 p5)∧(iCoord_choiceAt x1_0 p0 p1 p2 p3 p4 p5)<((p4.length:Nat):Int))) (some (e_iCoord_jobOk p0 p1 p2 p3 p4 p5 (!((p4.getD ((iCoord_choiceAt x1_0 p0 p1 p2 p3 p4 p5).toNat) ((0:Int),false)).2)))) none) (some (e_iCoord_jobOk p0 p1 p2 p3 p4 p5 false))) (some (e_iCoord_jobOk p0 p1 p2 p3 p4 p5 false))))) none) none)) none)) none))) (by kernel_rfl) ?_
 exact (cndE (e_iCoord_jobOk p0 p1 p2 p3 p4 p5) hp (fun hp=>rfl) (fun hp=>(cndA hp fun hp=>(cndE (e_iCoord_jobOk p0 p1 p2 p3 p4 p5) hp (fun hp=>rfl) (fun hp=>(cndA hp fun hp=>(cndE (e_iCoord_jobOk p0 p1 p2 p3 p4 p5) hp (fun hp=>rfl) (fun hp=>(cndA hp fun hp=>(cndA hp fun hp=>(cndE (e_iCoord_jobOk p0 p1 p2 p3 p4 p5) hp (fun hp=>rfl) (fun hp=>(cndE (e_iCoord_jobOk p0 p1 p2 p3 p4 p5) hp (fun hp=>(cndE (e_iCoord_jobOk p0 p1 p2 p3 p4 p5) hp (fun hp=>(cndT hp fun _h=>rfl)) (fun hp=>rfl))) (fun hp=>(cndE (e_iCoord_jobOk p0 p1 p2 p3 p4 p5) hp (fun hp=>(cndE (e_iCoord_jobOk p0 p1 p2 p3 p4 p5) hp (fun hp=>(cndT hp fun _h=>rfl)) (fun hp=>rfl))) (fun hp=>rfl))))))))))))))))
noncomputable abbrev m_iCoord_jobOk:=winQ (msum SM_iCoord_jobOk pre_iCoord_jobOk g_iCoord_jobOk)
theorem c_iCoord_jobOk:MContract Try.prog 50 m_iCoord_jobOk:=(mcM G53 (hl1 (i:=0) (by kernel_rfl) lw_iCoord_jobOk_0) run_iCoord_jobOk).winQ (msum_quiet fun d=>⟨rfl,rfl⟩)
noncomputable def S54:Tab:=Tab.add S53 50 (m_iCoord_jobOk)
noncomputable def QF54:FuncId→Bool:=qadd QF53 50
theorem G54:Good Try.prog tt S54 QF54:=G53.addMQ c_iCoord_jobOk (winQ_local _) (cbl Try.f50) (winQ_quiet _)

noncomputable abbrev jS46:List Sh:=.junk::.junk::.junk::.junk::.junk::.junk::.junk::jS39
noncomputable abbrev jS85:List Sh:=.junk::.junk::.junk::.junk::.junk::jS80
noncomputable abbrev jS86:List Sh:=.junk::jS85
noncomputable abbrev u86:=((),(),(),(),u82)
noncomputable abbrev u47:=((),(),(),(),u43)
noncomputable abbrev u89:=((),(),(),u86)
noncomputable abbrev jA85:List AV:=.junk::.junk::.junk::.junk::.junk::jA80
noncomputable abbrev jA46:List AV:=.junk::.junk::.junk::.junk::.junk::.junk::.junk::jA39
noncomputable abbrev jA86:List AV:=.junk::jA85
noncomputable abbrev jS87:List Sh:=.junk::jS86
noncomputable abbrev jA24:List AV:=.junk::jA23
noncomputable abbrev jA87:List AV:=.junk::jA86
noncomputable abbrev P_iCoordOk:List PSh:=[.agg [(.int .i64),(.int .i64),(.int .i64),tq2,tq3,(.int .i64)]]
noncomputable def body_iCoordOk_0:Code:=((loopsIn 0 (bodyOf Try.f16)).getD 0 (0,.skip)).2
noncomputable def body_iCoordOk_1:Code:=((loopsIn 0 (bodyOf Try.f16)).getD 1 (0,.skip)).2
noncomputable abbrev S_iCoordOk_0:SS:=⟨(.junk::.ptr 0 0 1 0::.junk::.junk::.junk::.junk::.junk::.junk::.junk::.junk::.junk::.junk::.junk::.junk::.junk::.junk::.junk::.junk::.junk::.junk::.junk::.junk::.junk::.junk::.junk::.junk::.junk::.junk::.junk::.junk::.junk::.junk::.junk::.junk::.junk::.junk::.junk::.junk::.junk::.t false tq3::.t true (.int .i64)::.t true (.int .i64)::jS46),[.box [.t true (.int .i64),.t true (.int .i64),.t true (.int .i64),.t false tq2,.t false tq3,.t true (.int .i64)]]⟩
noncomputable abbrev E_iCoordOk_0_0:SS:=⟨(.junk::.junk::.t true .bool::jS85),[]⟩
noncomputable abbrev E_iCoordOk_0_1:SS:=⟨(.junk::.ptr 0 0 1 0::jS86),[.box [.t true (.int .i64),.t true (.int .i64),.t true (.int .i64),.t false tq2,.t false tq3,.t true (.int .i64)]]⟩
noncomputable def k1_iCoordOk (x39:LIbe) (x41:Int) (p0:Int) (p1:Int) (p2:Int) (p3:List (Int×(Lq1)×Int×List Int)) (p4:LIbe) (p5:Int):=iinRange ((x39.getD x41.toNat ((0:Int),false)).1) (1000:Int) (IntKind.wrap .i64 ((iCoord_nextTx p0 p1 p2 p3 p4 p5) - (1:Int)))
noncomputable def st_iCoordOk_0 (x39:LIbe) (x40:Int) (x41:Int) (p0:Int) (p1:Int) (p2:Int) (p3:List (Int×(Lq1)×Int×List Int)) (p4:LIbe) (p5:Int):RT S_iCoordOk_0.den:=(.br (decide (x41<x40)) (.br (decide (0≤x41∧x41<((x39.length:Nat):Int))) (.br (!(k1_iCoordOk x39 x41 p0 p1 p2 p3 p4 p5)) (.done .ret E_iCoordOk_0_0 (((),(),false,u86),())) (.br (q_iCoord_choiceAt ((x39.getD x41.toNat ((0:Int),false)).1) p0 p1 p2 p3 p4 p5) (.br ((iCoord_choiceAt ((x39.getD x41.toNat ((0:Int),false)).1) p0 p1 p2 p3 p4 p5) != x41) (.done .ret E_iCoordOk_0_0 (((),(),false,u86),())) (.next (((),(),(),(),(),(),(),(),(),(),(),(),(),(),(),(),(),(),(),(),(),(),(),(),(),(),(),(),(),(),(),(),(),(),(),(),(),(),(),x39,x40,IntKind.wrap .i64 (x41+(1:Int)),u47),((p0,p1,p2,p3,p4,p5,()),())))) .fail)) .fail) (.done (.exit 0) E_iCoordOk_0_1 ((u89),((p0,p1,p2,p3,p4,p5,()),()))))
noncomputable abbrev V_iCoordOk_0:=(LIbe)×(Int)×(Int)
noncomputable abbrev A_iCoordOk_0:=Nat×(Bool)
noncomputable def fl_iCoordOk_0:A_iCoordOk_0:=(99,(false:Bool))
noncomputable def ss_iCoordOk_0 (x39:LIbe) (x40:Int) (x41:Int) (p0:Int) (p1:Int) (p2:Int) (p3:List (Int×(Lq1)×Int×List Int)) (p4:LIbe) (p5:Int):V_iCoordOk_0 ⊕ A_iCoordOk_0:=(cond (decide (x41<x40)) (cond (decide (0≤x41∧x41<((x39.length:Nat):Int))) (cond (!(k1_iCoordOk x39 x41 p0 p1 p2 p3 p4 p5)) (.inr (0,false)) (cond (q_iCoord_choiceAt ((x39.getD x41.toNat ((0:Int),false)).1) p0 p1 p2 p3 p4 p5) (cond ((iCoord_choiceAt ((x39.getD x41.toNat ((0:Int),false)).1) p0 p1 p2 p3 p4 p5) != x41) (.inr (0,false)) (.inl (x39,x40,IntKind.wrap .i64 (x41+(1:Int))))) (.inr fl_iCoordOk_0))) (.inr fl_iCoordOk_0)) (.inr (1,(false:Bool))))
noncomputable def it_iCoordOk_0 (x39:LIbe) (x40:Int) (x41:Int) (p0:Int) (p1:Int) (p2:Int) (p3:List (Int×(Lq1)×Int×List Int)) (p4:LIbe) (p5:Int):A_iCoordOk_0:=itX (fun v:V_iCoordOk_0=>ss_iCoordOk_0 v.1 v.2.1 v.2.2 p0 p1 p2 p3 p4 p5) fl_iCoordOk_0 (x39,x40,x41)
noncomputable def ct_iCoordOk_0 (p0:Int) (p1:Int) (p2:Int) (p3:List (Int×(Lq1)×Int×List Int)) (p4:LIbe) (p5:Int) (a:A_iCoordOk_0):CT:=(.br (a.1==0) (.done .ret E_iCoordOk_0_0 (((),(),a.2,u86),())) (.br (a.1==1) (.done (.exit 0) E_iCoordOk_0_1 ((u89),((p0,p1,p2,p3,p4,p5,()),()))) .fail))
noncomputable def T_iCoordOk_0 (x39:LIbe) (x40:Int) (x41:Int) (p0:Int) (p1:Int) (p2:Int) (p3:List (Int×(Lq1)×Int×List Int)) (p4:LIbe) (p5:Int):CT:=(ct_iCoordOk_0 p0 p1 p2 p3 p4 p5) (it_iCoordOk_0 x39 x40 x41 p0 p1 p2 p3 p4 p5)
noncomputable abbrev ap_iCoordOk_0 {α:Sort _} (f:(LIbe)→Int→Int→Int→Int→Int→(List (Int×(Lq1)×Int×List Int))→(LIbe)→Int→α) (d:S_iCoordOk_0.den):α:=f d.1.2.2.2.2.2.2.2.2.2.2.2.2.2.2.2.2.2.2.2.2.2.2.2.2.2.2.2.2.2.2.2.2.2.2.2.2.2.2.2.1 d.1.2.2.2.2.2.2.2.2.2.2.2.2.2.2.2.2.2.2.2.2.2.2.2.2.2.2.2.2.2.2.2.2.2.2.2.2.2.2.2.2.1 d.1.2.2.2.2.2.2.2.2.2.2.2.2.2.2.2.2.2.2.2.2.2.2.2.2.2.2.2.2.2.2.2.2.2.2.2.2.2.2.2.2.2.1 d.2.1.1 d.2.1.2.1 d.2.1.2.2.1 d.2.1.2.2.2.1 d.2.1.2.2.2.2.1 d.2.1.2.2.2.2.2.1
noncomputable abbrev sp_iCoordOk_0:S_iCoordOk_0.den→RT S_iCoordOk_0.den:=(ap_iCoordOk_0 st_iCoordOk_0)
noncomputable abbrev pv_iCoordOk_0 (p0:Int) (p1:Int) (p2:Int) (p3:List (Int×(Lq1)×Int×List Int)) (p4:LIbe) (p5:Int) (v:V_iCoordOk_0):S_iCoordOk_0.den:=(((),(),(),(),(),(),(),(),(),(),(),(),(),(),(),(),(),(),(),(),(),(),(),(),(),(),(),(),(),(),(),(),(),(),(),(),(),(),(),v.1,v.2.1,v.2.2,u47),((p0,p1,p2,p3,p4,p5,()),()))
theorem rl_iCoordOk_0 (p0:Int) (p1:Int) (p2:Int) (p3:List (Int×(Lq1)×Int×List Int)) (p4:LIbe) (p5:Int):(∀ v:V_iCoordOk_0,(st_iCoordOk_0 v.1 v.2.1 v.2.2 p0 p1 p2 p3 p4 p5).val=relS (pv_iCoordOk_0 p0 p1 p2 p3 p4 p5) (ct_iCoordOk_0 p0 p1 p2 p3 p4 p5) (ss_iCoordOk_0 v.1 v.2.1 v.2.2 p0 p1 p2 p3 p4 p5))∧∀ a:A_iCoordOk_0,CEnd S_iCoordOk_0.den ((ct_iCoordOk_0 p0 p1 p2 p3 p4 p5) a):=⟨fun v=>(relB (relB (relB rfl (relB (relB rfl rfl) rfl)) rfl) rfl),fun a=>(cendB (cendD (by simp)) (cendB (cendD (by simp)) cendF))⟩
noncomputable def ox_iCoordOk_0 (x39:LIbe) (x40:Int) (x41:Int) (p0:Int) (p1:Int) (p2:Int) (p3:List (Int×(Lq1)×Int×List Int)) (p4:LIbe) (p5:Int):Option (Ex×St):=(cond (decide (x41<x40)) (cond (decide (0≤x41∧x41<((x39.length:Nat):Int))) (cond (!(k1_iCoordOk x39 x41 p0 p1 p2 p3 p4 p5)) (some (.ret,(⟨(.junk::.junk::(.t true .bool false)::jA85),[],0,[]⟩:St))) (cond (q_iCoord_choiceAt ((x39.getD x41.toNat ((0:Int),false)).1) p0 p1 p2 p3 p4 p5) (cond ((iCoord_choiceAt ((x39.getD x41.toNat ((0:Int),false)).1) p0 p1 p2 p3 p4 p5) != x41) (some (.ret,(⟨(.junk::.junk::(.t true .bool false)::jA85),[],0,[]⟩:St))) (some (.normal,(⟨(.junk::(.ptr 0 0 1 0)::.junk::.junk::.junk::.junk::.junk::.junk::.junk::.junk::.junk::.junk::.junk::.junk::.junk::.junk::.junk::.junk::.junk::.junk::.junk::.junk::.junk::.junk::.junk::.junk::.junk::.junk::.junk::.junk::.junk::.junk::.junk::.junk::.junk::.junk::.junk::.junk::.junk::(.t false tq3 x39)::(.t true (.int .i64) x40)::(.t true (.int .i64) (IntKind.wrap .i64 (x41+(1:Int))))::jA46),[(.box [(.t true (.int .i64) p0),(.t true (.int .i64) p1),(.t true (.int .i64) p2),(.t false tq2 p3),(.t false tq3 p4),(.t true (.int .i64) p5)])],0,[]⟩:St)))) none)) none) (some ((.exit 0),(⟨(.junk::(.ptr 0 0 1 0)::jA86),[(.box [(.t true (.int .i64) p0),(.t true (.int .i64) p1),(.t true (.int .i64) p2),(.t false tq2 p3),(.t false tq3 p4),(.t true (.int .i64) p5)])],0,[]⟩:St))))
theorem rdA_iCoordOk_0:RdA G54 (fun _ _=>none) 0 body_iCoordOk_0 S_iCoordOk_0 0 [] (kepts [2] [(0,[1])]) (ap_iCoordOk_0 ox_iCoordOk_0):=by
 intro d
 kernel_rfl
theorem rdB_iCoordOk_0:∀ d:S_iCoordOk_0.den,(ap_iCoordOk_0 ox_iCoordOk_0) d=(sp_iCoordOk_0 d).opt 0 []:=by
 intro d
 kernel_rfl
noncomputable abbrev say_iCoordOk_0:St→Option Tree:=S_iCoordOk_0.say 0 [] [] (ap_iCoordOk_0 T_iCoordOk_0)
theorem lw_iCoordOk_0:LoopWp Try.prog say_iCoordOk_0 body_iCoordOk_0:=SS.wp2 hlz [] sp_iCoordOk_0 rdA_iCoordOk_0 rdB_iCoordOk_0 _ (fun d=>Runs.ofI2 (step:=sp_iCoordOk_0) (pv_iCoordOk_0 d.2.1.1 d.2.1.2.1 d.2.1.2.2.1 d.2.1.2.2.2.1 d.2.1.2.2.2.2.1 d.2.1.2.2.2.2.2.1) (rl_iCoordOk_0 d.2.1.1 d.2.1.2.1 d.2.1.2.2.1 d.2.1.2.2.2.1 d.2.1.2.2.2.2.1 d.2.1.2.2.2.2.2.1) rfl (d.1.2.2.2.2.2.2.2.2.2.2.2.2.2.2.2.2.2.2.2.2.2.2.2.2.2.2.2.2.2.2.2.2.2.2.2.2.2.2.2.1,d.1.2.2.2.2.2.2.2.2.2.2.2.2.2.2.2.2.2.2.2.2.2.2.2.2.2.2.2.2.2.2.2.2.2.2.2.2.2.2.2.2.1,d.1.2.2.2.2.2.2.2.2.2.2.2.2.2.2.2.2.2.2.2.2.2.2.2.2.2.2.2.2.2.2.2.2.2.2.2.2.2.2.2.2.2.1))
noncomputable abbrev S_iCoordOk_1:SS:=⟨(.junk::.ptr 0 0 1 0::.junk::.junk::.junk::.junk::.junk::.junk::.junk::.junk::.junk::.junk::.junk::.junk::.junk::.junk::.junk::.junk::.junk::.junk::.junk::.junk::.junk::.junk::.junk::.junk::.junk::.junk::.junk::.junk::.junk::.junk::.junk::.junk::.junk::.junk::.junk::.junk::.junk::.junk::.junk::.junk::.junk::.junk::.junk::.junk::.junk::.junk::.junk::.junk::.junk::.junk::.junk::.junk::.junk::.junk::.junk::.junk::.junk::.junk::.junk::.t false tq2::.t true (.int .i64)::.t true (.int .i64)::jS24),[.box [.t true (.int .i64),.t true (.int .i64),.t true (.int .i64),.t false tq2,.t false tq3,.t true (.int .i64)]]⟩
noncomputable abbrev E_iCoordOk_1_0:SS:=⟨(.junk::.junk::.t true .bool::jS85),[]⟩
noncomputable abbrev E_iCoordOk_1_1:SS:=⟨(.junk::jS87),[]⟩
noncomputable def k2_iCoordOk (x61:List (Int×(Lq1)×Int×List Int)) (x63:Int) (p0:Int) (p1:Int) (p2:Int) (p3:List (Int×(Lq1)×Int×List Int)) (p4:LIbe) (p5:Int):=iCoord_jobOk ((x61.getD x63.toNat ((0:Int),([],((0:Int),[])))).1) (((x61.getD x63.toNat ((0:Int),([],((0:Int),[])))).2).1) ((((x61.getD x63.toNat ((0:Int),([],((0:Int),[])))).2).2).1) ((((x61.getD x63.toNat ((0:Int),([],((0:Int),[])))).2).2).2) p0 p1 p2 p3 p4 p5
noncomputable def st_iCoordOk_1 (x61:List (Int×(Lq1)×Int×List Int)) (x62:Int) (x63:Int) (p0:Int) (p1:Int) (p2:Int) (p3:List (Int×(Lq1)×Int×List Int)) (p4:LIbe) (p5:Int):RT S_iCoordOk_1.den:=(.br (decide (x63<x62)) (.br (decide (0≤x63∧x63<((x61.length:Nat):Int))) (.br (q_iCoord_jobOk ((x61.getD x63.toNat ((0:Int),([],((0:Int),[])))).1) (((x61.getD x63.toNat ((0:Int),([],((0:Int),[])))).2).1) ((((x61.getD x63.toNat ((0:Int),([],((0:Int),[])))).2).2).1) ((((x61.getD x63.toNat ((0:Int),([],((0:Int),[])))).2).2).2) p0 p1 p2 p3 p4 p5) (.br (!(k2_iCoordOk x61 x63 p0 p1 p2 p3 p4 p5)) (.done .ret E_iCoordOk_1_0 (((),(),false,u86),())) (.br (decide (x63 > (0:Int))) (.br (decide (0≤(IntKind.wrap .i64 (x63 - (1:Int)))∧(IntKind.wrap .i64 (x63 - (1:Int)))<((p3.length:Nat):Int))) (.br (decide (((x61.getD x63.toNat ((0:Int),([],((0:Int),[])))).1)≤((p3.getD ((IntKind.wrap .i64 (x63 - (1:Int))).toNat) ((0:Int),([],((0:Int),[])))).1))) (.done .ret E_iCoordOk_1_0 (((),(),false,u86),())) (.next (((),(),(),(),(),(),(),(),(),(),(),(),(),(),(),(),(),(),(),(),(),(),(),(),(),(),(),(),(),(),(),(),(),(),(),(),(),(),(),(),(),(),(),(),(),(),(),(),(),(),(),(),(),(),(),(),(),(),(),(),(),x61,x62,IntKind.wrap .i64 (x63+(1:Int)),u25),((p0,p1,p2,p3,p4,p5,()),())))) .fail) (.next (((),(),(),(),(),(),(),(),(),(),(),(),(),(),(),(),(),(),(),(),(),(),(),(),(),(),(),(),(),(),(),(),(),(),(),(),(),(),(),(),(),(),(),(),(),(),(),(),(),(),(),(),(),(),(),(),(),(),(),(),(),x61,x62,IntKind.wrap .i64 (x63+(1:Int)),u25),((p0,p1,p2,p3,p4,p5,()),()))))) .fail) .fail) (.done (.exit 2) E_iCoordOk_1_1 ((u89),())))
noncomputable abbrev V_iCoordOk_1:=(List (Int×(Lq1)×Int×List Int))×(Int)×(Int)
noncomputable abbrev A_iCoordOk_1:=Nat×(Bool)
noncomputable def fl_iCoordOk_1:A_iCoordOk_1:=(99,(false:Bool))
noncomputable def ss_iCoordOk_1 (x61:List (Int×(Lq1)×Int×List Int)) (x62:Int) (x63:Int) (p0:Int) (p1:Int) (p2:Int) (p3:List (Int×(Lq1)×Int×List Int)) (p4:LIbe) (p5:Int):V_iCoordOk_1 ⊕ A_iCoordOk_1:=(cond (decide (x63<x62)) (cond (decide (0≤x63∧x63<((x61.length:Nat):Int))) (cond (q_iCoord_jobOk ((x61.getD x63.toNat ((0:Int),([],((0:Int),[])))).1) (((x61.getD x63.toNat ((0:Int),([],((0:Int),[])))).2).1) ((((x61.getD x63.toNat ((0:Int),([],((0:Int),[])))).2).2).1) ((((x61.getD x63.toNat ((0:Int),([],((0:Int),[])))).2).2).2) p0 p1 p2 p3 p4 p5) (cond (!(k2_iCoordOk x61 x63 p0 p1 p2 p3 p4 p5)) (.inr (0,false)) (cond (decide (x63 > (0:Int))) (cond (decide (0≤(IntKind.wrap .i64 (x63 - (1:Int)))∧(IntKind.wrap .i64 (x63 - (1:Int)))<((p3.length:Nat):Int))) (cond (decide (((x61.getD x63.toNat ((0:Int),([],((0:Int),[])))).1)≤((p3.getD ((IntKind.wrap .i64 (x63 - (1:Int))).toNat) ((0:Int),([],((0:Int),[])))).1))) (.inr (0,false)) (.inl (x61,x62,IntKind.wrap .i64 (x63+(1:Int))))) (.inr fl_iCoordOk_1)) (.inl (x61,x62,IntKind.wrap .i64 (x63+(1:Int)))))) (.inr fl_iCoordOk_1)) (.inr fl_iCoordOk_1)) (.inr (1,(false:Bool))))
noncomputable def it_iCoordOk_1 (x61:List (Int×(Lq1)×Int×List Int)) (x62:Int) (x63:Int) (p0:Int) (p1:Int) (p2:Int) (p3:List (Int×(Lq1)×Int×List Int)) (p4:LIbe) (p5:Int):A_iCoordOk_1:=itX (fun v:V_iCoordOk_1=>ss_iCoordOk_1 v.1 v.2.1 v.2.2 p0 p1 p2 p3 p4 p5) fl_iCoordOk_1 (x61,x62,x63)
noncomputable def ct_iCoordOk_1 (p0:Int) (p1:Int) (p2:Int) (p3:List (Int×(Lq1)×Int×List Int)) (p4:LIbe) (p5:Int) (a:A_iCoordOk_1):CT:=(.br (a.1==0) (.done .ret E_iCoordOk_1_0 (((),(),a.2,u86),())) (.br (a.1==1) (.done (.exit 2) E_iCoordOk_1_1 ((u89),())) .fail))
noncomputable def T_iCoordOk_1 (x61:List (Int×(Lq1)×Int×List Int)) (x62:Int) (x63:Int) (p0:Int) (p1:Int) (p2:Int) (p3:List (Int×(Lq1)×Int×List Int)) (p4:LIbe) (p5:Int):CT:=(ct_iCoordOk_1 p0 p1 p2 p3 p4 p5) (it_iCoordOk_1 x61 x62 x63 p0 p1 p2 p3 p4 p5)
noncomputable abbrev ap_iCoordOk_1 {α:Sort _} (f:(List (Int×(Lq1)×Int×List Int))→Int→Int→Int→Int→Int→(List (Int×(Lq1)×Int×List Int))→(LIbe)→Int→α) (d:S_iCoordOk_1.den):α:=f d.1.2.2.2.2.2.2.2.2.2.2.2.2.2.2.2.2.2.2.2.2.2.2.2.2.2.2.2.2.2.2.2.2.2.2.2.2.2.2.2.2.2.2.2.2.2.2.2.2.2.2.2.2.2.2.2.2.2.2.2.2.2.1 d.1.2.2.2.2.2.2.2.2.2.2.2.2.2.2.2.2.2.2.2.2.2.2.2.2.2.2.2.2.2.2.2.2.2.2.2.2.2.2.2.2.2.2.2.2.2.2.2.2.2.2.2.2.2.2.2.2.2.2.2.2.2.2.1 d.1.2.2.2.2.2.2.2.2.2.2.2.2.2.2.2.2.2.2.2.2.2.2.2.2.2.2.2.2.2.2.2.2.2.2.2.2.2.2.2.2.2.2.2.2.2.2.2.2.2.2.2.2.2.2.2.2.2.2.2.2.2.2.2.1 d.2.1.1 d.2.1.2.1 d.2.1.2.2.1 d.2.1.2.2.2.1 d.2.1.2.2.2.2.1 d.2.1.2.2.2.2.2.1
noncomputable abbrev sp_iCoordOk_1:S_iCoordOk_1.den→RT S_iCoordOk_1.den:=(ap_iCoordOk_1 st_iCoordOk_1)
noncomputable abbrev pv_iCoordOk_1 (p0:Int) (p1:Int) (p2:Int) (p3:List (Int×(Lq1)×Int×List Int)) (p4:LIbe) (p5:Int) (v:V_iCoordOk_1):S_iCoordOk_1.den:=(((),(),(),(),(),(),(),(),(),(),(),(),(),(),(),(),(),(),(),(),(),(),(),(),(),(),(),(),(),(),(),(),(),(),(),(),(),(),(),(),(),(),(),(),(),(),(),(),(),(),(),(),(),(),(),(),(),(),(),(),(),v.1,v.2.1,v.2.2,u25),((p0,p1,p2,p3,p4,p5,()),()))
theorem rl_iCoordOk_1 (p0:Int) (p1:Int) (p2:Int) (p3:List (Int×(Lq1)×Int×List Int)) (p4:LIbe) (p5:Int):(∀ v:V_iCoordOk_1,(st_iCoordOk_1 v.1 v.2.1 v.2.2 p0 p1 p2 p3 p4 p5).val=relS (pv_iCoordOk_1 p0 p1 p2 p3 p4 p5) (ct_iCoordOk_1 p0 p1 p2 p3 p4 p5) (ss_iCoordOk_1 v.1 v.2.1 v.2.2 p0 p1 p2 p3 p4 p5))∧∀ a:A_iCoordOk_1,CEnd S_iCoordOk_1.den ((ct_iCoordOk_1 p0 p1 p2 p3 p4 p5) a):=⟨fun v=>by repeat' first | apply relB | rfl,fun a=>(cendB (cendD (by simp)) (cendB (cendD (by simp)) cendF))⟩
noncomputable def ox_iCoordOk_1 (x61:List (Int×(Lq1)×Int×List Int)) (x62:Int) (x63:Int) (p0:Int) (p1:Int) (p2:Int) (p3:List (Int×(Lq1)×Int×List Int)) (p4:LIbe) (p5:Int):Option (Ex×St):=(cond (decide (x63<x62)) (cond (decide (0≤x63∧x63<((x61.length:Nat):Int))) (cond (q_iCoord_jobOk ((x61.getD x63.toNat ((0:Int),([],((0:Int),[])))).1) (((x61.getD x63.toNat ((0:Int),([],((0:Int),[])))).2).1) ((((x61.getD x63.toNat ((0:Int),([],((0:Int),[])))).2).2).1) ((((x61.getD x63.toNat ((0:Int),([],((0:Int),[])))).2).2).2) p0 p1 p2 p3 p4 p5) (cond (!(k2_iCoordOk x61 x63 p0 p1 p2 p3 p4 p5)) (some (.ret,(⟨(.junk::.junk::(.t true .bool false)::jA85),[],0,[]⟩:St))) (cond (decide (x63 > (0:Int))) (cond (decide (0≤(IntKind.wrap .i64 (x63 - (1:Int)))∧(IntKind.wrap .i64 (x63 - (1:Int)))<((p3.length:Nat):Int))) (cond (decide (((x61.getD x63.toNat ((0:Int),([],((0:Int),[])))).1)≤((p3.getD ((IntKind.wrap .i64 (x63 - (1:Int))).toNat) ((0:Int),([],((0:Int),[])))).1))) (some (.ret,(⟨(.junk::.junk::(.t true .bool false)::jA85),[],0,[]⟩:St))) (some (.normal,(⟨(.junk::(.ptr 0 0 1 0)::.junk::.junk::.junk::.junk::.junk::.junk::.junk::.junk::.junk::.junk::.junk::.junk::.junk::.junk::.junk::.junk::.junk::.junk::.junk::.junk::.junk::.junk::.junk::.junk::.junk::.junk::.junk::.junk::.junk::.junk::.junk::.junk::.junk::.junk::.junk::.junk::.junk::.junk::.junk::.junk::.junk::.junk::.junk::.junk::.junk::.junk::.junk::.junk::.junk::.junk::.junk::.junk::.junk::.junk::.junk::.junk::.junk::.junk::.junk::(.t false tq2 x61)::(.t true (.int .i64) x62)::(.t true (.int .i64) (IntKind.wrap .i64 (x63+(1:Int))))::jA24),[(.box [(.t true (.int .i64) p0),(.t true (.int .i64) p1),(.t true (.int .i64) p2),(.t false tq2 p3),(.t false tq3 p4),(.t true (.int .i64) p5)])],0,[]⟩:St)))) none) (some (.normal,(⟨(.junk::(.ptr 0 0 1 0)::.junk::.junk::.junk::.junk::.junk::.junk::.junk::.junk::.junk::.junk::.junk::.junk::.junk::.junk::.junk::.junk::.junk::.junk::.junk::.junk::.junk::.junk::.junk::.junk::.junk::.junk::.junk::.junk::.junk::.junk::.junk::.junk::.junk::.junk::.junk::.junk::.junk::.junk::.junk::.junk::.junk::.junk::.junk::.junk::.junk::.junk::.junk::.junk::.junk::.junk::.junk::.junk::.junk::.junk::.junk::.junk::.junk::.junk::.junk::(.t false tq2 x61)::(.t true (.int .i64) x62)::(.t true (.int .i64) (IntKind.wrap .i64 (x63+(1:Int))))::jA24),[(.box [(.t true (.int .i64) p0),(.t true (.int .i64) p1),(.t true (.int .i64) p2),(.t false tq2 p3),(.t false tq3 p4),(.t true (.int .i64) p5)])],0,[]⟩:St))))) none) none) (some ((.exit 2),(⟨(.junk::jA87),[],0,[]⟩:St))))
theorem rdA_iCoordOk_1:RdA G54 (fun _ _=>none) 2 body_iCoordOk_1 S_iCoordOk_1 0 [] (kepts [2] [(2,[])]) (ap_iCoordOk_1 ox_iCoordOk_1):=by
 intro d
 kernel_rfl
theorem rdB_iCoordOk_1:∀ d:S_iCoordOk_1.den,(ap_iCoordOk_1 ox_iCoordOk_1) d=(sp_iCoordOk_1 d).opt 0 []:=by
 intro d
 kernel_rfl
noncomputable abbrev say_iCoordOk_1:St→Option Tree:=S_iCoordOk_1.say 0 [] [] (ap_iCoordOk_1 T_iCoordOk_1)
theorem lw_iCoordOk_1:LoopWp Try.prog say_iCoordOk_1 body_iCoordOk_1:=SS.wp2 hlz [] sp_iCoordOk_1 rdA_iCoordOk_1 rdB_iCoordOk_1 _ (fun d=>Runs.ofI2 (step:=sp_iCoordOk_1) (pv_iCoordOk_1 d.2.1.1 d.2.1.2.1 d.2.1.2.2.1 d.2.1.2.2.2.1 d.2.1.2.2.2.2.1 d.2.1.2.2.2.2.2.1) (rl_iCoordOk_1 d.2.1.1 d.2.1.2.1 d.2.1.2.2.1 d.2.1.2.2.2.1 d.2.1.2.2.2.2.1 d.2.1.2.2.2.2.2.1) rfl (d.1.2.2.2.2.2.2.2.2.2.2.2.2.2.2.2.2.2.2.2.2.2.2.2.2.2.2.2.2.2.2.2.2.2.2.2.2.2.2.2.2.2.2.2.2.2.2.2.2.2.2.2.2.2.2.2.2.2.2.2.2.2.1,d.1.2.2.2.2.2.2.2.2.2.2.2.2.2.2.2.2.2.2.2.2.2.2.2.2.2.2.2.2.2.2.2.2.2.2.2.2.2.2.2.2.2.2.2.2.2.2.2.2.2.2.2.2.2.2.2.2.2.2.2.2.2.2.1,d.1.2.2.2.2.2.2.2.2.2.2.2.2.2.2.2.2.2.2.2.2.2.2.2.2.2.2.2.2.2.2.2.2.2.2.2.2.2.2.2.2.2.2.2.2.2.2.2.2.2.2.2.2.2.2.2.2.2.2.2.2.2.2.2.1))
noncomputable def iCoordOk (a0:Int) (a1:Int) (a2:Int) (a3:List (Int×(Lq1)×Int×List Int)) (a4:LIbe) (a5:Int):Bool:=(cond (!(iinRange a0 (1:Int) (8:Int))) false (cond (!(iinRange a1 (1:Int) (900:Int))) false (cond (!(iinRange a2 (0:Int) (999:Int))) false (cond (decide (((a4.length:Nat):Int) > (1000:Int))) false (cond (!(iinRange a5 (0:Int) ((a4.length:Nat):Int))) false (cond ((it_iCoordOk_0 a4 ((a4.length:Nat):Int) (0:Int) a0 a1 a2 a3 a4 a5).1==0) ((it_iCoordOk_0 a4 ((a4.length:Nat):Int) (0:Int) a0 a1 a2 a3 a4 a5).2) (cond ((it_iCoordOk_1 a3 ((a3.length:Nat):Int) (0:Int) a0 a1 a2 a3 a4 a5).1==0) ((it_iCoordOk_1 a3 ((a3.length:Nat):Int) (0:Int) a0 a1 a2 a3 a4 a5).2) true)))))))
noncomputable abbrev e_iCoordOk (r:Bool):AV×List AObj:=((.t true .bool r),[])
noncomputable abbrev g_iCoordOk:pshsDen P_iCoordOk→AV×List AObj:=fun d=>e_iCoordOk (iCoordOk d.1.1 d.1.2.1 d.1.2.2.1 d.1.2.2.2.1 d.1.2.2.2.2.1 d.1.2.2.2.2.2.1)
noncomputable def q_iCoordOk (a0:Int) (a1:Int) (a2:Int) (a3:List (Int×(Lq1)×Int×List Int)) (a4:LIbe) (a5:Int):Bool:=cond (!(iinRange a0 (1:Int) (8:Int))) true (cond (!(iinRange a1 (1:Int) (900:Int))) true (cond (!(iinRange a2 (0:Int) (999:Int))) true (cond (decide (((a4.length:Nat):Int) > (1000:Int))) true (cond (!(iinRange a5 (0:Int) ((a4.length:Nat):Int))) true (cond ((it_iCoordOk_0 a4 ((a4.length:Nat):Int) (0:Int) a0 a1 a2 a3 a4 a5).1==0) true (((it_iCoordOk_0 a4 ((a4.length:Nat):Int) (0:Int) a0 a1 a2 a3 a4 a5).1==1)&&(cond ((it_iCoordOk_1 a3 ((a3.length:Nat):Int) (0:Int) a0 a1 a2 a3 a4 a5).1==0) true ((it_iCoordOk_1 a3 ((a3.length:Nat):Int) (0:Int) a0 a1 a2 a3 a4 a5).1==1))))))))
noncomputable abbrev pre_iCoordOk:pshsDen P_iCoordOk→Bool:=fun d=>q_iCoordOk d.1.1 d.1.2.1 d.1.2.2.1 d.1.2.2.2.1 d.1.2.2.2.2.1 d.1.2.2.2.2.2.1
noncomputable abbrev L_iCoordOk:Nat→St→Option Tree:=fun b=>match b with | 0=>say_iCoordOk_0 | 2=>say_iCoordOk_1 | _=>fun _=>none
theorem run_iCoordOk:RunP true G54 (L_iCoordOk) Try.f16 P_iCoordOk pre_iCoordOk g_iCoordOk:=by
 rintro ⟨⟨a0,⟨a1,⟨a2,⟨a3,⟨a4,⟨a5,_⟩⟩⟩⟩⟩⟩,_⟩ hp
 change q_iCoordOk a0 a1 a2 a3 a4 a5=true at hp
 unfold q_iCoordOk at hp
 refine Eq.trans (b:=(cond (!(iinRange a0 (1:Int) (8:Int))) (some (e_iCoordOk false)) (cond (!(iinRange a1 (1:Int) (900:Int))) (some (e_iCoordOk false)) (cond (!(iinRange a2 (0:Int) (999:Int))) (some (e_iCoordOk false)) (cond (decide (((a4.length:Nat):Int) > (1000:Int))) (some (e_iCoordOk false)) (cond (!(iinRange a5 (0:Int) ((a4.length:Nat):Int))) (some (e_iCoordOk false)) (cond ((it_iCoordOk_0 a4 ((a4.length:Nat):Int) (0:Int) a0 a1 a2 a3 a4 a5).1==0) (some (e_iCoordOk ((it_iCoordOk_0 a4 ((a4.length:Nat):Int) (0:Int) a0 a1 a2 a3 a4 a5).2))) (cond ((it_iCoordOk_0 a4 ((a4.length:Nat):Int) (0:Int) a0 a1 a2 a3 a4 a5).1==1) (cond ((it_iCoordOk_1 a3 ((a3.length:Nat):Int) (0:Int) a0 a1 a2 a3 a4 a5).1==0) (some (e_iCoordOk ((it_iCoordOk_1 a3 ((a3.length:Nat):Int) (0:Int) a0 a1 a2 a3 a4 a5).2))) (cond ((it_iCoordOk_1 a3 ((a3.length:Nat):Int) (0:Int) a0 a1 a2 a3 a4 a5).1==1) (some (e_iCoordOk true)) none)) none)))))))) (by kernel_rfl) ?_
 exact (cndE e_iCoordOk hp (fun hp=>rfl) (fun hp=>(cndE e_iCoordOk hp (fun hp=>rfl) (fun hp=>(cndE e_iCoordOk hp (fun hp=>rfl) (fun hp=>(cndE e_iCoordOk hp (fun hp=>rfl) (fun hp=>(cndE e_iCoordOk hp (fun hp=>rfl) (fun hp=>(cndE e_iCoordOk hp (fun hp=>rfl) (fun hp=>(cndA hp fun hp=>(cndE e_iCoordOk hp (fun hp=>rfl) (fun hp=>(cndT hp fun _h=>rfl))))))))))))))))
theorem c_iCoordOk:PContract Try.prog 16 (sumOf P_iCoordOk pre_iCoordOk g_iCoordOk):=pcD true G54 (by
  rw [show loopsIn 0 (bodyOf Try.f16)=[(0,body_iCoordOk_0),(2,body_iCoordOk_1)] by kernel_rfl];intro p hp;simp only [List.mem_cons,List.mem_nil_iff,or_false] at hp
  rcases hp with rfl | rfl
  ·exact lw_iCoordOk_0
  ·exact lw_iCoordOk_1) run_iCoordOk
noncomputable def S55:Tab:=Tab.add S54 16 (lift (sumOf P_iCoordOk pre_iCoordOk g_iCoordOk))
noncomputable def QF55:FuncId→Bool:=qadd QF54 16
theorem G55:Good Try.prog tt S55 QF55:=G54.addQ c_iCoordOk (cbl Try.f16) (fun _=>rfl)

noncomputable abbrev P_iSureAll:List PSh:=[.agg [(.int .i64),(.int .i64),(.int .i64),tq2,tq3,(.int .i64)]]
noncomputable def iSureAll (a0:Int) (a1:Int) (a2:Int) (a3:List (Int×(Lq1)×Int×List Int)) (a4:LIbe) (a5:Int):Int×Int×Int×Int×(List (Int×(Lq1)×Int×List Int))×LIbe:=(cond (iCoordOk a0 a1 a2 a3 a4 a5) (((icopyCoord a0 a1 a2 a3 a4 a5).1),((icopyCoord a0 a1 a2 a3 a4 a5).2.1),((icopyCoord a0 a1 a2 a3 a4 a5).2.2.1),((a4.length:Nat):Int),((icopyCoord a0 a1 a2 a3 a4 a5).2.2.2.2.1),((icopyCoord a0 a1 a2 a3 a4 a5).2.2.2.2.2)) (((icopyCoord a0 a1 a2 a3 a4 a5).1),((icopyCoord a0 a1 a2 a3 a4 a5).2.1),((icopyCoord a0 a1 a2 a3 a4 a5).2.2.1),((icopyCoord a0 a1 a2 a3 a4 a5).2.2.2.1),((icopyCoord a0 a1 a2 a3 a4 a5).2.2.2.2.1),((icopyCoord a0 a1 a2 a3 a4 a5).2.2.2.2.2)))
noncomputable abbrev e_iSureAll (r:Int×Int×Int×Int×(List (Int×(Lq1)×Int×List Int))×LIbe):AV×List AObj:=((.agg [(.t true (.int .i64) r.1),(.t true (.int .i64) r.2.1),(.t true (.int .i64) r.2.2.1),(.all 0 4),(.all 1 2),(.t true (.int .i64) r.2.2.2.1)]),[(.deep 48 [90,3] tq5 r.2.2.2.2.1),(.rows 43 true t_pib r.2.2.2.2.2)])
noncomputable abbrev g_iSureAll:pshsDen P_iSureAll→AV×List AObj:=fun d=>e_iSureAll (iSureAll d.1.1 d.1.2.1 d.1.2.2.1 d.1.2.2.2.1 d.1.2.2.2.2.1 d.1.2.2.2.2.2.1)
noncomputable def q_iSureAll (a0:Int) (a1:Int) (a2:Int) (a3:List (Int×(Lq1)×Int×List Int)) (a4:LIbe) (a5:Int):Bool:=(q_icopyCoord a0 a1 a2 a3 a4 a5)&&(q_iCoordOk a0 a1 a2 a3 a4 a5)
noncomputable abbrev pre_iSureAll:pshsDen P_iSureAll→Bool:=fun d=>q_iSureAll d.1.1 d.1.2.1 d.1.2.2.1 d.1.2.2.2.1 d.1.2.2.2.2.1 d.1.2.2.2.2.2.1
theorem run_iSureAll:RunP false (G55.deep ow) (fun _ _=>none) Try.f22 P_iSureAll pre_iSureAll g_iSureAll:=by
 rintro ⟨⟨a0,⟨a1,⟨a2,⟨a3,⟨a4,⟨a5,_⟩⟩⟩⟩⟩⟩,_⟩ hp
 change q_iSureAll a0 a1 a2 a3 a4 a5=true at hp
 unfold q_iSureAll at hp
 refine Eq.trans (b:=(cond (q_icopyCoord a0 a1 a2 a3 a4 a5) (cond (q_iCoordOk a0 a1 a2 a3 a4 a5) (cond (iCoordOk a0 a1 a2 a3 a4 a5) (some (e_iSureAll (((icopyCoord a0 a1 a2 a3 a4 a5).1),((icopyCoord a0 a1 a2 a3 a4 a5).2.1),((icopyCoord a0 a1 a2 a3 a4 a5).2.2.1),((a4.length:Nat):Int),((icopyCoord a0 a1 a2 a3 a4 a5).2.2.2.2.1),((icopyCoord a0 a1 a2 a3 a4 a5).2.2.2.2.2)))) (some (e_iSureAll (((icopyCoord a0 a1 a2 a3 a4 a5).1),((icopyCoord a0 a1 a2 a3 a4 a5).2.1),((icopyCoord a0 a1 a2 a3 a4 a5).2.2.1),((icopyCoord a0 a1 a2 a3 a4 a5).2.2.2.1),((icopyCoord a0 a1 a2 a3 a4 a5).2.2.2.2.1),((icopyCoord a0 a1 a2 a3 a4 a5).2.2.2.2.2))))) none) none)) (by kernel_rfl) ?_
 exact (cndA hp fun hp=>(cndT hp fun _h=>(cndG e_iSureAll (fun _h=>rfl) (fun _h=>rfl))))
theorem c_iSureAll:PContract Try.prog 22 (sumOf P_iSureAll pre_iSureAll g_iSureAll):=pcD false (G55.deep ow) hlz run_iSureAll
noncomputable def S56:Tab:=Tab.add S55 22 (lift (sumOf P_iSureAll pre_iSureAll g_iSureAll))
noncomputable def QF56:FuncId→Bool:=QF55
theorem G56:Good Try.prog tt S56 QF56:=G55.add c_iSureAll (cbl Try.f22) (by kernel_rfl)

noncomputable abbrev P_leqOp:List PSh:=[.agg [(.int .i64),.str,.str],.agg [(.int .i64),.str,.str]]
noncomputable def leqOp (a0:Int) (a1:ByteArray) (a2:ByteArray) (a3:Int) (a4:ByteArray) (a5:ByteArray):Bool:=(cond (a0 != a3) false (cond (!(a1.toList==a4.toList)) false (cond (!(a2.toList==a5.toList)) false true)))
noncomputable abbrev e_leqOp (r:Bool):AV×List AObj:=((.t true .bool r),[])
noncomputable abbrev g_leqOp:pshsDen P_leqOp→AV×List AObj:=fun d=>e_leqOp (leqOp d.1.1 d.1.2.1 d.1.2.2.1 d.2.1.1 d.2.1.2.1 d.2.1.2.2.1)
noncomputable abbrev pre_leqOp:pshsDen P_leqOp→Bool:=fun d=>true
theorem run_leqOp:RunP true G56 (fun _ _=>none) Try.f142 P_leqOp pre_leqOp g_leqOp:=by
 rintro ⟨⟨a0,⟨a1,⟨a2,_⟩⟩⟩,⟨⟨a3,⟨a4,⟨a5,_⟩⟩⟩,_⟩⟩ hp
 refine Eq.trans (b:=(cond (a0 != a3) (some (e_leqOp false)) (cond (!(a1.toList==a4.toList)) (some (e_leqOp false)) (cond (!(a2.toList==a5.toList)) (some (e_leqOp false)) (some (e_leqOp true)))))) (by kernel_rfl) ?_
 exact (cndG e_leqOp (fun _h=>rfl) (fun _h=>(cndG e_leqOp (fun _h=>rfl) (fun _h=>(cndG e_leqOp (fun _h=>rfl) (fun _h=>rfl))))))
theorem c_leqOp:PContract Try.prog 142 (sumOf P_leqOp pre_leqOp g_leqOp):=pcD true G56 hlz run_leqOp
noncomputable def S57:Tab:=Tab.add S56 142 (lift (sumOf P_leqOp pre_leqOp g_leqOp))
noncomputable def QF57:FuncId→Bool:=qadd QF56 142
theorem G57:Good Try.prog tt S57 QF57:=G56.addQ c_leqOp (cbl Try.f142) (fun _=>rfl)


noncomputable def f_leqOpS_0 (x0 x1:Lq1) (i:Nat):Bool:=!(!(leqOp ((x0.getD i ((0:Int),(bE,bE))).1) (((x0.getD i ((0:Int),(bE,bE))).2).1) (((x0.getD i ((0:Int),(bE,bE))).2).2) ((x1.getD i ((0:Int),(bE,bE))).1) (((x1.getD i ((0:Int),(bE,bE))).2).1) (((x1.getD i ((0:Int),(bE,bE))).2).2)))
noncomputable abbrev P_leqOpS:List PSh:=[.t tq4,.t tq4]
noncomputable abbrev S_leqOpS_0:SS:=⟨(.t false tq4::.t false tq4::.junk::.junk::.junk::.t true (.int .i64)::jS21),[]⟩
noncomputable abbrev E_leqOpS_0_0:SS:=⟨(.junk::.junk::.junk::.junk::.t true .bool::jS22),[]⟩
noncomputable abbrev E_leqOpS_0_1:SS:=⟨(.junk::jS26),[]⟩
noncomputable def st_leqOpS_0 (x0:Lq1) (x1:Lq1) (x5:Int):RT S_leqOpS_0.den:=(.br (decide (x5<((x0.length:Nat):Int))) (.br (decide (0≤x5∧x5<((x0.length:Nat):Int))) (.br (decide (0≤x5∧x5<((x1.length:Nat):Int))) (.br (!(leqOp ((x0.getD x5.toNat ((0:Int),(bE,bE))).1) (((x0.getD x5.toNat ((0:Int),(bE,bE))).2).1) (((x0.getD x5.toNat ((0:Int),(bE,bE))).2).2) ((x1.getD x5.toNat ((0:Int),(bE,bE))).1) (((x1.getD x5.toNat ((0:Int),(bE,bE))).2).1) (((x1.getD x5.toNat ((0:Int),(bE,bE))).2).2))) (.done .ret E_leqOpS_0_0 (((),(),(),(),false,u23),())) (.next ((x0,x1,(),(),(),IntKind.wrap .i64 (x5+(1:Int)),u22),()))) .fail) .fail) (.done (.exit 0) E_leqOpS_0_1 ((u28),())))
noncomputable def T_leqOpS_0 (x0:Lq1) (x1:Lq1) (x5:Int):CT:=(.br (decide (0≤x5)&&(decide (x0.length=x1.length)&&okL x0)) (.br (allF (f_leqOpS_0 x0 x1) (x0.length - x5.toNat) x5.toNat) (.done (.exit 0) E_leqOpS_0_1 ((u28),())) (.done .ret E_leqOpS_0_0 (((),(),(),(),false,u23),()))) .fail)
noncomputable abbrev sp_leqOpS_0:S_leqOpS_0.den→RT S_leqOpS_0.den:=(fun d=>st_leqOpS_0 d.1.1 d.1.2.1 d.1.2.2.2.2.2.1)
noncomputable abbrev pk_leqOpS_0 (x0:Lq1) (x1:Lq1) (x5:Int):S_leqOpS_0.den:=((x0,x1,(),(),(),x5,u22),())
noncomputable def body_leqOpS_0:Code:=((loopsIn 0 (bodyOf Try.f116)).getD 0 (0,.skip)).2
theorem R_leqOpS_0 (x0:Lq1) (x1:Lq1) (x5:Int):(T_leqOpS_0 x0 x1 x5).val (D:=S_leqOpS_0.den)=.fail∨Runs sp_leqOpS_0 (pk_leqOpS_0 x0 x1 x5) (T_leqOpS_0 x0 x1 x5).val:=by
 cases hc:(decide (0≤x5)&&(decide (x0.length=x1.length)&&okL x0)) with
 | false=>left;simp only [T_leqOpS_0,CT.val,hc,cond_false]
 | true =>
  right
  simp only [T_leqOpS_0,CT.val,hc,cond_true]
  simp only [Bool.and_eq_true,decide_eq_true_eq] at hc
  obtain ⟨i,rfl⟩:=Int.eq_ofNat_of_zero_le hc.1
  have hs:=okL_le hc.2.2
  simp only [Int.toNat_natCast]
  refine Runs.scan (fun j=>pk_leqOpS_0 x0 x1 (j:Int)) (x0.length) (f_leqOpS_0 x0 x1) (fun i hi=>?_) (fun i hi=>?_) ⟨_,_,_,rfl,by simp⟩ ⟨_,_,_,rfl,by simp⟩ _ _ rfl
  ·
   have h0a:decide ((i:Int)<((x0.length:Nat):Int))=true:=decide_eq_true (by omega)
   have h0b:decide (0≤(i:Int)∧(i:Int)<((x0.length:Nat):Int))=true:=decide_eq_true (by omega)
   simp only [sp_leqOpS_0,st_leqOpS_0,RT.val,h0a,h0b,cond_true,wrapS i (by omega),Int.toNat_natCast]
   have h9:decide (0≤(i:Int)∧(i:Int)<((x1.length:Nat):Int))=true:=decide_eq_true (by omega)
   simp only [h9,cond_true]
   simp only [f_leqOpS_0]
   generalize (!(leqOp ((x0.getD i ((0:Int),((⟨#[]⟩:ByteArray),(⟨#[]⟩:ByteArray)))).1) (((x0.getD i ((0:Int),((⟨#[]⟩:ByteArray),(⟨#[]⟩:ByteArray)))).2).1) (((x0.getD i ((0:Int),((⟨#[]⟩:ByteArray),(⟨#[]⟩:ByteArray)))).2).2) ((x1.getD i ((0:Int),((⟨#[]⟩:ByteArray),(⟨#[]⟩:ByteArray)))).1) (((x1.getD i ((0:Int),((⟨#[]⟩:ByteArray),(⟨#[]⟩:ByteArray)))).2).1) (((x1.getD i ((0:Int),((⟨#[]⟩:ByteArray),(⟨#[]⟩:ByteArray)))).2).2)))=c
   cases c<;>rfl
  ·have h1:decide ((i:Int)<((x0.length:Nat):Int))=false:=decide_eq_false (by omega)
   simp only [sp_leqOpS_0,st_leqOpS_0,RT.val,h1,cond_false]
theorem rdA_leqOpS_0:RdA G57 (fun _ _=>none) 0 body_leqOpS_0 S_leqOpS_0 0 [] (kepts [4] [(0,[])]) (fun d=>(sp_leqOpS_0 d).opt 0 []):=by
 intro d
 kernel_rfl
noncomputable abbrev say_leqOpS_0:St→Option Tree:=S_leqOpS_0.say 0 [] [] (fun d=>T_leqOpS_0 d.1.1 d.1.2.1 d.1.2.2.2.2.2.1)
theorem lw_leqOpS_0:LoopWp Try.prog say_leqOpS_0 body_leqOpS_0:=SS.wp2 hlz [] sp_leqOpS_0 rdA_leqOpS_0 (fun d=>rfl) _ (fun d=>R_leqOpS_0 d.1.1 d.1.2.1 d.1.2.2.2.2.2.1)
noncomputable def leqOpS (a0:Lq1) (a1:Lq1):Bool:=(cond (((a0.length:Nat):Int) != ((a1.length:Nat):Int)) false (cond (allF (f_leqOpS_0 a0 a1) (a0.length - (0:Int).toNat) (0:Int).toNat) true false))
noncomputable abbrev e_leqOpS (r:Bool):AV×List AObj:=((.t true .bool r),[])
noncomputable abbrev g_leqOpS:pshsDen P_leqOpS→AV×List AObj:=fun d=>e_leqOpS (leqOpS d.1 d.2.1)
noncomputable def q_leqOpS (a0:Lq1) (a1:Lq1):Bool:=okL a0
noncomputable abbrev pre_leqOpS:pshsDen P_leqOpS→Bool:=fun d=>q_leqOpS d.1 d.2.1
noncomputable abbrev L_leqOpS:Nat→St→Option Tree:=fun b=>match b with | 0=>say_leqOpS_0 | _=>fun _=>none
theorem run_leqOpS:RunP true G57 (L_leqOpS) Try.f116 P_leqOpS pre_leqOpS g_leqOpS:=by
 rintro ⟨a0,⟨a1,_⟩⟩ hp
 change q_leqOpS a0 a1=true at hp
 unfold q_leqOpS at hp
 refine Eq.trans (b:=(cond (((a0.length:Nat):Int) != ((a1.length:Nat):Int)) (some (e_leqOpS false)) (cond (decide (0≤(0:Int))&&(decide (a0.length=a1.length)&&okL a0)) (cond (allF (f_leqOpS_0 a0 a1) (a0.length - (0:Int).toNat) (0:Int).toNat) (some (e_leqOpS true)) (some (e_leqOpS false))) none))) (by kernel_rfl) ?_
 exact (cndG e_leqOpS (fun _h=>rfl) (fun _h=>(cndT (by simp only [okL,Bool.and_eq_true,decide_eq_true_eq] at hp ⊢;simp at _h;exact ⟨Int.le_refl 0,by omega,hp⟩) (fun _h=>(cndG e_leqOpS (fun _h=>rfl) (fun _h=>rfl))))))
theorem c_leqOpS:PContract Try.prog 116 (sumOf P_leqOpS pre_leqOpS g_leqOpS):=pcD true G57 (hl1 (i:=0) (by kernel_rfl) lw_leqOpS_0) run_leqOpS
noncomputable def S58:Tab:=Tab.add S57 116 (lift (sumOf P_leqOpS pre_leqOpS g_leqOpS))
noncomputable def QF58:FuncId→Bool:=qadd QF57 116
theorem G58:Good Try.prog tt S58 QF58:=G57.addQ c_leqOpS (cbl Try.f116) (fun _=>rfl)

noncomputable abbrev jS20:List Sh:=.junk::jS19
noncomputable abbrev u21:=((),u20)

noncomputable def f_leqIntS_0 (x0 x1:List Int) (i:Nat):Bool:=!((x0.getD i (0:Int)) != (x1.getD i (0:Int)))
noncomputable abbrev P_leqIntS:List PSh:=[.t t_si,.t t_si]
noncomputable abbrev S_leqIntS_0:SS:=⟨(.t false t_si::.t false t_si::.junk::.junk::.junk::.t true (.int .i64)::jS20),[]⟩
noncomputable abbrev E_leqIntS_0_0:SS:=⟨(.junk::.junk::.junk::.junk::.t true .bool::jS21),[]⟩
noncomputable abbrev E_leqIntS_0_1:SS:=⟨(.junk::jS25),[]⟩
noncomputable def st_leqIntS_0 (x0:List Int) (x1:List Int) (x5:Int):RT S_leqIntS_0.den:=(.br (decide (x5<((x0.length:Nat):Int))) (.br (decide (0≤x5∧x5<((x0.length:Nat):Int))) (.br (decide (0≤x5∧x5<((x1.length:Nat):Int))) (.br ((x0.getD x5.toNat (0:Int)) != (x1.getD x5.toNat (0:Int))) (.done .ret E_leqIntS_0_0 (((),(),(),(),false,u22),())) (.next ((x0,x1,(),(),(),IntKind.wrap .i64 (x5+(1:Int)),u21),()))) .fail) .fail) (.done (.exit 0) E_leqIntS_0_1 ((u27),())))
noncomputable def T_leqIntS_0 (x0:List Int) (x1:List Int) (x5:Int):CT:=(.br (decide (0≤x5)&&(decide (x0.length=x1.length)&&okL x0)) (.br (allF (f_leqIntS_0 x0 x1) (x0.length - x5.toNat) x5.toNat) (.done (.exit 0) E_leqIntS_0_1 ((u27),())) (.done .ret E_leqIntS_0_0 (((),(),(),(),false,u22),()))) .fail)
noncomputable abbrev sp_leqIntS_0:S_leqIntS_0.den→RT S_leqIntS_0.den:=(fun d=>st_leqIntS_0 d.1.1 d.1.2.1 d.1.2.2.2.2.2.1)
noncomputable abbrev pk_leqIntS_0 (x0:List Int) (x1:List Int) (x5:Int):S_leqIntS_0.den:=((x0,x1,(),(),(),x5,u21),())
noncomputable def body_leqIntS_0:Code:=((loopsIn 0 (bodyOf Try.f125)).getD 0 (0,.skip)).2
theorem R_leqIntS_0 (x0:List Int) (x1:List Int) (x5:Int):(T_leqIntS_0 x0 x1 x5).val (D:=S_leqIntS_0.den)=.fail∨Runs sp_leqIntS_0 (pk_leqIntS_0 x0 x1 x5) (T_leqIntS_0 x0 x1 x5).val:=by
 cases hc:(decide (0≤x5)&&(decide (x0.length=x1.length)&&okL x0)) with
 | false=>left;simp only [T_leqIntS_0,CT.val,hc,cond_false]
 | true =>
  right
  simp only [T_leqIntS_0,CT.val,hc,cond_true]
  simp only [Bool.and_eq_true,decide_eq_true_eq] at hc
  obtain ⟨i,rfl⟩:=Int.eq_ofNat_of_zero_le hc.1
  have hs:=okL_le hc.2.2
  simp only [Int.toNat_natCast]
  refine Runs.scan (fun j=>pk_leqIntS_0 x0 x1 (j:Int)) (x0.length) (f_leqIntS_0 x0 x1) (fun i hi=>?_) (fun i hi=>?_) ⟨_,_,_,rfl,by simp⟩ ⟨_,_,_,rfl,by simp⟩ _ _ rfl
  ·
   have h0a:decide ((i:Int)<((x0.length:Nat):Int))=true:=decide_eq_true (by omega)
   have h0b:decide (0≤(i:Int)∧(i:Int)<((x0.length:Nat):Int))=true:=decide_eq_true (by omega)
   simp only [sp_leqIntS_0,st_leqIntS_0,RT.val,h0a,h0b,cond_true,wrapS i (by omega),Int.toNat_natCast]
   have h9:decide (0≤(i:Int)∧(i:Int)<((x1.length:Nat):Int))=true:=decide_eq_true (by omega)
   simp only [h9,cond_true]
   simp only [f_leqIntS_0]
   generalize ((x0.getD i (0:Int)) != (x1.getD i (0:Int)))=c
   cases c<;>rfl
  ·have h1:decide ((i:Int)<((x0.length:Nat):Int))=false:=decide_eq_false (by omega)
   simp only [sp_leqIntS_0,st_leqIntS_0,RT.val,h1,cond_false]
theorem rdA_leqIntS_0:RdA G58 (fun _ _=>none) 0 body_leqIntS_0 S_leqIntS_0 0 [] (kepts [4] [(0,[])]) (fun d=>(sp_leqIntS_0 d).opt 0 []):=by
 intro d
 kernel_rfl
noncomputable abbrev say_leqIntS_0:St→Option Tree:=S_leqIntS_0.say 0 [] [] (fun d=>T_leqIntS_0 d.1.1 d.1.2.1 d.1.2.2.2.2.2.1)
theorem lw_leqIntS_0:LoopWp Try.prog say_leqIntS_0 body_leqIntS_0:=SS.wp2 hlz [] sp_leqIntS_0 rdA_leqIntS_0 (fun d=>rfl) _ (fun d=>R_leqIntS_0 d.1.1 d.1.2.1 d.1.2.2.2.2.2.1)
noncomputable def leqIntS (a0:List Int) (a1:List Int):Bool:=(cond (((a0.length:Nat):Int) != ((a1.length:Nat):Int)) false (cond (allF (f_leqIntS_0 a0 a1) (a0.length - (0:Int).toNat) (0:Int).toNat) true false))
noncomputable abbrev e_leqIntS (r:Bool):AV×List AObj:=((.t true .bool r),[])
noncomputable abbrev g_leqIntS:pshsDen P_leqIntS→AV×List AObj:=fun d=>e_leqIntS (leqIntS d.1 d.2.1)
noncomputable def q_leqIntS (a0:List Int) (a1:List Int):Bool:=okL a0
noncomputable abbrev pre_leqIntS:pshsDen P_leqIntS→Bool:=fun d=>q_leqIntS d.1 d.2.1
noncomputable abbrev L_leqIntS:Nat→St→Option Tree:=fun b=>match b with | 0=>say_leqIntS_0 | _=>fun _=>none
theorem run_leqIntS:RunP true G58 (L_leqIntS) Try.f125 P_leqIntS pre_leqIntS g_leqIntS:=by
 rintro ⟨a0,⟨a1,_⟩⟩ hp
 change q_leqIntS a0 a1=true at hp
 unfold q_leqIntS at hp
 refine Eq.trans (b:=(cond (((a0.length:Nat):Int) != ((a1.length:Nat):Int)) (some (e_leqIntS false)) (cond (decide (0≤(0:Int))&&(decide (a0.length=a1.length)&&okL a0)) (cond (allF (f_leqIntS_0 a0 a1) (a0.length - (0:Int).toNat) (0:Int).toNat) (some (e_leqIntS true)) (some (e_leqIntS false))) none))) (by kernel_rfl) ?_
 exact (cndG e_leqIntS (fun _h=>rfl) (fun _h=>(cndT (by simp only [okL,Bool.and_eq_true,decide_eq_true_eq] at hp ⊢;simp at _h;exact ⟨Int.le_refl 0,by omega,hp⟩) (fun _h=>(cndG e_leqIntS (fun _h=>rfl) (fun _h=>rfl))))))
theorem c_leqIntS:PContract Try.prog 125 (sumOf P_leqIntS pre_leqIntS g_leqIntS):=pcD true G58 (hl1 (i:=0) (by kernel_rfl) lw_leqIntS_0) run_leqIntS
noncomputable def S59:Tab:=Tab.add S58 125 (lift (sumOf P_leqIntS pre_leqIntS g_leqIntS))
noncomputable def QF59:FuncId→Bool:=qadd QF58 125
theorem G59:Good Try.prog tt S59 QF59:=G58.addQ c_leqIntS (cbl Try.f125) (fun _=>rfl)

noncomputable abbrev P_leqJob:List PSh:=[.agg [(.int .i64),tq4,(.int .i64),t_si],.agg [(.int .i64),tq4,(.int .i64),t_si]]
noncomputable def leqJob (a0:Int) (a1:Lq1) (a2:Int) (a3:List Int) (a4:Int) (a5:Lq1) (a6:Int) (a7:List Int):Bool:=(cond (a0 != a4) false (cond (!(leqOpS a1 a5)) false (cond (a2 != a6) false (cond (!(leqIntS a3 a7)) false true))))
noncomputable abbrev e_leqJob (r:Bool):AV×List AObj:=((.t true .bool r),[])
noncomputable abbrev g_leqJob:pshsDen P_leqJob→AV×List AObj:=fun d=>e_leqJob (leqJob d.1.1 d.1.2.1 d.1.2.2.1 d.1.2.2.2.1 d.2.1.1 d.2.1.2.1 d.2.1.2.2.1 d.2.1.2.2.2.1)
noncomputable def q_leqJob (a0:Int) (a1:Lq1) (a2:Int) (a3:List Int) (a4:Int) (a5:Lq1) (a6:Int) (a7:List Int):Bool:=cond (a0 != a4) true ((q_leqOpS a1 a5)&&(cond (!(leqOpS a1 a5)) true (cond (a2 != a6) true (q_leqIntS a3 a7))))
noncomputable abbrev pre_leqJob:pshsDen P_leqJob→Bool:=fun d=>q_leqJob d.1.1 d.1.2.1 d.1.2.2.1 d.1.2.2.2.1 d.2.1.1 d.2.1.2.1 d.2.1.2.2.1 d.2.1.2.2.2.1
theorem run_leqJob:RunP true G59 (fun _ _=>none) Try.f94 P_leqJob pre_leqJob g_leqJob:=by
 rintro ⟨⟨a0,⟨a1,⟨a2,⟨a3,_⟩⟩⟩⟩,⟨⟨a4,⟨a5,⟨a6,⟨a7,_⟩⟩⟩⟩,_⟩⟩ hp
 change q_leqJob a0 a1 a2 a3 a4 a5 a6 a7=true at hp
 unfold q_leqJob at hp
 refine Eq.trans (b:=(cond (a0 != a4) (some (e_leqJob false)) (cond (q_leqOpS a1 a5) (cond (!(leqOpS a1 a5)) (some (e_leqJob false)) (cond (a2 != a6) (some (e_leqJob false)) (cond (q_leqIntS a3 a7) (cond (!(leqIntS a3 a7)) (some (e_leqJob false)) (some (e_leqJob true))) none))) none))) (by kernel_rfl) ?_
 exact (cndE e_leqJob hp (fun hp=>rfl) (fun hp=>(cndA hp fun hp=>(cndE e_leqJob hp (fun hp=>rfl) (fun hp=>(cndE e_leqJob hp (fun hp=>rfl) (fun hp=>(cndT hp fun _h=>(cndG e_leqJob (fun _h=>rfl) (fun _h=>rfl))))))))))
theorem c_leqJob:PContract Try.prog 94 (sumOf P_leqJob pre_leqJob g_leqJob):=pcD true G59 hlz run_leqJob
noncomputable def S60:Tab:=Tab.add S59 94 (lift (sumOf P_leqJob pre_leqJob g_leqJob))
noncomputable def QF60:FuncId→Bool:=qadd QF59 94
theorem G60:Good Try.prog tt S60 QF60:=G59.addQ c_leqJob (cbl Try.f94) (fun _=>rfl)

noncomputable abbrev P_leqJobS:List PSh:=[.t tq2,.t tq2]
noncomputable abbrev S_leqJobS_0:SS:=⟨(.t false tq2::.t false tq2::.junk::.junk::.junk::.t true (.int .i64)::jS21),[]⟩
noncomputable abbrev E_leqJobS_0_0:SS:=⟨(.junk::.junk::.junk::.junk::.t true .bool::jS22),[]⟩
noncomputable abbrev E_leqJobS_0_1:SS:=⟨(.junk::jS26),[]⟩
noncomputable def st_leqJobS_0 (x0:List (Int×(Lq1)×Int×List Int)) (x1:List (Int×(Lq1)×Int×List Int)) (x5:Int):RT S_leqJobS_0.den:=(.br (decide (x5<((x0.length:Nat):Int))) (.br (decide (0≤x5∧x5<((x0.length:Nat):Int))) (.br (decide (0≤x5∧x5<((x1.length:Nat):Int))) (.br (q_leqJob ((x0.getD x5.toNat ((0:Int),([],((0:Int),[])))).1) (((x0.getD x5.toNat ((0:Int),([],((0:Int),[])))).2).1) ((((x0.getD x5.toNat ((0:Int),([],((0:Int),[])))).2).2).1) ((((x0.getD x5.toNat ((0:Int),([],((0:Int),[])))).2).2).2) ((x1.getD x5.toNat ((0:Int),([],((0:Int),[])))).1) (((x1.getD x5.toNat ((0:Int),([],((0:Int),[])))).2).1) ((((x1.getD x5.toNat ((0:Int),([],((0:Int),[])))).2).2).1) ((((x1.getD x5.toNat ((0:Int),([],((0:Int),[])))).2).2).2)) (.br (!(leqJob ((x0.getD x5.toNat ((0:Int),([],((0:Int),[])))).1) (((x0.getD x5.toNat ((0:Int),([],((0:Int),[])))).2).1) ((((x0.getD x5.toNat ((0:Int),([],((0:Int),[])))).2).2).1) ((((x0.getD x5.toNat ((0:Int),([],((0:Int),[])))).2).2).2) ((x1.getD x5.toNat ((0:Int),([],((0:Int),[])))).1) (((x1.getD x5.toNat ((0:Int),([],((0:Int),[])))).2).1) ((((x1.getD x5.toNat ((0:Int),([],((0:Int),[])))).2).2).1) ((((x1.getD x5.toNat ((0:Int),([],((0:Int),[])))).2).2).2))) (.done .ret E_leqJobS_0_0 (((),(),(),(),false,u23),())) (.next ((x0,x1,(),(),(),IntKind.wrap .i64 (x5+(1:Int)),u22),()))) .fail) .fail) .fail) (.done (.exit 0) E_leqJobS_0_1 ((u28),())))
noncomputable abbrev V_leqJobS_0:=(List (Int×(Lq1)×Int×List Int))×(List (Int×(Lq1)×Int×List Int))×(Int)
noncomputable abbrev A_leqJobS_0:=Nat×(Bool)
noncomputable def fl_leqJobS_0:A_leqJobS_0:=(99,(false:Bool))
noncomputable def ss_leqJobS_0 (x0:List (Int×(Lq1)×Int×List Int)) (x1:List (Int×(Lq1)×Int×List Int)) (x5:Int):V_leqJobS_0 ⊕ A_leqJobS_0:=(cond (decide (x5<((x0.length:Nat):Int))) (cond (decide (0≤x5∧x5<((x0.length:Nat):Int))) (cond (decide (0≤x5∧x5<((x1.length:Nat):Int))) (cond (q_leqJob ((x0.getD x5.toNat ((0:Int),([],((0:Int),[])))).1) (((x0.getD x5.toNat ((0:Int),([],((0:Int),[])))).2).1) ((((x0.getD x5.toNat ((0:Int),([],((0:Int),[])))).2).2).1) ((((x0.getD x5.toNat ((0:Int),([],((0:Int),[])))).2).2).2) ((x1.getD x5.toNat ((0:Int),([],((0:Int),[])))).1) (((x1.getD x5.toNat ((0:Int),([],((0:Int),[])))).2).1) ((((x1.getD x5.toNat ((0:Int),([],((0:Int),[])))).2).2).1) ((((x1.getD x5.toNat ((0:Int),([],((0:Int),[])))).2).2).2)) (cond (!(leqJob ((x0.getD x5.toNat ((0:Int),([],((0:Int),[])))).1) (((x0.getD x5.toNat ((0:Int),([],((0:Int),[])))).2).1) ((((x0.getD x5.toNat ((0:Int),([],((0:Int),[])))).2).2).1) ((((x0.getD x5.toNat ((0:Int),([],((0:Int),[])))).2).2).2) ((x1.getD x5.toNat ((0:Int),([],((0:Int),[])))).1) (((x1.getD x5.toNat ((0:Int),([],((0:Int),[])))).2).1) ((((x1.getD x5.toNat ((0:Int),([],((0:Int),[])))).2).2).1) ((((x1.getD x5.toNat ((0:Int),([],((0:Int),[])))).2).2).2))) (.inr (0,false)) (.inl (x0,x1,IntKind.wrap .i64 (x5+(1:Int))))) (.inr fl_leqJobS_0)) (.inr fl_leqJobS_0)) (.inr fl_leqJobS_0)) (.inr (1,(false:Bool))))
noncomputable def it_leqJobS_0 (x0:List (Int×(Lq1)×Int×List Int)) (x1:List (Int×(Lq1)×Int×List Int)) (x5:Int):A_leqJobS_0:=itX (fun v:V_leqJobS_0=>ss_leqJobS_0 v.1 v.2.1 v.2.2) fl_leqJobS_0 (x0,x1,x5)
noncomputable def ct_leqJobS_0 (a:A_leqJobS_0):CT:=(.br (a.1==0) (.done .ret E_leqJobS_0_0 (((),(),(),(),a.2,u23),())) (.br (a.1==1) (.done (.exit 0) E_leqJobS_0_1 ((u28),())) .fail))
noncomputable def T_leqJobS_0 (x0:List (Int×(Lq1)×Int×List Int)) (x1:List (Int×(Lq1)×Int×List Int)) (x5:Int):CT:=ct_leqJobS_0 (it_leqJobS_0 x0 x1 x5)
noncomputable abbrev sp_leqJobS_0:S_leqJobS_0.den→RT S_leqJobS_0.den:=(fun d=>st_leqJobS_0 d.1.1 d.1.2.1 d.1.2.2.2.2.2.1)
noncomputable def body_leqJobS_0:Code:=((loopsIn 0 (bodyOf Try.f51)).getD 0 (0,.skip)).2
noncomputable abbrev pv_leqJobS_0 (v:V_leqJobS_0):S_leqJobS_0.den:=((v.1,v.2.1,(),(),(),v.2.2,u22),())
theorem rl_leqJobS_0:(∀ v:V_leqJobS_0,(st_leqJobS_0 v.1 v.2.1 v.2.2).val=relS pv_leqJobS_0 ct_leqJobS_0 (ss_leqJobS_0 v.1 v.2.1 v.2.2))∧∀ a:A_leqJobS_0,CEnd S_leqJobS_0.den (ct_leqJobS_0 a):=⟨fun v=>(relB (relB (relB (relB (relB rfl rfl) rfl) rfl) rfl) rfl),fun a=>(cendB (cendD (by simp)) (cendB (cendD (by simp)) cendF))⟩
theorem rdA_leqJobS_0:RdA G60 (fun _ _=>none) 0 body_leqJobS_0 S_leqJobS_0 0 [] (kepts [4] [(0,[])]) (fun d=>(sp_leqJobS_0 d).opt 0 []):=by
 intro d
 kernel_rfl
noncomputable abbrev say_leqJobS_0:St→Option Tree:=S_leqJobS_0.say 0 [] [] (fun d=>T_leqJobS_0 d.1.1 d.1.2.1 d.1.2.2.2.2.2.1)
theorem lw_leqJobS_0:LoopWp Try.prog say_leqJobS_0 body_leqJobS_0:=SS.wp2 hlz [] sp_leqJobS_0 rdA_leqJobS_0 (fun d=>rfl) _ (fun d=>Runs.ofI2 (step:=sp_leqJobS_0) pv_leqJobS_0 rl_leqJobS_0 rfl (d.1.1,d.1.2.1,d.1.2.2.2.2.2.1))
noncomputable def leqJobS (a0:List (Int×(Lq1)×Int×List Int)) (a1:List (Int×(Lq1)×Int×List Int)):Bool:=(cond (((a0.length:Nat):Int) != ((a1.length:Nat):Int)) false (cond ((it_leqJobS_0 a0 a1 (0:Int)).1==0) ((it_leqJobS_0 a0 a1 (0:Int)).2) true))
noncomputable abbrev e_leqJobS (r:Bool):AV×List AObj:=((.t true .bool r),[])
noncomputable abbrev g_leqJobS:pshsDen P_leqJobS→AV×List AObj:=fun d=>e_leqJobS (leqJobS d.1 d.2.1)
noncomputable def q_leqJobS (a0:List (Int×(Lq1)×Int×List Int)) (a1:List (Int×(Lq1)×Int×List Int)):Bool:=cond (((a0.length:Nat):Int) != ((a1.length:Nat):Int)) true (cond ((it_leqJobS_0 a0 a1 (0:Int)).1==0) true ((it_leqJobS_0 a0 a1 (0:Int)).1==1))
noncomputable abbrev pre_leqJobS:pshsDen P_leqJobS→Bool:=fun d=>q_leqJobS d.1 d.2.1
noncomputable abbrev L_leqJobS:Nat→St→Option Tree:=fun b=>match b with | 0=>say_leqJobS_0 | _=>fun _=>none
theorem run_leqJobS:RunP true G60 (L_leqJobS) Try.f51 P_leqJobS pre_leqJobS g_leqJobS:=by
 rintro ⟨a0,⟨a1,_⟩⟩ hp
 change q_leqJobS a0 a1=true at hp
 unfold q_leqJobS at hp
 refine Eq.trans (b:=(cond (((a0.length:Nat):Int) != ((a1.length:Nat):Int)) (some (e_leqJobS false)) (cond ((it_leqJobS_0 a0 a1 (0:Int)).1==0) (some (e_leqJobS ((it_leqJobS_0 a0 a1 (0:Int)).2))) (cond ((it_leqJobS_0 a0 a1 (0:Int)).1==1) (some (e_leqJobS true)) none)))) (by kernel_rfl) ?_
 exact (cndE e_leqJobS hp (fun hp=>rfl) (fun hp=>(cndE e_leqJobS hp (fun hp=>rfl) (fun hp=>(cndT hp fun _h=>rfl)))))
theorem c_leqJobS:PContract Try.prog 51 (sumOf P_leqJobS pre_leqJobS g_leqJobS):=pcD true G60 (hl1 (i:=0) (by kernel_rfl) lw_leqJobS_0) run_leqJobS
noncomputable def S61:Tab:=Tab.add S60 51 (lift (sumOf P_leqJobS pre_leqJobS g_leqJobS))
noncomputable def QF61:FuncId→Bool:=qadd QF60 51
theorem G61:Good Try.prog tt S61 QF61:=G60.addQ c_leqJobS (cbl Try.f51) (fun _=>rfl)

noncomputable abbrev P_leqChoice:List PSh:=[.agg [(.int .i64),.bool],.agg [(.int .i64),.bool]]
noncomputable def leqChoice (a0:Int) (a1:Bool) (a2:Int) (a3:Bool):Bool:=(cond (a0 != a2) false (cond (!(a1==a3)) false true))
noncomputable abbrev e_leqChoice (r:Bool):AV×List AObj:=((.t true .bool r),[])
noncomputable abbrev g_leqChoice:pshsDen P_leqChoice→AV×List AObj:=fun d=>e_leqChoice (leqChoice d.1.1 d.1.2.1 d.2.1.1 d.2.1.2.1)
noncomputable abbrev pre_leqChoice:pshsDen P_leqChoice→Bool:=fun d=>true
theorem run_leqChoice:RunP true G61 (fun _ _=>none) Try.f95 P_leqChoice pre_leqChoice g_leqChoice:=by
 rintro ⟨⟨a0,⟨a1,_⟩⟩,⟨⟨a2,⟨a3,_⟩⟩,_⟩⟩ hp
 refine Eq.trans (b:=(cond (a0 != a2) (some (e_leqChoice false)) (cond (!(a1==a3)) (some (e_leqChoice false)) (some (e_leqChoice true))))) (by kernel_rfl) ?_
 exact (cndG e_leqChoice (fun _h=>rfl) (fun _h=>(cndG e_leqChoice (fun _h=>rfl) (fun _h=>rfl))))
theorem c_leqChoice:PContract Try.prog 95 (sumOf P_leqChoice pre_leqChoice g_leqChoice):=pcD true G61 hlz run_leqChoice
noncomputable def S62:Tab:=Tab.add S61 95 (lift (sumOf P_leqChoice pre_leqChoice g_leqChoice))
noncomputable def QF62:FuncId→Bool:=qadd QF61 95
theorem G62:Good Try.prog tt S62 QF62:=G61.addQ c_leqChoice (cbl Try.f95) (fun _=>rfl)


noncomputable def f_leqChoiceS_0 (x0 x1:LIbe) (i:Nat):Bool:=!(!(leqChoice ((x0.getD i ((0:Int),false)).1) ((x0.getD i ((0:Int),false)).2) ((x1.getD i ((0:Int),false)).1) ((x1.getD i ((0:Int),false)).2)))
noncomputable abbrev P_leqChoiceS:List PSh:=[.t tq3,.t tq3]
noncomputable abbrev S_leqChoiceS_0:SS:=⟨(.t false tq3::.t false tq3::.junk::.junk::.junk::.t true (.int .i64)::jS21),[]⟩
noncomputable abbrev E_leqChoiceS_0_0:SS:=⟨(.junk::.junk::.junk::.junk::.t true .bool::jS22),[]⟩
noncomputable abbrev E_leqChoiceS_0_1:SS:=⟨(.junk::jS26),[]⟩
noncomputable def st_leqChoiceS_0 (x0:LIbe) (x1:LIbe) (x5:Int):RT S_leqChoiceS_0.den:=(.br (decide (x5<((x0.length:Nat):Int))) (.br (decide (0≤x5∧x5<((x0.length:Nat):Int))) (.br (decide (0≤x5∧x5<((x1.length:Nat):Int))) (.br (!(leqChoice ((x0.getD x5.toNat ((0:Int),false)).1) ((x0.getD x5.toNat ((0:Int),false)).2) ((x1.getD x5.toNat ((0:Int),false)).1) ((x1.getD x5.toNat ((0:Int),false)).2))) (.done .ret E_leqChoiceS_0_0 (((),(),(),(),false,u23),())) (.next ((x0,x1,(),(),(),IntKind.wrap .i64 (x5+(1:Int)),u22),()))) .fail) .fail) (.done (.exit 0) E_leqChoiceS_0_1 ((u28),())))
noncomputable def T_leqChoiceS_0 (x0:LIbe) (x1:LIbe) (x5:Int):CT:=(.br (decide (0≤x5)&&(decide (x0.length=x1.length)&&okL x0)) (.br (allF (f_leqChoiceS_0 x0 x1) (x0.length - x5.toNat) x5.toNat) (.done (.exit 0) E_leqChoiceS_0_1 ((u28),())) (.done .ret E_leqChoiceS_0_0 (((),(),(),(),false,u23),()))) .fail)
noncomputable abbrev sp_leqChoiceS_0:S_leqChoiceS_0.den→RT S_leqChoiceS_0.den:=(fun d=>st_leqChoiceS_0 d.1.1 d.1.2.1 d.1.2.2.2.2.2.1)
noncomputable abbrev pk_leqChoiceS_0 (x0:LIbe) (x1:LIbe) (x5:Int):S_leqChoiceS_0.den:=((x0,x1,(),(),(),x5,u22),())
noncomputable def body_leqChoiceS_0:Code:=((loopsIn 0 (bodyOf Try.f52)).getD 0 (0,.skip)).2
theorem R_leqChoiceS_0 (x0:LIbe) (x1:LIbe) (x5:Int):(T_leqChoiceS_0 x0 x1 x5).val (D:=S_leqChoiceS_0.den)=.fail∨Runs sp_leqChoiceS_0 (pk_leqChoiceS_0 x0 x1 x5) (T_leqChoiceS_0 x0 x1 x5).val:=by
 cases hc:(decide (0≤x5)&&(decide (x0.length=x1.length)&&okL x0)) with
 | false=>left;simp only [T_leqChoiceS_0,CT.val,hc,cond_false]
 | true =>
  right
  simp only [T_leqChoiceS_0,CT.val,hc,cond_true]
  simp only [Bool.and_eq_true,decide_eq_true_eq] at hc
  obtain ⟨i,rfl⟩:=Int.eq_ofNat_of_zero_le hc.1
  have hs:=okL_le hc.2.2
  simp only [Int.toNat_natCast]
  refine Runs.scan (fun j=>pk_leqChoiceS_0 x0 x1 (j:Int)) (x0.length) (f_leqChoiceS_0 x0 x1) (fun i hi=>?_) (fun i hi=>?_) ⟨_,_,_,rfl,by simp⟩ ⟨_,_,_,rfl,by simp⟩ _ _ rfl
  ·
   have h0a:decide ((i:Int)<((x0.length:Nat):Int))=true:=decide_eq_true (by omega)
   have h0b:decide (0≤(i:Int)∧(i:Int)<((x0.length:Nat):Int))=true:=decide_eq_true (by omega)
   simp only [sp_leqChoiceS_0,st_leqChoiceS_0,RT.val,h0a,h0b,cond_true,wrapS i (by omega),Int.toNat_natCast]
   have h9:decide (0≤(i:Int)∧(i:Int)<((x1.length:Nat):Int))=true:=decide_eq_true (by omega)
   simp only [h9,cond_true]
   simp only [f_leqChoiceS_0]
   generalize (!(leqChoice ((x0.getD i ((0:Int),false)).1) ((x0.getD i ((0:Int),false)).2) ((x1.getD i ((0:Int),false)).1) ((x1.getD i ((0:Int),false)).2)))=c
   cases c<;>rfl
  ·have h1:decide ((i:Int)<((x0.length:Nat):Int))=false:=decide_eq_false (by omega)
   simp only [sp_leqChoiceS_0,st_leqChoiceS_0,RT.val,h1,cond_false]
theorem rdA_leqChoiceS_0:RdA G62 (fun _ _=>none) 0 body_leqChoiceS_0 S_leqChoiceS_0 0 [] (kepts [4] [(0,[])]) (fun d=>(sp_leqChoiceS_0 d).opt 0 []):=by
 intro d
 kernel_rfl
noncomputable abbrev say_leqChoiceS_0:St→Option Tree:=S_leqChoiceS_0.say 0 [] [] (fun d=>T_leqChoiceS_0 d.1.1 d.1.2.1 d.1.2.2.2.2.2.1)
theorem lw_leqChoiceS_0:LoopWp Try.prog say_leqChoiceS_0 body_leqChoiceS_0:=SS.wp2 hlz [] sp_leqChoiceS_0 rdA_leqChoiceS_0 (fun d=>rfl) _ (fun d=>R_leqChoiceS_0 d.1.1 d.1.2.1 d.1.2.2.2.2.2.1)
noncomputable def leqChoiceS (a0:LIbe) (a1:LIbe):Bool:=(cond (((a0.length:Nat):Int) != ((a1.length:Nat):Int)) false (cond (allF (f_leqChoiceS_0 a0 a1) (a0.length - (0:Int).toNat) (0:Int).toNat) true false))
noncomputable abbrev e_leqChoiceS (r:Bool):AV×List AObj:=((.t true .bool r),[])
noncomputable abbrev g_leqChoiceS:pshsDen P_leqChoiceS→AV×List AObj:=fun d=>e_leqChoiceS (leqChoiceS d.1 d.2.1)
noncomputable def q_leqChoiceS (a0:LIbe) (a1:LIbe):Bool:=okL a0
noncomputable abbrev pre_leqChoiceS:pshsDen P_leqChoiceS→Bool:=fun d=>q_leqChoiceS d.1 d.2.1
noncomputable abbrev L_leqChoiceS:Nat→St→Option Tree:=fun b=>match b with | 0=>say_leqChoiceS_0 | _=>fun _=>none
theorem run_leqChoiceS:RunP true G62 (L_leqChoiceS) Try.f52 P_leqChoiceS pre_leqChoiceS g_leqChoiceS:=by
 rintro ⟨a0,⟨a1,_⟩⟩ hp
 change q_leqChoiceS a0 a1=true at hp
 unfold q_leqChoiceS at hp
 refine Eq.trans (b:=(cond (((a0.length:Nat):Int) != ((a1.length:Nat):Int)) (some (e_leqChoiceS false)) (cond (decide (0≤(0:Int))&&(decide (a0.length=a1.length)&&okL a0)) (cond (allF (f_leqChoiceS_0 a0 a1) (a0.length - (0:Int).toNat) (0:Int).toNat) (some (e_leqChoiceS true)) (some (e_leqChoiceS false))) none))) (by kernel_rfl) ?_
 exact (cndG e_leqChoiceS (fun _h=>rfl) (fun _h=>(cndT (by simp only [okL,Bool.and_eq_true,decide_eq_true_eq] at hp ⊢;simp at _h;exact ⟨Int.le_refl 0,by omega,hp⟩) (fun _h=>(cndG e_leqChoiceS (fun _h=>rfl) (fun _h=>rfl))))))
theorem c_leqChoiceS:PContract Try.prog 52 (sumOf P_leqChoiceS pre_leqChoiceS g_leqChoiceS):=pcD true G62 (hl1 (i:=0) (by kernel_rfl) lw_leqChoiceS_0) run_leqChoiceS
noncomputable def S63:Tab:=Tab.add S62 52 (lift (sumOf P_leqChoiceS pre_leqChoiceS g_leqChoiceS))
noncomputable def QF63:FuncId→Bool:=qadd QF62 52
theorem G63:Good Try.prog tt S63 QF63:=G62.addQ c_leqChoiceS (cbl Try.f52) (fun _=>rfl)

noncomputable abbrev P_leqCoord:List PSh:=[.agg [(.int .i64),(.int .i64),(.int .i64),tq2,tq3,(.int .i64)],.agg [(.int .i64),(.int .i64),(.int .i64),tq2,tq3,(.int .i64)]]
noncomputable def leqCoord (a0:Int) (a1:Int) (a2:Int) (a3:List (Int×(Lq1)×Int×List Int)) (a4:LIbe) (a5:Int) (a6:Int) (a7:Int) (a8:Int) (a9:List (Int×(Lq1)×Int×List Int)) (a10:LIbe) (a11:Int):Bool:=(cond (a0 != a6) false (cond (a1 != a7) false (cond (a2 != a8) false (cond (!(leqJobS a3 a9)) false (cond (!(leqChoiceS a4 a10)) false (cond (a5 != a11) false true))))))
noncomputable abbrev e_leqCoord (r:Bool):AV×List AObj:=((.t true .bool r),[])
noncomputable abbrev g_leqCoord:pshsDen P_leqCoord→AV×List AObj:=fun d=>e_leqCoord (leqCoord d.1.1 d.1.2.1 d.1.2.2.1 d.1.2.2.2.1 d.1.2.2.2.2.1 d.1.2.2.2.2.2.1 d.2.1.1 d.2.1.2.1 d.2.1.2.2.1 d.2.1.2.2.2.1 d.2.1.2.2.2.2.1 d.2.1.2.2.2.2.2.1)
noncomputable def q_leqCoord (a0:Int) (a1:Int) (a2:Int) (a3:List (Int×(Lq1)×Int×List Int)) (a4:LIbe) (a5:Int) (a6:Int) (a7:Int) (a8:Int) (a9:List (Int×(Lq1)×Int×List Int)) (a10:LIbe) (a11:Int):Bool:=cond (a0 != a6) true (cond (a1 != a7) true (cond (a2 != a8) true ((q_leqJobS a3 a9)&&(cond (!(leqJobS a3 a9)) true (q_leqChoiceS a4 a10)))))
noncomputable abbrev pre_leqCoord:pshsDen P_leqCoord→Bool:=fun d=>q_leqCoord d.1.1 d.1.2.1 d.1.2.2.1 d.1.2.2.2.1 d.1.2.2.2.2.1 d.1.2.2.2.2.2.1 d.2.1.1 d.2.1.2.1 d.2.1.2.2.1 d.2.1.2.2.2.1 d.2.1.2.2.2.2.1 d.2.1.2.2.2.2.2.1
theorem run_leqCoord:RunP true G63 (fun _ _=>none) Try.f17 P_leqCoord pre_leqCoord g_leqCoord:=by
 rintro ⟨⟨a0,⟨a1,⟨a2,⟨a3,⟨a4,⟨a5,_⟩⟩⟩⟩⟩⟩,⟨⟨a6,⟨a7,⟨a8,⟨a9,⟨a10,⟨a11,_⟩⟩⟩⟩⟩⟩,_⟩⟩ hp
 change q_leqCoord a0 a1 a2 a3 a4 a5 a6 a7 a8 a9 a10 a11=true at hp
 unfold q_leqCoord at hp
 refine Eq.trans (b:=(cond (a0 != a6) (some (e_leqCoord false)) (cond (a1 != a7) (some (e_leqCoord false)) (cond (a2 != a8) (some (e_leqCoord false)) (cond (q_leqJobS a3 a9) (cond (!(leqJobS a3 a9)) (some (e_leqCoord false)) (cond (q_leqChoiceS a4 a10) (cond (!(leqChoiceS a4 a10)) (some (e_leqCoord false)) (cond (a5 != a11) (some (e_leqCoord false)) (some (e_leqCoord true)))) none)) none))))) (by kernel_rfl) ?_
 exact (cndE e_leqCoord hp (fun hp=>rfl) (fun hp=>(cndE e_leqCoord hp (fun hp=>rfl) (fun hp=>(cndE e_leqCoord hp (fun hp=>rfl) (fun hp=>(cndA hp fun hp=>(cndE e_leqCoord hp (fun hp=>rfl) (fun hp=>(cndT hp fun _h=>(cndG e_leqCoord (fun _h=>rfl) (fun _h=>(cndG e_leqCoord (fun _h=>rfl) (fun _h=>rfl))))))))))))))
theorem c_leqCoord:PContract Try.prog 17 (sumOf P_leqCoord pre_leqCoord g_leqCoord):=pcD true G63 hlz run_leqCoord
noncomputable def S64:Tab:=Tab.add S63 17 (lift (sumOf P_leqCoord pre_leqCoord g_leqCoord))
noncomputable def QF64:FuncId→Bool:=qadd QF63 17
theorem G64:Good Try.prog tt S64 QF64:=G63.addQ c_leqCoord (cbl Try.f17) (fun _=>rfl)

noncomputable abbrev P_lmarkText:List PSh:=[.t (.int .i64)]
noncomputable abbrev S_lmarkText_0:SS:=⟨(.t true (.int .i64)::.junk::.junk::.t true .str::jS16),[]⟩
noncomputable abbrev E_lmarkText_0_0:SS:=⟨(.junk::.junk::.junk::.t true .str::jS16),[]⟩
noncomputable def st_lmarkText_0 (x0:Int) (x3:ByteArray):RT S_lmarkText_0.den:=(.br (decide (x0 > (0:Int))) (.br (decide ((((⟨([IntKind.wrap .u8 (IntKind.wrap .i64 ((48:Int)+(Int.tmod x0 (10:Int))))].map fun n=>UInt8.ofNat n.toNat).toArray⟩:ByteArray).size+x3.size:Nat):Int)≤IntKind.i64.max)) (.next ((IntKind.wrap .i64 (Int.tdiv x0 (10:Int)),(),(),(⟨([IntKind.wrap .u8 (IntKind.wrap .i64 ((48:Int)+(Int.tmod x0 (10:Int))))].map fun n=>UInt8.ofNat n.toNat).toArray⟩:ByteArray)++x3,u17),())) .fail) (.done (.exit 0) E_lmarkText_0_0 (((),(),(),x3,u17),())))
noncomputable def T_lmarkText_0 (x0:Int) (x3:ByteArray):CT:=(.br (decide (x0≤1000000000000)&&decide (x3.size≤1000)) (.done (.exit 0) E_lmarkText_0_0 (((),(),(),(txtN 13 x0 x3),u17),())) .fail)
noncomputable abbrev sp_lmarkText_0:S_lmarkText_0.den→RT S_lmarkText_0.den:=(fun d=>st_lmarkText_0 d.1.1 d.1.2.2.2.1)
noncomputable abbrev pk_lmarkText_0 (x0:Int) (x3:ByteArray):S_lmarkText_0.den:=((x0,(),(),x3,u17),())
noncomputable def body_lmarkText_0:Code:=((loopsIn 0 (bodyOf Try.f117)).getD 0 (0,.skip)).2
theorem R_lmarkText_0 (x0:Int) (x3:ByteArray):(T_lmarkText_0 x0 x3).val (D:=S_lmarkText_0.den)=.fail∨Runs sp_lmarkText_0 (pk_lmarkText_0 x0 x3) (T_lmarkText_0 x0 x3).val:=by
 cases hc:(decide (x0≤1000000000000)&&decide (x3.size≤1000)) with
 | false=>left;simp only [T_lmarkText_0,CT.val,hc,cond_false]
 | true =>
  right
  simp only [T_lmarkText_0,CT.val,hc,cond_true]
  simp only [Bool.and_eq_true,decide_eq_true_eq] at hc
  have key:∀ (k:Nat) (x:Int) (s:ByteArray),x<10 ^ k→x≤1000000000000→s.size+k≤2000→Runs sp_lmarkText_0 (pk_lmarkText_0 x s) (((.done (.exit 0) E_lmarkText_0_0 (((),(),(),(txtN k x s),u17),())):CT).val (D:=S_lmarkText_0.den)):=by
   intro k
   induction k with
   | zero =>
    intro x s h1 h2 h3
    rw [show (10:Int) ^ 0=1 from rfl] at h1
    have e1:decide (x > (0:Int))=false:=decide_eq_false (by omega)
    refine .done (by simp) ?_
    simp only [sp_lmarkText_0,st_lmarkText_0,RT.val,e1,cond_false,txtN]
   | succ k ih =>
    intro x s h1 h2 h3
    rw [Int.pow_succ] at h1
    by_cases hx:x > 0
    ·have e1:decide (x > (0:Int))=true:=decide_eq_true hx
     have e2:decide ((((digB x).size+s.size:Nat):Int)≤IntKind.i64.max)=true:=decide_eq_true (by rw [digB_size,show IntKind.i64.max=9223372036854775807 from rfl];omega)
     have e4:Int.tdiv x (10:Int)=x / 10:=Int.tdiv_eq_ediv_of_nonneg (by omega)
     have e5:IntKind.wrap .i64 (Int.tdiv x (10:Int))=x / 10:=by rw [e4];exact wrap64 (by omega) (by omega)
     have:=ih (IntKind.wrap .i64 (Int.tdiv x (10:Int))) (digB x++s) (by rw [e5];omega) (by rw [e5];omega) (by rw [ByteArray.size_append,digB_size];omega)
     refine .next (d':=pk_lmarkText_0 (IntKind.wrap .i64 (Int.tdiv x (10:Int))) (digB x++s)) ?_ ?_
     ·have e6 : (sp_lmarkText_0 (pk_lmarkText_0 x s)).val = cond (decide ((((digB x).size + s.size : Nat) : Int) ≤ IntKind.i64.max)) (.next (pk_lmarkText_0 (IntKind.wrap .i64 (Int.tdiv x (10 : Int))) (digB x ++ s))) .fail := by
       simp only [sp_lmarkText_0,st_lmarkText_0,RT.val,e1,cond_true];rfl
      rw [e6,e2];rfl
     ·have e3:txtN (k+1) x s=txtN k (IntKind.wrap .i64 (Int.tdiv x (10:Int))) (digB x++s):=by simp only [txtN,e1,cond_true]
      rw [e3]
      exact this
    ·have e1:decide (x > (0:Int))=false:=decide_eq_false hx
     refine .done (by simp) ?_
     simp only [sp_lmarkText_0,st_lmarkText_0,RT.val,e1,cond_false,txtN]
  exact key 13 x0 x3 (by have:=hc.1;rw [show (10:Int) ^ 13=10000000000000 from rfl];omega) hc.1 (by have:=hc.2;omega)
theorem rdA_lmarkText_0:RdA G64 (fun _ _=>none) 0 body_lmarkText_0 S_lmarkText_0 0 [] (kepts [] [(0,[3])]) (fun d=>(sp_lmarkText_0 d).opt 0 []):=by
 intro d
 kernel_rfl
noncomputable abbrev say_lmarkText_0:St→Option Tree:=S_lmarkText_0.say 0 [] [] (fun d=>T_lmarkText_0 d.1.1 d.1.2.2.2.1)
theorem lw_lmarkText_0:LoopWp Try.prog say_lmarkText_0 body_lmarkText_0:=SS.wp2 hlz [] sp_lmarkText_0 rdA_lmarkText_0 (fun d=>rfl) _ (fun d=>R_lmarkText_0 d.1.1 d.1.2.2.2.1)
noncomputable def lmarkText (a0:Int):ByteArray:=(cond (decide (a0≤(0:Int))) (⟨#[109,48]⟩:ByteArray) ((⟨#[109]⟩:ByteArray)++(txtN 13 a0 bE)))
noncomputable abbrev e_lmarkText (r:ByteArray):AV×List AObj:=((.t true .str r),[])
noncomputable abbrev g_lmarkText:pshsDen P_lmarkText→AV×List AObj:=fun d=>e_lmarkText (lmarkText d.1)
noncomputable def q_lmarkText (a0:Int):Bool:=decide (a0≤1000000000000)
noncomputable abbrev pre_lmarkText:pshsDen P_lmarkText→Bool:=fun d=>q_lmarkText d.1
noncomputable abbrev L_lmarkText:Nat→St→Option Tree:=fun b=>match b with | 0=>say_lmarkText_0 | _=>fun _=>none
theorem run_lmarkText:RunP true G64 (L_lmarkText) Try.f117 P_lmarkText pre_lmarkText g_lmarkText:=by
 rintro ⟨a0,_⟩ hp
 change q_lmarkText a0=true at hp
 unfold q_lmarkText at hp
 refine Eq.trans (b:=(cond (decide (a0≤(0:Int))) (some (e_lmarkText (⟨#[109,48]⟩:ByteArray))) (cond (decide (a0≤1000000000000)&&decide ((⟨#[]⟩:ByteArray).size≤1000)) (cond (decide ((((⟨#[109]⟩:ByteArray).size+(txtN 13 a0 (⟨#[]⟩:ByteArray)).size:Nat):Int)≤IntKind.i64.max)) (some (e_lmarkText ((⟨#[109]⟩:ByteArray)++(txtN 13 a0 (⟨#[]⟩:ByteArray))))) none) none))) (by kernel_rfl) ?_
 exact (cndG e_lmarkText (fun _h=>rfl) (fun _h=>(cndT (by rw [hp];rfl) (fun _h=>(cndT (by have h1:=txtN_len 13 a0 (⟨#[]⟩:ByteArray);rw [decide_eq_true_eq];have h2:((⟨#[]⟩:ByteArray)).size=0:=rfl;have h3:((⟨#[109]⟩:ByteArray)).size=1:=rfl;rw [h2] at h1;rw [h3,show IntKind.i64.max=9223372036854775807 from rfl];omega) (fun _h=>rfl))))))
theorem c_lmarkText:PContract Try.prog 117 (sumOf P_lmarkText pre_lmarkText g_lmarkText):=pcD true G64 (hl1 (i:=0) (by kernel_rfl) lw_lmarkText_0) run_lmarkText
noncomputable def S65:Tab:=Tab.add S64 117 (lift (sumOf P_lmarkText pre_lmarkText g_lmarkText))
noncomputable def QF65:FuncId→Bool:=qadd QF64 117
theorem G65:Good Try.prog tt S65 QF65:=G64.addQ c_lmarkText (cbl Try.f117) (fun _=>rfl)

noncomputable abbrev jS30:List Sh:=.junk::.junk::.junk::.junk::jS26
noncomputable abbrev u31:=((),(),(),u28)
noncomputable abbrev jA30:List AV:=.junk::.junk::.junk::.junk::jA26

noncomputable def f_lmarkOpS_0 (i:Nat) (b:Int×Lq1):Int×Lq1:=(IntKind.wrap .i64 ((IntKind.wrap .i64 ((IntKind.wrap .i64 (b.1+(1:Int)))+(1:Int)))+(1:Int)),((b.2.set i (b.1,(((b.2.getD i ((0:Int),(bE,bE))).2).1,((b.2.getD i ((0:Int),(bE,bE))).2).2))).set i (((b.2.set i (b.1,(((b.2.getD i ((0:Int),(bE,bE))).2).1,((b.2.getD i ((0:Int),(bE,bE))).2).2))).getD i ((0:Int),(bE,bE))).1,((lmarkText (IntKind.wrap .i64 (b.1+(1:Int)))),(((b.2.set i (b.1,(((b.2.getD i ((0:Int),(bE,bE))).2).1,((b.2.getD i ((0:Int),(bE,bE))).2).2))).getD i ((0:Int),(bE,bE))).2).2))).set i ((((b.2.set i (b.1,(((b.2.getD i ((0:Int),(bE,bE))).2).1,((b.2.getD i ((0:Int),(bE,bE))).2).2))).set i (((b.2.set i (b.1,(((b.2.getD i ((0:Int),(bE,bE))).2).1,((b.2.getD i ((0:Int),(bE,bE))).2).2))).getD i ((0:Int),(bE,bE))).1,((lmarkText (IntKind.wrap .i64 (b.1+(1:Int)))),(((b.2.set i (b.1,(((b.2.getD i ((0:Int),(bE,bE))).2).1,((b.2.getD i ((0:Int),(bE,bE))).2).2))).getD i ((0:Int),(bE,bE))).2).2))).getD i ((0:Int),(bE,bE))).1,(((((b.2.set i (b.1,(((b.2.getD i ((0:Int),(bE,bE))).2).1,((b.2.getD i ((0:Int),(bE,bE))).2).2))).set i (((b.2.set i (b.1,(((b.2.getD i ((0:Int),(bE,bE))).2).1,((b.2.getD i ((0:Int),(bE,bE))).2).2))).getD i ((0:Int),(bE,bE))).1,((lmarkText (IntKind.wrap .i64 (b.1+(1:Int)))),(((b.2.set i (b.1,(((b.2.getD i ((0:Int),(bE,bE))).2).1,((b.2.getD i ((0:Int),(bE,bE))).2).2))).getD i ((0:Int),(bE,bE))).2).2))).getD i ((0:Int),(bE,bE))).2).1,(lmarkText (IntKind.wrap .i64 ((IntKind.wrap .i64 (b.1+(1:Int)))+(1:Int)))))))
noncomputable abbrev SM_lmarkOpS:SS:=⟨[.all 0 3,.t true (.int .i64)],[.rows 90 true tq7]⟩
noncomputable abbrev S_lmarkOpS_0:SS:=⟨(.all 0 3::.t true (.int .i64)::.junk::.junk::.junk::.t true (.int .i64)::jS30),[.rows 90 true tq7]⟩
noncomputable abbrev E_lmarkOpS_0_0:SS:=⟨(.junk::.t true (.int .i64)::jS34),[.rows 90 true tq7]⟩
noncomputable def st_lmarkOpS_0 (x1:Int) (x5:Int) (h0:Lq1):RT S_lmarkOpS_0.den:=(.br (decide (x5<((h0.length:Nat):Int))) (.br (decide (0≤x5∧x5<((h0.length:Nat):Int))) (.br (q_lmarkText (IntKind.wrap .i64 (x1+(1:Int)))) (.br (decide (0≤x5∧x5<(((h0.set x5.toNat (x1,(((h0.getD x5.toNat ((0:Int),(bE,bE))).2).1,((h0.getD x5.toNat ((0:Int),(bE,bE))).2).2))).length:Nat):Int))) (.br (q_lmarkText (IntKind.wrap .i64 ((IntKind.wrap .i64 (x1+(1:Int)))+(1:Int)))) (.br (decide (0≤x5∧x5<((((h0.set x5.toNat (x1,(((h0.getD x5.toNat ((0:Int),(bE,bE))).2).1,((h0.getD x5.toNat ((0:Int),(bE,bE))).2).2))).set x5.toNat (((h0.set x5.toNat (x1,(((h0.getD x5.toNat ((0:Int),(bE,bE))).2).1,((h0.getD x5.toNat ((0:Int),(bE,bE))).2).2))).getD x5.toNat ((0:Int),(bE,bE))).1,((lmarkText (IntKind.wrap .i64 (x1+(1:Int)))),(((h0.set x5.toNat (x1,(((h0.getD x5.toNat ((0:Int),(bE,bE))).2).1,((h0.getD x5.toNat ((0:Int),(bE,bE))).2).2))).getD x5.toNat ((0:Int),(bE,bE))).2).2))).length:Nat):Int))) (.next (((),IntKind.wrap .i64 ((IntKind.wrap .i64 ((IntKind.wrap .i64 (x1+(1:Int)))+(1:Int)))+(1:Int)),(),(),(),IntKind.wrap .i64 (x5+(1:Int)),u31),(((h0.set x5.toNat (x1,(((h0.getD x5.toNat ((0:Int),(bE,bE))).2).1,((h0.getD x5.toNat ((0:Int),(bE,bE))).2).2))).set x5.toNat (((h0.set x5.toNat (x1,(((h0.getD x5.toNat ((0:Int),(bE,bE))).2).1,((h0.getD x5.toNat ((0:Int),(bE,bE))).2).2))).getD x5.toNat ((0:Int),(bE,bE))).1,((lmarkText (IntKind.wrap .i64 (x1+(1:Int)))),(((h0.set x5.toNat (x1,(((h0.getD x5.toNat ((0:Int),(bE,bE))).2).1,((h0.getD x5.toNat ((0:Int),(bE,bE))).2).2))).getD x5.toNat ((0:Int),(bE,bE))).2).2))).set x5.toNat ((((h0.set x5.toNat (x1,(((h0.getD x5.toNat ((0:Int),(bE,bE))).2).1,((h0.getD x5.toNat ((0:Int),(bE,bE))).2).2))).set x5.toNat (((h0.set x5.toNat (x1,(((h0.getD x5.toNat ((0:Int),(bE,bE))).2).1,((h0.getD x5.toNat ((0:Int),(bE,bE))).2).2))).getD x5.toNat ((0:Int),(bE,bE))).1,((lmarkText (IntKind.wrap .i64 (x1+(1:Int)))),(((h0.set x5.toNat (x1,(((h0.getD x5.toNat ((0:Int),(bE,bE))).2).1,((h0.getD x5.toNat ((0:Int),(bE,bE))).2).2))).getD x5.toNat ((0:Int),(bE,bE))).2).2))).getD x5.toNat ((0:Int),(bE,bE))).1,(((((h0.set x5.toNat (x1,(((h0.getD x5.toNat ((0:Int),(bE,bE))).2).1,((h0.getD x5.toNat ((0:Int),(bE,bE))).2).2))).set x5.toNat (((h0.set x5.toNat (x1,(((h0.getD x5.toNat ((0:Int),(bE,bE))).2).1,((h0.getD x5.toNat ((0:Int),(bE,bE))).2).2))).getD x5.toNat ((0:Int),(bE,bE))).1,((lmarkText (IntKind.wrap .i64 (x1+(1:Int)))),(((h0.set x5.toNat (x1,(((h0.getD x5.toNat ((0:Int),(bE,bE))).2).1,((h0.getD x5.toNat ((0:Int),(bE,bE))).2).2))).getD x5.toNat ((0:Int),(bE,bE))).2).2))).getD x5.toNat ((0:Int),(bE,bE))).2).1,(lmarkText (IntKind.wrap .i64 ((IntKind.wrap .i64 (x1+(1:Int)))+(1:Int)))))),()))) .fail) .fail) .fail) .fail) .fail) (.done (.exit 0) E_lmarkOpS_0_0 (((),x1,u35),(h0,()))))
noncomputable def T_lmarkOpS_0 (x1:Int) (x5:Int) (h0:Lq1):CT:=(.br (decide (0≤x5)&&(decide (0≤x1∧x1≤100000*(x5+100))&&okL h0)) (.done (.exit 0) E_lmarkOpS_0_0 (((),((foldN f_lmarkOpS_0 (h0.length - x5.toNat) x5.toNat (x1,h0)).1),u35),(((foldN f_lmarkOpS_0 (h0.length - x5.toNat) x5.toNat (x1,h0)).2),()))) .fail)
noncomputable abbrev sp_lmarkOpS_0:S_lmarkOpS_0.den→RT S_lmarkOpS_0.den:=(fun d=>st_lmarkOpS_0 d.1.2.1 d.1.2.2.2.2.2.1 d.2.1)
noncomputable abbrev pk_lmarkOpS_0 (x1:Int) (x5:Int) (h0:Lq1):S_lmarkOpS_0.den:=(((),x1,(),(),(),x5,u31),(h0,()))
noncomputable def body_lmarkOpS_0:Code:=((loopsIn 0 (bodyOf Try.f83)).getD 0 (0,.skip)).2
theorem R_lmarkOpS_0 (x1:Int) (x5:Int) (h0:Lq1):(T_lmarkOpS_0 x1 x5 h0).val (D:=S_lmarkOpS_0.den)=.fail∨Runs sp_lmarkOpS_0 (pk_lmarkOpS_0 x1 x5 h0) (T_lmarkOpS_0 x1 x5 h0).val:=by
 cases hc:(decide (0≤x5)&&(decide (0≤x1∧x1≤100000*(x5+100))&&okL h0)) with
 | false=>left;simp only [T_lmarkOpS_0,CT.val,hc,cond_false]
 | true =>
  right
  simp only [T_lmarkOpS_0,CT.val,hc,cond_true]
  simp only [Bool.and_eq_true,decide_eq_true_eq] at hc
  obtain ⟨i,rfl⟩:=Int.eq_ofNat_of_zero_le hc.1
  have hs:=okL_le hc.2.2
  have hk:=hc.2.1
  simp only [Int.toNat_natCast]
  refine Runs.foldN (step:=sp_lmarkOpS_0) (fun j b=>pk_lmarkOpS_0 b.1 (j:Int) b.2) (fun i b=>(0≤b.1∧b.1≤100000*((i:Int)+100))∧b.2.length=h0.length) (h0.length) f_lmarkOpS_0
   (fin:=fun b=>((.done (.exit 0) E_lmarkOpS_0_0 (((),b.1,u35),(b.2,()))):CT).val) (fun i b hi hb=>?_) (fun i b hi hb=>?_) (h0.length - i) i (x1,h0) rfl ⟨hk,rfl⟩
  ·obtain ⟨k,h⟩:=b
   obtain ⟨hb1,hb2⟩:=hb
   simp only at hb1 hb2
   have w1:IntKind.wrap .i64 (k+(1:Int))=k+(1:Int):=wrap64 (by omega) (by omega)
   have w2:IntKind.wrap .i64 (k+(1:Int)+(1:Int))=k+(1:Int)+(1:Int):=wrap64 (by omega) (by omega)
   have w3:IntKind.wrap .i64 (k+(1:Int)+(1:Int)+(1:Int))=k+(1:Int)+(1:Int)+(1:Int):=wrap64 (by omega) (by omega)
   have e0:(decide (0≤(i:Int)∧(i:Int)<((h.length:Nat):Int)))=true:=decide_eq_true (by (try simp only [List.length_set]);omega)
   have e1:(q_lmarkText (IntKind.wrap .i64 (k+(1:Int))))=true:=by simp only [q_lmarkText,w1,w2,w3];exact decide_eq_true (by omega)
   have e2:(decide (0≤(i:Int)∧(i:Int)<(((h.set i (k,(((h.getD i ((0:Int),((⟨#[]⟩:ByteArray),(⟨#[]⟩:ByteArray)))).2).1,((h.getD i ((0:Int),((⟨#[]⟩:ByteArray),(⟨#[]⟩:ByteArray)))).2).2))).length:Nat):Int)))=true:=decide_eq_true (by (try simp only [List.length_set]);omega)
   have e3:(q_lmarkText (IntKind.wrap .i64 ((IntKind.wrap .i64 (k+(1:Int)))+(1:Int))))=true:=by simp only [q_lmarkText,w1,w2,w3];exact decide_eq_true (by omega)
   have e4:(decide (0≤(i:Int)∧(i:Int)<((((h.set i (k,(((h.getD i ((0:Int),((⟨#[]⟩:ByteArray),(⟨#[]⟩:ByteArray)))).2).1,((h.getD i ((0:Int),((⟨#[]⟩:ByteArray),(⟨#[]⟩:ByteArray)))).2).2))).set i (((h.set i (k,(((h.getD i ((0:Int),((⟨#[]⟩:ByteArray),(⟨#[]⟩:ByteArray)))).2).1,((h.getD i ((0:Int),((⟨#[]⟩:ByteArray),(⟨#[]⟩:ByteArray)))).2).2))).getD i ((0:Int),((⟨#[]⟩:ByteArray),(⟨#[]⟩:ByteArray)))).1,((lmarkText (IntKind.wrap .i64 (k+(1:Int)))),(((h.set i (k,(((h.getD i ((0:Int),((⟨#[]⟩:ByteArray),(⟨#[]⟩:ByteArray)))).2).1,((h.getD i ((0:Int),((⟨#[]⟩:ByteArray),(⟨#[]⟩:ByteArray)))).2).2))).getD i ((0:Int),((⟨#[]⟩:ByteArray),(⟨#[]⟩:ByteArray)))).2).2))).length:Nat):Int)))=true:=decide_eq_true (by (try simp only [List.length_set]);omega)
   have h1:decide ((i:Int)<((h.length:Nat):Int))=true:=decide_eq_true (by omega)
   have v1:(f_lmarkOpS_0 i (k,h)).1=k+(1:Int)+(1:Int)+(1:Int):=by simp only [f_lmarkOpS_0,w1,w2,w3]
   have v2:(f_lmarkOpS_0 i (k,h)).2.length=h.length:=by simp only [f_lmarkOpS_0,List.length_set]
   refine ⟨⟨by rw [v1];omega,by rw [v2];exact hb2⟩,?_⟩
   simp only [sp_lmarkOpS_0,st_lmarkOpS_0,RT.val,h1,e0,e1,e2,e3,e4,cond_true,wrapS i (by omega),Int.toNat_natCast]
   rfl
  ·have h1:decide ((i:Int)<((b.2.length:Nat):Int))=false:=decide_eq_false (by omega)
   exact ⟨by simp only [sp_lmarkOpS_0,st_lmarkOpS_0,RT.val,h1,cond_false];rfl,_,_,_,rfl,by simp⟩
noncomputable def ox_lmarkOpS_0 (x1:Int) (x5:Int) (h0:Lq1):Option (Ex×St):=(cond (decide (x5<((h0.length:Nat):Int))) (cond (decide (0≤x5∧x5<((h0.length:Nat):Int))) (cond (q_lmarkText (IntKind.wrap .i64 (x1+(1:Int)))) (cond (decide (0≤x5∧x5<(((h0.set x5.toNat (x1,(((h0.getD x5.toNat ((0:Int),(bE,bE))).2).1,((h0.getD x5.toNat ((0:Int),(bE,bE))).2).2))).length:Nat):Int))) (cond (q_lmarkText (IntKind.wrap .i64 ((IntKind.wrap .i64 (x1+(1:Int)))+(1:Int)))) (cond (decide (0≤x5∧x5<((((h0.set x5.toNat (x1,(((h0.getD x5.toNat ((0:Int),(bE,bE))).2).1,((h0.getD x5.toNat ((0:Int),(bE,bE))).2).2))).set x5.toNat (((h0.set x5.toNat (x1,(((h0.getD x5.toNat ((0:Int),(bE,bE))).2).1,((h0.getD x5.toNat ((0:Int),(bE,bE))).2).2))).getD x5.toNat ((0:Int),(bE,bE))).1,((lmarkText (IntKind.wrap .i64 (x1+(1:Int)))),(((h0.set x5.toNat (x1,(((h0.getD x5.toNat ((0:Int),(bE,bE))).2).1,((h0.getD x5.toNat ((0:Int),(bE,bE))).2).2))).getD x5.toNat ((0:Int),(bE,bE))).2).2))).length:Nat):Int))) (some (.normal,(⟨((.all 0 3)::(.t true (.int .i64) (IntKind.wrap .i64 ((IntKind.wrap .i64 ((IntKind.wrap .i64 (x1+(1:Int)))+(1:Int)))+(1:Int))))::.junk::.junk::.junk::(.t true (.int .i64) (IntKind.wrap .i64 (x5+(1:Int))))::jA30),[(.rows 90 true tq7 (((h0.set x5.toNat (x1,(((h0.getD x5.toNat ((0:Int),(bE,bE))).2).1,((h0.getD x5.toNat ((0:Int),(bE,bE))).2).2))).set x5.toNat (((h0.set x5.toNat (x1,(((h0.getD x5.toNat ((0:Int),(bE,bE))).2).1,((h0.getD x5.toNat ((0:Int),(bE,bE))).2).2))).getD x5.toNat ((0:Int),(bE,bE))).1,((lmarkText (IntKind.wrap .i64 (x1+(1:Int)))),(((h0.set x5.toNat (x1,(((h0.getD x5.toNat ((0:Int),(bE,bE))).2).1,((h0.getD x5.toNat ((0:Int),(bE,bE))).2).2))).getD x5.toNat ((0:Int),(bE,bE))).2).2))).set x5.toNat ((((h0.set x5.toNat (x1,(((h0.getD x5.toNat ((0:Int),(bE,bE))).2).1,((h0.getD x5.toNat ((0:Int),(bE,bE))).2).2))).set x5.toNat (((h0.set x5.toNat (x1,(((h0.getD x5.toNat ((0:Int),(bE,bE))).2).1,((h0.getD x5.toNat ((0:Int),(bE,bE))).2).2))).getD x5.toNat ((0:Int),(bE,bE))).1,((lmarkText (IntKind.wrap .i64 (x1+(1:Int)))),(((h0.set x5.toNat (x1,(((h0.getD x5.toNat ((0:Int),(bE,bE))).2).1,((h0.getD x5.toNat ((0:Int),(bE,bE))).2).2))).getD x5.toNat ((0:Int),(bE,bE))).2).2))).getD x5.toNat ((0:Int),(bE,bE))).1,(((((h0.set x5.toNat (x1,(((h0.getD x5.toNat ((0:Int),(bE,bE))).2).1,((h0.getD x5.toNat ((0:Int),(bE,bE))).2).2))).set x5.toNat (((h0.set x5.toNat (x1,(((h0.getD x5.toNat ((0:Int),(bE,bE))).2).1,((h0.getD x5.toNat ((0:Int),(bE,bE))).2).2))).getD x5.toNat ((0:Int),(bE,bE))).1,((lmarkText (IntKind.wrap .i64 (x1+(1:Int)))),(((h0.set x5.toNat (x1,(((h0.getD x5.toNat ((0:Int),(bE,bE))).2).1,((h0.getD x5.toNat ((0:Int),(bE,bE))).2).2))).getD x5.toNat ((0:Int),(bE,bE))).2).2))).getD x5.toNat ((0:Int),(bE,bE))).2).1,(lmarkText (IntKind.wrap .i64 ((IntKind.wrap .i64 (x1+(1:Int)))+(1:Int))))))))],1,[]⟩:St))) none) none) none) none) none) (some ((.exit 0),(⟨(.junk::(.t true (.int .i64) x1)::jA34),[(.rows 90 true tq7 h0)],1,[]⟩:St))))
theorem rdA_lmarkOpS_0:RdA G65 (fun _ _=>none) 0 body_lmarkOpS_0 S_lmarkOpS_0 1 [] (kepts [] [(0,[1])]) (fun d=>ox_lmarkOpS_0 d.1.2.1 d.1.2.2.2.2.2.1 d.2.1):=by
 intro d
 kernel_rfl
theorem rdB_lmarkOpS_0:∀ d:S_lmarkOpS_0.den,(fun d=>ox_lmarkOpS_0 d.1.2.1 d.1.2.2.2.2.2.1 d.2.1) d=(sp_lmarkOpS_0 d).opt 1 []:=by
 intro d
 kernel_rfl
noncomputable abbrev say_lmarkOpS_0:St→Option Tree:=S_lmarkOpS_0.say 1 [] [] (fun d=>T_lmarkOpS_0 d.1.2.1 d.1.2.2.2.2.2.1 d.2.1)
theorem lw_lmarkOpS_0:LoopWp Try.prog say_lmarkOpS_0 body_lmarkOpS_0:=SS.wp2 hlz [] sp_lmarkOpS_0 rdA_lmarkOpS_0 rdB_lmarkOpS_0 _ (fun d=>R_lmarkOpS_0 d.1.2.1 d.1.2.2.2.2.2.1 d.2.1)
noncomputable def lmarkOpS (x1:Int) (h0:Lq1):Int×Lq1:=(((foldN f_lmarkOpS_0 (h0.length - (0:Int).toNat) (0:Int).toNat (x1,h0)).1),((foldN f_lmarkOpS_0 (h0.length - (0:Int).toNat) (0:Int).toNat (x1,h0)).2))
noncomputable abbrev e_lmarkOpS (r:Int×Lq1):AV×List AObj×List Nat:=((.t true (.int .i64) r.1),[(.rows 90 true tq7 r.2)],[])
noncomputable abbrev g_lmarkOpS:SM_lmarkOpS.den→AV×List AObj×List Nat:=fun d=>e_lmarkOpS (lmarkOpS d.1.2.1 d.2.1)
noncomputable def q_lmarkOpS (x1:Int) (h0:Lq1):Bool:=okL h0&&decide (0≤x1∧x1≤10000000)
noncomputable abbrev pre_lmarkOpS:SM_lmarkOpS.den→Bool:=fun d=>q_lmarkOpS d.1.2.1 d.2.1
noncomputable abbrev L_lmarkOpS:Nat→St→Option Tree:=fun b=>match b with | 0=>say_lmarkOpS_0 | _=>fun _=>none
theorem run_lmarkOpS:RunM G65 (L_lmarkOpS) Try.f83 SM_lmarkOpS pre_lmarkOpS g_lmarkOpS:=by
 rintro ⟨⟨_,x1,_⟩,⟨h0,_⟩⟩ hp
 change q_lmarkOpS x1 h0=true at hp
 unfold q_lmarkOpS at hp
 refine Eq.trans (b:=(cond (decide (0≤(0:Int))&&(decide (0≤x1∧x1≤100000*((0:Int)+100))&&okL h0)) (some (e_lmarkOpS (((foldN f_lmarkOpS_0 (h0.length - (0:Int).toNat) (0:Int).toNat (x1,h0)).1),((foldN f_lmarkOpS_0 (h0.length - (0:Int).toNat) (0:Int).toNat (x1,h0)).2)))) none)) (by kernel_rfl) ?_
 exact (cndT (by first | rfl | decide | exact hp | (simp only [Bool.and_eq_true] at hp;simp only [hp];done) | (simp [*];done) | (simp [okL] at hp;simp [okL,MAXB];omega) | (simp_all;done) | (simp at *;omega)) (fun _h=>rfl))
noncomputable abbrev m_lmarkOpS:=win winIds (msum SM_lmarkOpS pre_lmarkOpS g_lmarkOpS)
theorem c_lmarkOpS:MContract Try.prog 83 m_lmarkOpS:=(mcM G65 (hl1 (i:=0) (by kernel_rfl) lw_lmarkOpS_0) run_lmarkOpS).win winIds
noncomputable def S66:Tab:=Tab.add S65 83 (orLend m_lmarkOpS)
noncomputable def QF66:FuncId→Bool:=QF65
theorem G66:Good Try.prog tt S66 QF66:=G65.addM c_lmarkOpS.orLend (orLend_local (win_local _)) (cbl Try.f83) (by kernel_rfl)


noncomputable def f_lmarkIntS_0 (i:Nat) (b:Int×List Int):Int×List Int:=(IntKind.wrap .i64 (b.1+(1:Int)),b.2.set i b.1)
noncomputable abbrev SM_lmarkIntS:SS:=⟨[.all 0 1,.t true (.int .i64)],[.rows 3 true (.int .i64)]⟩
noncomputable abbrev S_lmarkIntS_0:SS:=⟨(.all 0 1::.t true (.int .i64)::.junk::.junk::.junk::.t true (.int .i64)::jS13),[.rows 3 true (.int .i64)]⟩
noncomputable abbrev E_lmarkIntS_0_0:SS:=⟨(.junk::.t true (.int .i64)::jS17),[.rows 3 true (.int .i64)]⟩
noncomputable def st_lmarkIntS_0 (x1:Int) (x5:Int) (h0:List Int):RT S_lmarkIntS_0.den:=(.br (decide (x5<((h0.length:Nat):Int))) (.br (decide (0≤x5∧x5<((h0.length:Nat):Int))) (.next (((),IntKind.wrap .i64 (x1+(1:Int)),(),(),(),IntKind.wrap .i64 (x5+(1:Int)),u14),(h0.set x5.toNat x1,()))) .fail) (.done (.exit 0) E_lmarkIntS_0_0 (((),x1,u18),(h0,()))))
noncomputable def T_lmarkIntS_0 (x1:Int) (x5:Int) (h0:List Int):CT:=(.br (decide (0≤x5)&&(decide (0≤x1∧x1≤100000*(x5+100))&&okL h0)) (.done (.exit 0) E_lmarkIntS_0_0 (((),((foldN f_lmarkIntS_0 (h0.length - x5.toNat) x5.toNat (x1,h0)).1),u18),(((foldN f_lmarkIntS_0 (h0.length - x5.toNat) x5.toNat (x1,h0)).2),()))) .fail)
noncomputable abbrev sp_lmarkIntS_0:S_lmarkIntS_0.den→RT S_lmarkIntS_0.den:=(fun d=>st_lmarkIntS_0 d.1.2.1 d.1.2.2.2.2.2.1 d.2.1)
noncomputable abbrev pk_lmarkIntS_0 (x1:Int) (x5:Int) (h0:List Int):S_lmarkIntS_0.den:=(((),x1,(),(),(),x5,u14),(h0,()))
noncomputable def body_lmarkIntS_0:Code:=((loopsIn 0 (bodyOf Try.f114)).getD 0 (0,.skip)).2
theorem R_lmarkIntS_0 (x1:Int) (x5:Int) (h0:List Int):(T_lmarkIntS_0 x1 x5 h0).val (D:=S_lmarkIntS_0.den)=.fail∨Runs sp_lmarkIntS_0 (pk_lmarkIntS_0 x1 x5 h0) (T_lmarkIntS_0 x1 x5 h0).val:=by
 cases hc:(decide (0≤x5)&&(decide (0≤x1∧x1≤100000*(x5+100))&&okL h0)) with
 | false=>left;simp only [T_lmarkIntS_0,CT.val,hc,cond_false]
 | true =>
  right
  simp only [T_lmarkIntS_0,CT.val,hc,cond_true]
  simp only [Bool.and_eq_true,decide_eq_true_eq] at hc
  obtain ⟨i,rfl⟩:=Int.eq_ofNat_of_zero_le hc.1
  have hs:=okL_le hc.2.2
  have hk:=hc.2.1
  simp only [Int.toNat_natCast]
  refine Runs.foldN (step:=sp_lmarkIntS_0) (fun j b=>pk_lmarkIntS_0 b.1 (j:Int) b.2) (fun i b=>(0≤b.1∧b.1≤100000*((i:Int)+100))∧b.2.length=h0.length) (h0.length) f_lmarkIntS_0
   (fin:=fun b=>((.done (.exit 0) E_lmarkIntS_0_0 (((),b.1,u18),(b.2,()))):CT).val) (fun i b hi hb=>?_) (fun i b hi hb=>?_) (h0.length - i) i (x1,h0) rfl ⟨hk,rfl⟩
  ·obtain ⟨k,h⟩:=b
   obtain ⟨hb1,hb2⟩:=hb
   simp only at hb1 hb2
   have w1:IntKind.wrap .i64 (k+(1:Int))=k+(1:Int):=wrap64 (by omega) (by omega)
   have e0:(decide (0≤(i:Int)∧(i:Int)<((h.length:Nat):Int)))=true:=decide_eq_true (by (try simp only [List.length_set]);omega)
   have h1:decide ((i:Int)<((h.length:Nat):Int))=true:=decide_eq_true (by omega)
   have v1:(f_lmarkIntS_0 i (k,h)).1=k+(1:Int):=by simp only [f_lmarkIntS_0,w1]
   have v2:(f_lmarkIntS_0 i (k,h)).2.length=h.length:=by simp only [f_lmarkIntS_0,List.length_set]
   refine ⟨⟨by rw [v1];omega,by rw [v2];exact hb2⟩,?_⟩
   simp only [sp_lmarkIntS_0,st_lmarkIntS_0,RT.val,h1,e0,cond_true,wrapS i (by omega),Int.toNat_natCast]
   rfl
  ·have h1:decide ((i:Int)<((b.2.length:Nat):Int))=false:=decide_eq_false (by omega)
   exact ⟨by simp only [sp_lmarkIntS_0,st_lmarkIntS_0,RT.val,h1,cond_false];rfl,_,_,_,rfl,by simp⟩
theorem rdA_lmarkIntS_0:RdA G66 (fun _ _=>none) 0 body_lmarkIntS_0 S_lmarkIntS_0 1 [] (kepts [] [(0,[1])]) (fun d=>(sp_lmarkIntS_0 d).opt 1 []):=by
 intro d
 kernel_rfl
noncomputable abbrev say_lmarkIntS_0:St→Option Tree:=S_lmarkIntS_0.say 1 [] [] (fun d=>T_lmarkIntS_0 d.1.2.1 d.1.2.2.2.2.2.1 d.2.1)
theorem lw_lmarkIntS_0:LoopWp Try.prog say_lmarkIntS_0 body_lmarkIntS_0:=SS.wp2 hlz [] sp_lmarkIntS_0 rdA_lmarkIntS_0 (fun d=>rfl) _ (fun d=>R_lmarkIntS_0 d.1.2.1 d.1.2.2.2.2.2.1 d.2.1)
noncomputable def lmarkIntS (x1:Int) (h0:List Int):Int×List Int:=(((foldN f_lmarkIntS_0 (h0.length - (0:Int).toNat) (0:Int).toNat (x1,h0)).1),((foldN f_lmarkIntS_0 (h0.length - (0:Int).toNat) (0:Int).toNat (x1,h0)).2))
noncomputable abbrev e_lmarkIntS (r:Int×List Int):AV×List AObj×List Nat:=((.t true (.int .i64) r.1),[(.rows 3 true (.int .i64) r.2)],[])
noncomputable abbrev g_lmarkIntS:SM_lmarkIntS.den→AV×List AObj×List Nat:=fun d=>e_lmarkIntS (lmarkIntS d.1.2.1 d.2.1)
noncomputable def q_lmarkIntS (x1:Int) (h0:List Int):Bool:=okL h0&&decide (0≤x1∧x1≤10000000)
noncomputable abbrev pre_lmarkIntS:SM_lmarkIntS.den→Bool:=fun d=>q_lmarkIntS d.1.2.1 d.2.1
noncomputable abbrev L_lmarkIntS:Nat→St→Option Tree:=fun b=>match b with | 0=>say_lmarkIntS_0 | _=>fun _=>none
theorem run_lmarkIntS:RunM G66 (L_lmarkIntS) Try.f114 SM_lmarkIntS pre_lmarkIntS g_lmarkIntS:=by
 rintro ⟨⟨_,x1,_⟩,⟨h0,_⟩⟩ hp
 change q_lmarkIntS x1 h0=true at hp
 unfold q_lmarkIntS at hp
 refine Eq.trans (b:=(cond (decide (0≤(0:Int))&&(decide (0≤x1∧x1≤100000*((0:Int)+100))&&okL h0)) (some (e_lmarkIntS (((foldN f_lmarkIntS_0 (h0.length - (0:Int).toNat) (0:Int).toNat (x1,h0)).1),((foldN f_lmarkIntS_0 (h0.length - (0:Int).toNat) (0:Int).toNat (x1,h0)).2)))) none)) (by kernel_rfl) ?_
 exact (cndT (by first | rfl | decide | exact hp | (simp only [Bool.and_eq_true] at hp;simp only [hp];done) | (simp [*];done) | (simp [okL] at hp;simp [okL,MAXB];omega) | (simp_all;done) | (simp at *;omega)) (fun _h=>rfl))
noncomputable abbrev m_lmarkIntS:=win winIds (msum SM_lmarkIntS pre_lmarkIntS g_lmarkIntS)
theorem c_lmarkIntS:MContract Try.prog 114 m_lmarkIntS:=(mcM G66 (hl1 (i:=0) (by kernel_rfl) lw_lmarkIntS_0) run_lmarkIntS).win winIds
noncomputable def S67:Tab:=Tab.add S66 114 (orLend m_lmarkIntS)
noncomputable def QF67:FuncId→Bool:=QF66
theorem G67:Good Try.prog tt S67 QF67:=G66.addM c_lmarkIntS.orLend (orLend_local (win_local _)) (cbl Try.f114) (by kernel_rfl)


end Go.Proofs.Ytapikgcgahomlaa.Eng

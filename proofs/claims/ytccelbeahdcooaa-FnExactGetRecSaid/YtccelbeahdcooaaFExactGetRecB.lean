/- What the functions that FnExactGetRec reaches compute: further. -/
import Derived.Test.YtccelbeahdcooaaFExactGetRecA
namespace Go.Proofs.Ytccelbeahdcooaa.Eng
open Go Go.RowKit
set_option linter.unusedSimpArgs false
set_option linter.unusedVariables false
set_option maxRecDepth 10000
noncomputable abbrev jS15:List Sh:=.junk::jS14
noncomputable abbrev u30:=((),u29)
noncomputable def iOpPut (l:Lq1) (i:Nat) (h:List Int):List Int:=iputText (l.getD i dOp).2.2 (iputText (l.getD i dOp).2.1 (iputNum (l.getD i dOp).1 h))
noncomputable abbrev SM_iputOps_nil:SS:=⟨[.nil,.t false tq2],[]⟩
noncomputable abbrev S_iputOps_nil_0:SS:=⟨(.all 0 1::.junk::.junk::.junk::.junk::.junk::.junk::.junk::.junk::.junk::.junk::.t false tq2::.t true (.int .i64)::.t true (.int .i64)::jS15),[.rows 5 true (.int .u8)]⟩
noncomputable abbrev E_iputOps_nil_0_0:SS:=⟨(.all 0 1::jS28),[.rows 5 true (.int .u8)]⟩
noncomputable def st_iputOps_nil_0 (x11:Lq1) (x12:Int) (x13:Int) (h0:List Int):RT S_iputOps_nil_0.den:=(.br (decide (x13<x12)) (.br (decide (0≤x13∧x13<((x11.length:Nat):Int))) (.br (q_iputNum ((x11.getD x13.toNat ((0:Int),(bE,bE))).1) h0) (.br (q_iputText (((x11.getD x13.toNat ((0:Int),(bE,bE))).2).1) (iputNum ((x11.getD x13.toNat ((0:Int),(bE,bE))).1) h0)) (.br (q_iputText (((x11.getD x13.toNat ((0:Int),(bE,bE))).2).2) (iputText (((x11.getD x13.toNat ((0:Int),(bE,bE))).2).1) (iputNum ((x11.getD x13.toNat ((0:Int),(bE,bE))).1) h0))) (.next (((),(),(),(),(),(),(),(),(),(),(),x11,x12,IntKind.wrap .i64 (x13+(1:Int)),u16),((iputText (((x11.getD x13.toNat ((0:Int),(bE,bE))).2).2) (iputText (((x11.getD x13.toNat ((0:Int),(bE,bE))).2).1) (iputNum ((x11.getD x13.toNat ((0:Int),(bE,bE))).1) h0))),()))) .fail) .fail) .fail) .fail) (.done (.exit 0) E_iputOps_nil_0_0 ((u30),(h0,()))))
noncomputable def T_iputOps_nil_0 (x11:Lq1) (x12:Int) (x13:Int) (h0:List Int):CT:=(.br (decide (0≤x13)&&(decide (x12=((x11.length:Nat):Int))&&(decide (h0.length≤4194304*(x13.toNat+1))&&okOps x11))) (.done (.exit 0) E_iputOps_nil_0_0 ((u30),((foldN (iOpPut x11) (x11.length - x13.toNat) x13.toNat h0),()))) .fail)
noncomputable abbrev ap_iputOps_nil_0 {α:Sort _} (f:(Lq1)→Int→Int→(List Int)→α) (d:S_iputOps_nil_0.den):α:=f d.1.2.2.2.2.2.2.2.2.2.2.2.1 d.1.2.2.2.2.2.2.2.2.2.2.2.2.1 d.1.2.2.2.2.2.2.2.2.2.2.2.2.2.1 d.2.1
noncomputable abbrev sp_iputOps_nil_0:S_iputOps_nil_0.den→RT S_iputOps_nil_0.den:=(ap_iputOps_nil_0 st_iputOps_nil_0)
noncomputable abbrev pk_iputOps_nil_0 (x11:Lq1) (x12:Int) (x13:Int) (h0:List Int):S_iputOps_nil_0.den:=(((),(),(),(),(),(),(),(),(),(),(),x11,x12,x13,u16),(h0,()))
noncomputable def body_iputOps_nil_0:Code:=((loopsIn 0 (bodyOf Try.f114)).getD 0 (0,.skip)).2
theorem R_iputOps_nil_0 (x11:Lq1) (x12:Int) (x13:Int) (h0:List Int):(T_iputOps_nil_0 x11 x12 x13 h0).val (D:=S_iputOps_nil_0.den)=.fail∨Runs sp_iputOps_nil_0 (pk_iputOps_nil_0 x11 x12 x13 h0) (T_iputOps_nil_0 x11 x12 x13 h0).val:=by
 cases hc:(decide (0≤x13)&&(decide (x12=((x11.length:Nat):Int))&&(decide (h0.length≤4194304*(x13.toNat+1))&&okOps x11))) with
 | false=>left;simp only [T_iputOps_nil_0,CT.val,hc,cond_false]
 | true =>
  right
  simp only [T_iputOps_nil_0,CT.val,hc,cond_true]
  simp only [Bool.and_eq_true,decide_eq_true_eq] at hc
  obtain ⟨i,rfl⟩:=Int.eq_ofNat_of_zero_le hc.1
  obtain ⟨_,e1,hc⟩:=hc
  subst e1
  have hc:=And.intro (show True from trivial) hc
  have hs:=okOps_len hc.2.2
  have hb0:=hc.2.1
  simp only [Int.toNat_natCast] at hb0 ⊢
  refine Runs.foldN (step:=sp_iputOps_nil_0) (fun j b=>pk_iputOps_nil_0 x11 ((x11.length:Nat):Int) (j:Int) b) (fun i b=>b.length≤4194304*(i+1)) (x11.length) (iOpPut x11)
   (fin:=fun b=>((.done (.exit 0) E_iputOps_nil_0_0 ((u30),(b,()))):CT).val) (fun i b hi hb=>?_) (fun i b hi hb=>?_) (x11.length - i) i h0 rfl hb0
  ·obtain ⟨k1,k2⟩:=okOps_at hc.2.2 i hi
   have l1:=iputNum_len b (x11.getD i dOp).1
   have l2:=iputText_len (iputNum (x11.getD i dOp).1 b) (x11.getD i dOp).2.1 k1
   have l3:=iputText_len (iputText (x11.getD i dOp).2.1 (iputNum (x11.getD i dOp).1 b)) (x11.getD i dOp).2.2 k2
   have m1:=okS_le k1
   have m2:=okS_le k2
   have q1:q_iputNum (x11.getD i dOp).1 b=true:=by simp only [q_iputNum,decide_eq_true_eq];omega
   have q2:q_iputText (x11.getD i dOp).2.1 (iputNum (x11.getD i dOp).1 b)=true:=by simp only [q_iputText,k1,Bool.and_true,decide_eq_true_eq];omega
   have q3:q_iputText (x11.getD i dOp).2.2 (iputText (x11.getD i dOp).2.1 (iputNum (x11.getD i dOp).1 b))=true:=by simp only [q_iputText,k2,Bool.and_true,decide_eq_true_eq];omega
   refine ⟨by simp only [iOpPut];omega,?_⟩
   have h0a:decide ((i:Int)<((x11.length:Nat):Int))=true:=decide_eq_true (by omega)
   have h0b:decide (0≤(i:Int)∧(i:Int)<((x11.length:Nat):Int))=true:=decide_eq_true (by omega)
   simp only [dOp] at q1 q2 q3
   simp only [sp_iputOps_nil_0,st_iputOps_nil_0,RT.val,h0a,h0b,cond_true,wrapS i (by omega),Int.toNat_natCast,q1,q2,q3]
   rfl
  ·have h1:decide ((i:Int)<((x11.length:Nat):Int))=false:=decide_eq_false (by omega)
   exact ⟨by simp only [sp_iputOps_nil_0,st_iputOps_nil_0,RT.val,h1,cond_false];rfl,_,_,_,rfl,by simp⟩
theorem rdA_iputOps_nil_0:RdA G32 (fun _ _=>none) 0 body_iputOps_nil_0 S_iputOps_nil_0 0 [] (kepts [] [(0,[0])]) (fun d=>(sp_iputOps_nil_0 d).opt 0 []):=by
 intro d
 kernel_rfl
noncomputable abbrev say_iputOps_nil_0:St→Option Tree:=S_iputOps_nil_0.say 0 [] [] (ap_iputOps_nil_0 T_iputOps_nil_0)
theorem lw_iputOps_nil_0:LoopWp Try.prog say_iputOps_nil_0 body_iputOps_nil_0:=SS.wp2 hlz [] sp_iputOps_nil_0 rdA_iputOps_nil_0 (fun d=>rfl) _ (fun d=>R_iputOps_nil_0 d.1.2.2.2.2.2.2.2.2.2.2.2.1 d.1.2.2.2.2.2.2.2.2.2.2.2.2.1 d.1.2.2.2.2.2.2.2.2.2.2.2.2.2.1 d.2.1)
noncomputable def iputOps_nil (x1:Lq1):List Int:=(foldN (iOpPut x1) (x1.length - (0:Int).toNat) (0:Int).toNat (iputNum_nil ((x1.length:Nat):Int)))
noncomputable abbrev e_iputOps_nil (r:List Int):AV×List AObj×List Nat:=((.all 0 1),[(.rows 5 true (.int .u8) r)],[])
noncomputable abbrev g_iputOps_nil:SM_iputOps_nil.den→AV×List AObj×List Nat:=fun d=>e_iputOps_nil (iputOps_nil d.1.2.1)
noncomputable def q_iputOps_nil (x1:Lq1):Bool:=okOps x1
noncomputable abbrev pre_iputOps_nil:SM_iputOps_nil.den→Bool:=fun d=>q_iputOps_nil d.1.2.1
noncomputable abbrev L_iputOps_nil:Nat→St→Option Tree:=fun b=>match b with | 0=>say_iputOps_nil_0 | _=>fun _=>none
theorem run_iputOps_nil:RunM G32 (L_iputOps_nil) Try.f114 SM_iputOps_nil pre_iputOps_nil g_iputOps_nil:=by
 rintro ⟨⟨_,(x1:Lq1),_⟩,_⟩ hp
 change q_iputOps_nil x1=true at hp
 unfold q_iputOps_nil at hp
 refine Eq.trans (b:=(cond (decide (0≤(0:Int))&&(decide (((x1.length:Nat):Int)=((x1.length:Nat):Int))&&(decide ((iputNum_nil ((x1.length:Nat):Int)).length≤4194304*((0:Int).toNat+1))&&okOps x1))) (some (e_iputOps_nil (foldN (iOpPut x1) (x1.length - (0:Int).toNat) (0:Int).toNat (iputNum_nil ((x1.length:Nat):Int))))) none)) (by kernel_rfl) ?_
 exact (cndT (by have h1:=iputNum_nil_len ((x1.length:Nat):Int);have hs:=okOps_len hp;simp only [hp,Bool.and_true,Bool.true_and,Bool.and_eq_true,decide_eq_true_eq]<;>(try simp only [Int.toNat_zero,Int.le_refl,true_and,and_true,eq_self] at h1 ⊢)<;>omega) (fun _h=>rfl))
noncomputable abbrev m_iputOps_nil:=win winIds (msum SM_iputOps_nil pre_iputOps_nil g_iputOps_nil)
theorem c_iputOps_nil:MContract Try.prog 114 m_iputOps_nil:=(mcM G32 (hl1 (i:=0) (by kernel_rfl) lw_iputOps_nil_0) run_iputOps_nil).win winIds
noncomputable def S33:Tab:=Tab.add S32 114 (m_iputOps_nil)
noncomputable def QF33:FuncId→Bool:=QF32
theorem G33:Good Try.prog tt S33 QF33:=G32.addM c_iputOps_nil (win_local _) (cbl Try.f114) (by kernel_rfl)

noncomputable abbrev SM_iputOps:SS:=⟨[.all 0 1,.t false tq2],[.rows 5 true (.int .u8)]⟩
noncomputable abbrev S_iputOps_0:SS:=⟨(.all 0 1::.junk::.junk::.junk::.junk::.junk::.junk::.junk::.junk::.junk::.junk::.t false tq2::.t true (.int .i64)::.t true (.int .i64)::jS15),[.rows 5 true (.int .u8)]⟩
noncomputable abbrev E_iputOps_0_0:SS:=⟨(.all 0 1::jS28),[.rows 5 true (.int .u8)]⟩
noncomputable def st_iputOps_0 (x11:Lq1) (x12:Int) (x13:Int) (h0:List Int):RT S_iputOps_0.den:=(.br (decide (x13<x12)) (.br (decide (0≤x13∧x13<((x11.length:Nat):Int))) (.br (q_iputNum ((x11.getD x13.toNat ((0:Int),(bE,bE))).1) h0) (.br (q_iputText (((x11.getD x13.toNat ((0:Int),(bE,bE))).2).1) (iputNum ((x11.getD x13.toNat ((0:Int),(bE,bE))).1) h0)) (.br (q_iputText (((x11.getD x13.toNat ((0:Int),(bE,bE))).2).2) (iputText (((x11.getD x13.toNat ((0:Int),(bE,bE))).2).1) (iputNum ((x11.getD x13.toNat ((0:Int),(bE,bE))).1) h0))) (.next (((),(),(),(),(),(),(),(),(),(),(),x11,x12,IntKind.wrap .i64 (x13+(1:Int)),u16),((iputText (((x11.getD x13.toNat ((0:Int),(bE,bE))).2).2) (iputText (((x11.getD x13.toNat ((0:Int),(bE,bE))).2).1) (iputNum ((x11.getD x13.toNat ((0:Int),(bE,bE))).1) h0))),()))) .fail) .fail) .fail) .fail) (.done (.exit 0) E_iputOps_0_0 ((u30),(h0,()))))
noncomputable def T_iputOps_0 (x11:Lq1) (x12:Int) (x13:Int) (h0:List Int):CT:=(.br (decide (0≤x13)&&(decide (x12=((x11.length:Nat):Int))&&(decide (h0.length≤4194304*(x13.toNat+1))&&okOps x11))) (.done (.exit 0) E_iputOps_0_0 ((u30),((foldN (iOpPut x11) (x11.length - x13.toNat) x13.toNat h0),()))) .fail)
noncomputable abbrev ap_iputOps_0 {α:Sort _} (f:(Lq1)→Int→Int→(List Int)→α) (d:S_iputOps_0.den):α:=f d.1.2.2.2.2.2.2.2.2.2.2.2.1 d.1.2.2.2.2.2.2.2.2.2.2.2.2.1 d.1.2.2.2.2.2.2.2.2.2.2.2.2.2.1 d.2.1
noncomputable abbrev sp_iputOps_0:S_iputOps_0.den→RT S_iputOps_0.den:=(ap_iputOps_0 st_iputOps_0)
noncomputable abbrev pk_iputOps_0 (x11:Lq1) (x12:Int) (x13:Int) (h0:List Int):S_iputOps_0.den:=(((),(),(),(),(),(),(),(),(),(),(),x11,x12,x13,u16),(h0,()))
noncomputable def body_iputOps_0:Code:=((loopsIn 0 (bodyOf Try.f114)).getD 0 (0,.skip)).2
theorem R_iputOps_0 (x11:Lq1) (x12:Int) (x13:Int) (h0:List Int):(T_iputOps_0 x11 x12 x13 h0).val (D:=S_iputOps_0.den)=.fail∨Runs sp_iputOps_0 (pk_iputOps_0 x11 x12 x13 h0) (T_iputOps_0 x11 x12 x13 h0).val:=by
 cases hc:(decide (0≤x13)&&(decide (x12=((x11.length:Nat):Int))&&(decide (h0.length≤4194304*(x13.toNat+1))&&okOps x11))) with
 | false=>left;simp only [T_iputOps_0,CT.val,hc,cond_false]
 | true =>
  right
  simp only [T_iputOps_0,CT.val,hc,cond_true]
  simp only [Bool.and_eq_true,decide_eq_true_eq] at hc
  obtain ⟨i,rfl⟩:=Int.eq_ofNat_of_zero_le hc.1
  obtain ⟨_,e1,hc⟩:=hc
  subst e1
  have hc:=And.intro (show True from trivial) hc
  have hs:=okOps_len hc.2.2
  have hb0:=hc.2.1
  simp only [Int.toNat_natCast] at hb0 ⊢
  refine Runs.foldN (step:=sp_iputOps_0) (fun j b=>pk_iputOps_0 x11 ((x11.length:Nat):Int) (j:Int) b) (fun i b=>b.length≤4194304*(i+1)) (x11.length) (iOpPut x11)
   (fin:=fun b=>((.done (.exit 0) E_iputOps_0_0 ((u30),(b,()))):CT).val) (fun i b hi hb=>?_) (fun i b hi hb=>?_) (x11.length - i) i h0 rfl hb0
  ·obtain ⟨k1,k2⟩:=okOps_at hc.2.2 i hi
   have l1:=iputNum_len b (x11.getD i dOp).1
   have l2:=iputText_len (iputNum (x11.getD i dOp).1 b) (x11.getD i dOp).2.1 k1
   have l3:=iputText_len (iputText (x11.getD i dOp).2.1 (iputNum (x11.getD i dOp).1 b)) (x11.getD i dOp).2.2 k2
   have m1:=okS_le k1
   have m2:=okS_le k2
   have q1:q_iputNum (x11.getD i dOp).1 b=true:=by simp only [q_iputNum,decide_eq_true_eq];omega
   have q2:q_iputText (x11.getD i dOp).2.1 (iputNum (x11.getD i dOp).1 b)=true:=by simp only [q_iputText,k1,Bool.and_true,decide_eq_true_eq];omega
   have q3:q_iputText (x11.getD i dOp).2.2 (iputText (x11.getD i dOp).2.1 (iputNum (x11.getD i dOp).1 b))=true:=by simp only [q_iputText,k2,Bool.and_true,decide_eq_true_eq];omega
   refine ⟨by simp only [iOpPut];omega,?_⟩
   have h0a:decide ((i:Int)<((x11.length:Nat):Int))=true:=decide_eq_true (by omega)
   have h0b:decide (0≤(i:Int)∧(i:Int)<((x11.length:Nat):Int))=true:=decide_eq_true (by omega)
   simp only [dOp] at q1 q2 q3
   simp only [sp_iputOps_0,st_iputOps_0,RT.val,h0a,h0b,cond_true,wrapS i (by omega),Int.toNat_natCast,q1,q2,q3]
   rfl
  ·have h1:decide ((i:Int)<((x11.length:Nat):Int))=false:=decide_eq_false (by omega)
   exact ⟨by simp only [sp_iputOps_0,st_iputOps_0,RT.val,h1,cond_false];rfl,_,_,_,rfl,by simp⟩
theorem rdA_iputOps_0:RdA G33 (fun _ _=>none) 0 body_iputOps_0 S_iputOps_0 1 [0] (kepts [] [(0,[0])]) (fun d=>(sp_iputOps_0 d).opt 1 [0]):=by
 intro d
 kernel_rfl
noncomputable abbrev say_iputOps_0:St→Option Tree:=S_iputOps_0.say 1 [0] [] (ap_iputOps_0 T_iputOps_0)
theorem lw_iputOps_0:LoopWp Try.prog say_iputOps_0 body_iputOps_0:=SS.wp2 hlz [] sp_iputOps_0 rdA_iputOps_0 (fun d=>rfl) _ (fun d=>R_iputOps_0 d.1.2.2.2.2.2.2.2.2.2.2.2.1 d.1.2.2.2.2.2.2.2.2.2.2.2.2.1 d.1.2.2.2.2.2.2.2.2.2.2.2.2.2.1 d.2.1)
noncomputable def iputOps (x1:Lq1) (h0:List Int):List Int:=(foldN (iOpPut x1) (x1.length - (0:Int).toNat) (0:Int).toNat (iputNum ((x1.length:Nat):Int) h0))
noncomputable abbrev e_iputOps (r:List Int):AV×List AObj×List Nat:=((.all 0 1),[(.rows 5 true (.int .u8) r)],[0])
noncomputable abbrev g_iputOps:SM_iputOps.den→AV×List AObj×List Nat:=fun d=>e_iputOps (iputOps d.1.2.1 d.2.1)
noncomputable def q_iputOps (x1:Lq1) (h0:List Int):Bool:=decide (h0.length≤1000)&&okOps x1
noncomputable abbrev pre_iputOps:SM_iputOps.den→Bool:=fun d=>q_iputOps d.1.2.1 d.2.1
noncomputable abbrev L_iputOps:Nat→St→Option Tree:=fun b=>match b with | 0=>say_iputOps_0 | _=>fun _=>none
theorem run_iputOps:RunM G33 (L_iputOps) Try.f114 SM_iputOps pre_iputOps g_iputOps:=by
 rintro ⟨⟨_,(x1:Lq1),_⟩,⟨(h0:List Int),_⟩⟩ hp
 change q_iputOps x1 h0=true at hp
 unfold q_iputOps at hp
 refine Eq.trans (b:=(cond (q_iputNum ((x1.length:Nat):Int) h0) (cond (decide (0≤(0:Int))&&(decide (((x1.length:Nat):Int)=((x1.length:Nat):Int))&&(decide ((iputNum ((x1.length:Nat):Int) h0).length≤4194304*((0:Int).toNat+1))&&okOps x1))) (some (e_iputOps (foldN (iOpPut x1) (x1.length - (0:Int).toNat) (0:Int).toNat (iputNum ((x1.length:Nat):Int) h0)))) none) none)) (by kernel_rfl) ?_
 exact (cndT (by obtain ⟨hp1,hp2⟩:=(Bool.and_eq_true _ _).mp hp;have h1:=iputNum_len h0 ((x1.length:Nat):Int);have hs:=okOps_len hp2;simp only [q_iputNum,hp2,Bool.and_true,Bool.true_and,Bool.and_eq_true,decide_eq_true_eq] at hp1 ⊢<;>(try simp only [Int.toNat_zero,Int.le_refl,true_and,and_true,eq_self] at h1 ⊢)<;>omega) (fun _h=>(cndT (by obtain ⟨hp1,hp2⟩:=(Bool.and_eq_true _ _).mp hp;have h1:=iputNum_len h0 ((x1.length:Nat):Int);have hs:=okOps_len hp2;simp only [q_iputNum,hp2,Bool.and_true,Bool.true_and,Bool.and_eq_true,decide_eq_true_eq] at hp1 ⊢<;>(try simp only [Int.toNat_zero,Int.le_refl,true_and,and_true,eq_self] at h1 ⊢)<;>omega) (fun _h=>rfl))))
noncomputable abbrev m_iputOps:=win winIds (msum SM_iputOps pre_iputOps g_iputOps)
theorem c_iputOps:MContract Try.prog 114 m_iputOps:=(mcM G33 (hl1 (i:=0) (by kernel_rfl) lw_iputOps_0) run_iputOps).win winIds
noncomputable def S34:Tab:=Tab.add S33 114 (orElseS (m_iputOps_nil) (m_iputOps))
noncomputable def QF34:FuncId→Bool:=QF33
theorem G34:Good Try.prog tt S34 QF34:=G33.addM (MContract.orElse c_iputOps_nil c_iputOps) (orElse_local (win_local _) (win_local _)) (cbl Try.f114) (by kernel_rfl)
theorem iputOps_eq (l:Lq1) (h:List Int) (ho:okOps l=true):iputOps l h=h++(numB (clampN (l.length:Int))++(l.map opB).flatten):=by
 simp only [iputOps]
 have:=foldN_app opB dOp l (iOpPut l) (fun i h hi=>by
  obtain ⟨k1,k2⟩:=okOps_at ho i hi
  simp only [iOpPut,iputText_eq _ _ k1,iputText_eq _ _ k2,iputNum_eq,opB,List.append_assoc]) l.length 0 (iputNum (l.length:Int) h) (by omega)
 rw [iputNum_eq,List.drop_zero,List.append_assoc] at this
 rw [← this,iputNum_eq]
 rfl


noncomputable abbrev P_slices_Clone_byte:List PSh:=[.t t_sy]
noncomputable def slices_Clone_byte (a0:List (Int)):List (Int):=a0
noncomputable abbrev e_slices_Clone_byte (r:List (Int)):AV×List AObj:=(.all 0 1,[.rows 5 true (.int .u8) r])
noncomputable abbrev g_slices_Clone_byte:pshsDen P_slices_Clone_byte→AV×List AObj:=fun d=>e_slices_Clone_byte (slices_Clone_byte d.1)
noncomputable def q_slices_Clone_byte (a0:List (Int)):Bool:=decide ((([]:List (Int)).length+a0.length)*1≤MAXB)
noncomputable abbrev pre_slices_Clone_byte:pshsDen P_slices_Clone_byte→Bool:=fun d=>q_slices_Clone_byte d.1
theorem r1_slices_Clone_byte (a0:List (Int)) (h0:0<a0.length) (hp:q_slices_Clone_byte a0=true):runP false Try.prog tt S34 QF34 (fun _ _=>none) Try.f169 [.t (Ty.sl (.int .u8)).flat t_sy a0]=some (e_slices_Clone_byte a0):=by
 refine Eq.trans (b:=cond (decide (0<a0.length)) (cond (q_slices_Clone_byte a0) (some (e_slices_Clone_byte a0)) none) none) (by kernel_rfl) ?_
 rw [decide_eq_true h0,hp];rfl
theorem r2_slices_Clone_byte (A:Option Addr) (c:Nat):runP false Try.prog tt S34 QF34 (fun _ _=>none) Try.f169 [.raw (.slice A 0 c)]=some (e_slices_Clone_byte []):=by
 cases A<;>kernel_rfl
theorem c_slices_Clone_byte:PContract Try.prog 169 (sumOf P_slices_Clone_byte pre_slices_Clone_byte g_slices_Clone_byte):=PContract.split (e:=(.int .u8)) (pre:=q_slices_Clone_byte) (g:=fun a0=>e_slices_Clone_byte (slices_Clone_byte a0)) (fun l h0 hp=>PCalls.of_run false G34 (fn:=Try.f169) (by kernel_rfl) (L:=fun _ _=>none) (by rw [show loopsIn 0 (bodyOf Try.f169)=[] by kernel_rfl];simp) (r1_slices_Clone_byte l h0 hp) rfl rfl) (fun A c=>PCalls.of_run false G34 (fn:=Try.f169) (by kernel_rfl) (L:=fun _ _=>none) (by rw [show loopsIn 0 (bodyOf Try.f169)=[] by kernel_rfl];simp) (r2_slices_Clone_byte A c) rfl rfl)
noncomputable def S35:Tab:=Tab.add S34 169 (lift (sumOf P_slices_Clone_byte pre_slices_Clone_byte g_slices_Clone_byte))
noncomputable def QF35:FuncId→Bool:=QF34
theorem G35:Good Try.prog tt S35 QF35:=G34.add c_slices_Clone_byte ⟨Try.f169,by kernel_rfl,by kernel_rfl,by kernel_rfl⟩ (by kernel_rfl)

noncomputable abbrev jS29:List Sh:=.junk::jS28
noncomputable abbrev u36:=((),u35)
noncomputable abbrev jA29:List AV:=.junk::jA28
noncomputable abbrev P_iPadded:List PSh:=[.t t_sy]
noncomputable def body_iPadded_0:Code:=((loopsIn 0 (bodyOf Try.f150)).getD 0 (0,.skip)).2
noncomputable def body_iPadded_1:Code:=((loopsIn 0 (bodyOf Try.f150)).getD 1 (0,.skip)).2
noncomputable abbrev S_iPadded_0:SS:=⟨(.t false t_sy::.junk::.junk::.all 0 1::jS31),[.rows 5 true (.int .u8)]⟩
noncomputable abbrev E_iPadded_0_0:SS:=⟨(.t false t_sy::.junk::.junk::.all 0 1::jS31),[.rows 5 true (.int .u8)]⟩
noncomputable def st_iPadded_0 (x0:List Int) (h0:List Int):RT S_iPadded_0.den:=(.br ((Int.tmod (IntKind.wrap .i64 (((h0.length:Nat):Int)+(8:Int))) (64:Int)) != (0:Int)) (.br (decide ((h0.length+[(0:Int)].length)*1≤MAXB)) (.next ((x0,u35),(h0++[(0:Int)],()))) .fail) (.done (.exit 0) E_iPadded_0_0 ((x0,u35),(h0,()))))
noncomputable abbrev V_iPadded_0:=(List Int)×(List Int)
noncomputable abbrev A_iPadded_0:=Nat×(List Int)×(List Int)
noncomputable def fl_iPadded_0:A_iPadded_0:=(99,([]:List Int),([]:List Int))
noncomputable def ss_iPadded_0 (x0:List Int) (h0:List Int):V_iPadded_0 ⊕ A_iPadded_0:=(cond ((Int.tmod (IntKind.wrap .i64 (((h0.length:Nat):Int)+(8:Int))) (64:Int)) != (0:Int)) (cond (decide ((h0.length+[(0:Int)].length)*1≤MAXB)) (.inl (x0,h0++[(0:Int)])) (.inr fl_iPadded_0)) (.inr (0,x0,h0)))
noncomputable def it_iPadded_0 (x0:List Int) (h0:List Int):A_iPadded_0:=itX (fun v:V_iPadded_0=>ss_iPadded_0 v.1 v.2) fl_iPadded_0 (x0,h0)
noncomputable def ct_iPadded_0 (a:A_iPadded_0):CT:=(.br (a.1==0) (.done (.exit 0) E_iPadded_0_0 ((a.2.1,u35),(a.2.2,()))) .fail)
noncomputable def T_iPadded_0 (x0:List Int) (h0:List Int):CT:=ct_iPadded_0 (it_iPadded_0 x0 h0)
noncomputable abbrev sp_iPadded_0:S_iPadded_0.den→RT S_iPadded_0.den:=(fun d=>st_iPadded_0 d.1.1 d.2.1)
noncomputable abbrev pv_iPadded_0 (v:V_iPadded_0):S_iPadded_0.den:=((v.1,u35),(v.2,()))
theorem rl_iPadded_0:(∀ v:V_iPadded_0,(st_iPadded_0 v.1 v.2).val=relS pv_iPadded_0 ct_iPadded_0 (ss_iPadded_0 v.1 v.2))∧∀ a:A_iPadded_0,CEnd S_iPadded_0.den (ct_iPadded_0 a):=⟨fun v=>(relB (relB rfl rfl) rfl),fun a=>(cendB (cendD (by simp)) cendF)⟩
noncomputable def ox_iPadded_0 (x0:List Int) (h0:List Int):Option (Ex×St):=(cond ((Int.tmod (IntKind.wrap .i64 (((h0.length:Nat):Int)+(8:Int))) (64:Int)) != (0:Int)) (cond (decide ((h0.length+[(0:Int)].length)*1≤MAXB)) (some (.normal,(⟨((.t false t_sy x0)::.junk::.junk::(.all 0 1)::jA31),[(.rows 5 true (.int .u8) (h0++[(0:Int)]))],0,[]⟩:St))) none) (some ((.exit 0),(⟨((.t false t_sy x0)::.junk::.junk::(.all 0 1)::jA31),[(.rows 5 true (.int .u8) h0)],0,[]⟩:St))))
theorem rdA_iPadded_0:RdA G35 (fun _ _=>none) 0 body_iPadded_0 S_iPadded_0 0 [] (kepts [] [(0,[0,3])]) (fun d=>ox_iPadded_0 d.1.1 d.2.1):=by
 intro d
 kernel_rfl
theorem rdB_iPadded_0:∀ d:S_iPadded_0.den,(fun d=>ox_iPadded_0 d.1.1 d.2.1) d=(sp_iPadded_0 d).opt 0 []:=by
 intro d
 kernel_rfl
noncomputable abbrev say_iPadded_0:St→Option Tree:=S_iPadded_0.say 0 [] [] (fun d=>T_iPadded_0 d.1.1 d.2.1)
theorem lw_iPadded_0:LoopWp Try.prog say_iPadded_0 body_iPadded_0:=SS.wp2 hlz [] sp_iPadded_0 rdA_iPadded_0 rdB_iPadded_0 _ (fun d=>Runs.ofI2 (step:=sp_iPadded_0) pv_iPadded_0 rl_iPadded_0 rfl (d.1.1,d.2.1))
noncomputable abbrev S_iPadded_1:SS:=⟨(.junk::.junk::.junk::.all 0 1::.t true (.int .i64)::.t true (.int .i64)::jS29),[.rows 5 true (.int .u8)]⟩
noncomputable abbrev E_iPadded_1_0:SS:=⟨(.junk::.junk::.junk::.all 0 1::jS31),[.rows 5 true (.int .u8)]⟩
noncomputable def st_iPadded_1 (x4:Int) (x5:Int) (h0:List Int):RT S_iPadded_1.den:=(.br (decide (x5 ≥ (0:Int))) (.br (decide (0≤(IntKind.wrap .u64 (IntKind.wrap .i64 ((8:Int)*x5))))) (.br (decide ((h0.length+[IntKind.wrap .u8 (Int.fdiv x4 (2 ^ (min (Int.toNat (IntKind.wrap .u64 (IntKind.wrap .i64 ((8:Int)*x5)))) (IntKind.bits .i64))))].length)*1≤MAXB)) (.next (((),(),(),(),x4,IntKind.wrap .i64 (x5 - (1:Int)),u30),(h0++[IntKind.wrap .u8 (Int.fdiv x4 (2 ^ (min (Int.toNat (IntKind.wrap .u64 (IntKind.wrap .i64 ((8:Int)*x5)))) (IntKind.bits .i64))))],()))) .fail) .fail) (.done (.exit 2) E_iPadded_1_0 ((u36),(h0,()))))
noncomputable abbrev V_iPadded_1:=(Int)×(Int)×(List Int)
noncomputable abbrev A_iPadded_1:=Nat×(List Int)
noncomputable def fl_iPadded_1:A_iPadded_1:=(99,([]:List Int))
noncomputable def ss_iPadded_1 (x4:Int) (x5:Int) (h0:List Int):V_iPadded_1 ⊕ A_iPadded_1:=(cond (decide (x5 ≥ (0:Int))) (cond (decide (0≤(IntKind.wrap .u64 (IntKind.wrap .i64 ((8:Int)*x5))))) (cond (decide ((h0.length+[IntKind.wrap .u8 (Int.fdiv x4 (2 ^ (min (Int.toNat (IntKind.wrap .u64 (IntKind.wrap .i64 ((8:Int)*x5)))) (IntKind.bits .i64))))].length)*1≤MAXB)) (.inl (x4,IntKind.wrap .i64 (x5 - (1:Int)),h0++[IntKind.wrap .u8 (Int.fdiv x4 (2 ^ (min (Int.toNat (IntKind.wrap .u64 (IntKind.wrap .i64 ((8:Int)*x5)))) (IntKind.bits .i64))))])) (.inr fl_iPadded_1)) (.inr fl_iPadded_1)) (.inr (0,h0)))
noncomputable def it_iPadded_1 (x4:Int) (x5:Int) (h0:List Int):A_iPadded_1:=itX (fun v:V_iPadded_1=>ss_iPadded_1 v.1 v.2.1 v.2.2) fl_iPadded_1 (x4,x5,h0)
noncomputable def ct_iPadded_1 (a:A_iPadded_1):CT:=(.br (a.1==0) (.done (.exit 2) E_iPadded_1_0 ((u36),(a.2,()))) .fail)
noncomputable def T_iPadded_1 (x4:Int) (x5:Int) (h0:List Int):CT:=ct_iPadded_1 (it_iPadded_1 x4 x5 h0)
noncomputable abbrev sp_iPadded_1:S_iPadded_1.den→RT S_iPadded_1.den:=(fun d=>st_iPadded_1 d.1.2.2.2.2.1 d.1.2.2.2.2.2.1 d.2.1)
noncomputable abbrev pv_iPadded_1 (v:V_iPadded_1):S_iPadded_1.den:=(((),(),(),(),v.1,v.2.1,u30),(v.2.2,()))
theorem rl_iPadded_1:(∀ v:V_iPadded_1,(st_iPadded_1 v.1 v.2.1 v.2.2).val=relS pv_iPadded_1 ct_iPadded_1 (ss_iPadded_1 v.1 v.2.1 v.2.2))∧∀ a:A_iPadded_1,CEnd S_iPadded_1.den (ct_iPadded_1 a):=⟨fun v=>(relB (relB (relB rfl rfl) rfl) rfl),fun a=>(cendB (cendD (by simp)) cendF)⟩
noncomputable def ox_iPadded_1 (x4:Int) (x5:Int) (h0:List Int):Option (Ex×St):=(cond (decide (x5 ≥ (0:Int))) (cond (decide (0≤(IntKind.wrap .u64 (IntKind.wrap .i64 ((8:Int)*x5))))) (cond (decide ((h0.length+[IntKind.wrap .u8 (Int.fdiv x4 (2 ^ (min (Int.toNat (IntKind.wrap .u64 (IntKind.wrap .i64 ((8:Int)*x5)))) (IntKind.bits .i64))))].length)*1≤MAXB)) (some (.normal,(⟨(.junk::.junk::.junk::(.all 0 1)::(.t true (.int .i64) x4)::(.t true (.int .i64) (IntKind.wrap .i64 (x5 - (1:Int))))::jA29),[(.rows 5 true (.int .u8) (h0++[IntKind.wrap .u8 (Int.fdiv x4 (2 ^ (min (Int.toNat (IntKind.wrap .u64 (IntKind.wrap .i64 ((8:Int)*x5)))) (IntKind.bits .i64))))]))],0,[]⟩:St))) none) none) (some ((.exit 2),(⟨(.junk::.junk::.junk::(.all 0 1)::jA31),[(.rows 5 true (.int .u8) h0)],0,[]⟩:St))))
theorem rdA_iPadded_1:RdA G35 (fun _ _=>none) 2 body_iPadded_1 S_iPadded_1 0 [] (kepts [] [(2,[3])]) (fun d=>ox_iPadded_1 d.1.2.2.2.2.1 d.1.2.2.2.2.2.1 d.2.1):=by
 intro d
 kernel_rfl
theorem rdB_iPadded_1:∀ d:S_iPadded_1.den,(fun d=>ox_iPadded_1 d.1.2.2.2.2.1 d.1.2.2.2.2.2.1 d.2.1) d=(sp_iPadded_1 d).opt 0 []:=by
 intro d
 kernel_rfl
noncomputable abbrev say_iPadded_1:St→Option Tree:=S_iPadded_1.say 0 [] [] (fun d=>T_iPadded_1 d.1.2.2.2.2.1 d.1.2.2.2.2.2.1 d.2.1)
theorem lw_iPadded_1:LoopWp Try.prog say_iPadded_1 body_iPadded_1:=SS.wp2 hlz [] sp_iPadded_1 rdA_iPadded_1 rdB_iPadded_1 _ (fun d=>Runs.ofI2 (step:=sp_iPadded_1) pv_iPadded_1 rl_iPadded_1 rfl (d.1.2.2.2.2.1,d.1.2.2.2.2.2.1,d.2.1))
noncomputable def k1_iPadded (a0:List Int):=it_iPadded_1 (IntKind.wrap .i64 ((8:Int)*((((it_iPadded_0 a0 ((slices_Clone_byte a0)++[(128:Int)])).2.1).length:Nat):Int))) (7:Int) ((it_iPadded_0 a0 ((slices_Clone_byte a0)++[(128:Int)])).2.2)
noncomputable def iPadded (a0:List Int):List Int:=((k1_iPadded a0).2)
noncomputable abbrev e_iPadded (r:List Int):AV×List AObj:=((.t true t_sy r),[])
noncomputable abbrev g_iPadded:pshsDen P_iPadded→AV×List AObj:=fun d=>e_iPadded (iPadded d.1)
noncomputable def q_iPadded (a0:List Int):Bool:=(q_slices_Clone_byte a0)&&((decide (((slices_Clone_byte a0).length+[(128:Int)].length)*1≤MAXB))&&(((it_iPadded_0 a0 ((slices_Clone_byte a0)++[(128:Int)])).1==0)&&((k1_iPadded a0).1==0)))
noncomputable abbrev pre_iPadded:pshsDen P_iPadded→Bool:=fun d=>q_iPadded d.1
noncomputable abbrev L_iPadded:Nat→St→Option Tree:=fun b=>match b with | 0=>say_iPadded_0 | 2=>say_iPadded_1 | _=>fun _=>none
theorem run_iPadded:RunP true G35 (L_iPadded) Try.f150 P_iPadded pre_iPadded g_iPadded:=by
 rintro ⟨a0,_⟩ hp
 change q_iPadded a0=true at hp
 unfold q_iPadded at hp
 refine Eq.trans (b:=(cond (q_slices_Clone_byte a0) (cond (decide (((slices_Clone_byte a0).length+[(128:Int)].length)*1≤MAXB)) (cond ((it_iPadded_0 a0 ((slices_Clone_byte a0)++[(128:Int)])).1==0) (cond ((k1_iPadded a0).1==0) (some (e_iPadded ((k1_iPadded a0).2))) none) none) none) none)) (by kernel_rfl) ?_
 exact (cndA hp fun hp=>(cndA hp fun hp=>(cndA hp fun hp=>(cndT hp fun _h=>rfl))))
theorem c_iPadded:PContract Try.prog 150 (sumOf P_iPadded pre_iPadded g_iPadded):=pcD true G35 (by
  rw [show loopsIn 0 (bodyOf Try.f150)=[(0,body_iPadded_0),(2,body_iPadded_1)] by kernel_rfl];intro p hp;simp only [List.mem_cons,List.mem_nil_iff,or_false] at hp
  rcases hp with rfl | rfl
  ·exact lw_iPadded_0
  ·exact lw_iPadded_1) run_iPadded
noncomputable def S36:Tab:=Tab.add S35 150 (lift (sumOf P_iPadded pre_iPadded g_iPadded))
noncomputable def QF36:FuncId→Bool:=qadd QF35 150
theorem G36:Good Try.prog tt S36 QF36:=G35.addQ c_iPadded (cbl Try.f150) (fun _=>rfl)

noncomputable abbrev P_irounds:List PSh:=[]
noncomputable def irounds :List Int:=[(1116352408:Int),(1899447441:Int),(3049323471:Int),(3921009573:Int),(961987163:Int),(1508970993:Int),(2453635748:Int),(2870763221:Int),(3624381080:Int),(310598401:Int),(607225278:Int),(1426881987:Int),(1925078388:Int),(2162078206:Int),(2614888103:Int),(3248222580:Int),(3835390401:Int),(4022224774:Int),(264347078:Int),(604807628:Int),(770255983:Int),(1249150122:Int),(1555081692:Int),(1996064986:Int),(2554220882:Int),(2821834349:Int),(2952996808:Int),(3210313671:Int),(3336571891:Int),(3584528711:Int),(113926993:Int),(338241895:Int),(666307205:Int),(773529912:Int),(1294757372:Int),(1396182291:Int),(1695183700:Int),(1986661051:Int),(2177026350:Int),(2456956037:Int),(2730485921:Int),(2820302411:Int),(3259730800:Int),(3345764771:Int),(3516065817:Int),(3600352804:Int),(4094571909:Int),(275423344:Int),(430227734:Int),(506948616:Int),(659060556:Int),(883997877:Int),(958139571:Int),(1322822218:Int),(1537002063:Int),(1747873779:Int),(1955562222:Int),(2024104815:Int),(2227730452:Int),(2361852424:Int),(2428436474:Int),(2756734187:Int),(3204031479:Int),(3329325298:Int)]
noncomputable abbrev e_irounds (r:List Int):AV×List AObj:=((.ptr 0 0 1 0),[(.rows 176 true (.int .u32) r)])
noncomputable abbrev g_irounds:pshsDen P_irounds→AV×List AObj:=fun d=>e_irounds (irounds )
noncomputable abbrev pre_irounds:pshsDen P_irounds→Bool:=fun d=>true
theorem run_irounds:RunP true G36 (fun _ _=>none) Try.f148 P_irounds pre_irounds g_irounds:=by
 rintro _ hp
 kernel_rfl
theorem c_irounds:PContract Try.prog 148 (sumOf P_irounds pre_irounds g_irounds):=pcD true G36 hlz run_irounds
noncomputable def S37:Tab:=Tab.add S36 148 (lift (sumOf P_irounds pre_irounds g_irounds))
noncomputable def QF37:FuncId→Bool:=QF36
theorem G37:Good Try.prog tt S37 QF37:=G36.add c_irounds (cbl Try.f148) (by kernel_rfl)

theorem wrapU_nonneg (x:Int):0≤IntKind.wrap .u64 x:=by
 simp only [IntKind.wrap]
 exact Int.emod_nonneg _ (by decide)
noncomputable abbrev P_math_bits_RotateLeft32:List PSh:=[.t (.int .u32),.t (.int .i64)]
noncomputable def math_bits_RotateLeft32 (a0:Int) (a1:Int):Int:=(ior .u32 (IntKind.wrap .u32 (a0*2 ^ (min (Int.toNat (iand .u64 (IntKind.wrap .u64 a1) (31:Int))) (IntKind.bits .u32)))) (Int.fdiv a0 (2 ^ (min (Int.toNat (IntKind.wrap .u64 ((32:Int) - (iand .u64 (IntKind.wrap .u64 a1) (31:Int))))) (IntKind.bits .u32)))))
noncomputable abbrev e_math_bits_RotateLeft32 (r:Int):AV×List AObj:=((.t true (.int .u32) r),[])
noncomputable abbrev g_math_bits_RotateLeft32:pshsDen P_math_bits_RotateLeft32→AV×List AObj:=fun d=>e_math_bits_RotateLeft32 (math_bits_RotateLeft32 d.1 d.2.1)
noncomputable abbrev pre_math_bits_RotateLeft32:pshsDen P_math_bits_RotateLeft32→Bool:=fun d=>true
theorem run_math_bits_RotateLeft32:RunP true G37 (fun _ _=>none) Try.f171 P_math_bits_RotateLeft32 pre_math_bits_RotateLeft32 g_math_bits_RotateLeft32:=by
 rintro ⟨(a0:Int),⟨(a1:Int),_⟩⟩ hp
 refine Eq.trans (b:=(cond (decide (0≤(iand .u64 (IntKind.wrap .u64 a1) (31:Int)))) (cond (decide (0≤(IntKind.wrap .u64 ((32:Int) - (iand .u64 (IntKind.wrap .u64 a1) (31:Int)))))) (some (e_math_bits_RotateLeft32 (ior .u32 (IntKind.wrap .u32 (a0*2 ^ (min (Int.toNat (iand .u64 (IntKind.wrap .u64 a1) (31:Int))) (IntKind.bits .u32)))) (Int.fdiv a0 (2 ^ (min (Int.toNat (IntKind.wrap .u64 ((32:Int) - (iand .u64 (IntKind.wrap .u64 a1) (31:Int))))) (IntKind.bits .u32))))))) none) none)) (by kernel_rfl) ?_
 exact (cndT (decide_eq_true (wrapU_nonneg _)) (fun _h=>(cndT (decide_eq_true (wrapU_nonneg _)) (fun _h=>rfl))))
theorem c_math_bits_RotateLeft32:PContract Try.prog 171 (sumOf P_math_bits_RotateLeft32 pre_math_bits_RotateLeft32 g_math_bits_RotateLeft32):=pcD true G37 hlz run_math_bits_RotateLeft32
noncomputable def S38:Tab:=Tab.add S37 171 (lift (sumOf P_math_bits_RotateLeft32 pre_math_bits_RotateLeft32 g_math_bits_RotateLeft32))
noncomputable def QF38:FuncId→Bool:=qadd QF37 171
theorem G38:Good Try.prog tt S38 QF38:=G37.addQ c_math_bits_RotateLeft32 (cbl Try.f171) (fun _=>rfl)

noncomputable abbrev jS88:List Sh:=.junk::.junk::jS86
noncomputable abbrev u82:=((),u81)
noncomputable abbrev u93:=((),(),(),(),(),(),u87)
noncomputable abbrev jA88:List AV:=.junk::.junk::jA86
noncomputable abbrev P_iwordsOf:List PSh:=[.t t_sy]
noncomputable def body_iwordsOf_0:Code:=((loopsIn 0 (bodyOf Try.f170)).getD 0 (0,.skip)).2
noncomputable def body_iwordsOf_1:Code:=((loopsIn 0 (bodyOf Try.f170)).getD 1 (0,.skip)).2
noncomputable abbrev S_iwordsOf_0:SS:=⟨(.t false t_sy::.junk::.junk::.ptr 0 0 1 0::.junk::.junk::.junk::.junk::.junk::.junk::.t true (.int .i64)::jS81),[.rows 176 true (.int .u32)]⟩
noncomputable abbrev E_iwordsOf_0_0:SS:=⟨(.junk::.junk::.junk::.ptr 0 0 1 0::jS88),[.rows 176 true (.int .u32)]⟩
noncomputable def st_iwordsOf_0 (x0:List Int) (x10:Int) (h0:List Int):RT S_iwordsOf_0.den:=(.br (decide (x10<(16:Int))) (.br (decide (0≤(IntKind.wrap .i64 ((4:Int)*x10))∧(IntKind.wrap .i64 ((4:Int)*x10))<((x0.length:Nat):Int))) (.br (decide (0≤(IntKind.wrap .i64 ((IntKind.wrap .i64 ((4:Int)*x10))+(1:Int)))∧(IntKind.wrap .i64 ((IntKind.wrap .i64 ((4:Int)*x10))+(1:Int)))<((x0.length:Nat):Int))) (.br (decide (0≤(IntKind.wrap .i64 ((IntKind.wrap .i64 ((4:Int)*x10))+(2:Int)))∧(IntKind.wrap .i64 ((IntKind.wrap .i64 ((4:Int)*x10))+(2:Int)))<((x0.length:Nat):Int))) (.br (decide (0≤(IntKind.wrap .i64 ((IntKind.wrap .i64 ((4:Int)*x10))+(3:Int)))∧(IntKind.wrap .i64 ((IntKind.wrap .i64 ((4:Int)*x10))+(3:Int)))<((x0.length:Nat):Int))) (.br (decide (0≤x10∧x10<((64:Nat):Int)∧x10<(h0.length:Int))) (.next ((x0,(),(),(),(),(),(),(),(),(),IntKind.wrap .i64 (x10+(1:Int)),u82),(h0.set x10.toNat (ior .u32 (ior .u32 (ior .u32 (IntKind.wrap .u32 ((IntKind.wrap .u32 (x0.getD ((IntKind.wrap .i64 ((4:Int)*x10)).toNat) (0:Int)))*2 ^ (24))) (IntKind.wrap .u32 ((IntKind.wrap .u32 (x0.getD ((IntKind.wrap .i64 ((IntKind.wrap .i64 ((4:Int)*x10))+(1:Int))).toNat) (0:Int)))*2 ^ (16)))) (IntKind.wrap .u32 ((IntKind.wrap .u32 (x0.getD ((IntKind.wrap .i64 ((IntKind.wrap .i64 ((4:Int)*x10))+(2:Int))).toNat) (0:Int)))*2 ^ (8)))) (IntKind.wrap .u32 (x0.getD ((IntKind.wrap .i64 ((IntKind.wrap .i64 ((4:Int)*x10))+(3:Int))).toNat) (0:Int)))),()))) .fail) .fail) .fail) .fail) .fail) (.done (.exit 0) E_iwordsOf_0_0 ((u93),(h0,()))))
noncomputable abbrev V_iwordsOf_0:=(List Int)×(Int)×(List Int)
noncomputable abbrev A_iwordsOf_0:=Nat×(List Int)
noncomputable def fl_iwordsOf_0:A_iwordsOf_0:=(99,([]:List Int))
noncomputable def ss_iwordsOf_0 (x0:List Int) (x10:Int) (h0:List Int):V_iwordsOf_0 ⊕ A_iwordsOf_0:=(cond (decide (x10<(16:Int))) (cond (decide (0≤(IntKind.wrap .i64 ((4:Int)*x10))∧(IntKind.wrap .i64 ((4:Int)*x10))<((x0.length:Nat):Int))) (cond (decide (0≤(IntKind.wrap .i64 ((IntKind.wrap .i64 ((4:Int)*x10))+(1:Int)))∧(IntKind.wrap .i64 ((IntKind.wrap .i64 ((4:Int)*x10))+(1:Int)))<((x0.length:Nat):Int))) (cond (decide (0≤(IntKind.wrap .i64 ((IntKind.wrap .i64 ((4:Int)*x10))+(2:Int)))∧(IntKind.wrap .i64 ((IntKind.wrap .i64 ((4:Int)*x10))+(2:Int)))<((x0.length:Nat):Int))) (cond (decide (0≤(IntKind.wrap .i64 ((IntKind.wrap .i64 ((4:Int)*x10))+(3:Int)))∧(IntKind.wrap .i64 ((IntKind.wrap .i64 ((4:Int)*x10))+(3:Int)))<((x0.length:Nat):Int))) (cond (decide (0≤x10∧x10<((64:Nat):Int)∧x10<(h0.length:Int))) (.inl (x0,IntKind.wrap .i64 (x10+(1:Int)),h0.set x10.toNat (ior .u32 (ior .u32 (ior .u32 (IntKind.wrap .u32 ((IntKind.wrap .u32 (x0.getD ((IntKind.wrap .i64 ((4:Int)*x10)).toNat) (0:Int)))*2 ^ (24))) (IntKind.wrap .u32 ((IntKind.wrap .u32 (x0.getD ((IntKind.wrap .i64 ((IntKind.wrap .i64 ((4:Int)*x10))+(1:Int))).toNat) (0:Int)))*2 ^ (16)))) (IntKind.wrap .u32 ((IntKind.wrap .u32 (x0.getD ((IntKind.wrap .i64 ((IntKind.wrap .i64 ((4:Int)*x10))+(2:Int))).toNat) (0:Int)))*2 ^ (8)))) (IntKind.wrap .u32 (x0.getD ((IntKind.wrap .i64 ((IntKind.wrap .i64 ((4:Int)*x10))+(3:Int))).toNat) (0:Int)))))) (.inr fl_iwordsOf_0)) (.inr fl_iwordsOf_0)) (.inr fl_iwordsOf_0)) (.inr fl_iwordsOf_0)) (.inr fl_iwordsOf_0)) (.inr (0,h0)))
noncomputable def it_iwordsOf_0 (x0:List Int) (x10:Int) (h0:List Int):A_iwordsOf_0:=itX (fun v:V_iwordsOf_0=>ss_iwordsOf_0 v.1 v.2.1 v.2.2) fl_iwordsOf_0 (x0,x10,h0)
noncomputable def ct_iwordsOf_0 (a:A_iwordsOf_0):CT:=(.br (a.1==0) (.done (.exit 0) E_iwordsOf_0_0 ((u93),(a.2,()))) .fail)
noncomputable def T_iwordsOf_0 (x0:List Int) (x10:Int) (h0:List Int):CT:=ct_iwordsOf_0 (it_iwordsOf_0 x0 x10 h0)
noncomputable abbrev sp_iwordsOf_0:S_iwordsOf_0.den→RT S_iwordsOf_0.den:=(fun d=>st_iwordsOf_0 d.1.1 d.1.2.2.2.2.2.2.2.2.2.2.1 d.2.1)
noncomputable abbrev pv_iwordsOf_0 (v:V_iwordsOf_0):S_iwordsOf_0.den:=((v.1,(),(),(),(),(),(),(),(),(),v.2.1,u82),(v.2.2,()))
theorem rl_iwordsOf_0:(∀ v:V_iwordsOf_0,(st_iwordsOf_0 v.1 v.2.1 v.2.2).val=relS pv_iwordsOf_0 ct_iwordsOf_0 (ss_iwordsOf_0 v.1 v.2.1 v.2.2))∧∀ a:A_iwordsOf_0,CEnd S_iwordsOf_0.den (ct_iwordsOf_0 a):=⟨fun v=>by repeat' first | apply relB | rfl,fun a=>(cendB (cendD (by simp)) cendF)⟩
noncomputable def ox_iwordsOf_0 (x0:List Int) (x10:Int) (h0:List Int):Option (Ex×St):=(cond (decide (x10<(16:Int))) (cond (decide (0≤(IntKind.wrap .i64 ((4:Int)*x10))∧(IntKind.wrap .i64 ((4:Int)*x10))<((x0.length:Nat):Int))) (cond (decide (0≤(IntKind.wrap .i64 ((IntKind.wrap .i64 ((4:Int)*x10))+(1:Int)))∧(IntKind.wrap .i64 ((IntKind.wrap .i64 ((4:Int)*x10))+(1:Int)))<((x0.length:Nat):Int))) (cond (decide (0≤(IntKind.wrap .i64 ((IntKind.wrap .i64 ((4:Int)*x10))+(2:Int)))∧(IntKind.wrap .i64 ((IntKind.wrap .i64 ((4:Int)*x10))+(2:Int)))<((x0.length:Nat):Int))) (cond (decide (0≤(IntKind.wrap .i64 ((IntKind.wrap .i64 ((4:Int)*x10))+(3:Int)))∧(IntKind.wrap .i64 ((IntKind.wrap .i64 ((4:Int)*x10))+(3:Int)))<((x0.length:Nat):Int))) (cond (decide (0≤x10∧x10<((64:Nat):Int)∧x10<(h0.length:Int))) (some (.normal,(⟨((.t false t_sy x0)::.junk::.junk::(.ptr 0 0 1 0)::.junk::.junk::.junk::.junk::.junk::.junk::(.t true (.int .i64) (IntKind.wrap .i64 (x10+(1:Int))))::jA81),[(.rows 176 true (.int .u32) (h0.set x10.toNat (ior .u32 (ior .u32 (ior .u32 (IntKind.wrap .u32 ((IntKind.wrap .u32 (x0.getD ((IntKind.wrap .i64 ((4:Int)*x10)).toNat) (0:Int)))*2 ^ (24))) (IntKind.wrap .u32 ((IntKind.wrap .u32 (x0.getD ((IntKind.wrap .i64 ((IntKind.wrap .i64 ((4:Int)*x10))+(1:Int))).toNat) (0:Int)))*2 ^ (16)))) (IntKind.wrap .u32 ((IntKind.wrap .u32 (x0.getD ((IntKind.wrap .i64 ((IntKind.wrap .i64 ((4:Int)*x10))+(2:Int))).toNat) (0:Int)))*2 ^ (8)))) (IntKind.wrap .u32 (x0.getD ((IntKind.wrap .i64 ((IntKind.wrap .i64 ((4:Int)*x10))+(3:Int))).toNat) (0:Int))))))],0,[]⟩:St))) none) none) none) none) none) (some ((.exit 0),(⟨(.junk::.junk::.junk::(.ptr 0 0 1 0)::jA88),[(.rows 176 true (.int .u32) h0)],0,[]⟩:St))))
theorem rdA_iwordsOf_0:RdA G38 (fun _ _=>none) 0 body_iwordsOf_0 S_iwordsOf_0 0 [] (kepts [] [(0,[3])]) (fun d=>ox_iwordsOf_0 d.1.1 d.1.2.2.2.2.2.2.2.2.2.2.1 d.2.1):=by
 intro d
 kernel_rfl
theorem rdB_iwordsOf_0:∀ d:S_iwordsOf_0.den,(fun d=>ox_iwordsOf_0 d.1.1 d.1.2.2.2.2.2.2.2.2.2.2.1 d.2.1) d=(sp_iwordsOf_0 d).opt 0 []:=by
 intro d
 kernel_rfl
noncomputable abbrev say_iwordsOf_0:St→Option Tree:=S_iwordsOf_0.say 0 [] [] (fun d=>T_iwordsOf_0 d.1.1 d.1.2.2.2.2.2.2.2.2.2.2.1 d.2.1)
theorem lw_iwordsOf_0:LoopWp Try.prog say_iwordsOf_0 body_iwordsOf_0:=SS.wp2 hlz [] sp_iwordsOf_0 rdA_iwordsOf_0 rdB_iwordsOf_0 _ (fun d=>Runs.ofI2 (step:=sp_iwordsOf_0) pv_iwordsOf_0 rl_iwordsOf_0 rfl (d.1.1,d.1.2.2.2.2.2.2.2.2.2.2.1,d.2.1))
noncomputable abbrev S_iwordsOf_1:SS:=⟨(.junk::.junk::.junk::.ptr 0 0 1 0::.junk::.t true (.int .i64)::jS86),[.rows 176 true (.int .u32)]⟩
noncomputable abbrev E_iwordsOf_1_0:SS:=⟨(.junk::.junk::.junk::.ptr 0 0 1 0::jS88),[.rows 176 true (.int .u32)]⟩
noncomputable def k1_iwordsOf (x5:Int) (h0:List Int):=math_bits_RotateLeft32 (h0.getD ((IntKind.wrap .i64 (x5 - (15:Int))).toNat) (0:Int)) (-7:Int)
noncomputable def k2_iwordsOf (x5:Int) (h0:List Int):=math_bits_RotateLeft32 (h0.getD ((IntKind.wrap .i64 (x5 - (15:Int))).toNat) (0:Int)) (-18:Int)
noncomputable def k3_iwordsOf (x5:Int) (h0:List Int):=math_bits_RotateLeft32 (h0.getD ((IntKind.wrap .i64 (x5 - (2:Int))).toNat) (0:Int)) (-17:Int)
noncomputable def k4_iwordsOf (x5:Int) (h0:List Int):=math_bits_RotateLeft32 (h0.getD ((IntKind.wrap .i64 (x5 - (2:Int))).toNat) (0:Int)) (-19:Int)
noncomputable def st_iwordsOf_1 (x5:Int) (h0:List Int):RT S_iwordsOf_1.den:=(.br (decide (x5<(64:Int))) (.br (decide (0≤(IntKind.wrap .i64 (x5 - (15:Int)))∧(IntKind.wrap .i64 (x5 - (15:Int)))<((64:Nat):Int)∧(IntKind.wrap .i64 (x5 - (15:Int)))<(h0.length:Int))) (.br (decide (0≤(IntKind.wrap .i64 (x5 - (2:Int)))∧(IntKind.wrap .i64 (x5 - (2:Int)))<((64:Nat):Int)∧(IntKind.wrap .i64 (x5 - (2:Int)))<(h0.length:Int))) (.br (decide (0≤(IntKind.wrap .i64 (x5 - (16:Int)))∧(IntKind.wrap .i64 (x5 - (16:Int)))<((64:Nat):Int)∧(IntKind.wrap .i64 (x5 - (16:Int)))<(h0.length:Int))) (.br (decide (0≤(IntKind.wrap .i64 (x5 - (7:Int)))∧(IntKind.wrap .i64 (x5 - (7:Int)))<((64:Nat):Int)∧(IntKind.wrap .i64 (x5 - (7:Int)))<(h0.length:Int))) (.br (decide (0≤x5∧x5<((64:Nat):Int)∧x5<(h0.length:Int))) (.next (((),(),(),(),(),IntKind.wrap .i64 (x5+(1:Int)),u87),(h0.set x5.toNat (IntKind.wrap .u32 ((IntKind.wrap .u32 ((IntKind.wrap .u32 ((h0.getD ((IntKind.wrap .i64 (x5 - (16:Int))).toNat) (0:Int))+(ixor .u32 (ixor .u32 (k1_iwordsOf x5 h0) (k2_iwordsOf x5 h0)) (Int.fdiv (h0.getD ((IntKind.wrap .i64 (x5 - (15:Int))).toNat) (0:Int)) (2 ^ (3))))))+(h0.getD ((IntKind.wrap .i64 (x5 - (7:Int))).toNat) (0:Int))))+(ixor .u32 (ixor .u32 (k3_iwordsOf x5 h0) (k4_iwordsOf x5 h0)) (Int.fdiv (h0.getD ((IntKind.wrap .i64 (x5 - (2:Int))).toNat) (0:Int)) (2 ^ (10)))))),()))) .fail) .fail) .fail) .fail) .fail) (.done (.exit 2) E_iwordsOf_1_0 ((u93),(h0,()))))
noncomputable abbrev V_iwordsOf_1:=(Int)×(List Int)
noncomputable abbrev A_iwordsOf_1:=Nat×(List Int)
noncomputable def fl_iwordsOf_1:A_iwordsOf_1:=(99,([]:List Int))
noncomputable def ss_iwordsOf_1 (x5:Int) (h0:List Int):V_iwordsOf_1 ⊕ A_iwordsOf_1:=(cond (decide (x5<(64:Int))) (cond (decide (0≤(IntKind.wrap .i64 (x5 - (15:Int)))∧(IntKind.wrap .i64 (x5 - (15:Int)))<((64:Nat):Int)∧(IntKind.wrap .i64 (x5 - (15:Int)))<(h0.length:Int))) (cond (decide (0≤(IntKind.wrap .i64 (x5 - (2:Int)))∧(IntKind.wrap .i64 (x5 - (2:Int)))<((64:Nat):Int)∧(IntKind.wrap .i64 (x5 - (2:Int)))<(h0.length:Int))) (cond (decide (0≤(IntKind.wrap .i64 (x5 - (16:Int)))∧(IntKind.wrap .i64 (x5 - (16:Int)))<((64:Nat):Int)∧(IntKind.wrap .i64 (x5 - (16:Int)))<(h0.length:Int))) (cond (decide (0≤(IntKind.wrap .i64 (x5 - (7:Int)))∧(IntKind.wrap .i64 (x5 - (7:Int)))<((64:Nat):Int)∧(IntKind.wrap .i64 (x5 - (7:Int)))<(h0.length:Int))) (cond (decide (0≤x5∧x5<((64:Nat):Int)∧x5<(h0.length:Int))) (.inl (IntKind.wrap .i64 (x5+(1:Int)),h0.set x5.toNat (IntKind.wrap .u32 ((IntKind.wrap .u32 ((IntKind.wrap .u32 ((h0.getD ((IntKind.wrap .i64 (x5 - (16:Int))).toNat) (0:Int))+(ixor .u32 (ixor .u32 (k1_iwordsOf x5 h0) (k2_iwordsOf x5 h0)) (Int.fdiv (h0.getD ((IntKind.wrap .i64 (x5 - (15:Int))).toNat) (0:Int)) (2 ^ (3))))))+(h0.getD ((IntKind.wrap .i64 (x5 - (7:Int))).toNat) (0:Int))))+(ixor .u32 (ixor .u32 (k3_iwordsOf x5 h0) (k4_iwordsOf x5 h0)) (Int.fdiv (h0.getD ((IntKind.wrap .i64 (x5 - (2:Int))).toNat) (0:Int)) (2 ^ (10)))))))) (.inr fl_iwordsOf_1)) (.inr fl_iwordsOf_1)) (.inr fl_iwordsOf_1)) (.inr fl_iwordsOf_1)) (.inr fl_iwordsOf_1)) (.inr (0,h0)))
noncomputable def it_iwordsOf_1 (x5:Int) (h0:List Int):A_iwordsOf_1:=itX (fun v:V_iwordsOf_1=>ss_iwordsOf_1 v.1 v.2) fl_iwordsOf_1 (x5,h0)
noncomputable def ct_iwordsOf_1 (a:A_iwordsOf_1):CT:=(.br (a.1==0) (.done (.exit 2) E_iwordsOf_1_0 ((u93),(a.2,()))) .fail)
noncomputable def T_iwordsOf_1 (x5:Int) (h0:List Int):CT:=ct_iwordsOf_1 (it_iwordsOf_1 x5 h0)
noncomputable abbrev sp_iwordsOf_1:S_iwordsOf_1.den→RT S_iwordsOf_1.den:=(fun d=>st_iwordsOf_1 d.1.2.2.2.2.2.1 d.2.1)
noncomputable abbrev pv_iwordsOf_1 (v:V_iwordsOf_1):S_iwordsOf_1.den:=(((),(),(),(),(),v.1,u87),(v.2,()))
theorem rl_iwordsOf_1:(∀ v:V_iwordsOf_1,(st_iwordsOf_1 v.1 v.2).val=relS pv_iwordsOf_1 ct_iwordsOf_1 (ss_iwordsOf_1 v.1 v.2))∧∀ a:A_iwordsOf_1,CEnd S_iwordsOf_1.den (ct_iwordsOf_1 a):=⟨fun v=>by repeat' first | apply relB | rfl,fun a=>(cendB (cendD (by simp)) cendF)⟩
noncomputable def ox_iwordsOf_1 (x5:Int) (h0:List Int):Option (Ex×St):=(cond (decide (x5<(64:Int))) (cond (decide (0≤(IntKind.wrap .i64 (x5 - (15:Int)))∧(IntKind.wrap .i64 (x5 - (15:Int)))<((64:Nat):Int)∧(IntKind.wrap .i64 (x5 - (15:Int)))<(h0.length:Int))) (cond (decide (0≤(IntKind.wrap .i64 (x5 - (2:Int)))∧(IntKind.wrap .i64 (x5 - (2:Int)))<((64:Nat):Int)∧(IntKind.wrap .i64 (x5 - (2:Int)))<(h0.length:Int))) (cond (decide (0≤(IntKind.wrap .i64 (x5 - (16:Int)))∧(IntKind.wrap .i64 (x5 - (16:Int)))<((64:Nat):Int)∧(IntKind.wrap .i64 (x5 - (16:Int)))<(h0.length:Int))) (cond (decide (0≤(IntKind.wrap .i64 (x5 - (7:Int)))∧(IntKind.wrap .i64 (x5 - (7:Int)))<((64:Nat):Int)∧(IntKind.wrap .i64 (x5 - (7:Int)))<(h0.length:Int))) (cond (decide (0≤x5∧x5<((64:Nat):Int)∧x5<(h0.length:Int))) (some (.normal,(⟨(.junk::.junk::.junk::(.ptr 0 0 1 0)::.junk::(.t true (.int .i64) (IntKind.wrap .i64 (x5+(1:Int))))::jA86),[(.rows 176 true (.int .u32) (h0.set x5.toNat (IntKind.wrap .u32 ((IntKind.wrap .u32 ((IntKind.wrap .u32 ((h0.getD ((IntKind.wrap .i64 (x5 - (16:Int))).toNat) (0:Int))+(ixor .u32 (ixor .u32 (k1_iwordsOf x5 h0) (k2_iwordsOf x5 h0)) (Int.fdiv (h0.getD ((IntKind.wrap .i64 (x5 - (15:Int))).toNat) (0:Int)) (2 ^ (3))))))+(h0.getD ((IntKind.wrap .i64 (x5 - (7:Int))).toNat) (0:Int))))+(ixor .u32 (ixor .u32 (k3_iwordsOf x5 h0) (k4_iwordsOf x5 h0)) (Int.fdiv (h0.getD ((IntKind.wrap .i64 (x5 - (2:Int))).toNat) (0:Int)) (2 ^ (10))))))))],0,[]⟩:St))) none) none) none) none) none) (some ((.exit 2),(⟨(.junk::.junk::.junk::(.ptr 0 0 1 0)::jA88),[(.rows 176 true (.int .u32) h0)],0,[]⟩:St))))
theorem rdA_iwordsOf_1:RdA G38 (fun _ _=>none) 2 body_iwordsOf_1 S_iwordsOf_1 0 [] (kepts [] [(2,[3])]) (fun d=>ox_iwordsOf_1 d.1.2.2.2.2.2.1 d.2.1):=by
 intro d
 kernel_rfl
theorem rdB_iwordsOf_1:∀ d:S_iwordsOf_1.den,(fun d=>ox_iwordsOf_1 d.1.2.2.2.2.2.1 d.2.1) d=(sp_iwordsOf_1 d).opt 0 []:=by
 intro d
 kernel_rfl
noncomputable abbrev say_iwordsOf_1:St→Option Tree:=S_iwordsOf_1.say 0 [] [] (fun d=>T_iwordsOf_1 d.1.2.2.2.2.2.1 d.2.1)
theorem lw_iwordsOf_1:LoopWp Try.prog say_iwordsOf_1 body_iwordsOf_1:=SS.wp2 hlz [] sp_iwordsOf_1 rdA_iwordsOf_1 rdB_iwordsOf_1 _ (fun d=>Runs.ofI2 (step:=sp_iwordsOf_1) pv_iwordsOf_1 rl_iwordsOf_1 rfl (d.1.2.2.2.2.2.1,d.2.1))
noncomputable def iwordsOf (a0:List Int):List Int:=((it_iwordsOf_1 (16:Int) ((it_iwordsOf_0 a0 (0:Int) (List.replicate 64 (0:Int))).2)).2)
noncomputable abbrev e_iwordsOf (r:List Int):AV×List AObj:=((.ptr 0 0 1 0),[(.rows 176 true (.int .u32) r)])
noncomputable abbrev g_iwordsOf:pshsDen P_iwordsOf→AV×List AObj:=fun d=>e_iwordsOf (iwordsOf d.1)
noncomputable def q_iwordsOf (a0:List Int):Bool:=((it_iwordsOf_0 a0 (0:Int) (List.replicate 64 (0:Int))).1==0)&&((it_iwordsOf_1 (16:Int) ((it_iwordsOf_0 a0 (0:Int) (List.replicate 64 (0:Int))).2)).1==0)
noncomputable abbrev pre_iwordsOf:pshsDen P_iwordsOf→Bool:=fun d=>q_iwordsOf d.1
noncomputable abbrev L_iwordsOf:Nat→St→Option Tree:=fun b=>match b with | 0=>say_iwordsOf_0 | 2=>say_iwordsOf_1 | _=>fun _=>none
theorem run_iwordsOf:RunP true G38 (L_iwordsOf) Try.f170 P_iwordsOf pre_iwordsOf g_iwordsOf:=by
 rintro ⟨a0,_⟩ hp
 change q_iwordsOf a0=true at hp
 unfold q_iwordsOf at hp
 refine Eq.trans (b:=(cond ((it_iwordsOf_0 a0 (0:Int) (List.replicate 64 (0:Int))).1==0) (cond ((it_iwordsOf_1 (16:Int) ((it_iwordsOf_0 a0 (0:Int) (List.replicate 64 (0:Int))).2)).1==0) (some (e_iwordsOf ((it_iwordsOf_1 (16:Int) ((it_iwordsOf_0 a0 (0:Int) (List.replicate 64 (0:Int))).2)).2))) none) none)) (by kernel_rfl) ?_
 exact (cndA hp fun hp=>(cndT hp fun _h=>rfl))
theorem c_iwordsOf:PContract Try.prog 170 (sumOf P_iwordsOf pre_iwordsOf g_iwordsOf):=pcD true G38 (by
  rw [show loopsIn 0 (bodyOf Try.f170)=[(0,body_iwordsOf_0),(2,body_iwordsOf_1)] by kernel_rfl];intro p hp;simp only [List.mem_cons,List.mem_nil_iff,or_false] at hp
  rcases hp with rfl | rfl
  ·exact lw_iwordsOf_0
  ·exact lw_iwordsOf_1) run_iwordsOf
noncomputable def S39:Tab:=Tab.add S38 170 (lift (sumOf P_iwordsOf pre_iwordsOf g_iwordsOf))
noncomputable def QF39:FuncId→Bool:=QF38
theorem G39:Good Try.prog tt S39 QF39:=G38.add c_iwordsOf (cbl Try.f170) (by kernel_rfl)

noncomputable abbrev jS101:List Sh:=.junk::.junk::.junk::.junk::jS97
noncomputable abbrev jS116:List Sh:=.junk::.junk::.junk::.junk::.junk::.junk::.junk::.junk::.junk::.junk::.junk::.junk::.junk::.junk::.junk::jS101
noncomputable abbrev u125:=((),(),(),(),(),(),(),(),(),(),(),(),(),(),(),(),(),(),(),(),(),(),(),u102)
noncomputable abbrev jA101:List AV:=.junk::.junk::.junk::.junk::jA97
noncomputable abbrev jA116:List AV:=.junk::.junk::.junk::.junk::.junk::.junk::.junk::.junk::.junk::.junk::.junk::.junk::.junk::.junk::.junk::jA101
noncomputable abbrev jS123:List Sh:=.junk::.junk::.junk::.junk::.junk::.junk::.junk::jS116
noncomputable abbrev u15:=((),(),u13)
noncomputable abbrev jA14:List AV:=.junk::.junk::.junk::.junk::.junk::.junk::.junk::.junk::.junk::.junk::.junk::.junk::.junk::.junk::[]
noncomputable abbrev jA123:List AV:=.junk::.junk::.junk::.junk::.junk::.junk::.junk::jA116
noncomputable abbrev SM_iturnBlock:SS:=⟨[.ptr 0 0 1 0,.t false t_sy,.ptr 1 0 1 0],[.rows 158 true (.int .u32),.rows 176 true (.int .u32)]⟩
noncomputable def body_iturnBlock_0:Code:=((loopsIn 0 (bodyOf Try.f151)).getD 0 (0,.skip)).2
noncomputable def body_iturnBlock_1:Code:=((loopsIn 0 (bodyOf Try.f151)).getD 1 (0,.skip)).2
noncomputable abbrev S_iturnBlock_0:SS:=⟨(.ptr 0 0 1 0::.junk::.ptr 1 0 1 0::.junk::.junk::.junk::.ptr 2 0 1 0::.ptr 3 0 1 0::.junk::.junk::.junk::.junk::.junk::.junk::.junk::.junk::.junk::.junk::.junk::.junk::.junk::.junk::.t true (.int .i64)::jS101),[.rows 158 true (.int .u32),.rows 176 true (.int .u32),.rows 176 true (.int .u32),.rows 158 true (.int .u32)]⟩
noncomputable abbrev E_iturnBlock_0_0:SS:=⟨(.ptr 0 0 1 0::.junk::.junk::.junk::.junk::.junk::.junk::.ptr 2 0 1 0::jS116),[.rows 158 true (.int .u32),.rows 176 true (.int .u32),.rows 158 true (.int .u32)]⟩
noncomputable def st_iturnBlock_0 (x22:Int) (h0:List Int) (h1:List Int) (h2:List Int) (h3:List Int):RT S_iturnBlock_0.den:=(.br (decide (x22<(64:Int))) (.br (decide (0≤(0:Int)∧(0:Int)<((8:Nat):Int)∧(0:Int)<(h3.length:Int))) (.br (decide (0≤(4:Int)∧(4:Int)<((8:Nat):Int)∧(4:Int)<(h3.length:Int))) (.br (decide (0≤(5:Int)∧(5:Int)<((8:Nat):Int)∧(5:Int)<(h3.length:Int))) (.br (decide (0≤(6:Int)∧(6:Int)<((8:Nat):Int)∧(6:Int)<(h3.length:Int))) (.br (decide (0≤(7:Int)∧(7:Int)<((8:Nat):Int)∧(7:Int)<(h3.length:Int))) (.br (decide (0≤x22∧x22<((64:Nat):Int)∧x22<(h1.length:Int))) (.br (decide (0≤x22∧x22<((64:Nat):Int)∧x22<(h2.length:Int))) (.br (decide (0≤(1:Int)∧(1:Int)<((8:Nat):Int)∧(1:Int)<(h3.length:Int))) (.br (decide (0≤(2:Int)∧(2:Int)<((8:Nat):Int)∧(2:Int)<(h3.length:Int))) (.br (decide (0≤(1:Int)∧(1:Int)<((8:Nat):Int)∧(1:Int)<(h3.length:Int))) (.br (decide (0≤(2:Int)∧(2:Int)<((8:Nat):Int)∧(2:Int)<(h3.length:Int))) (.br (decide (0≤(1:Int)∧(1:Int)<((8:Nat):Int)∧(1:Int)<(h3.length:Int))) (.br (decide (0≤(2:Int)∧(2:Int)<((8:Nat):Int)∧(2:Int)<(h3.length:Int))) (.br (decide (0≤(3:Int)∧(3:Int)<((8:Nat):Int)∧(3:Int)<(h3.length:Int))) (.br (decide (0≤(5:Int)∧(5:Int)<((8:Nat):Int)∧(5:Int)<(h3.length:Int))) (.br (decide (0≤(6:Int)∧(6:Int)<((8:Nat):Int)∧(6:Int)<(h3.length:Int))) (.br (decide (h3.length=8)) (.next (((),(),(),(),(),(),(),(),(),(),(),(),(),(),(),(),(),(),(),(),(),(),IntKind.wrap .i64 (x22+(1:Int)),u102),(h0,h1,h2,[IntKind.wrap .u32 ((IntKind.wrap .u32 ((IntKind.wrap .u32 ((IntKind.wrap .u32 ((IntKind.wrap .u32 ((IntKind.wrap .u32 ((h3.getD ((7:Int).toNat) (0:Int))+(ixor .u32 (ixor .u32 (math_bits_RotateLeft32 (h3.getD ((4:Int).toNat) (0:Int)) (-6:Int)) (math_bits_RotateLeft32 (h3.getD ((4:Int).toNat) (0:Int)) (-11:Int))) (math_bits_RotateLeft32 (h3.getD ((4:Int).toNat) (0:Int)) (-25:Int)))))+(ixor .u32 (iand .u32 (h3.getD ((4:Int).toNat) (0:Int)) (h3.getD ((5:Int).toNat) (0:Int))) (iand .u32 (ixor .u32 (4294967295) (h3.getD ((4:Int).toNat) (0:Int))) (h3.getD ((6:Int).toNat) (0:Int))))))+(h1.getD x22.toNat (0:Int))))+(h2.getD x22.toNat (0:Int))))+(ixor .u32 (ixor .u32 (math_bits_RotateLeft32 (h3.getD ((0:Int).toNat) (0:Int)) (-2:Int)) (math_bits_RotateLeft32 (h3.getD ((0:Int).toNat) (0:Int)) (-13:Int))) (math_bits_RotateLeft32 (h3.getD ((0:Int).toNat) (0:Int)) (-22:Int)))))+(ixor .u32 (ixor .u32 (iand .u32 (h3.getD ((0:Int).toNat) (0:Int)) (h3.getD ((1:Int).toNat) (0:Int))) (iand .u32 (h3.getD ((0:Int).toNat) (0:Int)) (h3.getD ((2:Int).toNat) (0:Int)))) (iand .u32 (h3.getD ((1:Int).toNat) (0:Int)) (h3.getD ((2:Int).toNat) (0:Int))))),h3.getD ((0:Int).toNat) (0:Int),h3.getD ((1:Int).toNat) (0:Int),h3.getD ((2:Int).toNat) (0:Int),IntKind.wrap .u32 ((h3.getD ((3:Int).toNat) (0:Int))+(IntKind.wrap .u32 ((IntKind.wrap .u32 ((IntKind.wrap .u32 ((IntKind.wrap .u32 ((h3.getD ((7:Int).toNat) (0:Int))+(ixor .u32 (ixor .u32 (math_bits_RotateLeft32 (h3.getD ((4:Int).toNat) (0:Int)) (-6:Int)) (math_bits_RotateLeft32 (h3.getD ((4:Int).toNat) (0:Int)) (-11:Int))) (math_bits_RotateLeft32 (h3.getD ((4:Int).toNat) (0:Int)) (-25:Int)))))+(ixor .u32 (iand .u32 (h3.getD ((4:Int).toNat) (0:Int)) (h3.getD ((5:Int).toNat) (0:Int))) (iand .u32 (ixor .u32 (4294967295) (h3.getD ((4:Int).toNat) (0:Int))) (h3.getD ((6:Int).toNat) (0:Int))))))+(h1.getD x22.toNat (0:Int))))+(h2.getD x22.toNat (0:Int))))),h3.getD ((4:Int).toNat) (0:Int),h3.getD ((5:Int).toNat) (0:Int),h3.getD ((6:Int).toNat) (0:Int)],()))) .fail) .fail) .fail) .fail) .fail) .fail) .fail) .fail) .fail) .fail) .fail) .fail) .fail) .fail) .fail) .fail) .fail) (.done (.exit 0) E_iturnBlock_0_0 ((u125),(h0,h1,h3,()))))
noncomputable abbrev V_iturnBlock_0:=(Int)×(List Int)×(List Int)×(List Int)×(List Int)
noncomputable abbrev A_iturnBlock_0:=Nat×(List Int)×(List Int)×(List Int)
noncomputable def fl_iturnBlock_0:A_iturnBlock_0:=(99,([]:List Int),([]:List Int),([]:List Int))
noncomputable def ss_iturnBlock_0 (x22:Int) (h0:List Int) (h1:List Int) (h2:List Int) (h3:List Int):V_iturnBlock_0 ⊕ A_iturnBlock_0:=(cond (decide (x22<(64:Int))) (cond (decide (0≤(0:Int)∧(0:Int)<((8:Nat):Int)∧(0:Int)<(h3.length:Int))) (cond (decide (0≤(4:Int)∧(4:Int)<((8:Nat):Int)∧(4:Int)<(h3.length:Int))) (cond (decide (0≤(5:Int)∧(5:Int)<((8:Nat):Int)∧(5:Int)<(h3.length:Int))) (cond (decide (0≤(6:Int)∧(6:Int)<((8:Nat):Int)∧(6:Int)<(h3.length:Int))) (cond (decide (0≤(7:Int)∧(7:Int)<((8:Nat):Int)∧(7:Int)<(h3.length:Int))) (cond (decide (0≤x22∧x22<((64:Nat):Int)∧x22<(h1.length:Int))) (cond (decide (0≤x22∧x22<((64:Nat):Int)∧x22<(h2.length:Int))) (cond (decide (0≤(1:Int)∧(1:Int)<((8:Nat):Int)∧(1:Int)<(h3.length:Int))) (cond (decide (0≤(2:Int)∧(2:Int)<((8:Nat):Int)∧(2:Int)<(h3.length:Int))) (cond (decide (0≤(1:Int)∧(1:Int)<((8:Nat):Int)∧(1:Int)<(h3.length:Int))) (cond (decide (0≤(2:Int)∧(2:Int)<((8:Nat):Int)∧(2:Int)<(h3.length:Int))) (cond (decide (0≤(1:Int)∧(1:Int)<((8:Nat):Int)∧(1:Int)<(h3.length:Int))) (cond (decide (0≤(2:Int)∧(2:Int)<((8:Nat):Int)∧(2:Int)<(h3.length:Int))) (cond (decide (0≤(3:Int)∧(3:Int)<((8:Nat):Int)∧(3:Int)<(h3.length:Int))) (cond (decide (0≤(5:Int)∧(5:Int)<((8:Nat):Int)∧(5:Int)<(h3.length:Int))) (cond (decide (0≤(6:Int)∧(6:Int)<((8:Nat):Int)∧(6:Int)<(h3.length:Int))) (cond (decide (h3.length=8)) (.inl (IntKind.wrap .i64 (x22+(1:Int)),h0,h1,h2,[IntKind.wrap .u32 ((IntKind.wrap .u32 ((IntKind.wrap .u32 ((IntKind.wrap .u32 ((IntKind.wrap .u32 ((IntKind.wrap .u32 ((h3.getD ((7:Int).toNat) (0:Int))+(ixor .u32 (ixor .u32 (math_bits_RotateLeft32 (h3.getD ((4:Int).toNat) (0:Int)) (-6:Int)) (math_bits_RotateLeft32 (h3.getD ((4:Int).toNat) (0:Int)) (-11:Int))) (math_bits_RotateLeft32 (h3.getD ((4:Int).toNat) (0:Int)) (-25:Int)))))+(ixor .u32 (iand .u32 (h3.getD ((4:Int).toNat) (0:Int)) (h3.getD ((5:Int).toNat) (0:Int))) (iand .u32 (ixor .u32 (4294967295) (h3.getD ((4:Int).toNat) (0:Int))) (h3.getD ((6:Int).toNat) (0:Int))))))+(h1.getD x22.toNat (0:Int))))+(h2.getD x22.toNat (0:Int))))+(ixor .u32 (ixor .u32 (math_bits_RotateLeft32 (h3.getD ((0:Int).toNat) (0:Int)) (-2:Int)) (math_bits_RotateLeft32 (h3.getD ((0:Int).toNat) (0:Int)) (-13:Int))) (math_bits_RotateLeft32 (h3.getD ((0:Int).toNat) (0:Int)) (-22:Int)))))+(ixor .u32 (ixor .u32 (iand .u32 (h3.getD ((0:Int).toNat) (0:Int)) (h3.getD ((1:Int).toNat) (0:Int))) (iand .u32 (h3.getD ((0:Int).toNat) (0:Int)) (h3.getD ((2:Int).toNat) (0:Int)))) (iand .u32 (h3.getD ((1:Int).toNat) (0:Int)) (h3.getD ((2:Int).toNat) (0:Int))))),h3.getD ((0:Int).toNat) (0:Int),h3.getD ((1:Int).toNat) (0:Int),h3.getD ((2:Int).toNat) (0:Int),IntKind.wrap .u32 ((h3.getD ((3:Int).toNat) (0:Int))+(IntKind.wrap .u32 ((IntKind.wrap .u32 ((IntKind.wrap .u32 ((IntKind.wrap .u32 ((h3.getD ((7:Int).toNat) (0:Int))+(ixor .u32 (ixor .u32 (math_bits_RotateLeft32 (h3.getD ((4:Int).toNat) (0:Int)) (-6:Int)) (math_bits_RotateLeft32 (h3.getD ((4:Int).toNat) (0:Int)) (-11:Int))) (math_bits_RotateLeft32 (h3.getD ((4:Int).toNat) (0:Int)) (-25:Int)))))+(ixor .u32 (iand .u32 (h3.getD ((4:Int).toNat) (0:Int)) (h3.getD ((5:Int).toNat) (0:Int))) (iand .u32 (ixor .u32 (4294967295) (h3.getD ((4:Int).toNat) (0:Int))) (h3.getD ((6:Int).toNat) (0:Int))))))+(h1.getD x22.toNat (0:Int))))+(h2.getD x22.toNat (0:Int))))),h3.getD ((4:Int).toNat) (0:Int),h3.getD ((5:Int).toNat) (0:Int),h3.getD ((6:Int).toNat) (0:Int)])) (.inr fl_iturnBlock_0)) (.inr fl_iturnBlock_0)) (.inr fl_iturnBlock_0)) (.inr fl_iturnBlock_0)) (.inr fl_iturnBlock_0)) (.inr fl_iturnBlock_0)) (.inr fl_iturnBlock_0)) (.inr fl_iturnBlock_0)) (.inr fl_iturnBlock_0)) (.inr fl_iturnBlock_0)) (.inr fl_iturnBlock_0)) (.inr fl_iturnBlock_0)) (.inr fl_iturnBlock_0)) (.inr fl_iturnBlock_0)) (.inr fl_iturnBlock_0)) (.inr fl_iturnBlock_0)) (.inr fl_iturnBlock_0)) (.inr (0,h0,h1,h3)))
noncomputable def it_iturnBlock_0 (x22:Int) (h0:List Int) (h1:List Int) (h2:List Int) (h3:List Int):A_iturnBlock_0:=itX (fun v:V_iturnBlock_0=>ss_iturnBlock_0 v.1 v.2.1 v.2.2.1 v.2.2.2.1 v.2.2.2.2) fl_iturnBlock_0 (x22,h0,h1,h2,h3)
noncomputable def ct_iturnBlock_0 (a:A_iturnBlock_0):CT:=(.br (a.1==0) (.done (.exit 0) E_iturnBlock_0_0 ((u125),(a.2.1,a.2.2.1,a.2.2.2,()))) .fail)
noncomputable def T_iturnBlock_0 (x22:Int) (h0:List Int) (h1:List Int) (h2:List Int) (h3:List Int):CT:=ct_iturnBlock_0 (it_iturnBlock_0 x22 h0 h1 h2 h3)
noncomputable abbrev ap_iturnBlock_0 {α:Sort _} (f:Int→(List Int)→(List Int)→(List Int)→(List Int)→α) (d:S_iturnBlock_0.den):α:=f d.1.2.2.2.2.2.2.2.2.2.2.2.2.2.2.2.2.2.2.2.2.2.2.1 d.2.1 d.2.2.1 d.2.2.2.1 d.2.2.2.2.1
noncomputable abbrev sp_iturnBlock_0:S_iturnBlock_0.den→RT S_iturnBlock_0.den:=(ap_iturnBlock_0 st_iturnBlock_0)
noncomputable abbrev pv_iturnBlock_0 (v:V_iturnBlock_0):S_iturnBlock_0.den:=(((),(),(),(),(),(),(),(),(),(),(),(),(),(),(),(),(),(),(),(),(),(),v.1,u102),(v.2.1,v.2.2.1,v.2.2.2.1,v.2.2.2.2,()))
theorem rl_iturnBlock_0:(∀ v:V_iturnBlock_0,(st_iturnBlock_0 v.1 v.2.1 v.2.2.1 v.2.2.2.1 v.2.2.2.2).val=relS pv_iturnBlock_0 ct_iturnBlock_0 (ss_iturnBlock_0 v.1 v.2.1 v.2.2.1 v.2.2.2.1 v.2.2.2.2))∧∀ a:A_iturnBlock_0,CEnd S_iturnBlock_0.den (ct_iturnBlock_0 a):=⟨fun v=>by repeat' first | apply relB | rfl,fun a=>(cendB (cendD (by simp)) cendF)⟩
noncomputable def ox_iturnBlock_0 (x22:Int) (h0:List Int) (h1:List Int) (h2:List Int) (h3:List Int):Option (Ex×St):=(cond (decide (x22<(64:Int))) (cond (decide (0≤(0:Int)∧(0:Int)<((8:Nat):Int)∧(0:Int)<(h3.length:Int))) (cond (decide (0≤(4:Int)∧(4:Int)<((8:Nat):Int)∧(4:Int)<(h3.length:Int))) (cond (decide (0≤(5:Int)∧(5:Int)<((8:Nat):Int)∧(5:Int)<(h3.length:Int))) (cond (decide (0≤(6:Int)∧(6:Int)<((8:Nat):Int)∧(6:Int)<(h3.length:Int))) (cond (decide (0≤(7:Int)∧(7:Int)<((8:Nat):Int)∧(7:Int)<(h3.length:Int))) (cond (decide (0≤x22∧x22<((64:Nat):Int)∧x22<(h1.length:Int))) (cond (decide (0≤x22∧x22<((64:Nat):Int)∧x22<(h2.length:Int))) (cond (decide (0≤(1:Int)∧(1:Int)<((8:Nat):Int)∧(1:Int)<(h3.length:Int))) (cond (decide (0≤(2:Int)∧(2:Int)<((8:Nat):Int)∧(2:Int)<(h3.length:Int))) (cond (decide (0≤(1:Int)∧(1:Int)<((8:Nat):Int)∧(1:Int)<(h3.length:Int))) (cond (decide (0≤(2:Int)∧(2:Int)<((8:Nat):Int)∧(2:Int)<(h3.length:Int))) (cond (decide (0≤(1:Int)∧(1:Int)<((8:Nat):Int)∧(1:Int)<(h3.length:Int))) (cond (decide (0≤(2:Int)∧(2:Int)<((8:Nat):Int)∧(2:Int)<(h3.length:Int))) (cond (decide (0≤(3:Int)∧(3:Int)<((8:Nat):Int)∧(3:Int)<(h3.length:Int))) (cond (decide (0≤(5:Int)∧(5:Int)<((8:Nat):Int)∧(5:Int)<(h3.length:Int))) (cond (decide (0≤(6:Int)∧(6:Int)<((8:Nat):Int)∧(6:Int)<(h3.length:Int))) (cond (decide (h3.length=8)) (some (.normal,(⟨((.ptr 0 0 1 0)::.junk::(.ptr 1 0 1 0)::.junk::.junk::.junk::(.ptr 2 0 1 0)::(.ptr 3 0 1 0)::.junk::.junk::.junk::.junk::.junk::.junk::.junk::.junk::.junk::.junk::.junk::.junk::.junk::.junk::(.t true (.int .i64) (IntKind.wrap .i64 (x22+(1:Int))))::jA101),[(.rows 158 true (.int .u32) h0),(.rows 176 true (.int .u32) h1),(.rows 176 true (.int .u32) h2),(.rows 158 true (.int .u32) [IntKind.wrap .u32 ((IntKind.wrap .u32 ((IntKind.wrap .u32 ((IntKind.wrap .u32 ((IntKind.wrap .u32 ((IntKind.wrap .u32 ((h3.getD ((7:Int).toNat) (0:Int))+(ixor .u32 (ixor .u32 (math_bits_RotateLeft32 (h3.getD ((4:Int).toNat) (0:Int)) (-6:Int)) (math_bits_RotateLeft32 (h3.getD ((4:Int).toNat) (0:Int)) (-11:Int))) (math_bits_RotateLeft32 (h3.getD ((4:Int).toNat) (0:Int)) (-25:Int)))))+(ixor .u32 (iand .u32 (h3.getD ((4:Int).toNat) (0:Int)) (h3.getD ((5:Int).toNat) (0:Int))) (iand .u32 (ixor .u32 (4294967295) (h3.getD ((4:Int).toNat) (0:Int))) (h3.getD ((6:Int).toNat) (0:Int))))))+(h1.getD x22.toNat (0:Int))))+(h2.getD x22.toNat (0:Int))))+(ixor .u32 (ixor .u32 (math_bits_RotateLeft32 (h3.getD ((0:Int).toNat) (0:Int)) (-2:Int)) (math_bits_RotateLeft32 (h3.getD ((0:Int).toNat) (0:Int)) (-13:Int))) (math_bits_RotateLeft32 (h3.getD ((0:Int).toNat) (0:Int)) (-22:Int)))))+(ixor .u32 (ixor .u32 (iand .u32 (h3.getD ((0:Int).toNat) (0:Int)) (h3.getD ((1:Int).toNat) (0:Int))) (iand .u32 (h3.getD ((0:Int).toNat) (0:Int)) (h3.getD ((2:Int).toNat) (0:Int)))) (iand .u32 (h3.getD ((1:Int).toNat) (0:Int)) (h3.getD ((2:Int).toNat) (0:Int))))),h3.getD ((0:Int).toNat) (0:Int),h3.getD ((1:Int).toNat) (0:Int),h3.getD ((2:Int).toNat) (0:Int),IntKind.wrap .u32 ((h3.getD ((3:Int).toNat) (0:Int))+(IntKind.wrap .u32 ((IntKind.wrap .u32 ((IntKind.wrap .u32 ((IntKind.wrap .u32 ((h3.getD ((7:Int).toNat) (0:Int))+(ixor .u32 (ixor .u32 (math_bits_RotateLeft32 (h3.getD ((4:Int).toNat) (0:Int)) (-6:Int)) (math_bits_RotateLeft32 (h3.getD ((4:Int).toNat) (0:Int)) (-11:Int))) (math_bits_RotateLeft32 (h3.getD ((4:Int).toNat) (0:Int)) (-25:Int)))))+(ixor .u32 (iand .u32 (h3.getD ((4:Int).toNat) (0:Int)) (h3.getD ((5:Int).toNat) (0:Int))) (iand .u32 (ixor .u32 (4294967295) (h3.getD ((4:Int).toNat) (0:Int))) (h3.getD ((6:Int).toNat) (0:Int))))))+(h1.getD x22.toNat (0:Int))))+(h2.getD x22.toNat (0:Int))))),h3.getD ((4:Int).toNat) (0:Int),h3.getD ((5:Int).toNat) (0:Int),h3.getD ((6:Int).toNat) (0:Int)])],2,[]⟩:St))) none) none) none) none) none) none) none) none) none) none) none) none) none) none) none) none) none) (some ((.exit 0),(⟨((.ptr 0 0 1 0)::.junk::.junk::.junk::.junk::.junk::.junk::(.ptr 2 0 1 0)::jA116),[(.rows 158 true (.int .u32) h0),(.rows 176 true (.int .u32) h1),(.rows 158 true (.int .u32) h3)],2,[]⟩:St))))
theorem rdA_iturnBlock_0:RdA G39 (fun _ _=>none) 0 body_iturnBlock_0 S_iturnBlock_0 2 [] (kepts [] [(0,[0,7])]) (ap_iturnBlock_0 ox_iturnBlock_0):=by
 intro d
 kernel_rfl
theorem rdB_iturnBlock_0:∀ d:S_iturnBlock_0.den,(ap_iturnBlock_0 ox_iturnBlock_0) d=(sp_iturnBlock_0 d).opt 2 []:=by
 intro d
 kernel_rfl
noncomputable abbrev say_iturnBlock_0:St→Option Tree:=S_iturnBlock_0.say 2 [] [] (ap_iturnBlock_0 T_iturnBlock_0)
theorem lw_iturnBlock_0:LoopWp Try.prog say_iturnBlock_0 body_iturnBlock_0:=SS.wp2 hlz [] sp_iturnBlock_0 rdA_iturnBlock_0 rdB_iturnBlock_0 _ (fun d=>Runs.ofI2 (step:=sp_iturnBlock_0) pv_iturnBlock_0 rl_iturnBlock_0 rfl (d.1.2.2.2.2.2.2.2.2.2.2.2.2.2.2.2.2.2.2.2.2.2.2.1,d.2.1,d.2.2.1,d.2.2.2.1,d.2.2.2.2.1))
noncomputable abbrev S_iturnBlock_1:SS:=⟨(.ptr 0 0 1 0::.junk::.junk::.junk::.junk::.junk::.junk::.ptr 2 0 1 0::.junk::.junk::.junk::.junk::.junk::.junk::.junk::.junk::.junk::.junk::.junk::.junk::.junk::.junk::.junk::.junk::.junk::.junk::.junk::.junk::.junk::.junk::.junk::.junk::.junk::.junk::.junk::.junk::.junk::.junk::.junk::.junk::.junk::.junk::.junk::.junk::.junk::.junk::.junk::.junk::.junk::.junk::.junk::.junk::.junk::.junk::.junk::.junk::.junk::.junk::.junk::.junk::.junk::.junk::.junk::.junk::.junk::.junk::.junk::.junk::.junk::.junk::.junk::.junk::.junk::.junk::.junk::.junk::.junk::.junk::.junk::.junk::.junk::.junk::.junk::.junk::.junk::.junk::.junk::.junk::.junk::.junk::.junk::.junk::.junk::.junk::.junk::.junk::.junk::.junk::.junk::.junk::.junk::.junk::.junk::.junk::.junk::.junk::.junk::.junk::.junk::.t true (.int .i64)::jS14),[.rows 158 true (.int .u32),.rows 176 true (.int .u32),.rows 158 true (.int .u32)]⟩
noncomputable abbrev E_iturnBlock_1_0:SS:=⟨(.junk::jS123),[.rows 158 true (.int .u32),.rows 176 true (.int .u32)]⟩
noncomputable def st_iturnBlock_1 (x109:Int) (h0:List Int) (h1:List Int) (h2:List Int):RT S_iturnBlock_1.den:=(.br (decide (x109<(8:Int))) (.br (decide (0≤x109∧x109<((8:Nat):Int)∧x109<(h0.length:Int))) (.br (decide (0≤x109∧x109<((8:Nat):Int)∧x109<(h2.length:Int))) (.br (decide (0≤x109∧x109<((8:Nat):Int)∧x109<(h0.length:Int))) (.next (((),(),(),(),(),(),(),(),(),(),(),(),(),(),(),(),(),(),(),(),(),(),(),(),(),(),(),(),(),(),(),(),(),(),(),(),(),(),(),(),(),(),(),(),(),(),(),(),(),(),(),(),(),(),(),(),(),(),(),(),(),(),(),(),(),(),(),(),(),(),(),(),(),(),(),(),(),(),(),(),(),(),(),(),(),(),(),(),(),(),(),(),(),(),(),(),(),(),(),(),(),(),(),(),(),(),(),(),(),IntKind.wrap .i64 (x109+(1:Int)),u15),(h0.set x109.toNat (IntKind.wrap .u32 ((h0.getD x109.toNat (0:Int))+(h2.getD x109.toNat (0:Int)))),h1,h2,()))) .fail) .fail) .fail) (.done (.exit 2) E_iturnBlock_1_0 ((u125),(h0,h1,()))))
noncomputable abbrev V_iturnBlock_1:=(Int)×(List Int)×(List Int)×(List Int)
noncomputable abbrev A_iturnBlock_1:=Nat×(List Int)×(List Int)
noncomputable def fl_iturnBlock_1:A_iturnBlock_1:=(99,([]:List Int),([]:List Int))
noncomputable def ss_iturnBlock_1 (x109:Int) (h0:List Int) (h1:List Int) (h2:List Int):V_iturnBlock_1 ⊕ A_iturnBlock_1:=(cond (decide (x109<(8:Int))) (cond (decide (0≤x109∧x109<((8:Nat):Int)∧x109<(h0.length:Int))) (cond (decide (0≤x109∧x109<((8:Nat):Int)∧x109<(h2.length:Int))) (cond (decide (0≤x109∧x109<((8:Nat):Int)∧x109<(h0.length:Int))) (.inl (IntKind.wrap .i64 (x109+(1:Int)),h0.set x109.toNat (IntKind.wrap .u32 ((h0.getD x109.toNat (0:Int))+(h2.getD x109.toNat (0:Int)))),h1,h2)) (.inr fl_iturnBlock_1)) (.inr fl_iturnBlock_1)) (.inr fl_iturnBlock_1)) (.inr (0,h0,h1)))
noncomputable def it_iturnBlock_1 (x109:Int) (h0:List Int) (h1:List Int) (h2:List Int):A_iturnBlock_1:=itX (fun v:V_iturnBlock_1=>ss_iturnBlock_1 v.1 v.2.1 v.2.2.1 v.2.2.2) fl_iturnBlock_1 (x109,h0,h1,h2)
noncomputable def ct_iturnBlock_1 (a:A_iturnBlock_1):CT:=(.br (a.1==0) (.done (.exit 2) E_iturnBlock_1_0 ((u125),(a.2.1,a.2.2,()))) .fail)
noncomputable def T_iturnBlock_1 (x109:Int) (h0:List Int) (h1:List Int) (h2:List Int):CT:=ct_iturnBlock_1 (it_iturnBlock_1 x109 h0 h1 h2)
noncomputable abbrev ap_iturnBlock_1 {α:Sort _} (f:Int→(List Int)→(List Int)→(List Int)→α) (d:S_iturnBlock_1.den):α:=f d.1.2.2.2.2.2.2.2.2.2.2.2.2.2.2.2.2.2.2.2.2.2.2.2.2.2.2.2.2.2.2.2.2.2.2.2.2.2.2.2.2.2.2.2.2.2.2.2.2.2.2.2.2.2.2.2.2.2.2.2.2.2.2.2.2.2.2.2.2.2.2.2.2.2.2.2.2.2.2.2.2.2.2.2.2.2.2.2.2.2.2.2.2.2.2.2.2.2.2.2.2.2.2.2.2.2.2.2.2.2.1 d.2.1 d.2.2.1 d.2.2.2.1
noncomputable abbrev sp_iturnBlock_1:S_iturnBlock_1.den→RT S_iturnBlock_1.den:=(ap_iturnBlock_1 st_iturnBlock_1)
noncomputable abbrev pv_iturnBlock_1 (v:V_iturnBlock_1):S_iturnBlock_1.den:=(((),(),(),(),(),(),(),(),(),(),(),(),(),(),(),(),(),(),(),(),(),(),(),(),(),(),(),(),(),(),(),(),(),(),(),(),(),(),(),(),(),(),(),(),(),(),(),(),(),(),(),(),(),(),(),(),(),(),(),(),(),(),(),(),(),(),(),(),(),(),(),(),(),(),(),(),(),(),(),(),(),(),(),(),(),(),(),(),(),(),(),(),(),(),(),(),(),(),(),(),(),(),(),(),(),(),(),(),(),v.1,u15),(v.2.1,v.2.2.1,v.2.2.2,()))
theorem rl_iturnBlock_1:(∀ v:V_iturnBlock_1,(st_iturnBlock_1 v.1 v.2.1 v.2.2.1 v.2.2.2).val=relS pv_iturnBlock_1 ct_iturnBlock_1 (ss_iturnBlock_1 v.1 v.2.1 v.2.2.1 v.2.2.2))∧∀ a:A_iturnBlock_1,CEnd S_iturnBlock_1.den (ct_iturnBlock_1 a):=⟨fun v=>(relB (relB (relB (relB rfl rfl) rfl) rfl) rfl),fun a=>(cendB (cendD (by simp)) cendF)⟩
noncomputable def ox_iturnBlock_1 (x109:Int) (h0:List Int) (h1:List Int) (h2:List Int):Option (Ex×St):=(cond (decide (x109<(8:Int))) (cond (decide (0≤x109∧x109<((8:Nat):Int)∧x109<(h0.length:Int))) (cond (decide (0≤x109∧x109<((8:Nat):Int)∧x109<(h2.length:Int))) (cond (decide (0≤x109∧x109<((8:Nat):Int)∧x109<(h0.length:Int))) (some (.normal,(⟨((.ptr 0 0 1 0)::.junk::.junk::.junk::.junk::.junk::.junk::(.ptr 2 0 1 0)::.junk::.junk::.junk::.junk::.junk::.junk::.junk::.junk::.junk::.junk::.junk::.junk::.junk::.junk::.junk::.junk::.junk::.junk::.junk::.junk::.junk::.junk::.junk::.junk::.junk::.junk::.junk::.junk::.junk::.junk::.junk::.junk::.junk::.junk::.junk::.junk::.junk::.junk::.junk::.junk::.junk::.junk::.junk::.junk::.junk::.junk::.junk::.junk::.junk::.junk::.junk::.junk::.junk::.junk::.junk::.junk::.junk::.junk::.junk::.junk::.junk::.junk::.junk::.junk::.junk::.junk::.junk::.junk::.junk::.junk::.junk::.junk::.junk::.junk::.junk::.junk::.junk::.junk::.junk::.junk::.junk::.junk::.junk::.junk::.junk::.junk::.junk::.junk::.junk::.junk::.junk::.junk::.junk::.junk::.junk::.junk::.junk::.junk::.junk::.junk::.junk::(.t true (.int .i64) (IntKind.wrap .i64 (x109+(1:Int))))::jA14),[(.rows 158 true (.int .u32) (h0.set x109.toNat (IntKind.wrap .u32 ((h0.getD x109.toNat (0:Int))+(h2.getD x109.toNat (0:Int)))))),(.rows 176 true (.int .u32) h1),(.rows 158 true (.int .u32) h2)],2,[]⟩:St))) none) none) none) (some ((.exit 2),(⟨(.junk::jA123),[(.rows 158 true (.int .u32) h0),(.rows 176 true (.int .u32) h1)],2,[]⟩:St))))
theorem rdA_iturnBlock_1:RdA G39 (fun _ _=>none) 2 body_iturnBlock_1 S_iturnBlock_1 2 [] (kepts [] [(2,[])]) (ap_iturnBlock_1 ox_iturnBlock_1):=by
 intro d
 kernel_rfl
theorem rdB_iturnBlock_1:∀ d:S_iturnBlock_1.den,(ap_iturnBlock_1 ox_iturnBlock_1) d=(sp_iturnBlock_1 d).opt 2 []:=by
 intro d
 kernel_rfl
noncomputable abbrev say_iturnBlock_1:St→Option Tree:=S_iturnBlock_1.say 2 [] [] (ap_iturnBlock_1 T_iturnBlock_1)
theorem lw_iturnBlock_1:LoopWp Try.prog say_iturnBlock_1 body_iturnBlock_1:=SS.wp2 hlz [] sp_iturnBlock_1 rdA_iturnBlock_1 rdB_iturnBlock_1 _ (fun d=>Runs.ofI2 (step:=sp_iturnBlock_1) pv_iturnBlock_1 rl_iturnBlock_1 rfl (d.1.2.2.2.2.2.2.2.2.2.2.2.2.2.2.2.2.2.2.2.2.2.2.2.2.2.2.2.2.2.2.2.2.2.2.2.2.2.2.2.2.2.2.2.2.2.2.2.2.2.2.2.2.2.2.2.2.2.2.2.2.2.2.2.2.2.2.2.2.2.2.2.2.2.2.2.2.2.2.2.2.2.2.2.2.2.2.2.2.2.2.2.2.2.2.2.2.2.2.2.2.2.2.2.2.2.2.2.2.2.1,d.2.1,d.2.2.1,d.2.2.2.1))
noncomputable def k1_iturnBlock (x1:List Int) (h0:List Int) (h1:List Int):=it_iturnBlock_0 (0:Int) h0 h1 (iwordsOf x1) [h0.getD 0 0,h0.getD 1 0,h0.getD 2 0,h0.getD 3 0,h0.getD 4 0,h0.getD 5 0,h0.getD 6 0,h0.getD 7 0]
noncomputable def k2_iturnBlock (x1:List Int) (h0:List Int) (h1:List Int):=it_iturnBlock_1 (0:Int) ((k1_iturnBlock x1 h0 h1).2.1) ((k1_iturnBlock x1 h0 h1).2.2.1) ((k1_iturnBlock x1 h0 h1).2.2.2)
noncomputable def iturnBlock (x1:List Int) (h0:List Int) (h1:List Int):(List Int)×List Int:=(((k2_iturnBlock x1 h0 h1).2.1),((k2_iturnBlock x1 h0 h1).2.2))
noncomputable abbrev e_iturnBlock (r:(List Int)×List Int):AV×List AObj×List Nat:=((.tup []),[(.rows 158 true (.int .u32) r.1),(.rows 176 true (.int .u32) r.2)],[])
noncomputable abbrev g_iturnBlock:SM_iturnBlock.den→AV×List AObj×List Nat:=fun d=>e_iturnBlock (iturnBlock d.1.2.1 d.2.1 d.2.2.1)
noncomputable def q_iturnBlock (x1:List Int) (h0:List Int) (h1:List Int):Bool:=(q_iwordsOf x1)&&((decide (h0.length=8))&&((decide ([(0:Int),(0:Int),(0:Int),(0:Int),(0:Int),(0:Int),(0:Int),(0:Int)].length=8))&&(((k1_iturnBlock x1 h0 h1).1==0)&&((k2_iturnBlock x1 h0 h1).1==0))))
noncomputable abbrev pre_iturnBlock:SM_iturnBlock.den→Bool:=fun d=>q_iturnBlock d.1.2.1 d.2.1 d.2.2.1
noncomputable abbrev L_iturnBlock:Nat→St→Option Tree:=fun b=>match b with | 0=>say_iturnBlock_0 | 2=>say_iturnBlock_1 | _=>fun _=>none
theorem run_iturnBlock:RunM G39 (L_iturnBlock) Try.f151 SM_iturnBlock pre_iturnBlock g_iturnBlock:=by
 rintro ⟨⟨_,x1,_,_⟩,⟨h0,h1,_⟩⟩ hp
 change q_iturnBlock x1 h0 h1=true at hp
 unfold q_iturnBlock at hp
 refine Eq.trans (b:=(cond (q_iwordsOf x1) (cond (decide (h0.length=8)) (cond (decide ([(0:Int),(0:Int),(0:Int),(0:Int),(0:Int),(0:Int),(0:Int),(0:Int)].length=8)) (cond ((k1_iturnBlock x1 h0 h1).1==0) (cond ((k2_iturnBlock x1 h0 h1).1==0) (some (e_iturnBlock (((k2_iturnBlock x1 h0 h1).2.1),((k2_iturnBlock x1 h0 h1).2.2)))) none) none) none) none) none)) (by kernel_rfl) ?_
 exact (cndA hp fun hp=>(cndA hp fun hp=>(cndA hp fun hp=>(cndA hp fun hp=>(cndT hp fun _h=>rfl)))))
noncomputable abbrev m_iturnBlock:=win winIds (msum SM_iturnBlock pre_iturnBlock g_iturnBlock)
theorem c_iturnBlock:MContract Try.prog 151 m_iturnBlock:=(mcM G39 (by
  rw [show loopsIn 0 (bodyOf Try.f151)=[(0,body_iturnBlock_0),(2,body_iturnBlock_1)] by kernel_rfl];intro p hp;simp only [List.mem_cons,List.mem_nil_iff,or_false] at hp
  rcases hp with rfl | rfl
  ·exact lw_iturnBlock_0
  ·exact lw_iturnBlock_1) run_iturnBlock).win winIds
noncomputable def S40:Tab:=Tab.add S39 151 (m_iturnBlock)
noncomputable def QF40:FuncId→Bool:=QF39
theorem G40:Good Try.prog tt S40 QF40:=G39.addM c_iturnBlock (win_local _) (cbl Try.f151) (by kernel_rfl)

theorem w64c (n:Int) (h1:0≤n) (h2:n<9223372036854775808):IntKind.wrap .i64 n=n:=wrap64 (by omega) h2
theorem words0_ok (c l:List Int) (hc:c.length=64) (hl:l.length=64):(it_iwordsOf_0 c 0 l).1=0∧(it_iwordsOf_0 c 0 l).2.length=64:=by
 refine itX_inv (v:=(c,(0:Int),l)) (fun v:V_iwordsOf_0=>v.1=c∧(0≤v.2.1∧v.2.1≤16)∧v.2.2.length=64) (fun a:A_iwordsOf_0=>a.1=0∧a.2.length=64) (fun v:V_iwordsOf_0=>(16 - v.2.1).toNat) ?_ ⟨rfl,⟨by simp only;omega,by simp only;omega⟩,hl⟩ (by simp only;decide)
 rintro ⟨c', i,m⟩ ⟨h1,h2,h3⟩
 simp only at h1 h2 h3
 subst h1
 by_cases hi:i<16
 ·obtain ⟨m', e, hm⟩ : ∃ m' : List Int, ss_iwordsOf_0 c' i m = .inl (c', i + 1, m') ∧ m'.length = 64 := by
   apply Exists.intro
   constructor
   ·simp only [ss_iwordsOf_0,w64c (4*i) (by omega) (by omega),w64c (4*i+1) (by omega) (by omega),w64c (4*i+2) (by omega) (by omega),w64c (4*i+3) (by omega) (by omega),w64c (i+1) (by omega) (by omega),decide_eq_true hi,cond_true]
    rw [decide_eq_true (by omega),decide_eq_true (by omega),decide_eq_true (by omega),decide_eq_true (by omega),decide_eq_true (by omega)]
    rfl
   ·simp only [List.length_set];exact h3
  exact .inl ⟨(c', i+1,m'),e,⟨rfl,by simp only;omega,hm⟩,by simp only;omega⟩
 ·refine .inr ⟨(0,m),?_,rfl,h3⟩
  simp only [ss_iwordsOf_0,decide_eq_false hi,cond_false]
theorem words1_ok (l:List Int) (hl:l.length=64):(it_iwordsOf_1 16 l).1=0∧(it_iwordsOf_1 16 l).2.length=64:=by
 refine itX_inv (v:=((16:Int),l)) (fun v:V_iwordsOf_1=>(16≤v.1∧v.1≤64)∧v.2.length=64) (fun a:A_iwordsOf_1=>a.1=0∧a.2.length=64) (fun v:V_iwordsOf_1=>(64 - v.1).toNat) ?_ ⟨⟨by simp only;omega,by simp only;omega⟩,hl⟩ (by simp only;decide)
 rintro ⟨i,m⟩ ⟨h2,h3⟩
 simp only at h2 h3
 by_cases hi:i<64
 ·obtain ⟨m', e, hm⟩ : ∃ m' : List Int, ss_iwordsOf_1 i m = .inl (i + 1, m') ∧ m'.length = 64 := by
   apply Exists.intro
   constructor
   ·simp only [ss_iwordsOf_1,w64c (i - 15) (by omega) (by omega),w64c (i - 2) (by omega) (by omega),w64c (i - 16) (by omega) (by omega),w64c (i - 7) (by omega) (by omega),w64c (i+1) (by omega) (by omega),decide_eq_true hi,cond_true]
    rw [decide_eq_true (by omega),decide_eq_true (by omega),decide_eq_true (by omega),decide_eq_true (by omega),decide_eq_true (by omega)]
    rfl
   ·simp only [List.length_set];exact h3
  exact .inl ⟨(i+1,m'),e,⟨by simp only;omega,hm⟩,by simp only;omega⟩
 ·refine .inr ⟨(0,m),?_,rfl,h3⟩
  simp only [ss_iwordsOf_1,decide_eq_false hi,cond_false]
theorem words_ok (c:List Int) (hc:c.length=64):q_iwordsOf c=true∧(iwordsOf c).length=64:=by
 obtain ⟨a1,a2⟩:=words0_ok c (List.replicate 64 0) hc (by simp)
 obtain ⟨b1,b2⟩:=words1_ok _ a2
 exact ⟨by simp only [q_iwordsOf,a1,b1];rfl,b2⟩
theorem turn0_ok (h k ws v:List Int) (hk:k.length=64) (hw:ws.length=64) (hv:v.length=8):(it_iturnBlock_0 0 h k ws v).1=0∧(it_iturnBlock_0 0 h k ws v).2.1=h∧(it_iturnBlock_0 0 h k ws v).2.2.1=k∧(it_iturnBlock_0 0 h k ws v).2.2.2.length=8:=by
 refine itX_inv (v:=((0:Int),h,k,ws,v)) (fun x:V_iturnBlock_0=>(0≤x.1∧x.1≤64)∧x.2.1=h∧x.2.2.1=k∧x.2.2.2.1=ws∧x.2.2.2.2.length=8) (fun a:A_iturnBlock_0=>a.1=0∧a.2.1=h∧a.2.2.1=k∧a.2.2.2.length=8) (fun x:V_iturnBlock_0=>(64 - x.1).toNat) ?_ ⟨⟨by simp only;omega,by simp only;omega⟩,rfl,rfl,rfl,hv⟩ (by simp only;decide)
 rintro ⟨i,h', k', ws', v'⟩ ⟨h2,h3,h4,h5,h6⟩
 simp only at h2 h3 h4 h5 h6
 subst h3;subst h4;subst h5
 by_cases hi:i<64
 ·obtain ⟨m', e, hm⟩ : ∃ m' : List Int, ss_iturnBlock_0 i h' k' ws' v' = .inl (i + 1, h', k', ws', m') ∧ m'.length = 8 := by
   apply Exists.intro
   constructor
   ·simp only [ss_iturnBlock_0,w64c (i+1) (by omega) (by omega),decide_eq_true hi,cond_true,h6,hk,hw]
    rw [show decide (0≤i∧i<((64:Nat):Int)∧i<((64:Nat):Int))=true from decide_eq_true (by omega)]
    rfl
   ·rfl
  exact .inl ⟨(i+1,h', k', ws', m'),e,⟨by simp only;omega,rfl,rfl,rfl,hm⟩,by simp only;omega⟩
 ·refine .inr ⟨(0,h', k', v'),?_,rfl,rfl,rfl,h6⟩
  simp only [ss_iturnBlock_0,decide_eq_false hi,cond_false]
theorem turn1_ok (h k v:List Int) (hh:h.length=8) (hv:v.length=8):(it_iturnBlock_1 0 h k v).1=0∧(it_iturnBlock_1 0 h k v).2.1.length=8∧(it_iturnBlock_1 0 h k v).2.2=k:=by
 refine itX_inv (v:=((0:Int),h,k,v)) (fun x:V_iturnBlock_1=>(0≤x.1∧x.1≤8)∧x.2.1.length=8∧x.2.2.1=k∧x.2.2.2.length=8) (fun a:A_iturnBlock_1=>a.1=0∧a.2.1.length=8∧a.2.2=k) (fun x:V_iturnBlock_1=>(8 - x.1).toNat) ?_ ⟨⟨by simp only;omega,by simp only;omega⟩,hh,rfl,hv⟩ (by simp only;decide)
 rintro ⟨i,h', k', v'⟩ ⟨h2,h3,h4,h6⟩
 simp only at h2 h3 h4 h6
 subst h4
 by_cases hi:i<8
 ·obtain ⟨m', e, hm⟩ : ∃ m' : List Int, ss_iturnBlock_1 i h' k' v' = .inl (i + 1, m', k', v') ∧ m'.length = 8 := by
   apply Exists.intro
   constructor
   ·simp only [ss_iturnBlock_1,w64c (i+1) (by omega) (by omega),decide_eq_true hi,cond_true,h6,h3]
    rw [show decide (0≤i∧i<((8:Nat):Int)∧i<((8:Nat):Int))=true from decide_eq_true (by omega)]
    rfl
   ·simp only [List.length_set];exact h3
  exact .inl ⟨(i+1,m', k', v'),e,⟨by simp only;omega,hm,rfl,h6⟩,by simp only;omega⟩
 ·refine .inr ⟨(0,h', k'),?_,rfl,h3,rfl⟩
  simp only [ss_iturnBlock_1,decide_eq_false hi,cond_false]
theorem turn_ok (c h:List Int) (hc:c.length=64) (hh:h.length=8):q_iturnBlock c h irounds=true∧(iturnBlock c h irounds).1.length=8∧(iturnBlock c h irounds).2=irounds:=by
 obtain ⟨q,hw⟩:=words_ok c hc
 obtain ⟨a1,a2,a3,a4⟩:=turn0_ok h irounds (iwordsOf c) [h.getD 0 0,h.getD 1 0,h.getD 2 0,h.getD 3 0,h.getD 4 0,h.getD 5 0,h.getD 6 0,h.getD 7 0] rfl hw rfl
 have e:k1_iturnBlock c h irounds=it_iturnBlock_0 0 h irounds (iwordsOf c) [h.getD 0 0,h.getD 1 0,h.getD 2 0,h.getD 3 0,h.getD 4 0,h.getD 5 0,h.getD 6 0,h.getD 7 0]:=rfl
 rw [← e] at a1 a2 a3 a4
 obtain ⟨b1,b2,b3⟩:=turn1_ok (k1_iturnBlock c h irounds).2.1 (k1_iturnBlock c h irounds).2.2.1 (k1_iturnBlock c h irounds).2.2.2 (by rw [a2];exact hh) a4
 refine ⟨?_,b2,b3.trans a3⟩
 have e2:(k2_iturnBlock c h irounds).1=0:=b1
 simp only [q_iturnBlock,q,a1,e2,decide_eq_true hh,Bool.true_and,beq_self_eq_true,Bool.and_true]
 rfl
attribute [local go_sem] Oper.semAt_some
noncomputable def cupto {m:Nat} (k:Nat) (hk:k≤m):List (Fin m):=(List.range k).attach.map fun i=>⟨i.1,by have:=List.mem_range.1 i.2;omega⟩
theorem cupto_length {m:Nat} (k:Nat) (hk:k≤m):(cupto k hk).length=k:=by simp [cupto]
theorem cupto_succ {m:Nat} (k:Nat) (hk:k+1≤m):cupto (k+1) hk=cupto k (by omega)++[(⟨k,by omega⟩:Fin m)]:=by
 apply List.ext_getElem
 ·simp [cupto_length]
 ·intro i h1 h2
  simp only [cupto_length] at h1
  rcases Nat.lt_or_ge i k with h | h
  ·rw [List.getElem_append_left (by rw [cupto_length];exact h)];simp [cupto]
  ·have e:i=k:=by omega
   subst e
   rw [List.getElem_append_right (by rw [cupto_length];omega)];simp [cupto]
set_option maxRecDepth 100000 in
set_option maxHeartbeats 2000000 in
theorem chunk_in (F:Fence) (n:Nat) (h168:F.fn 168) (hro:F.round=none) (hn:1≤n) (l Bs Bn m cap:Nat) (ad:Addr) (hcap:64*m≤cap) (hm:m≤1000000000000) (J Jx:List (Fin m)→World→Prop)
  (hY:∀ pre x W,J pre W→pre.length<m→YieldAt F (n - 1) Try.prog l #[.slice (some (ad.add (64*x.1))) 64 64] W fun e W' =>
   (e=.returned (.bool true)∧J (pre++[x]) W'∧(W'.cell? ⟨Bs,0,none⟩=W.cell? ⟨Bs,0,none⟩∧W'.cell? ⟨Bn,0,none⟩=W.cell? ⟨Bn,0,none⟩))∨(e=.returned (.bool false)∧Jx (pre++[x]) W'))
  (W:World) (hJ:AbidesFrom W.heap.size J) (hBs:W.cell? ⟨Bs,0,none⟩=some (.slice (some ad) (64*m) cap)) (hBn:W.cell? ⟨Bn,0,none⟩=some (.int .i64 64)) (h0:J [] W) :
  CallsIn F n Try.prog 168 #[.func (.yield l) #[] #[],.pointer (some ⟨Bs,0,none⟩),.pointer (some ⟨Bn,0,none⟩)] W fun e W'=>(∃ v,e=.returned v) ∧
   ((∃ xs,xs=cupto (m:=m) m (Nat.le_refl _)∧J xs W')∨(∃ pre,True∧Jx pre W')):=by
 refine callsIn_of_wp Try.func168 rfl h168 ?_ hro
 simp only [Try.ntmps168,List.size_toArray,List.length_cons,List.length_nil,Nat.reduceAdd,Nat.reduceSub,Array.replicate_succ,Array.replicate_zero,List.push_toArray,List.append_toArray,List.nil_append,List.cons_append]
 gi_wp2
 gi_loopw [4] (fun i wr=>∃ k:Nat,∃ hk:k≤m,i=.int .i64 ((64*k:Nat):Int)∧J (cupto k hk) wr∧wr.cell? ⟨Bs,0,none⟩=some (.slice (some ad) (64*m) cap)∧wr.cell? ⟨Bn,0,none⟩=some (.int .i64 64))
  (fun i _=>64*m - (intOf i).toNat)
 case atStart=>exact ⟨0,Nat.zero_le _,rfl,h0,hBs,hBn⟩
 case round =>
  obtain ⟨k,hk,rfl,hJs,hs,hnn⟩:=hrel
  by_cases hlt:k<m
  ·have hc1:((64*k:Nat):Int)<((64*m:Nat):Int):=by omega
   have hc2:(0:Int)≤((64*k:Nat):Int):=by omega
   gi_wp2
   have hc3:((64*k:Nat):Int)≤((64*m:Nat):Int):=by omega
   have hc4:64*k≤64*m:=by omega
   have hc5:¬ cap=64*k:=by omega
   have hmin:¬ ((64*m - 64*k:Nat):Int)<64:=by omega
   have hJ2:J (cupto k hk) wr.drew:=hJ _ _ _ none hJs ⟨rfl,rfl,rfl,Nat.le_refl _,fun _ _ _=>rfl⟩ (fun r e=>by cases e)
   obtain ⟨fn,tmps,assign,body,hy,hR⟩:=hY _ ⟨k,hlt⟩ wr.drew hJ2 (by rw [cupto_length];exact hlt)
   dsimp only at hy
   have e1:IntKind.wrap .i64 (64*(k:Int)+64)=64*(k:Int)+64:=by rw [wrap64 (by omega) (by omega)]
   have e2:(0:Int)≤64*(k:Int)+64:=by omega
   have e3:64*(k:Int)+64≤(cap:Int):=by omega
   gi_region
   all_goals (rw [if_neg (show ¬ ((64*m - 64*k:Nat):Int)<64 by omega)])
   all_goals (gi_wp2)
   all_goals (
    refine hR.mono ?_
    rintro e W3 (⟨rfl,hJ3,hk1,hk2⟩ | ⟨rfl,hJx3⟩)
    ·gi_wp2
     go_roundw
     case rel=>exact ⟨k+1,by omega,by congr 1,by rw [cupto_succ];exact hJ3,hk1.trans hs,hk2.trans hnn⟩
     case measure=>simp [intOf];omega
    ·gi_wp2
     refine bodyPost_ret (results_none rfl _ _ _) rfl ?_
     exact ⟨⟨_,rfl⟩,.inr ⟨_,trivial,hJx3⟩⟩)
  ·obtain rfl:k=m:=by omega
   gi_wp2
   go_end0
   exact ⟨⟨_,rfl⟩,.inl ⟨_,rfl,hJs⟩⟩
theorem chunk_stops (n:Nat) (hn:1≤n) (Bs Bn m cap:Nat) (ad:Addr) (hcap:64*m≤cap) (hm:m≤1000000000000) (w:World) (hBs:w.cell? ⟨Bs,0,none⟩=some (.slice (some ad) (64*m) cap)) (hBn:w.cell? ⟨Bn,0,none⟩=some (.int .i64 64)) (hs:Bs<w.heap.size) (hnn:Bn<w.heap.size) :
  SeqStopsK Fence.wide n Try.prog 168 #[.pointer (some ⟨Bs,0,none⟩),.pointer (some ⟨Bn,0,none⟩)] (fun x:Fin m=>#[Value.slice (some (ad.add (64*x.1))) 64 64]) (fun A B=>B.cell? ⟨Bs,0,none⟩=A.cell? ⟨Bs,0,none⟩∧B.cell? ⟨Bn,0,none⟩=A.cell? ⟨Bn,0,none⟩) (fun xs=>xs=cupto m (Nat.le_refl _)) (fun _=>True) m w :=
 fun l J Jx W hW hJ _ hY h0=>chunk_in Fence.wide n trivial rfl hn l Bs Bn m cap ad hcap hm J Jx hY W hJ ((hW.cell (p:=⟨Bs,0,none⟩) hs).trans hBs) ((hW.cell (p:=⟨Bn,0,none⟩) hnn).trans hBn) h0

/-- The digest's text. -/
noncomputable def sqL:Code→Code
 | .seq x _=>x
 | c=>c
noncomputable def sqR:Code→Code
 | .seq _ y=>y
 | c=>c
noncomputable def blk1:Code→Code
 | .block _ x=>x
 | c=>c
noncomputable def rfA:Code→Code
 | .rangeFunc _ _ a _=>a
 | c=>c
noncomputable def rfB:Code→Code
 | .rangeFunc _ _ _ b=>b
 | c=>c
noncomputable def opsOf:Code→Array Oper
 | .region _ o _=>o
 | _=>#[]
noncomputable def dc0:Code:=sqL (bodyOf Try.f115)
noncomputable def dc1:Code:=sqL (sqR (bodyOf Try.f115))
noncomputable def dc2:Code:=sqL (sqR (sqR (bodyOf Try.f115)))
noncomputable def dops3:Array Oper:=opsOf (sqL (sqL (sqR (sqR (sqR (bodyOf Try.f115))))))
noncomputable def drng:Code:=blk1 (sqR (sqL (sqR (sqR (sqR (bodyOf Try.f115))))))
noncomputable def dc4:Code:=sqR (sqR (sqR (sqR (bodyOf Try.f115))))
noncomputable def dasg:Array Oper:=opsOf (rfA drng)
noncomputable def drb:Array Oper:=opsOf (blk1 (rfB drng))
theorem dig_body:Try.f115.body=some (.seq dc0 (.seq dc1 (.seq dc2 (.seq (.seq (.region 3 dops3 false) (.block 0 (.rangeFunc (.tmp 13) #[14] (.region 4 dasg false) (.block 1 (.region 5 drb false))))) dc4)))):=by kernel_rfl

/-- slices.Chunk, run in place. -/
noncomputable def inl149:Summ:=fun args H=>(runM Try.prog tt S40 QF40 (fun _ _=>none) Try.f149 args H).map fun p=>(p.1,p.2.1,p.2.2,true)
theorem inl149_ok:MContract Try.prog 149 inl149:=MContract.of_run G40 (fn:=Try.f149) (by kernel_rfl) (L:=fun _ _=>none) (hl0 (L:=fun _ _=>none) (b:=0) (x:=bodyOf Try.f149) (by kernel_rfl)) (fun args H r H' ks h=>by
 obtain ⟨p,h1,h2⟩:=Option.map_eq_some_iff.1 h
 simp only [Prod.mk.injEq] at h2
 obtain ⟨rfl,rfl,rfl,_⟩:=h2
 exact h1)
noncomputable def SC:Tab:=Tab.add S40 149 inl149
theorem SC_ok:TabOk Try.prog SC:=G40.tab.add inl149_ok (cbl Try.f149)

noncomputable def hinit:List Int:=[1779033703,3144134277,1013904242,2773480762,1359893119,2600822924,528734635,1541459225]
noncomputable def tB (E:TypeId) (fr:Bool) (l:List Int):AObj:=.rows E fr (.int .u32) l
noncomputable def stR (a0:List Int):St:=⟨[.t false t_sy a0,.raw undef,.t true .str ⟨#[]⟩,.ptr 0 0 1 0,.ptr 2 0 1 0,.raw undef,.raw undef,.raw undef,.raw undef,.agg (arrAVs .u32 hinit 8),.ptr 1 0 1 0,.t false t_sy a0,.t true t_sy (iPadded a0),.fn 168 [.ptr 3 0 1 0,.ptr 4 0 1 0]]++List.replicate 25 (.raw undef),
 [tB 158 true hinit,tB 176 true irounds,.box [.ptr 1 0 1 0],.box [.t true t_sy (iPadded a0)],.box [(.t true (.int .i64) (64:Int):AV)]],0,[]⟩
noncomputable def dK3 (e:Ex) (s:St):Option (Ex×St):=match e with
 | .normal=>execOps Try.prog tt SC dops3 dops3.toList s fun s=>some (Ex.normal,s)
 | _=>none
noncomputable def dK2 (e:Ex) (s:St):Option (Ex×St):=match e with
 | .normal=>execC Try.prog tt S40 QF40 (fun _ _=>none) 0 dc2 s dK3
 | _=>none
noncomputable def dK1 (e:Ex) (s:St):Option (Ex×St):=match e with
 | .normal=>execC Try.prog tt S40 QF40 (fun _ _=>none) 0 dc1 s dK2
 | _=>none
theorem dig_run (a0:List Int):execC Try.prog tt S40 QF40 (fun _ _=>none) 0 dc0 ⟨startSlots Try.f115 [.t false t_sy a0],[],0,[]⟩ dK1=cond (q_iPadded a0) (some (.normal,stR a0)) none:=by kernel_rfl

/-- One block's turn. -/
noncomputable def stB (c h k:List Int):St:=⟨[.junk,.junk,.junk,.ptr 0 0 1 0,.ptr 2 0 1 0,.t false t_sy c]++List.replicate 33 .junk,[tB 158 true h,tB 176 true k,.box [.ptr 1 0 1 0]],3,[]⟩
noncomputable def stB' (c h k:List Int):St:=⟨[.junk,.junk,.junk,.ptr 0 0 1 0,.ptr 2 0 1 0,.t false t_sy c]++List.replicate 9 .junk++[.t false t_sy c,.ptr 1 0 1 0,.tup []]++List.replicate 21 .junk,[tB 158 true (iturnBlock c h k).1,tB 176 true (iturnBlock c h k).2,.box [.ptr 1 0 1 0]],3,[]⟩
theorem dig_round (c h k:List Int):execOps Try.prog tt S40 drb drb.toList (stB c h k) (fun s=>some s)=cond (q_iturnBlock c h k) (some (stB' c h k)) none:=by kernel_rfl

/-- The digest's bytes. -/
noncomputable def digBytes (h:List Int):List Int:=h.flatMap fun x=>[IntKind.wrap .u8 (Int.fdiv x (2 ^ (24))),IntKind.wrap .u8 (Int.fdiv x (2 ^ (16))),IntKind.wrap .u8 (Int.fdiv x (2 ^ (8))),IntKind.wrap .u8 x]
noncomputable def digStr (h:List Int):ByteArray:=⟨((digBytes h).map fun n=>UInt8.ofNat n.toNat).toArray⟩
noncomputable def dLoop:Code:=match loopsIn 0 dc4 with
 | p::_=>p.2
 | _=>.skip
noncomputable def dL:Nat→St→Option Tree:=fun b=>match b with
 | 2=>fun st=>(iterD (fun s=>execC Try.prog tt S40 QF40 (fun _ _=>none) 2 dLoop s (fun e s'=>some (e,s'))) (fun s=>s) 9 st).map fun p=>.leaf p.1 p.2
 | _=>fun _=>none
theorem dL_ok:∀ p∈loopsIn 0 dc4,LoopWp Try.prog (dL p.1) p.2:=hl1 (i:=2) (c:=dLoop) (by kernel_rfl) (LoopWp.iter G40 (fun _ _=>none) (hl0 (L:=fun _ _=>none) (b:=2) (x:=dLoop) (by kernel_rfl)) 9)
noncomputable def stT (h:List Int):St:=⟨[.junk,.junk,.junk,.ptr 0 0 1 0]++List.replicate 35 .junk,[tB 158 true h],1,[]⟩
noncomputable def dKT (e:Ex) (s:St):Option ByteArray:=match e with
 | .ret=>match s.slots with
  | _::_::.t true .str x::_=>some x
  | _=>none
 | _=>none
theorem dig_tail (x0 x1 x2 x3 x4 x5 x6 x7:Int):execC Try.prog tt S40 QF40 dL 0 dc4 (stT [x0,x1,x2,x3,x4,x5,x6,x7]) dKT=some (digStr [x0,x1,x2,x3,x4,x5,x6,x7]):=by kernel_rfl
/-- An array of words in the world. -/
noncomputable def arrAt (W:World) (b:Nat) (E:TypeId) (l:List Int):Prop:=∃ c:Array Value,W.heap[b]? = some (.cells c E (0,0))∧l.length≤c.size∧0<c.size∧c.size≤maxLen∧∀ (i:Nat) (x:Int),l[i]? = some x→c[i]? = some (.int .u32 x)
theorem arrAt.lt {W:World} {b:Nat} {E:TypeId} {l:List Int} (h:arrAt W b E l):b<W.heap.size:=by
 obtain ⟨c,h1,_⟩:=h
 exact (Array.getElem?_eq_some_iff.1 h1).1
theorem arrAt.keep {W W':World} {b:Nat} {E:TypeId} {l:List Int} (h:arrAt W b E l) (hw:W'.heap[b]? = W.heap[b]?):arrAt W' b E l:=by
 obtain ⟨c,h1,h2⟩:=h
 exact ⟨c,hw.trans h1,h2⟩
theorem arrAt.of {N:Nat→Prop} {w0 W:World} {η:Env} {H:List AObj} (I:Inv N w0 η H W) {id:Nat} {E:TypeId} {fr:Bool} {l:List Int} (ho:H[id]? = some (.rows E fr (.int .u32) l)) (h0:0<l.length):arrAt W (η.ι id) E l:=by
 obtain ⟨hln,R⟩:=I.obj id _ ho
 rcases R with ⟨_,h⟩ | ⟨c,cap,g1,g2,g3,g4,g5,g6⟩
 ·rw [show l=[] from h] at h0;simp at h0
 ·have e:c.size=cap:=by simpa [Ty.cells] using g5
  refine ⟨c,g2,by omega,by omega,by omega,fun i x hx=>?_⟩
  have:=g6 i x hx
  simpa [Lay,Ty.cells] using this
theorem arrAt.obj {W:World} {b:Nat} {E:TypeId} {l:List Int} (h:arrAt W b E l):∃ cap:Nat,∀ (η:Env) (hh id:Nat),η.ι id=b→η.hv id=.slice (some ⟨b,0,none⟩) l.length cap→η.ln id=l.length→ObjR η hh W id (.rows E true (.int .u32) l):=by
 obtain ⟨c,h1,h2,h3,h4,h5⟩:=h
 refine ⟨c.size,fun η hh id e1 e2 e3=>⟨e3,.inr ⟨c,c.size,by rw [e1];exact e2,by rw [e1];exact h1,h2,⟨h3,h4⟩,by simp [Ty.cells],fun i x hx=>?_⟩⟩⟩
 show c[i*1+0]? = some (.int .u32 x)
 rw [Nat.mul_one];exact h5 i x hx
theorem not_nulV_slice {a:Option Addr} {n c:Nat} (h:0<n):¬ nulV (.slice a n c):=by
 rintro ⟨A,e⟩;cases e;omega
/-- What the world has between two blocks: the state, the constants, the pointer to these. -/
structure DI (w w1:World) (bh bk bx:Nat) (h:List Int) (W:World):Prop where
 fr:Fr (·<w.heap.size) w W
 sz:w1.heap.size≤W.heap.size
 old:∀ b c E f,b ≠ bh→b ≠ bk→b ≠ bx→w1.heap[b]? = some (.cells c E f)→W.heap[b]? = some (.cells c E f)
 ah:arrAt W bh 158 h
 ak:arrAt W bk 176 irounds
 px:∃ (c:Array Value) (E:TypeId),W.heap[bx]? = some (.cells c E (0,0))∧c.size=1∧c.getD 0 undef=.pointer (some ⟨bk,0,none⟩)

noncomputable def NB (W:World) (bh bk bx:Nat):Nat→Prop:=fun b=>b<W.heap.size∧b ≠ bh∧b ≠ bk∧b ≠ bx
theorem DI.inv {w w1 W:World} {bh bk bx:Nat} {h:List Int} (D:DI w w1 bh bk bx h W) (h8:h.length=8) (d1:bh ≠ bk) (d2:bh ≠ bx) (d3:bk ≠ bx) {bd:Nat} (z1:bd<W.heap.size) (z2:bd ≠ bh) (z3:bd ≠ bk) (z4:bd ≠ bx) :
  ∃ η:Env,η.ι 0=bh∧η.ι 1=bk∧η.ι 2=bx∧(∀ f b,η.Z f b↔f=false∧b=bd)∧η.ln 0=8∧η.ln 1=64∧η.ln 2=1∧Inv (NB W bh bk bx) W η [tB 158 true h,tB 176 true irounds,.box [.ptr 1 0 1 0]] W:=by
 obtain ⟨c1,o1⟩:=D.ah.obj
 obtain ⟨c2,o2⟩:=D.ak.obj
 obtain ⟨cx,Ex,x1,x2,x3⟩:=D.px
 refine ⟨{ ι:=fun i=>if i=0 then bh else if i=1 then bk else bx,hv:=fun i=>if i=0 then .slice (some ⟨bh,0,none⟩) h.length c1 else if i=1 then .slice (some ⟨bk,0,none⟩) irounds.length c2 else nilV,ln:=fun i=>if i=0 then 8 else if i=1 then 64 else 1,Z:=fun f b=>f=false∧b=bd,nv:=fun _ _ _=>nilV,O:=fun _=>none },rfl,rfl,rfl,fun f b=>Iff.rfl,rfl,rfl,rfl,?_⟩
 refine ⟨fun k hk=>hk.1,⟨rfl,rfl,rfl,Nat.le_refl _,fun _ _=>rfl⟩,fun f b hb=>by rw [hb.2];exact z1,fun b hb=>(by cases hb.1),fun b hb=>(by cases hb.1),fun id=>?_,fun id o ho=>?_,fun id o ho hm=>?_,fun i j y z hy hz my mz he=>?_,fun b k hk=>(by cases hk),fun _ _ _=>⟨none,0,0,rfl⟩⟩
 ·simp only []
  split
  ·exact ⟨_,_,_,rfl⟩
  ·split
   ·exact ⟨_,_,_,rfl⟩
   ·exact ⟨none,0,0,rfl⟩
 ·match id,ho with
  | 0,ho=>simp only [List.getElem?_cons_zero,Option.some.injEq] at ho;subst ho;exact o1 _ _ 0 rfl rfl (by simp [h8])
  | 1,ho=>simp only [List.getElem?_cons_succ,List.getElem?_cons_zero,Option.some.injEq] at ho;subst ho;exact o2 _ _ 1 rfl rfl rfl
  | 2,ho =>
   simp only [List.getElem?_cons_succ,List.getElem?_cons_zero,Option.some.injEq] at ho
   subst ho
   refine ⟨rfl,cx,Ex,x1,x2,fun j a hj=>?_⟩
   match j,hj with
   | 0,hj =>
    simp only [List.getElem?_cons_zero,Option.some.injEq] at hj
    subst hj
    rw [x3]
    exact ⟨.ptr (by simp) (by simp),rfl⟩
   | j+1,hj=>simp at hj
  | k+3,ho=>simp at ho
 ·match id,ho with
  | 0,ho=>exact ⟨fun hn=>hn.2.1 rfl,fun hz=>z2 hz.2.symm,D.ah.lt⟩
  | 1,ho=>exact ⟨fun hn=>hn.2.2.1 rfl,fun hz=>z3 hz.2.symm,D.ak.lt⟩
  | 2,ho=>exact ⟨fun hn=>hn.2.2.2 rfl,fun hz=>z4 hz.2.symm,(Array.getElem?_eq_some_iff.1 x1).1⟩
  | k+3,ho=>simp at ho
 ·match i,j,hy,hz with
  | 0,0,_,_=>rfl
  | 0,1,_,_=>exact absurd he d1
  | 0,2,_,_=>exact absurd he d2
  | 1,0,_,_=>exact absurd he.symm d1
  | 1,1,_,_=>rfl
  | 1,2,_,_=>exact absurd he d3
  | 2,0,_,_=>exact absurd he.symm d2
  | 2,1,_,_=>exact absurd he.symm d3
  | 2,2,_,_=>rfl
  | k+3,_,hy,_=>simp at hy
  | _,k+3,_,hz=>simp at hz
/-- The invariant does not mind what is done to others' blocks. -/
theorem DI.from {m:Nat} (w w1:World) (bh bk bx:Nat) (f:List (Fin m)→List Int) (hw:w.heap.size≤w1.heap.size) (l1:bh<w1.heap.size) (l2:bk<w1.heap.size) (l3:bx<w1.heap.size):OwnFrom w1.heap.size (fun pre W=>DI w w1 bh bk bx (f pre) W):=by
 intro s W W' row D hg hr
 have same:∀ b,b<w1.heap.size→W'.heap[b]? = W.heap[b]?:=fun b hb=>by
  refine hg.block b (Nat.lt_of_lt_of_le hb D.sz) (fun e=>?_)
  have:=(hr b e.symm).1
  omega
 refine ⟨⟨hg.os.trans D.fr.os,hg.tape.trans D.fr.tape,hg.output.trans D.fr.output,Nat.le_trans D.fr.size hg.size,fun k hk=>(same k (Nat.lt_of_lt_of_le hk hw)).trans (D.fr.block k hk)⟩,Nat.le_trans D.sz hg.size,fun b c E g h1 h2 h3 hb=>(same b (Array.getElem?_eq_some_iff.1 hb).1).trans (D.old b c E g h1 h2 h3 hb),D.ah.keep (same _ l1),D.ak.keep (same _ l2),?_⟩
 obtain ⟨c,E,x1,x2,x3⟩:=D.px
 exact ⟨c,E,(same _ l3).trans x1,x2,x3⟩
theorem mat_rows {N:Nat→Prop} {w0 W:World} {η:Env} {H:List AObj} (I:Inv N w0 η H W) {id:Nat} {E:TypeId} {fr:Bool} {e:Ty} {l:List e.den} (ho:H[id]? = some (.rows E fr e l)) (h0:0<l.length):(AObj.rows E fr e l).mat η id:=by
 obtain ⟨hln,R⟩:=I.obj id _ ho
 rcases R with ⟨_,h⟩ | ⟨c,cap,g1,g2,g3,g4,g5,g6⟩
 ·rw [h] at h0;simp at h0
 ·exact not_nul g1 g4.1
theorem px_of {N:Nat→Prop} {w0 W:World} {η:Env} {H:List AObj} (I:Inv N w0 η H W) {id:Nat} (ho:H[id]? = some (.box [.ptr 1 0 1 0])) {bk:Nat} (hk:η.ι 1=bk):∃ (c:Array Value) (E:TypeId),W.heap[η.ι id]? = some (.cells c E (0,0))∧c.size=1∧c.getD 0 undef=.pointer (some ⟨bk,0,none⟩):=by
 obtain ⟨_,c,E,g1,g2,g3⟩:=I.obj id _ ho
 refine ⟨c,E,g1,g2,?_⟩
 have h:=(g3 0 _ rfl).1
 generalize c.getD 0 undef=v at h
 cases h with
 | ptr hid hr=>rw [hk]
theorem stB_slot {c h k:List Int} {i:Nat} {x:AV} (hx:(stB c h k).slots[i]? = some x):(i=3∧x=.ptr 0 0 1 0)∨(i=4∧x=.ptr 2 0 1 0)∨(i=5∧x=.t false t_sy c)∨x=.junk:=by
 match i,hx with
 | 0,hx=>simp only [stB,List.cons_append,List.getElem?_cons_zero,Option.some.injEq] at hx;exact .inr (.inr (.inr hx.symm))
 | 1,hx=>simp only [stB,List.cons_append,List.getElem?_cons_succ,List.getElem?_cons_zero,Option.some.injEq] at hx;exact .inr (.inr (.inr hx.symm))
 | 2,hx=>simp only [stB,List.cons_append,List.getElem?_cons_succ,List.getElem?_cons_zero,Option.some.injEq] at hx;exact .inr (.inr (.inr hx.symm))
 | 3,hx=>simp only [stB,List.cons_append,List.getElem?_cons_succ,List.getElem?_cons_zero,Option.some.injEq] at hx;exact .inl ⟨rfl,hx.symm⟩
 | 4,hx=>simp only [stB,List.cons_append,List.getElem?_cons_succ,List.getElem?_cons_zero,Option.some.injEq] at hx;exact .inr (.inl ⟨rfl,hx.symm⟩)
 | 5,hx=>simp only [stB,List.cons_append,List.getElem?_cons_succ,List.getElem?_cons_zero,Option.some.injEq] at hx;exact .inr (.inr (.inl ⟨rfl,hx.symm⟩))
 | i+6,hx =>
  simp only [stB,List.cons_append,List.getElem?_cons_succ,List.nil_append] at hx
  exact .inr (.inr (.inr (List.eq_of_mem_replicate (List.mem_of_getElem? hx))))
theorem round_ok {w w1 W:World} {bh bk bx bd:Nat} {h:List Int} (D:DI w w1 bh bk bx h W) (h8:h.length=8) (d1:bh ≠ bk) (d2:bh ≠ bx) (d3:bk ≠ bx) (z1:bd<W.heap.size) (z2:bd ≠ bh) (z3:bd ≠ bk) (z4:bd ≠ bx)
  (g1:w.heap.size≤bh) (g2:w.heap.size≤bk) (g3:w.heap.size≤bx) (n l:Nat) {a1:Act} (a2:a1.tmps.size=39) (a3:a1.tmps.getD 3 undef=.pointer (some ⟨bh,0,none⟩)) (a4:a1.tmps.getD 4 undef=.pointer (some ⟨bx,0,none⟩)) (a5:a1.defers=[])
  {c:List Int} (hc:c.length=64) (hl:Lay (fun b=>b=bd) W t_sy c (fun j=>if j=0 then some (a1.tmps.getD 5 undef) else none)) {Q:Exit→Act→World→Prop}
  (hQ:∀ a' W', KeepsOthers W W'→(∀ b,b<W.heap.size→b ≠ bh→b ≠ bk→b ≠ bx→W'.heap[b]? = W.heap[b]?)→DI w w1 bh bk bx (iturnBlock c h irounds).1 W'→Q .normal a' W') :
  (Code.block 1 (.region 5 drb false)).wpIn (Fence.wide.inRound l) n Try.prog Q a1 W:=by
 obtain ⟨η,e0,e1,e2,hZ,n0,n1,n2,I⟩:=D.inv h8 d1 d2 d3 z1 z2 z3 z4
 obtain ⟨q,t8,tk⟩:=turn_ok c h hc h8
 refine wpIn_block (wpIn_region_list ?_)
 have s:SR (NB W bh bk bx) W η 3 W η (stB c h irounds) a1 W:=by
  refine ⟨I,Ext.refl,⟨by rw [a2];simp [stB],fun i x hx=>?_,a5⟩,rfl⟩
  rcases stB_slot hx with ⟨rfl,rfl⟩ | ⟨rfl,rfl⟩ | ⟨rfl,rfl⟩ | rfl
  ·rw [a3,← e0];exact .ptr (η:=η) (row:=0) (sz:=1) (sub:=0) (by simp [stB]) (by rw [n0];decide)
  ·rw [a4,← e2];exact .ptr (η:=η) (row:=0) (sz:=1) (sub:=0) (by simp [stB]) (by rw [n2];decide)
  ·refine .t rfl (Lay.mono (fun b hb=>(hZ _ _).2 ⟨rfl,hb⟩) (fun _ _=>rfl) _ _ _ hl)
  ·exact .junk _
 have hrun:=(dig_round c h irounds).trans (by rw [q];rfl:_=some (stB' c h irounds))
 have key:=execOps_in (Q:=Exit.inBlock 1 Q) (F:=Fence.wide.inRound l) (n:=n) G40.types G40.tab (.inr ⟨l,rfl⟩) drb [] drb.toList (stB c h irounds) (fun s=>some s) η a1 W s (by kernel_rfl) hrun (fun st' η' a' W' hk s'=>?_)
 ·rwa [List.append_nil] at key
 ·simp only [Option.some.injEq] at hk
  subst hk
  show Q .normal a' W'
  have nm:∀ id,id<3→η'.ι id=η.ι id:=fun id hid=>(s'.ext.nm id hid rfl).2.1
  have I':=s'.inv
  have other:∀ b,b<W.heap.size→b ≠ bh→b ≠ bk→b ≠ bx→W'.heap[b]? = W.heap[b]?:=fun b h1 h2 h3 h4=>I'.fr.block b ⟨h1,h2,h3,h4⟩
  have ah:=arrAt.of I' (id:=0) (E:=158) (fr:=true) (l:=(iturnBlock c h irounds).1) rfl (by rw [t8];decide)
  have ak:=arrAt.of I' (id:=1) (E:=176) (fr:=true) (l:=(iturnBlock c h irounds).2) rfl (by rw [tk];decide)
  have px:=px_of I' (id:=2) rfl (bk:=bk) (by rw [nm 1 (by decide),e1])
  rw [nm 0 (by decide),e0] at ah
  rw [nm 1 (by decide),e1,tk] at ak
  rw [nm 2 (by decide),e2] at px
  refine hQ a' W' ⟨I'.fr.size,fun k o hk ho=>?_⟩ other ⟨⟨I'.fr.os.trans D.fr.os,I'.fr.tape.trans D.fr.tape,I'.fr.output.trans D.fr.output,Nat.le_trans D.fr.size I'.fr.size,fun k hk=>?_⟩,Nat.le_trans D.sz I'.fr.size,fun b cc E f h1 h2 h3 hb=>?_,ah,ak,px⟩
  ·have hlt:=(Array.getElem?_eq_some_iff.1 hk).1
   obtain ⟨c1,x1,_⟩:=D.ah
   obtain ⟨c2,x2,_⟩:=D.ak
   obtain ⟨c3,E3,x3,_⟩:=D.px
   refine (other k hlt ?_ ?_ ?_).trans hk
   ·rintro rfl;rw [x1] at hk;cases hk;cases ho
   ·rintro rfl;rw [x2] at hk;cases hk;cases ho
   ·rintro rfl;rw [x3] at hk;cases hk;cases ho
  ·have:=D.fr.size
   exact (other k (by omega) (by omega) (by omega) (by omega)).trans (D.fr.block k hk)
  ·have h0:=D.old b cc E f h1 h2 h3 hb
   exact (other b (Array.getElem?_eq_some_iff.1 h0).1 h1 h2 h3).trans h0
theorem two_of {vs:Array Value} {x y:Value} (hs:vs.size=2) (h0:vs.getD 0 undef=x) (h1:vs.getD 1 undef=y):vs=#[x,y]:=by
 apply Array.ext
 ·simp [hs]
 ·intro i h2 h3
  match i,h2 with
  | 0,h2=>rw [← h0];simp [Array.getD,hs]
  | 1,h2=>rw [← h1];simp [Array.getD,hs]
  | k+2,h2=>omega
noncomputable def digH (p:List Int):List Int:=(List.range (p.length / 64)).foldl (fun h i=>(iturnBlock ((p.drop (64*i)).take 64) h irounds).1) hinit
noncomputable def iDigest (a0:List Int):ByteArray:=digStr (digH (iPadded a0))
noncomputable def q_iDigest (a0:List Int):Bool:=q_iPadded a0&&(decide ((iPadded a0).length % 64=0)&&(decide (0<(iPadded a0).length)&&decide ((iPadded a0).length≤64000000000000)))
noncomputable abbrev P_iDigest:List PSh:=[.t t_sy]
noncomputable abbrev g_iDigest:pshsDen P_iDigest→AV×List AObj:=fun d=>(.t true .str (iDigest d.1),[])
noncomputable abbrev pre_iDigest:pshsDen P_iDigest→Bool:=fun d=>q_iDigest d.1
noncomputable def digL (p:List Int) {m:Nat} (pre:List (Fin m)):List Int:=pre.foldl (fun h x=>(iturnBlock ((p.drop (64*x.1)).take 64) h irounds).1) hinit
theorem chunk_len {p:List Int} {m:Nat} (hm:64*m=p.length) (x:Fin m):((p.drop (64*x.1)).take 64).length=64:=by
 have:=x.2
 simp only [List.length_take,List.length_drop]
 omega
theorem digL_len {p:List Int} {m:Nat} (hm:64*m=p.length):∀ (pre:List (Fin m)) (h:List Int),h.length=8→(pre.foldl (fun h (x:Fin m)=>(iturnBlock ((p.drop (64*x.1)).take 64) h irounds).1) h).length=8
 | [],h,h8=>h8
 | x::pre,h,h8=>digL_len hm pre _ (turn_ok _ _ (chunk_len hm x) h8).2.1
theorem digL_snoc (p:List Int) {m:Nat} (pre:List (Fin m)) (x:Fin m):digL p (pre++[x])=(iturnBlock ((p.drop (64*x.1)).take 64) (digL p pre) irounds).1:=by simp [digL]
theorem digL_all (p:List Int) {m:Nat} (hm:m=p.length / 64):digL p (cupto m (Nat.le_refl _))=digH p:=by
 have e:(cupto m (Nat.le_refl _)).map (fun x:Fin m=>x.1)=List.range m:=by simp [cupto]
 have:=List.foldl_map (f:=fun x:Fin m=>x.1) (g:=fun h i=>(iturnBlock ((p.drop (64*i)).take 64) h irounds).1) (l:=cupto m (Nat.le_refl _)) (init:=hinit)
 rw [e] at this
 rw [digL,← this,digH,hm]
theorem stT_slot {h:List Int} {i:Nat} {x:AV} (hx:(stT h).slots[i]? = some x):(i=3∧x=.ptr 0 0 1 0)∨x=.junk:=by
 match i,hx with
 | 0,hx=>simp only [stT,List.cons_append,List.getElem?_cons_zero,Option.some.injEq] at hx;exact .inr hx.symm
 | 1,hx=>simp only [stT,List.cons_append,List.getElem?_cons_succ,List.getElem?_cons_zero,Option.some.injEq] at hx;exact .inr hx.symm
 | 2,hx=>simp only [stT,List.cons_append,List.getElem?_cons_succ,List.getElem?_cons_zero,Option.some.injEq] at hx;exact .inr hx.symm
 | 3,hx=>simp only [stT,List.cons_append,List.getElem?_cons_succ,List.getElem?_cons_zero,Option.some.injEq] at hx;exact .inl ⟨rfl,hx.symm⟩
 | i+4,hx =>
  simp only [stT,List.cons_append,List.getElem?_cons_succ,List.nil_append] at hx
  exact .inr (List.eq_of_mem_replicate (List.mem_of_getElem? hx))
/-- What comes behind the range. -/
theorem tail_ok {w w1 W:World} {bh bk bx D:Nat} {h:List Int} (I0:DI w w1 bh bk bx h W) (h8:h.length=8) (g1:w.heap.size≤bh) (hD:w1.heap.size≤D) (hw:w.heap.size≤w1.heap.size) (hDb:D ≠ bh) (hd:W.heap[D]? = some (.deferred (some []))) {a:Act} (a2:a.tmps.size=39) (a3:a.tmps.getD 3 undef=.pointer (some ⟨bh,0,none⟩))
  {R:Ending→World→Prop} (hR:∀ W', (W'.os=w.os∧W'.tape=w.tape∧W'.output=w.output∧w.heap.size≤W'.heap.size∧∀ k,k<w.heap.size→W'.heap[k]? = w.heap[k]?)→R (.returned (.string (digStr h))) W') (n:Nat) :
  dc4.wpIn Fence.wide n Try.prog (bodyPostM Fence.wide n Try.prog Try.f115 R) { a with defers:=[{ target:=.collected D,args:=#[] }] } W:=by
 obtain ⟨c1,o1⟩:=I0.ah.obj
 have hDl:D<W.heap.size:=(Array.getElem?_eq_some_iff.1 hd).1
 let η:Env:={ ι:=fun _=>bh,hv:=fun i=>if i=0 then .slice (some ⟨bh,0,none⟩) h.length c1 else nilV,ln:=fun _=>h.length,Z:=fun _ _=>False,nv:=fun _ _ _=>nilV,O:=fun _=>none }
 letI:DF:=⟨[{ target:=.collected D,args:=#[] }]⟩
 have I:Inv (fun b=>b<w.heap.size∨b=D) W η [tB 158 true h] W:=by
  refine ⟨fun k hk=>?_,⟨rfl,rfl,rfl,Nat.le_refl _,fun _ _=>rfl⟩,fun _ _ hb=>hb.elim,fun _ hb=>hb.elim,fun _ hb=>hb.elim,fun id=>?_,fun id o ho=>?_,fun id o ho hm=>?_,fun i j y z hy hz my mz he=>?_,fun b k hk=>(by cases hk),fun _ _ _=>⟨none,0,0,rfl⟩⟩
  ·rcases hk with hk | hk
   ·exact Nat.lt_of_lt_of_le hk I0.fr.size
   ·rw [hk];exact hDl
  ·show ∃ A n c,(if id=0 then _ else _)=_
   split
   ·exact ⟨_,_,_,rfl⟩
   ·exact ⟨none,0,0,rfl⟩
  ·match id,ho with
   | 0,ho=>simp only [List.getElem?_cons_zero,Option.some.injEq] at ho;subst ho;exact o1 η _ 0 rfl rfl rfl
   | k+1,ho=>simp at ho
  ·match id,ho with
   | 0,ho=>exact ⟨fun hn=>hn.elim (fun h=>by have:bh<w.heap.size:=h;omega) (fun h=>hDb h.symm),fun hz=>hz.elim,I0.ah.lt⟩
   | k+1,ho=>simp at ho
  ·match i,j,hy,hz with
   | 0,0,_,_=>rfl
   | k+1,_,hy,_=>simp at hy
   | _,k+1,_,hz=>simp at hz
 have s:SR (fun b=>b<w.heap.size∨b=D) W η 1 W η (stT h) { a with defers:=[{ target:=.collected D,args:=#[] }] } W:=by
  refine ⟨I,Ext.refl,⟨by rw [a2];simp [stT],fun i x hx=>?_,rfl⟩,rfl⟩
  rcases stT_slot hx with ⟨rfl,rfl⟩ | rfl
  ·rw [a3];exact .ptr (η:=η) (row:=0) (sz:=1) (sub:=0) (by simp [stT]) (by show 0<h.length;omega)
  ·exact .junk _
 have hrun:execC Try.prog tt S40 QF40 dL 0 dc4 (stT h) dKT=some (digStr h):=by
  match h,h8 with
  | [x0,x1,x2,x3,x4,x5,x6,x7],_=>exact dig_tail x0 x1 x2 x3 x4 x5 x6 x7
 refine wpIn_wide.2 (execC_sound G40 dL dc4 0 (stT h) dKT _ η _ W dL_ok hrun (fun e st' η' a' W' hk s'=>?_) s)
 cases e with
 | normal=>simp [dKT] at hk
 | exit id=>simp [dKT] at hk
 | ret =>
  have hsl:∃ u v f r,st'.slots=u::v::.t f .str (digStr h)::r:=by
   simp only [dKT] at hk
   split at hk
   ·rename_i u v x r e
    simp only [Option.some.injEq] at hk
    exact ⟨u,v,true,r,by rw [e,hk]⟩
   ·cases hk
  obtain ⟨u,v,f,r,hsl⟩:=hsl
  have h2:=s'.sl.slot 2 _ (by rw [hsl];rfl)
  have hv:a'.tmps.getD 2 undef=.string (digStr h):=by
   generalize a'.tmps.getD 2 undef=y at h2
   cases h2 with
   | t _ hl=>simpa [Lay] using hl
  have hdd:W'.heap[D]? = some (.deferred (some [])):=(s'.inv.fr.block D (.inr rfl)).trans hd
  show LeavesInM Fence.wide n Try.prog Try.f115 a'.tmps R a'.defers .returning W'
  rw [show a'.defers=[{ target:=.collected D,args:=#[] }] from s'.sl.defers]
  refine ⟨by simp,.inl ⟨D,_,rfl,run_takeDeferred hdd,?_⟩⟩
  refine ⟨.string (digStr h),?_,hR _ ⟨?_,?_,?_,?_,fun k hk=>?_⟩⟩
  ·rw [results_tmp (t:=2) (by kernel_rfl) a'.tmps Try.prog _];exact congrArg (fun v=>Result.ok v _) hv
  ·exact s'.inv.fr.os.trans I0.fr.os
  ·exact s'.inv.fr.tape.trans I0.fr.tape
  ·exact s'.inv.fr.output.trans I0.fr.output
  ·have:=s'.inv.fr.size;have:=I0.fr.size;simp;omega
  ·have hne:k ≠ D:=by omega
   rw [World.putObj_heap_other hne]
   exact (s'.inv.fr.block k (.inl hk)).trans (I0.fr.block k hk)
theorem ptr_is {η:Env} {h:Nat} {w:World} {i:Nat} {v:Value} (r:AVR η h w (.ptr i 0 1 0) v):v=.pointer (some ⟨η.ι i,0,none⟩):=by
 cases r with
 | ptr hid hrr=>rfl
theorem fn_two {η:Env} {h:Nat} {w:World} {f:FuncId} {i j:Nat} {v:Value} (r:AVR η h w (.fn f [.ptr i 0 1 0,.ptr j 0 1 0]) v):v=.func (.func f) #[] #[.pointer (some ⟨η.ι i,0,none⟩),.pointer (some ⟨η.ι j,0,none⟩)]:=by
 cases r with
 | fn hsz hcs =>
  rw [two_of hsz (ptr_is (hcs 0 _ rfl)) (ptr_is (hcs 1 _ rfl))]
theorem asg_is:∃ o,dasg.toList=[o]∧o.op=.assign (.tmp 14)∧o.dst=some 5∧o.guard=none:=by
 have h0:dasg.toList.length=1:=by kernel_rfl
 have h1:dasg.toList.map (fun o=>o.op)=[.assign (.tmp 14)]:=by kernel_rfl
 have h2:dasg.toList.map (fun o=>o.dst)=[some 5]:=by kernel_rfl
 have h3:dasg.toList.map (fun o=>o.guard)=[none]:=by kernel_rfl
 obtain ⟨o,e⟩:=List.length_eq_one_iff.1 h0
 rw [e] at h1 h2 h3
 exact ⟨o,e,by simpa using h1,by simpa using h2,by simpa using h3⟩
theorem set_getD {a:Array Value} {i j:Nat} {v:Value} (h:i ≠ j):(a.setIfInBounds i v).getD j undef=a.getD j undef:=by
 simp only [Array.getD_eq_getD_getElem?,Array.getElem?_setIfInBounds,if_neg h]
theorem set_getD_self {a:Array Value} {i:Nat} {v:Value} (h:i<a.size):(a.setIfInBounds i v).getD i undef=v:=by
 simp [Array.getD_eq_getD_getElem?,Array.getElem?_setIfInBounds,h]
theorem c_iDigest:PContract Try.prog 115 (sumOf P_iDigest pre_iDigest g_iDigest):=by
 refine PContract.of_calls _ _ _ (fun d hd w vs hl hr=>?_)
 obtain ⟨a0,_⟩:=d
 have hq:q_iDigest a0=true:=hd
 simp only [q_iDigest,Bool.and_eq_true,decide_eq_true_eq] at hq
 obtain ⟨qp,qm,q0,ql⟩:=hq
 obtain ⟨p,hp⟩:∃ p,p=iPadded a0:=⟨_,rfl⟩
 obtain ⟨m,hm⟩:∃ m,m=p.length / 64:=⟨_,rfl⟩
 have hm64:64*m=p.length:=by rw [← hp] at qm;omega
 show Calls Try.prog 115 vs w fun e w'=>∃ v η', e=.returned v∧Inv (·<w.heap.size) w η' [] w'∧AVR η' 0 w' (.t true .str (iDigest a0)) v
 refine callsIn_wide.1 (callsIn_of_wp_marks (n:=5) (F:=Fence.wide) (fn:=Try.f115) (by kernel_rfl) dig_body trivial ?_)
 have s0:=SR.start (Inv.empty w) hl hr Try.f115
 have hrun:=(dig_run a0).trans (by rw [qp];rfl:_=some (Ex.normal,stR a0))
 refine wpIn_seq (wpIn_wide.2 (execC_sound G40 (fun _ _=>none) dc0 0 _ dK1 _ _ _ w (hl0 (L:=fun _ _=>none) (b:=0) (x:=dc0) (by kernel_rfl)) hrun (fun e st1 η1 a1 w1 hk s1=>?_) s0))
 cases e with
 | exit id=>cases hk
 | ret=>cases hk
 | normal =>
 refine wpIn_seq (wpIn_wide.2 (execC_sound G40 (fun _ _=>none) dc1 0 _ dK2 _ _ _ w1 (hl0 (L:=fun _ _=>none) (b:=0) (x:=dc1) (by kernel_rfl)) hk (fun e st2 η2 a2 w2 hk s2=>?_) s1))
 cases e with
 | exit id=>cases hk
 | ret=>cases hk
 | normal =>
 refine wpIn_seq (wpIn_wide.2 (execC_sound G40 (fun _ _=>none) dc2 0 _ dK3 _ _ _ w2 (hl0 (L:=fun _ _=>none) (b:=0) (x:=dc2) (by kernel_rfl)) hk (fun e st3 η3 a3 w3 hk s3=>?_) s2))
 cases e with
 | exit id=>cases hk
 | ret=>cases hk
 | normal =>
 refine wpIn_seq (wpIn_seq (wpIn_wide.2 (wp_region_list (execOps_sound G40.types SC_ok dops3 dops3.toList _ _ _ _ w3 s3 hk (fun st4 η aR W1 hk sR=>?_)))))
 obtain rfl:stR a0=st4:=by simpa using hk.symm
 clear hk s1 s2 s3
 have I1:=sR.inv
 -- the objects
 obtain ⟨bh,ebh⟩:∃ bh,bh=η.ι 0:=⟨_,rfl⟩
 obtain ⟨bk,ebk⟩:∃ bk,bk=η.ι 1:=⟨_,rfl⟩
 obtain ⟨bx,ebx⟩:∃ bx,bx=η.ι 2:=⟨_,rfl⟩
 obtain ⟨Bs,eBs⟩:∃ bs,bs=η.ι 3:=⟨_,rfl⟩
 obtain ⟨Bn,eBn⟩:∃ bn,bn=η.ι 4:=⟨_,rfl⟩
 have h0':(stR a0).heap[0]? = some (.rows 158 true (.int .u32) hinit):=rfl
 have h1':(stR a0).heap[1]? = some (.rows 176 true (.int .u32) irounds):=rfl
 have h2':(stR a0).heap[2]? = some (.box [.ptr 1 0 1 0]):=rfl
 have h3':(stR a0).heap[3]? = some (.box [.t true t_sy (iPadded a0)]):=rfl
 have h4':(stR a0).heap[4]? = some (.box [(.t true (.int .i64) (64:Int):AV)]):=rfl
 have m0:=mat_rows I1 h0' (by decide)
 have m1:=mat_rows I1 h1' (by decide)
 have d1:bh ≠ bk:=fun e=>absurd (I1.inj 0 1 _ _ h0' h1' m0 m1 (ebh ▸ ebk ▸ e)) (by decide)
 have d2:bh ≠ bx:=fun e=>absurd (I1.inj 0 2 _ _ h0' h2' m0 trivial (ebh ▸ ebx ▸ e)) (by decide)
 have d3:bk ≠ bx:=fun e=>absurd (I1.inj 1 2 _ _ h1' h2' m1 trivial (ebk ▸ ebx ▸ e)) (by decide)
 have s0':Bs ≠ bh:=fun e=>absurd (I1.inj 3 0 _ _ h3' h0' trivial m0 (eBs ▸ ebh ▸ e)) (by decide)
 have s1':Bs ≠ bk:=fun e=>absurd (I1.inj 3 1 _ _ h3' h1' trivial m1 (eBs ▸ ebk ▸ e)) (by decide)
 have s2':Bs ≠ bx:=fun e=>absurd (I1.inj 3 2 _ _ h3' h2' trivial trivial (eBs ▸ ebx ▸ e)) (by decide)
 have n0':Bn ≠ bh:=fun e=>absurd (I1.inj 4 0 _ _ h4' h0' trivial m0 (eBn ▸ ebh ▸ e)) (by decide)
 have n1':Bn ≠ bk:=fun e=>absurd (I1.inj 4 1 _ _ h4' h1' trivial m1 (eBn ▸ ebk ▸ e)) (by decide)
 have n2':Bn ≠ bx:=fun e=>absurd (I1.inj 4 2 _ _ h4' h2' trivial trivial (eBn ▸ ebx ▸ e)) (by decide)
 obtain ⟨o0a,o0b,l0⟩:=I1.own 0 _ h0' m0
 obtain ⟨o1a,o1b,l1⟩:=I1.own 1 _ h1' m1
 obtain ⟨o2a,o2b,l2⟩:=I1.own 2 _ h2' trivial
 obtain ⟨o3a,o3b,l3⟩:=I1.own 3 _ h3' trivial
 obtain ⟨o4a,o4b,l4⟩:=I1.own 4 _ h4' trivial
 rw [← ebh] at o0a o0b l0
 rw [← ebk] at o1a o1b l1
 rw [← ebx] at o2a o2b l2
 rw [← eBs] at o3a o3b l3
 rw [← eBn] at o4a o4b l4
 have g0:w.heap.size≤bh:=Nat.not_lt.1 o0a
 have g1:w.heap.size≤bk:=Nat.not_lt.1 o1a
 have g2:w.heap.size≤bx:=Nat.not_lt.1 o2a
 have hww:w.heap.size≤W1.heap.size:=I1.fr.size
 -- the slots
 have t3:aR.tmps.getD 3 undef=.pointer (some ⟨bh,0,none⟩):=by
  have h:=sR.sl.slot 3 (.ptr 0 0 1 0) rfl
  generalize aR.tmps.getD 3 undef=v at h
  cases h with
  | ptr hid hrr=>rw [ebh]
 have t4:aR.tmps.getD 4 undef=.pointer (some ⟨bx,0,none⟩):=by
  have h:=sR.sl.slot 4 (.ptr 2 0 1 0) rfl
  generalize aR.tmps.getD 4 undef=v at h
  cases h with
  | ptr hid hrr=>rw [ebx]
 have t13:aR.tmps.getD 13 undef=.func (.func 168) #[] #[.pointer (some ⟨Bs,0,none⟩),.pointer (some ⟨Bn,0,none⟩)]:=by
  rw [eBs,eBn]
  exact fn_two (sR.sl.slot 13 (.fn 168 [.ptr 3 0 1 0,.ptr 4 0 1 0]) rfl)
 have tsz:aR.tmps.size=39:=by rw [sR.sl.size];rfl
 -- the padded bytes
 obtain ⟨_,c3,E3,g3,z3,x3⟩:=I1.obj 3 _ h3'
 obtain ⟨_,c4,E4,g4,z4,x4⟩:=I1.obj 4 _ h4'
 rw [← eBs] at g3
 rw [← eBn] at g4
 have y3:=(x3 0 _ rfl).1
 have y4:=(x4 0 _ rfl).1
 have v4:c4.getD 0 undef=.int .i64 64:=int_rel y4
 obtain ⟨ad,cap,v3,hcap,hzt,hcell⟩:∃ (ad:Addr) (cap:Nat),c3.getD 0 undef=.slice (some ad) (64*m) cap∧64*m≤cap∧η.Z true ad.block∧∀ (i:Nat) (x:Int),p[i]? = some x→W1.cell? (ad.add i)=some (.int .u8 x):=by
  rw [← hp] at y3
  generalize c3.getD 0 undef=v at y3
  cases y3 with
  | t _ hlay =>
   obtain ⟨A,cap,e1,e2,e3⟩:=hlay
   simp only [if_true,Option.some.injEq] at e1
   rcases e3 with rfl | ⟨ad,rfl,hz,hcs⟩
   ·rw [← hp] at q0;simp at q0
   ·refine ⟨ad,cap,by rw [e1,hm64],by rw [hm64];exact e2,hz,fun i x hx=>?_⟩
    have h:=hcs i x hx
    simp only [Lay,Ty.cells,Nat.mul_one,Nat.add_zero] at h
    exact h
 have hzf:η.Z false ad.block:=I1.zsub _ hzt
 have b0:ad.block ≠ bh:=fun e=>o0b (e ▸ hzf)
 have b1:ad.block ≠ bk:=fun e=>o1b (e ▸ hzf)
 have b2:ad.block ≠ bx:=fun e=>o2b (e ▸ hzf)
 have bl:ad.block<W1.heap.size:=I1.zlt _ _ hzf
 obtain ⟨cd,Ed,fd,gd⟩:∃ cd Ed fd,W1.heap[ad.block]? = some (.cells cd Ed fd):=by
  obtain ⟨x,hx⟩:∃ x,p[0]? = some x:=by cases p with
   | nil=>rw [← hp] at q0;simp at q0
   | cons x _=>exact ⟨x,rfl⟩
  have h:=hcell 0 x hx
  obtain ⟨o,ho,hc⟩:=cells_of_cell h
  rw [addr_block] at ho
  cases o with
  | cells a b c=>exact ⟨a,b,c,ho⟩
  | _=>cases hc
 have cs:W1.cell? ⟨Bs,0,none⟩=some (.slice (some ad) (64*m) cap):=by rw [cell_block g3,← v3];exact getElem?_getD (by rw [z3];simp)
 have cn:W1.cell? ⟨Bn,0,none⟩=some (.int .i64 64):=by rw [cell_block g4,← v4];exact getElem?_getD (by rw [z4];simp)
 have D0:DI w W1 bh bk bx hinit W1:=by
  refine ⟨I1.fr,Nat.le_refl _,fun _ _ _ _ _ _ _ h=>h,?_,?_,?_⟩
  ·rw [ebh];exact arrAt.of I1 h0' (by decide)
  ·rw [ebk];exact arrAt.of I1 h1' (by decide)
  ·rw [ebx];exact px_of I1 h2' ebk.symm
 refine wpIn_block (wpIn_rangeFunc_ownF (F:=Fence.wide) (n:=5) rfl (by decide) (gf:=168) (lb:=#[.pointer (some ⟨Bs,0,none⟩),.pointer (some ⟨Bn,0,none⟩)]) t13 trivial (enters_of Try.func168 (by kernel_rfl) rfl)
  (chunk_stops 4 (by decide) Bs Bn m cap ad hcap (by rw [← hp] at ql;omega) W1 cs cn l3 l4) (fun h k=>⟨k.1.trans h.1,k.2.trans h.2⟩) (fun W l o o' hwl ho hc _=>?_) (Below.refl _ _) (fun _=>rfl)
  (fun pre W=>DI w W1 bh bk bx (digL p pre) W) (fun _ _ _=>False) (DI.from w W1 bh bk bx (digL p) hww l0 l1 l2) (fun _ _ _ _ _ h=>h.elim) D0
  (fun x=>{ tmps:=(aR.tmps.setIfInBounds 14 (.slice (some (ad.add (64*x.1))) 64 64)).setIfInBounds 5 (.slice (some (ad.add (64*x.1))) 64 64),defers:=[] })
  (fun l x W K hK=>?_) (fun l pre x W D hlen=>?_) (fun Dd xs W hD hS D hdd=>?_) (fun _ _ _ _ _ _ h _=>h.elim))
 ·have k1:Bs ≠ l:=by omega
  have k2:Bn ≠ l:=by omega
  exact ⟨World.cell?_of_block (World.putObj_heap_other k1),World.cell?_of_block (World.putObj_heap_other k2)⟩
 ·obtain ⟨o,e,e1,e2,e3⟩:=asg_is
  have ez:((#[14]:Array Tmp).zip #[Value.slice (some (ad.add (64*x.1))) 64 64]).foldl (fun t (p,v)=>t.setIfInBounds p v) aR.tmps=aR.tmps.setIfInBounds 14 (.slice (some (ad.add (64*x.1))) 64 64):=by simp
  refine wpIn_region_list ?_
  rw [e,ez]
  have ev:(aR.tmps.setIfInBounds 14 (Value.slice (some (ad.add (64*x.1))) 64 64)).getD 14 undef=.slice (some (ad.add (64*x.1))) 64 64:=set_getD_self (by rw [tsz];decide)
  refine wpListIn_plain e3 (fun Kc hKc=>wp_in (.inr ⟨l,rfl⟩) (by simp [notDefer,e1]) (wp_value (w':=W) (x:=.slice (some (ad.add (64*x.1))) 64 64) (by simp only [execOp,e1,Act.eval,ev];rfl) (hKc _ _ ?_)))
  rw [e2]
  exact hK
 ·refine round_ok D (digL_len hm64 pre hinit rfl) d1 d2 d3 (bd:=ad.block) (Nat.lt_of_lt_of_le bl D.sz) b0 b1 b2 g0 g1 g2 _ l (c:=(p.drop (64*x.1)).take 64) ?_ ?_ ?_ rfl (chunk_len hm64 x) ?_ (fun a' W' ko oth DI'=>⟨ko,⟨?_,?_⟩,?_⟩)
  ·show ((aR.tmps.setIfInBounds 14 _).setIfInBounds 5 _).size=39
   simp [tsz]
  ·show ((aR.tmps.setIfInBounds 14 _).setIfInBounds 5 _).getD 3 undef=_
   rw [set_getD (by decide),set_getD (by decide)];exact t3
  ·show ((aR.tmps.setIfInBounds 14 _).setIfInBounds 5 _).getD 4 undef=_
   rw [set_getD (by decide),set_getD (by decide)];exact t4
  ·have e5:((aR.tmps.setIfInBounds 14 (Value.slice (some (ad.add (64*x.1))) 64 64)).setIfInBounds 5 (Value.slice (some (ad.add (64*x.1))) 64 64)).getD 5 undef=.slice (some (ad.add (64*x.1))) 64 64:=set_getD_self (by rw [Array.size_setIfInBounds,tsz];decide)
   refine ⟨some (ad.add (64*x.1)),64,?_,by rw [chunk_len hm64 x];exact Nat.le_refl _,.inr ⟨_,rfl,addr_block _ _,fun i y hy=>?_⟩⟩
   ·rw [chunk_len hm64 x]
    exact congrArg some e5
   ·rw [List.getElem?_take] at hy
    split at hy
    ·rw [List.getElem?_drop] at hy
     have h1:=hcell _ y hy
     have h2:W.cell? (ad.add (64*x.1+i))=W1.cell? (ad.add (64*x.1+i)):=World.cell?_of_block (by rw [addr_block,gd];exact D.old _ _ _ _ b0 b1 b2 gd)
     show W.cell? ((ad.add (64*x.1)).add (i*1+0))=some (.int .u8 y)
     rw [addr_add,Nat.mul_one,Nat.add_zero,h2];exact h1
    ·cases hy
  ·have hl3:Bs<W.heap.size:=Nat.lt_of_lt_of_le l3 D.sz
   exact World.cell?_of_block (oth Bs hl3 s0' s1' s2')
  ·have hl4:Bn<W.heap.size:=Nat.lt_of_lt_of_le l4 D.sz
   exact World.cell?_of_block (oth Bn hl4 n0' n1' n2')
  ·show DI w W1 bh bk bx (digL p (pre++[x])) W'
   rw [digL_snoc];exact DI'
 ·show dc4.wpIn Fence.wide 5 Try.prog _ { aR with defers:={ target:=.collected Dd,args:=#[] }::aR.defers } W
  rw [show aR.defers=[] from sR.sl.defers]
  subst hS
  refine tail_ok D (digL_len hm64 _ hinit rfl) g0 hD hww (by omega) hdd tsz t3 (fun W' hW'=>?_) 5
  obtain ⟨w1', w2', w3', w4', w5'⟩:=hW'
  refine ⟨.string _,{ ι:=fun _=>0,hv:=fun _=>nilV,ln:=fun _=>0,Z:=fun _ _=>False,nv:=fun _ _ _=>nilV,O:=fun _=>none },rfl,⟨fun _ h=>h,⟨w1', w2', w3', w4', w5'⟩,fun _ _ hb=>hb.elim,fun _ hb=>hb.elim,fun _ hb=>hb.elim,fun _=>⟨none,0,0,rfl⟩,fun id o h=>by simp at h,fun id o h=>by simp at h,fun id id' o o' h=>by simp at h,fun b k h=>(by cases h),fun _ _ _=>⟨none,0,0,rfl⟩⟩,?_⟩
  rw [digL_all p hm,hp]
  exact .t rfl (by simp [Lay,iDigest])
noncomputable def S41:Tab:=Tab.add S40 115 (lift (sumOf P_iDigest pre_iDigest g_iDigest))
noncomputable def QF41:FuncId→Bool:=qadd QF40 115
theorem G41:Good Try.prog tt S41 QF41:=G40.addQ c_iDigest (cbl Try.f115) (fun _=>rfl)

noncomputable abbrev P_iputRec:List PSh:=[.agg [(.int .i64),(.int .i64),tq2]]
noncomputable def iputRec (a0:Int) (a1:Int) (a2:Lq1):List Int:=(cond (decide (((a2.length:Nat):Int) > (0:Int))) (((iputNum_nil (((iputOps a2 (iputNum a1 (iputNum_nil a0))).length:Nat):Int))++(iputOps a2 (iputNum a1 (iputNum_nil a0))))++strInts ((iDigest (iputOps a2 (iputNum a1 (iputNum_nil a0)))).extract (0:Int).toNat (4:Int).toNat)) (((iputNum_nil (((iputNum a1 (iputNum_nil a0)).length:Nat):Int))++(iputNum a1 (iputNum_nil a0)))++strInts ((iDigest (iputNum a1 (iputNum_nil a0))).extract (0:Int).toNat (4:Int).toNat)))
noncomputable abbrev e_iputRec (r:List Int):AV×List AObj:=((.t true t_sy r),[])
noncomputable abbrev g_iputRec:pshsDen P_iputRec→AV×List AObj:=fun d=>e_iputRec (iputRec d.1.1 d.1.2.1 d.1.2.2.1)
noncomputable def q_iputRec (a0:Int) (a1:Int) (a2:Lq1):Bool:=(q_iputNum a1 (iputNum_nil a0))&&(cond (decide (((a2.length:Nat):Int) > (0:Int))) ((q_iputOps a2 (iputNum a1 (iputNum_nil a0)))&&((decide (((iputNum_nil (((iputOps a2 (iputNum a1 (iputNum_nil a0))).length:Nat):Int)).length+(iputOps a2 (iputNum a1 (iputNum_nil a0))).length)*1≤MAXB))&&((q_iDigest (iputOps a2 (iputNum a1 (iputNum_nil a0))))&&((decide (0≤(0:Int)∧(0:Int)≤(4:Int)∧(4:Int)≤(((iDigest (iputOps a2 (iputNum a1 (iputNum_nil a0)))).size:Nat):Int)))&&(decide (((iputNum_nil (((iputOps a2 (iputNum a1 (iputNum_nil a0))).length:Nat):Int))++(iputOps a2 (iputNum a1 (iputNum_nil a0)))).length+((iDigest (iputOps a2 (iputNum a1 (iputNum_nil a0)))).extract (0:Int).toNat (4:Int).toNat).size≤MAXB)))))) ((decide (((iputNum_nil (((iputNum a1 (iputNum_nil a0)).length:Nat):Int)).length+(iputNum a1 (iputNum_nil a0)).length)*1≤MAXB))&&((q_iDigest (iputNum a1 (iputNum_nil a0)))&&((decide (0≤(0:Int)∧(0:Int)≤(4:Int)∧(4:Int)≤(((iDigest (iputNum a1 (iputNum_nil a0))).size:Nat):Int)))&&(decide (((iputNum_nil (((iputNum a1 (iputNum_nil a0)).length:Nat):Int))++(iputNum a1 (iputNum_nil a0))).length+((iDigest (iputNum a1 (iputNum_nil a0))).extract (0:Int).toNat (4:Int).toNat).size≤MAXB))))))
noncomputable abbrev pre_iputRec:pshsDen P_iputRec→Bool:=fun d=>q_iputRec d.1.1 d.1.2.1 d.1.2.2.1
theorem run_iputRec:RunP true G41 (fun _ _=>none) Try.f67 P_iputRec pre_iputRec g_iputRec:=by
 rintro ⟨⟨a0,⟨a1,⟨a2,_⟩⟩⟩,_⟩ hp
 change q_iputRec a0 a1 a2=true at hp
 unfold q_iputRec at hp
 refine Eq.trans (b:=(cond (q_iputNum a1 (iputNum_nil a0)) (cond (decide (((a2.length:Nat):Int) > (0:Int))) (cond (q_iputOps a2 (iputNum a1 (iputNum_nil a0))) (cond (decide (((iputNum_nil (((iputOps a2 (iputNum a1 (iputNum_nil a0))).length:Nat):Int)).length+(iputOps a2 (iputNum a1 (iputNum_nil a0))).length)*1≤MAXB)) (cond (q_iDigest (iputOps a2 (iputNum a1 (iputNum_nil a0)))) (cond (decide (0≤(0:Int)∧(0:Int)≤(4:Int)∧(4:Int)≤(((iDigest (iputOps a2 (iputNum a1 (iputNum_nil a0)))).size:Nat):Int))) (cond (decide (((iputNum_nil (((iputOps a2 (iputNum a1 (iputNum_nil a0))).length:Nat):Int))++(iputOps a2 (iputNum a1 (iputNum_nil a0)))).length+((iDigest (iputOps a2 (iputNum a1 (iputNum_nil a0)))).extract (0:Int).toNat (4:Int).toNat).size≤MAXB)) (some (e_iputRec (((iputNum_nil (((iputOps a2 (iputNum a1 (iputNum_nil a0))).length:Nat):Int))++(iputOps a2 (iputNum a1 (iputNum_nil a0))))++strInts ((iDigest (iputOps a2 (iputNum a1 (iputNum_nil a0)))).extract (0:Int).toNat (4:Int).toNat)))) none) none) none) none) none) (cond (decide (((iputNum_nil (((iputNum a1 (iputNum_nil a0)).length:Nat):Int)).length+(iputNum a1 (iputNum_nil a0)).length)*1≤MAXB)) (cond (q_iDigest (iputNum a1 (iputNum_nil a0))) (cond (decide (0≤(0:Int)∧(0:Int)≤(4:Int)∧(4:Int)≤(((iDigest (iputNum a1 (iputNum_nil a0))).size:Nat):Int))) (cond (decide (((iputNum_nil (((iputNum a1 (iputNum_nil a0)).length:Nat):Int))++(iputNum a1 (iputNum_nil a0))).length+((iDigest (iputNum a1 (iputNum_nil a0))).extract (0:Int).toNat (4:Int).toNat).size≤MAXB)) (some (e_iputRec (((iputNum_nil (((iputNum a1 (iputNum_nil a0)).length:Nat):Int))++(iputNum a1 (iputNum_nil a0)))++strInts ((iDigest (iputNum a1 (iputNum_nil a0))).extract (0:Int).toNat (4:Int).toNat)))) none) none) none) none)) none)) (by kernel_rfl) ?_
 exact (cndA hp fun hp=>(cndE e_iputRec hp (fun hp=>(cndA hp fun hp=>(cndA hp fun hp=>(cndA hp fun hp=>(cndA hp fun hp=>(cndT hp fun _h=>rfl)))))) (fun hp=>(cndA hp fun hp=>(cndA hp fun hp=>(cndA hp fun hp=>(cndT hp fun _h=>rfl)))))))
theorem c_iputRec:PContract Try.prog 67 (sumOf P_iputRec pre_iputRec g_iputRec):=pcD true G41 hlz run_iputRec
noncomputable def S42:Tab:=Tab.add S41 67 (lift (sumOf P_iputRec pre_iputRec g_iputRec))
noncomputable def QF42:FuncId→Bool:=qadd QF41 67
theorem G42:Good Try.prog tt S42 QF42:=G41.addQ c_iputRec (cbl Try.f67) (fun _=>rfl)

noncomputable abbrev P_bytes_Equal:List PSh:=[.t t_sy,.t t_sy]
noncomputable def bytes_Equal (a0:List Int) (a1:List Int):Bool:=((⟨(a0.map fun n=>UInt8.ofNat n.toNat).toArray⟩:ByteArray).toList==(⟨(a1.map fun n=>UInt8.ofNat n.toNat).toArray⟩:ByteArray).toList)
noncomputable abbrev e_bytes_Equal (r:Bool):AV×List AObj:=((.t true .bool r),[])
noncomputable abbrev g_bytes_Equal:pshsDen P_bytes_Equal→AV×List AObj:=fun d=>e_bytes_Equal (bytes_Equal d.1 d.2.1)
noncomputable abbrev pre_bytes_Equal:pshsDen P_bytes_Equal→Bool:=fun d=>true
theorem run_bytes_Equal:RunP true G42 (fun _ _=>none) Try.f79 P_bytes_Equal pre_bytes_Equal g_bytes_Equal:=by
 rintro ⟨a0,⟨a1,_⟩⟩ hp
 kernel_rfl
theorem c_bytes_Equal:PContract Try.prog 79 (sumOf P_bytes_Equal pre_bytes_Equal g_bytes_Equal):=pcD true G42 hlz run_bytes_Equal
noncomputable def S43:Tab:=Tab.add S42 79 (lift (sumOf P_bytes_Equal pre_bytes_Equal g_bytes_Equal))
noncomputable def QF43:FuncId→Bool:=qadd QF42 79
theorem G43:Good Try.prog tt S43 QF43:=G42.addQ c_bytes_Equal (cbl Try.f79) (fun _=>rfl)

noncomputable abbrev P_iGetRec:List PSh:=[.t t_sy,.t (.int .i64)]
noncomputable def k1_iGetRec (a0:List Int) (a1:Int):=igetter_num ((a0.take (IntKind.wrap .i64 (((iGetNum a0 a1).2.1)+((iGetNum a0 a1).1))).toNat).drop ((iGetNum a0 a1).2.1).toNat) (0:Int) false
noncomputable def k2_iGetRec (a0:List Int) (a1:Int):=igetter_ops ((igetter_num ((k1_iGetRec a0 a1).2.1) ((k1_iGetRec a0 a1).2.2.1) ((k1_iGetRec a0 a1).2.2.2)).2.1) ((igetter_num ((k1_iGetRec a0 a1).2.1) ((k1_iGetRec a0 a1).2.2.1) ((k1_iGetRec a0 a1).2.2.2)).2.2.1) ((igetter_num ((k1_iGetRec a0 a1).2.1) ((k1_iGetRec a0 a1).2.2.1) ((k1_iGetRec a0 a1).2.2.2)).2.2.2)
noncomputable def k3_iGetRec (a0:List Int) (a1:Int):=iRecOk ((k1_iGetRec a0 a1).1) ((igetter_num ((k1_iGetRec a0 a1).2.1) ((k1_iGetRec a0 a1).2.2.1) ((k1_iGetRec a0 a1).2.2.2)).1) ((k2_iGetRec a0 a1).2.2.2)
noncomputable def k4_iGetRec (a0:List Int) (a1:Int):=iputRec ((k1_iGetRec a0 a1).1) ((igetter_num ((k1_iGetRec a0 a1).2.1) ((k1_iGetRec a0 a1).2.2.1) ((k1_iGetRec a0 a1).2.2.2)).1) ((k2_iGetRec a0 a1).2.2.2)
noncomputable def k5_iGetRec (a0:List Int) (a1:Int):=bytes_Equal (k4_iGetRec a0 a1) ((a0.take (IntKind.wrap .i64 ((IntKind.wrap .i64 (((iGetNum a0 a1).2.1)+((iGetNum a0 a1).1)))+(4:Int))).toNat).drop a1.toNat)
noncomputable def k6_iGetRec (a0:List Int) (a1:Int):=iRecOk ((k1_iGetRec a0 a1).1) ((igetter_num ((k1_iGetRec a0 a1).2.1) ((k1_iGetRec a0 a1).2.2.1) ((k1_iGetRec a0 a1).2.2.2)).1) []
noncomputable def k7_iGetRec (a0:List Int) (a1:Int):=iputRec ((k1_iGetRec a0 a1).1) ((igetter_num ((k1_iGetRec a0 a1).2.1) ((k1_iGetRec a0 a1).2.2.1) ((k1_iGetRec a0 a1).2.2.2)).1) []
noncomputable def k8_iGetRec (a0:List Int) (a1:Int):=bytes_Equal (k7_iGetRec a0 a1) ((a0.take (IntKind.wrap .i64 ((IntKind.wrap .i64 (((iGetNum a0 a1).2.1)+((iGetNum a0 a1).1)))+(4:Int))).toNat).drop a1.toNat)
noncomputable def iGetRec (a0:List Int) (a1:Int):Int×Int×Int×Bool×Lq1:=(cond (!((iGetNum a0 a1).2.2)) ((0:Int),(0:Int),a1,false,([]:Lq1)) (cond (decide (((iGetNum a0 a1).1) > (IntKind.wrap .i64 ((IntKind.wrap .i64 (((a0.length:Nat):Int) - ((iGetNum a0 a1).2.1))) - (4:Int))))) ((0:Int),(0:Int),a1,false,([]:Lq1)) (cond (((k1_iGetRec a0 a1).1)==(1:Int)) (cond ((k2_iGetRec a0 a1).2.2.1) ((0:Int),(0:Int),a1,false,([]:Lq1)) (cond (!(k3_iGetRec a0 a1)) ((0:Int),(0:Int),a1,false,([]:Lq1)) (cond (!(k5_iGetRec a0 a1)) ((0:Int),(0:Int),a1,false,([]:Lq1)) (((k1_iGetRec a0 a1).1),((igetter_num ((k1_iGetRec a0 a1).2.1) ((k1_iGetRec a0 a1).2.2.1) ((k1_iGetRec a0 a1).2.2.2)).1),IntKind.wrap .i64 ((IntKind.wrap .i64 (((iGetNum a0 a1).2.1)+((iGetNum a0 a1).1)))+(4:Int)),true,((k2_iGetRec a0 a1).2.2.2))))) (cond ((igetter_num ((k1_iGetRec a0 a1).2.1) ((k1_iGetRec a0 a1).2.2.1) ((k1_iGetRec a0 a1).2.2.2)).2.2.2) ((0:Int),(0:Int),a1,false,([]:Lq1)) (cond (!(k6_iGetRec a0 a1)) ((0:Int),(0:Int),a1,false,([]:Lq1)) (cond (!(k8_iGetRec a0 a1)) ((0:Int),(0:Int),a1,false,([]:Lq1)) (((k1_iGetRec a0 a1).1),((igetter_num ((k1_iGetRec a0 a1).2.1) ((k1_iGetRec a0 a1).2.2.1) ((k1_iGetRec a0 a1).2.2.2)).1),IntKind.wrap .i64 ((IntKind.wrap .i64 (((iGetNum a0 a1).2.1)+((iGetNum a0 a1).1)))+(4:Int)),true,([]:Lq1))))))))
noncomputable abbrev e_iGetRec (r:Int×Int×Int×Bool×Lq1):AV×List AObj:=((.tup [(.agg [(.t true (.int .i64) r.1),(.t true (.int .i64) r.2.1),(.all 0 3)]),(.t true (.int .i64) r.2.2.1),(.t true .bool r.2.2.2.1)]),[(.rows 124 true tq3 r.2.2.2.2)])
noncomputable abbrev g_iGetRec:pshsDen P_iGetRec→AV×List AObj:=fun d=>e_iGetRec (iGetRec d.1 d.2.1)
noncomputable def q_iGetRec (a0:List Int) (a1:Int):Bool:=(q_iGetNum a0 a1)&&(cond (!((iGetNum a0 a1).2.2)) true (cond (decide (((iGetNum a0 a1).1) > (IntKind.wrap .i64 ((IntKind.wrap .i64 (((a0.length:Nat):Int) - ((iGetNum a0 a1).2.1))) - (4:Int))))) true ((decide (0≤((iGetNum a0 a1).2.1)∧((iGetNum a0 a1).2.1)≤(IntKind.wrap .i64 (((iGetNum a0 a1).2.1)+((iGetNum a0 a1).1)))∧(IntKind.wrap .i64 (((iGetNum a0 a1).2.1)+((iGetNum a0 a1).1)))≤((a0.length:Nat):Int)))&&((q_igetter_num ((a0.take (IntKind.wrap .i64 (((iGetNum a0 a1).2.1)+((iGetNum a0 a1).1))).toNat).drop ((iGetNum a0 a1).2.1).toNat) (0:Int) false)&&((q_igetter_num ((k1_iGetRec a0 a1).2.1) ((k1_iGetRec a0 a1).2.2.1) ((k1_iGetRec a0 a1).2.2.2))&&(cond (((k1_iGetRec a0 a1).1)==(1:Int)) ((q_igetter_ops ((igetter_num ((k1_iGetRec a0 a1).2.1) ((k1_iGetRec a0 a1).2.2.1) ((k1_iGetRec a0 a1).2.2.2)).2.1) ((igetter_num ((k1_iGetRec a0 a1).2.1) ((k1_iGetRec a0 a1).2.2.1) ((k1_iGetRec a0 a1).2.2.2)).2.2.1) ((igetter_num ((k1_iGetRec a0 a1).2.1) ((k1_iGetRec a0 a1).2.2.1) ((k1_iGetRec a0 a1).2.2.2)).2.2.2))&&(cond ((k2_iGetRec a0 a1).2.2.1) true ((q_iRecOk ((k1_iGetRec a0 a1).1) ((igetter_num ((k1_iGetRec a0 a1).2.1) ((k1_iGetRec a0 a1).2.2.1) ((k1_iGetRec a0 a1).2.2.2)).1) ((k2_iGetRec a0 a1).2.2.2))&&(cond (!(k3_iGetRec a0 a1)) true ((q_iputRec ((k1_iGetRec a0 a1).1) ((igetter_num ((k1_iGetRec a0 a1).2.1) ((k1_iGetRec a0 a1).2.2.1) ((k1_iGetRec a0 a1).2.2.2)).1) ((k2_iGetRec a0 a1).2.2.2))&&(decide (0≤a1∧a1≤(IntKind.wrap .i64 ((IntKind.wrap .i64 (((iGetNum a0 a1).2.1)+((iGetNum a0 a1).1)))+(4:Int)))∧(IntKind.wrap .i64 ((IntKind.wrap .i64 (((iGetNum a0 a1).2.1)+((iGetNum a0 a1).1)))+(4:Int)))≤((a0.length:Nat):Int)))))))) (cond ((igetter_num ((k1_iGetRec a0 a1).2.1) ((k1_iGetRec a0 a1).2.2.1) ((k1_iGetRec a0 a1).2.2.2)).2.2.2) true ((q_iRecOk ((k1_iGetRec a0 a1).1) ((igetter_num ((k1_iGetRec a0 a1).2.1) ((k1_iGetRec a0 a1).2.2.1) ((k1_iGetRec a0 a1).2.2.2)).1) [])&&(cond (!(k6_iGetRec a0 a1)) true ((q_iputRec ((k1_iGetRec a0 a1).1) ((igetter_num ((k1_iGetRec a0 a1).2.1) ((k1_iGetRec a0 a1).2.2.1) ((k1_iGetRec a0 a1).2.2.2)).1) [])&&(decide (0≤a1∧a1≤(IntKind.wrap .i64 ((IntKind.wrap .i64 (((iGetNum a0 a1).2.1)+((iGetNum a0 a1).1)))+(4:Int)))∧(IntKind.wrap .i64 ((IntKind.wrap .i64 (((iGetNum a0 a1).2.1)+((iGetNum a0 a1).1)))+(4:Int)))≤((a0.length:Nat):Int)))))))))))))
noncomputable abbrev pre_iGetRec:pshsDen P_iGetRec→Bool:=fun d=>q_iGetRec d.1 d.2.1
theorem run_iGetRec:RunP false G43 (fun _ _=>none) Try.f28 P_iGetRec pre_iGetRec g_iGetRec:=by
 rintro ⟨a0,⟨a1,_⟩⟩ hp
 change q_iGetRec a0 a1=true at hp
 unfold q_iGetRec at hp
 refine Eq.trans (b:=(cond (q_iGetNum a0 a1) (cond (!((iGetNum a0 a1).2.2)) (some (e_iGetRec ((0:Int),(0:Int),a1,false,([]:Lq1)))) (cond (decide (((iGetNum a0 a1).1) > (IntKind.wrap .i64 ((IntKind.wrap .i64 (((a0.length:Nat):Int) - ((iGetNum a0 a1).2.1))) - (4:Int))))) (some (e_iGetRec ((0:Int),(0:Int),a1,false,([]:Lq1)))) (cond (decide (0≤((iGetNum a0 a1).2.1)∧((iGetNum a0 a1).2.1)≤(IntKind.wrap .i64 (((iGetNum a0 a1).2.1)+((iGetNum a0 a1).1)))∧(IntKind.wrap .i64 (((iGetNum a0 a1).2.1)+((iGetNum a0 a1).1)))≤((a0.length:Nat):Int))) (cond (q_igetter_num ((a0.take (IntKind.wrap .i64 (((iGetNum a0 a1).2.1)+((iGetNum a0 a1).1))).toNat).drop ((iGetNum a0 a1).2.1).toNat) (0:Int) false) (cond (q_igetter_num ((k1_iGetRec a0 a1).2.1) ((k1_iGetRec a0 a1).2.2.1) ((k1_iGetRec a0 a1).2.2.2)) (cond (((k1_iGetRec a0 a1).1)==(1:Int)) (cond (q_igetter_ops ((igetter_num ((k1_iGetRec a0 a1).2.1) ((k1_iGetRec a0 a1).2.2.1) ((k1_iGetRec a0 a1).2.2.2)).2.1) ((igetter_num ((k1_iGetRec a0 a1).2.1) ((k1_iGetRec a0 a1).2.2.1) ((k1_iGetRec a0 a1).2.2.2)).2.2.1) ((igetter_num ((k1_iGetRec a0 a1).2.1) ((k1_iGetRec a0 a1).2.2.1) ((k1_iGetRec a0 a1).2.2.2)).2.2.2)) (cond ((k2_iGetRec a0 a1).2.2.1) (some (e_iGetRec ((0:Int),(0:Int),a1,false,([]:Lq1)))) (cond (q_iRecOk ((k1_iGetRec a0 a1).1) ((igetter_num ((k1_iGetRec a0 a1).2.1) ((k1_iGetRec a0 a1).2.2.1) ((k1_iGetRec a0 a1).2.2.2)).1) ((k2_iGetRec a0 a1).2.2.2)) (cond (!(k3_iGetRec a0 a1)) (some (e_iGetRec ((0:Int),(0:Int),a1,false,([]:Lq1)))) (cond (q_iputRec ((k1_iGetRec a0 a1).1) ((igetter_num ((k1_iGetRec a0 a1).2.1) ((k1_iGetRec a0 a1).2.2.1) ((k1_iGetRec a0 a1).2.2.2)).1) ((k2_iGetRec a0 a1).2.2.2)) (cond (decide (0≤a1∧a1≤(IntKind.wrap .i64 ((IntKind.wrap .i64 (((iGetNum a0 a1).2.1)+((iGetNum a0 a1).1)))+(4:Int)))∧(IntKind.wrap .i64 ((IntKind.wrap .i64 (((iGetNum a0 a1).2.1)+((iGetNum a0 a1).1)))+(4:Int)))≤((a0.length:Nat):Int))) (cond (!(k5_iGetRec a0 a1)) (some (e_iGetRec ((0:Int),(0:Int),a1,false,([]:Lq1)))) (some (e_iGetRec (((k1_iGetRec a0 a1).1),((igetter_num ((k1_iGetRec a0 a1).2.1) ((k1_iGetRec a0 a1).2.2.1) ((k1_iGetRec a0 a1).2.2.2)).1),IntKind.wrap .i64 ((IntKind.wrap .i64 (((iGetNum a0 a1).2.1)+((iGetNum a0 a1).1)))+(4:Int)),true,((k2_iGetRec a0 a1).2.2.2))))) none) none)) none)) none) (cond ((igetter_num ((k1_iGetRec a0 a1).2.1) ((k1_iGetRec a0 a1).2.2.1) ((k1_iGetRec a0 a1).2.2.2)).2.2.2) (some (e_iGetRec ((0:Int),(0:Int),a1,false,([]:Lq1)))) (cond (q_iRecOk ((k1_iGetRec a0 a1).1) ((igetter_num ((k1_iGetRec a0 a1).2.1) ((k1_iGetRec a0 a1).2.2.1) ((k1_iGetRec a0 a1).2.2.2)).1) []) (cond (!(k6_iGetRec a0 a1)) (some (e_iGetRec ((0:Int),(0:Int),a1,false,([]:Lq1)))) (cond (q_iputRec ((k1_iGetRec a0 a1).1) ((igetter_num ((k1_iGetRec a0 a1).2.1) ((k1_iGetRec a0 a1).2.2.1) ((k1_iGetRec a0 a1).2.2.2)).1) []) (cond (decide (0≤a1∧a1≤(IntKind.wrap .i64 ((IntKind.wrap .i64 (((iGetNum a0 a1).2.1)+((iGetNum a0 a1).1)))+(4:Int)))∧(IntKind.wrap .i64 ((IntKind.wrap .i64 (((iGetNum a0 a1).2.1)+((iGetNum a0 a1).1)))+(4:Int)))≤((a0.length:Nat):Int))) (cond (!(k8_iGetRec a0 a1)) (some (e_iGetRec ((0:Int),(0:Int),a1,false,([]:Lq1)))) (some (e_iGetRec (((k1_iGetRec a0 a1).1),((igetter_num ((k1_iGetRec a0 a1).2.1) ((k1_iGetRec a0 a1).2.2.1) ((k1_iGetRec a0 a1).2.2.2)).1),IntKind.wrap .i64 ((IntKind.wrap .i64 (((iGetNum a0 a1).2.1)+((iGetNum a0 a1).1)))+(4:Int)),true,([]:Lq1))))) none) none)) none))) none) none) none))) none)) (by kernel_rfl) ?_
 exact (cndA hp fun hp=>(cndE e_iGetRec hp (fun hp=>rfl) (fun hp=>(cndE e_iGetRec hp (fun hp=>rfl) (fun hp=>(cndA hp fun hp=>(cndA hp fun hp=>(cndA hp fun hp=>(cndE e_iGetRec hp (fun hp=>(cndA hp fun hp=>(cndE e_iGetRec hp (fun hp=>rfl) (fun hp=>(cndA hp fun hp=>(cndE e_iGetRec hp (fun hp=>rfl) (fun hp=>(cndA hp fun hp=>(cndT hp fun _h=>(cndG e_iGetRec (fun _h=>rfl) (fun _h=>rfl))))))))))) (fun hp=>(cndE e_iGetRec hp (fun hp=>rfl) (fun hp=>(cndA hp fun hp=>(cndE e_iGetRec hp (fun hp=>rfl) (fun hp=>(cndA hp fun hp=>(cndT hp fun _h=>(cndG e_iGetRec (fun _h=>rfl) (fun _h=>rfl)))))))))))))))))))
theorem c_iGetRec:PContract Try.prog 28 (sumOf P_iGetRec pre_iGetRec g_iGetRec):=pcD false G43 hlz run_iGetRec
noncomputable def S44:Tab:=Tab.add S43 28 (lift (sumOf P_iGetRec pre_iGetRec g_iGetRec))
noncomputable def QF44:FuncId→Bool:=QF43
theorem G44:Good Try.prog tt S44 QF44:=G43.add c_iGetRec (cbl Try.f28) (by kernel_rfl)

noncomputable abbrev P_leqOp:List PSh:=[.agg [(.int .i64),.str,.str],.agg [(.int .i64),.str,.str]]
noncomputable def leqOp (a0:Int) (a1:ByteArray) (a2:ByteArray) (a3:Int) (a4:ByteArray) (a5:ByteArray):Bool:=(cond (a0 != a3) false (cond (!(a1.toList==a4.toList)) false (cond (!(a2.toList==a5.toList)) false true)))
noncomputable abbrev e_leqOp (r:Bool):AV×List AObj:=((.t true .bool r),[])
noncomputable abbrev g_leqOp:pshsDen P_leqOp→AV×List AObj:=fun d=>e_leqOp (leqOp d.1.1 d.1.2.1 d.1.2.2.1 d.2.1.1 d.2.1.2.1 d.2.1.2.2.1)
noncomputable abbrev pre_leqOp:pshsDen P_leqOp→Bool:=fun d=>true
theorem run_leqOp:RunP true G44 (fun _ _=>none) Try.f116 P_leqOp pre_leqOp g_leqOp:=by
 rintro ⟨⟨a0,⟨a1,⟨a2,_⟩⟩⟩,⟨⟨a3,⟨a4,⟨a5,_⟩⟩⟩,_⟩⟩ hp
 refine Eq.trans (b:=(cond (a0 != a3) (some (e_leqOp false)) (cond (!(a1.toList==a4.toList)) (some (e_leqOp false)) (cond (!(a2.toList==a5.toList)) (some (e_leqOp false)) (some (e_leqOp true)))))) (by kernel_rfl) ?_
 exact (cndG e_leqOp (fun _h=>rfl) (fun _h=>(cndG e_leqOp (fun _h=>rfl) (fun _h=>(cndG e_leqOp (fun _h=>rfl) (fun _h=>rfl))))))
theorem c_leqOp:PContract Try.prog 116 (sumOf P_leqOp pre_leqOp g_leqOp):=pcD true G44 hlz run_leqOp
noncomputable def S45:Tab:=Tab.add S44 116 (lift (sumOf P_leqOp pre_leqOp g_leqOp))
noncomputable def QF45:FuncId→Bool:=qadd QF44 116
theorem G45:Good Try.prog tt S45 QF45:=G44.addQ c_leqOp (cbl Try.f116) (fun _=>rfl)

noncomputable abbrev jS21:List Sh:=.junk::.junk::.junk::jS18
noncomputable abbrev u22:=((),(),(),(),u18)
noncomputable abbrev u28:=((),u27)

noncomputable def f_leqOpS_0 (x0 x1:Lq1) (i:Nat):Bool:=!(!(leqOp ((x0.getD i ((0:Int),(bE,bE))).1) (((x0.getD i ((0:Int),(bE,bE))).2).1) (((x0.getD i ((0:Int),(bE,bE))).2).2) ((x1.getD i ((0:Int),(bE,bE))).1) (((x1.getD i ((0:Int),(bE,bE))).2).1) (((x1.getD i ((0:Int),(bE,bE))).2).2)))
noncomputable abbrev P_leqOpS:List PSh:=[.t tq2,.t tq2]
noncomputable abbrev S_leqOpS_0:SS:=⟨(.t false tq2::.t false tq2::.junk::.junk::.junk::.t true (.int .i64)::jS21),[]⟩
noncomputable abbrev E_leqOpS_0_0:SS:=⟨(.junk::.junk::.junk::.junk::.t true .bool::jS22),[]⟩
noncomputable abbrev E_leqOpS_0_1:SS:=⟨(.junk::jS26),[]⟩
noncomputable def st_leqOpS_0 (x0:Lq1) (x1:Lq1) (x5:Int):RT S_leqOpS_0.den:=(.br (decide (x5<((x0.length:Nat):Int))) (.br (decide (0≤x5∧x5<((x0.length:Nat):Int))) (.br (decide (0≤x5∧x5<((x1.length:Nat):Int))) (.br (!(leqOp ((x0.getD x5.toNat ((0:Int),(bE,bE))).1) (((x0.getD x5.toNat ((0:Int),(bE,bE))).2).1) (((x0.getD x5.toNat ((0:Int),(bE,bE))).2).2) ((x1.getD x5.toNat ((0:Int),(bE,bE))).1) (((x1.getD x5.toNat ((0:Int),(bE,bE))).2).1) (((x1.getD x5.toNat ((0:Int),(bE,bE))).2).2))) (.done .ret E_leqOpS_0_0 (((),(),(),(),false,u23),())) (.next ((x0,x1,(),(),(),IntKind.wrap .i64 (x5+(1:Int)),u22),()))) .fail) .fail) (.done (.exit 0) E_leqOpS_0_1 ((u28),())))
noncomputable def T_leqOpS_0 (x0:Lq1) (x1:Lq1) (x5:Int):CT:=(.br (decide (0≤x5)&&(decide (x0.length=x1.length)&&okL x0)) (.br (allF (f_leqOpS_0 x0 x1) (x0.length - x5.toNat) x5.toNat) (.done (.exit 0) E_leqOpS_0_1 ((u28),())) (.done .ret E_leqOpS_0_0 (((),(),(),(),false,u23),()))) .fail)
noncomputable abbrev sp_leqOpS_0:S_leqOpS_0.den→RT S_leqOpS_0.den:=(fun d=>st_leqOpS_0 d.1.1 d.1.2.1 d.1.2.2.2.2.2.1)
noncomputable abbrev pk_leqOpS_0 (x0:Lq1) (x1:Lq1) (x5:Int):S_leqOpS_0.den:=((x0,x1,(),(),(),x5,u22),())
noncomputable def body_leqOpS_0:Code:=((loopsIn 0 (bodyOf Try.f68)).getD 0 (0,.skip)).2
theorem R_leqOpS_0 (x0:Lq1) (x1:Lq1) (x5:Int):(T_leqOpS_0 x0 x1 x5).val (D:=S_leqOpS_0.den)=.fail∨Runs sp_leqOpS_0 (pk_leqOpS_0 x0 x1 x5) (T_leqOpS_0 x0 x1 x5).val:=by
 cases hc:(decide (0≤x5)&&(decide (x0.length=x1.length)&&okL x0)) with
 | false=>left;simp only [T_leqOpS_0,CT.val,hc,cond_false]
 | true =>
  right
  simp only [T_leqOpS_0,CT.val,hc,cond_true]
  simp only [Bool.and_eq_true,decide_eq_true_eq] at hc
  obtain ⟨i,rfl⟩:=Int.eq_ofNat_of_zero_le hc.1
  have hs:=okL_le hc.2.2
  simp only [Int.toNat_natCast]
  refine Runs.scan (fun j=>pk_leqOpS_0 x0 x1 (j:Int)) (x0.length) (f_leqOpS_0 x0 x1) (fun i hi=>?_) (fun i hi=>?_) ⟨_,_,_,rfl,by simp⟩ ⟨_,_,_,rfl,by simp⟩ _ _ rfl
  ·
   have h0a:decide ((i:Int)<((x0.length:Nat):Int))=true:=decide_eq_true (by omega)
   have h0b:decide (0≤(i:Int)∧(i:Int)<((x0.length:Nat):Int))=true:=decide_eq_true (by omega)
   simp only [sp_leqOpS_0,st_leqOpS_0,RT.val,h0a,h0b,cond_true,wrapS i (by omega),Int.toNat_natCast]
   have h9:decide (0≤(i:Int)∧(i:Int)<((x1.length:Nat):Int))=true:=decide_eq_true (by omega)
   simp only [h9,cond_true]
   simp only [f_leqOpS_0]
   generalize (!(leqOp ((x0.getD i ((0:Int),((⟨#[]⟩:ByteArray),(⟨#[]⟩:ByteArray)))).1) (((x0.getD i ((0:Int),((⟨#[]⟩:ByteArray),(⟨#[]⟩:ByteArray)))).2).1) (((x0.getD i ((0:Int),((⟨#[]⟩:ByteArray),(⟨#[]⟩:ByteArray)))).2).2) ((x1.getD i ((0:Int),((⟨#[]⟩:ByteArray),(⟨#[]⟩:ByteArray)))).1) (((x1.getD i ((0:Int),((⟨#[]⟩:ByteArray),(⟨#[]⟩:ByteArray)))).2).1) (((x1.getD i ((0:Int),((⟨#[]⟩:ByteArray),(⟨#[]⟩:ByteArray)))).2).2)))=c
   cases c<;>rfl
  ·have h1:decide ((i:Int)<((x0.length:Nat):Int))=false:=decide_eq_false (by omega)
   simp only [sp_leqOpS_0,st_leqOpS_0,RT.val,h1,cond_false]
theorem rdA_leqOpS_0:RdA G45 (fun _ _=>none) 0 body_leqOpS_0 S_leqOpS_0 0 [] (kepts [4] [(0,[])]) (fun d=>(sp_leqOpS_0 d).opt 0 []):=by
 intro d
 kernel_rfl
noncomputable abbrev say_leqOpS_0:St→Option Tree:=S_leqOpS_0.say 0 [] [] (fun d=>T_leqOpS_0 d.1.1 d.1.2.1 d.1.2.2.2.2.2.1)
theorem lw_leqOpS_0:LoopWp Try.prog say_leqOpS_0 body_leqOpS_0:=SS.wp2 hlz [] sp_leqOpS_0 rdA_leqOpS_0 (fun d=>rfl) _ (fun d=>R_leqOpS_0 d.1.1 d.1.2.1 d.1.2.2.2.2.2.1)
noncomputable def leqOpS (a0:Lq1) (a1:Lq1):Bool:=(cond (((a0.length:Nat):Int) != ((a1.length:Nat):Int)) false (cond (allF (f_leqOpS_0 a0 a1) (a0.length - (0:Int).toNat) (0:Int).toNat) true false))
noncomputable abbrev e_leqOpS (r:Bool):AV×List AObj:=((.t true .bool r),[])
noncomputable abbrev g_leqOpS:pshsDen P_leqOpS→AV×List AObj:=fun d=>e_leqOpS (leqOpS d.1 d.2.1)
noncomputable def q_leqOpS (a0:Lq1) (a1:Lq1):Bool:=okL a0
noncomputable abbrev pre_leqOpS:pshsDen P_leqOpS→Bool:=fun d=>q_leqOpS d.1 d.2.1
noncomputable abbrev L_leqOpS:Nat→St→Option Tree:=fun b=>match b with | 0=>say_leqOpS_0 | _=>fun _=>none
theorem run_leqOpS:RunP true G45 (L_leqOpS) Try.f68 P_leqOpS pre_leqOpS g_leqOpS:=by
 rintro ⟨(a0:Lq1),⟨(a1:Lq1),_⟩⟩ hp
 change q_leqOpS a0 a1=true at hp
 unfold q_leqOpS at hp
 refine Eq.trans (b:=(cond (((a0.length:Nat):Int) != ((a1.length:Nat):Int)) (some (e_leqOpS false)) (cond (decide (0≤(0:Int))&&(decide (a0.length=a1.length)&&okL a0)) (cond (allF (f_leqOpS_0 a0 a1) (a0.length - (0:Int).toNat) (0:Int).toNat) (some (e_leqOpS true)) (some (e_leqOpS false))) none))) (by kernel_rfl) ?_
 exact (cndG e_leqOpS (fun _h=>rfl) (fun _h=>(cndT (by simp only [okL,Bool.and_eq_true,decide_eq_true_eq] at hp ⊢;simp at _h;exact ⟨Int.le_refl 0,by omega,hp⟩) (fun _h=>(cndG e_leqOpS (fun _h=>rfl) (fun _h=>rfl))))))
theorem c_leqOpS:PContract Try.prog 68 (sumOf P_leqOpS pre_leqOpS g_leqOpS):=pcD true G45 (hl1 (i:=0) (by kernel_rfl) lw_leqOpS_0) run_leqOpS
noncomputable def S46:Tab:=Tab.add S45 68 (lift (sumOf P_leqOpS pre_leqOpS g_leqOpS))
noncomputable def QF46:FuncId→Bool:=qadd QF45 68
theorem G46:Good Try.prog tt S46 QF46:=G45.addQ c_leqOpS (cbl Try.f68) (fun _=>rfl)

noncomputable abbrev P_leqRec:List PSh:=[.agg [(.int .i64),(.int .i64),tq2],.agg [(.int .i64),(.int .i64),tq2]]
noncomputable def leqRec (a0:Int) (a1:Int) (a2:Lq1) (a3:Int) (a4:Int) (a5:Lq1):Bool:=(cond (a0 != a3) false (cond (a1 != a4) false (cond (!(leqOpS a2 a5)) false true)))
noncomputable abbrev e_leqRec (r:Bool):AV×List AObj:=((.t true .bool r),[])
noncomputable abbrev g_leqRec:pshsDen P_leqRec→AV×List AObj:=fun d=>e_leqRec (leqRec d.1.1 d.1.2.1 d.1.2.2.1 d.2.1.1 d.2.1.2.1 d.2.1.2.2.1)
noncomputable def q_leqRec (a0:Int) (a1:Int) (a2:Lq1) (a3:Int) (a4:Int) (a5:Lq1):Bool:=okL a2
noncomputable abbrev pre_leqRec:pshsDen P_leqRec→Bool:=fun d=>q_leqRec d.1.1 d.1.2.1 d.1.2.2.1 d.2.1.1 d.2.1.2.1 d.2.1.2.2.1
theorem run_leqRec:RunP true G46 (fun _ _=>none) Try.f20 P_leqRec pre_leqRec g_leqRec:=by
 rintro ⟨⟨a0,⟨a1,⟨a2,_⟩⟩⟩,⟨⟨a3,⟨a4,⟨a5,_⟩⟩⟩,_⟩⟩ hp
 change q_leqRec a0 a1 a2 a3 a4 a5=true at hp
 unfold q_leqRec at hp
 refine Eq.trans (b:=(cond (a0 != a3) (some (e_leqRec false)) (cond (a1 != a4) (some (e_leqRec false)) (cond (q_leqOpS a2 a5) (cond (!(leqOpS a2 a5)) (some (e_leqRec false)) (some (e_leqRec true))) none)))) (by kernel_rfl) ?_
 exact (cndG e_leqRec (fun _h=>rfl) (fun _h=>(cndG e_leqRec (fun _h=>rfl) (fun _h=>(cndT (by first | rfl | decide | exact hp | (simp only [Bool.and_eq_true] at hp;simp only [hp];done) | (simp [*];done) | (simp [okL] at hp;simp [okL,MAXB];omega) | (simp_all;done) | (simp at *;omega)) (fun _h=>(cndG e_leqRec (fun _h=>rfl) (fun _h=>rfl))))))))
theorem c_leqRec:PContract Try.prog 20 (sumOf P_leqRec pre_leqRec g_leqRec):=pcD true G46 hlz run_leqRec
noncomputable def S47:Tab:=Tab.add S46 20 (lift (sumOf P_leqRec pre_leqRec g_leqRec))
noncomputable def QF47:FuncId→Bool:=qadd QF46 20
theorem G47:Good Try.prog tt S47 QF47:=G46.addQ c_leqRec (cbl Try.f20) (fun _=>rfl)

noncomputable abbrev jS20:List Sh:=.junk::.junk::jS18
noncomputable abbrev jS25:List Sh:=.junk::jS24
noncomputable abbrev u21:=((),(),(),u18)

noncomputable def f_leqByteS_0 (x0 x1:List Int) (i:Nat):Bool:=!((x0.getD i (0:Int)) != (x1.getD i (0:Int)))
noncomputable abbrev P_leqByteS:List PSh:=[.t t_sy,.t t_sy]
noncomputable abbrev S_leqByteS_0:SS:=⟨(.t false t_sy::.t false t_sy::.junk::.junk::.junk::.t true (.int .i64)::jS20),[]⟩
noncomputable abbrev E_leqByteS_0_0:SS:=⟨(.junk::.junk::.junk::.junk::.t true .bool::jS21),[]⟩
noncomputable abbrev E_leqByteS_0_1:SS:=⟨(.junk::jS25),[]⟩
noncomputable def st_leqByteS_0 (x0:List Int) (x1:List Int) (x5:Int):RT S_leqByteS_0.den:=(.br (decide (x5<((x0.length:Nat):Int))) (.br (decide (0≤x5∧x5<((x0.length:Nat):Int))) (.br (decide (0≤x5∧x5<((x1.length:Nat):Int))) (.br ((x0.getD x5.toNat (0:Int)) != (x1.getD x5.toNat (0:Int))) (.done .ret E_leqByteS_0_0 (((),(),(),(),false,u22),())) (.next ((x0,x1,(),(),(),IntKind.wrap .i64 (x5+(1:Int)),u21),()))) .fail) .fail) (.done (.exit 0) E_leqByteS_0_1 ((u27),())))
noncomputable def T_leqByteS_0 (x0:List Int) (x1:List Int) (x5:Int):CT:=(.br (decide (0≤x5)&&(decide (x0.length=x1.length)&&okL x0)) (.br (allF (f_leqByteS_0 x0 x1) (x0.length - x5.toNat) x5.toNat) (.done (.exit 0) E_leqByteS_0_1 ((u27),())) (.done .ret E_leqByteS_0_0 (((),(),(),(),false,u22),()))) .fail)
noncomputable abbrev sp_leqByteS_0:S_leqByteS_0.den→RT S_leqByteS_0.den:=(fun d=>st_leqByteS_0 d.1.1 d.1.2.1 d.1.2.2.2.2.2.1)
noncomputable abbrev pk_leqByteS_0 (x0:List Int) (x1:List Int) (x5:Int):S_leqByteS_0.den:=((x0,x1,(),(),(),x5,u21),())
noncomputable def body_leqByteS_0:Code:=((loopsIn 0 (bodyOf Try.f19)).getD 0 (0,.skip)).2
theorem R_leqByteS_0 (x0:List Int) (x1:List Int) (x5:Int):(T_leqByteS_0 x0 x1 x5).val (D:=S_leqByteS_0.den)=.fail∨Runs sp_leqByteS_0 (pk_leqByteS_0 x0 x1 x5) (T_leqByteS_0 x0 x1 x5).val:=by
 cases hc:(decide (0≤x5)&&(decide (x0.length=x1.length)&&okL x0)) with
 | false=>left;simp only [T_leqByteS_0,CT.val,hc,cond_false]
 | true =>
  right
  simp only [T_leqByteS_0,CT.val,hc,cond_true]
  simp only [Bool.and_eq_true,decide_eq_true_eq] at hc
  obtain ⟨i,rfl⟩:=Int.eq_ofNat_of_zero_le hc.1
  have hs:=okL_le hc.2.2
  simp only [Int.toNat_natCast]
  refine Runs.scan (fun j=>pk_leqByteS_0 x0 x1 (j:Int)) (x0.length) (f_leqByteS_0 x0 x1) (fun i hi=>?_) (fun i hi=>?_) ⟨_,_,_,rfl,by simp⟩ ⟨_,_,_,rfl,by simp⟩ _ _ rfl
  ·
   have h0a:decide ((i:Int)<((x0.length:Nat):Int))=true:=decide_eq_true (by omega)
   have h0b:decide (0≤(i:Int)∧(i:Int)<((x0.length:Nat):Int))=true:=decide_eq_true (by omega)
   simp only [sp_leqByteS_0,st_leqByteS_0,RT.val,h0a,h0b,cond_true,wrapS i (by omega),Int.toNat_natCast]
   have h9:decide (0≤(i:Int)∧(i:Int)<((x1.length:Nat):Int))=true:=decide_eq_true (by omega)
   simp only [h9,cond_true]
   simp only [f_leqByteS_0]
   generalize ((x0.getD i (0:Int)) != (x1.getD i (0:Int)))=c
   cases c<;>rfl
  ·have h1:decide ((i:Int)<((x0.length:Nat):Int))=false:=decide_eq_false (by omega)
   simp only [sp_leqByteS_0,st_leqByteS_0,RT.val,h1,cond_false]
theorem rdA_leqByteS_0:RdA G47 (fun _ _=>none) 0 body_leqByteS_0 S_leqByteS_0 0 [] (kepts [4] [(0,[])]) (fun d=>(sp_leqByteS_0 d).opt 0 []):=by
 intro d
 kernel_rfl
noncomputable abbrev say_leqByteS_0:St→Option Tree:=S_leqByteS_0.say 0 [] [] (fun d=>T_leqByteS_0 d.1.1 d.1.2.1 d.1.2.2.2.2.2.1)
theorem lw_leqByteS_0:LoopWp Try.prog say_leqByteS_0 body_leqByteS_0:=SS.wp2 hlz [] sp_leqByteS_0 rdA_leqByteS_0 (fun d=>rfl) _ (fun d=>R_leqByteS_0 d.1.1 d.1.2.1 d.1.2.2.2.2.2.1)
noncomputable def leqByteS (a0:List Int) (a1:List Int):Bool:=(cond (((a0.length:Nat):Int) != ((a1.length:Nat):Int)) false (cond (allF (f_leqByteS_0 a0 a1) (a0.length - (0:Int).toNat) (0:Int).toNat) true false))
noncomputable abbrev e_leqByteS (r:Bool):AV×List AObj:=((.t true .bool r),[])
noncomputable abbrev g_leqByteS:pshsDen P_leqByteS→AV×List AObj:=fun d=>e_leqByteS (leqByteS d.1 d.2.1)
noncomputable def q_leqByteS (a0:List Int) (a1:List Int):Bool:=okL a0
noncomputable abbrev pre_leqByteS:pshsDen P_leqByteS→Bool:=fun d=>q_leqByteS d.1 d.2.1
noncomputable abbrev L_leqByteS:Nat→St→Option Tree:=fun b=>match b with | 0=>say_leqByteS_0 | _=>fun _=>none
theorem run_leqByteS:RunP true G47 (L_leqByteS) Try.f19 P_leqByteS pre_leqByteS g_leqByteS:=by
 rintro ⟨(a0:List Int),⟨(a1:List Int),_⟩⟩ hp
 change q_leqByteS a0 a1=true at hp
 unfold q_leqByteS at hp
 refine Eq.trans (b:=(cond (((a0.length:Nat):Int) != ((a1.length:Nat):Int)) (some (e_leqByteS false)) (cond (decide (0≤(0:Int))&&(decide (a0.length=a1.length)&&okL a0)) (cond (allF (f_leqByteS_0 a0 a1) (a0.length - (0:Int).toNat) (0:Int).toNat) (some (e_leqByteS true)) (some (e_leqByteS false))) none))) (by kernel_rfl) ?_
 exact (cndG e_leqByteS (fun _h=>rfl) (fun _h=>(cndT (by simp only [okL,Bool.and_eq_true,decide_eq_true_eq] at hp ⊢;simp at _h;exact ⟨Int.le_refl 0,by omega,hp⟩) (fun _h=>(cndG e_leqByteS (fun _h=>rfl) (fun _h=>rfl))))))
theorem c_leqByteS:PContract Try.prog 19 (sumOf P_leqByteS pre_leqByteS g_leqByteS):=pcD true G47 (hl1 (i:=0) (by kernel_rfl) lw_leqByteS_0) run_leqByteS
noncomputable def S48:Tab:=Tab.add S47 19 (lift (sumOf P_leqByteS pre_leqByteS g_leqByteS))
noncomputable def QF48:FuncId→Bool:=qadd QF47 19
theorem G48:Good Try.prog tt S48 QF48:=G47.addQ c_leqByteS (cbl Try.f19) (fun _=>rfl)

noncomputable abbrev u19:=((),u18)

noncomputable def f_lmarkByteS_0 (i:Nat) (b:Int×List Int):Int×List Int:=(IntKind.wrap .i64 (b.1+(1:Int)),b.2.set i (IntKind.wrap .u8 b.1))
noncomputable abbrev SM_lmarkByteS:SS:=⟨[.all 0 1,.t true (.int .i64)],[.rows 5 true (.int .u8)]⟩
noncomputable abbrev S_lmarkByteS_0:SS:=⟨(.all 0 1::.t true (.int .i64)::.junk::.junk::.junk::.t true (.int .i64)::jS14),[.rows 5 true (.int .u8)]⟩
noncomputable abbrev E_lmarkByteS_0_0:SS:=⟨(.junk::.t true (.int .i64)::jS18),[.rows 5 true (.int .u8)]⟩
noncomputable def st_lmarkByteS_0 (x1:Int) (x5:Int) (h0:List Int):RT S_lmarkByteS_0.den:=(.br (decide (x5<((h0.length:Nat):Int))) (.br (decide (0≤x5∧x5<((h0.length:Nat):Int))) (.next (((),IntKind.wrap .i64 (x1+(1:Int)),(),(),(),IntKind.wrap .i64 (x5+(1:Int)),u15),(h0.set x5.toNat (IntKind.wrap .u8 x1),()))) .fail) (.done (.exit 0) E_lmarkByteS_0_0 (((),x1,u19),(h0,()))))
noncomputable def T_lmarkByteS_0 (x1:Int) (x5:Int) (h0:List Int):CT:=(.br (decide (0≤x5)&&(decide (0≤x1∧x1≤100000*(x5+100))&&okL h0)) (.done (.exit 0) E_lmarkByteS_0_0 (((),((foldN f_lmarkByteS_0 (h0.length - x5.toNat) x5.toNat (x1,h0)).1),u19),(((foldN f_lmarkByteS_0 (h0.length - x5.toNat) x5.toNat (x1,h0)).2),()))) .fail)
noncomputable abbrev sp_lmarkByteS_0:S_lmarkByteS_0.den→RT S_lmarkByteS_0.den:=(fun d=>st_lmarkByteS_0 d.1.2.1 d.1.2.2.2.2.2.1 d.2.1)
noncomputable abbrev pk_lmarkByteS_0 (x1:Int) (x5:Int) (h0:List Int):S_lmarkByteS_0.den:=(((),x1,(),(),(),x5,u15),(h0,()))
noncomputable def body_lmarkByteS_0:Code:=((loopsIn 0 (bodyOf Try.f22)).getD 0 (0,.skip)).2
theorem R_lmarkByteS_0 (x1:Int) (x5:Int) (h0:List Int):(T_lmarkByteS_0 x1 x5 h0).val (D:=S_lmarkByteS_0.den)=.fail∨Runs sp_lmarkByteS_0 (pk_lmarkByteS_0 x1 x5 h0) (T_lmarkByteS_0 x1 x5 h0).val:=by
 cases hc:(decide (0≤x5)&&(decide (0≤x1∧x1≤100000*(x5+100))&&okL h0)) with
 | false=>left;simp only [T_lmarkByteS_0,CT.val,hc,cond_false]
 | true =>
  right
  simp only [T_lmarkByteS_0,CT.val,hc,cond_true]
  simp only [Bool.and_eq_true,decide_eq_true_eq] at hc
  obtain ⟨i,rfl⟩:=Int.eq_ofNat_of_zero_le hc.1
  have hs:=okL_le hc.2.2
  have hk:=hc.2.1
  simp only [Int.toNat_natCast]
  refine Runs.foldN (step:=sp_lmarkByteS_0) (fun j b=>pk_lmarkByteS_0 b.1 (j:Int) b.2) (fun i b=>(0≤b.1∧b.1≤100000*((i:Int)+100))∧b.2.length=h0.length) (h0.length) f_lmarkByteS_0
   (fin:=fun b=>((.done (.exit 0) E_lmarkByteS_0_0 (((),b.1,u19),(b.2,()))):CT).val) (fun i b hi hb=>?_) (fun i b hi hb=>?_) (h0.length - i) i (x1,h0) rfl ⟨hk,rfl⟩
  ·obtain ⟨k,h⟩:=b
   obtain ⟨hb1,hb2⟩:=hb
   simp only at hb1 hb2
   have w1:IntKind.wrap .i64 (k+(1:Int))=k+(1:Int):=wrap64 (by omega) (by omega)
   have e0:(decide (0≤(i:Int)∧(i:Int)<((h.length:Nat):Int)))=true:=decide_eq_true (by (try simp only [List.length_set]);omega)
   have h1:decide ((i:Int)<((h.length:Nat):Int))=true:=decide_eq_true (by omega)
   have v1:(f_lmarkByteS_0 i (k,h)).1=k+(1:Int):=by simp only [f_lmarkByteS_0,w1]
   have v2:(f_lmarkByteS_0 i (k,h)).2.length=h.length:=by simp only [f_lmarkByteS_0,List.length_set]
   refine ⟨⟨by rw [v1];omega,by rw [v2];exact hb2⟩,?_⟩
   simp only [sp_lmarkByteS_0,st_lmarkByteS_0,RT.val,h1,e0,cond_true,wrapS i (by omega),Int.toNat_natCast]
   rfl
  ·have h1:decide ((i:Int)<((b.2.length:Nat):Int))=false:=decide_eq_false (by omega)
   exact ⟨by simp only [sp_lmarkByteS_0,st_lmarkByteS_0,RT.val,h1,cond_false];rfl,_,_,_,rfl,by simp⟩
theorem rdA_lmarkByteS_0:RdA G48 (fun _ _=>none) 0 body_lmarkByteS_0 S_lmarkByteS_0 1 [] (kepts [] [(0,[1])]) (fun d=>(sp_lmarkByteS_0 d).opt 1 []):=by
 intro d
 kernel_rfl
noncomputable abbrev say_lmarkByteS_0:St→Option Tree:=S_lmarkByteS_0.say 1 [] [] (fun d=>T_lmarkByteS_0 d.1.2.1 d.1.2.2.2.2.2.1 d.2.1)
theorem lw_lmarkByteS_0:LoopWp Try.prog say_lmarkByteS_0 body_lmarkByteS_0:=SS.wp2 hlz [] sp_lmarkByteS_0 rdA_lmarkByteS_0 (fun d=>rfl) _ (fun d=>R_lmarkByteS_0 d.1.2.1 d.1.2.2.2.2.2.1 d.2.1)
noncomputable def lmarkByteS (x1:Int) (h0:List Int):Int×List Int:=(((foldN f_lmarkByteS_0 (h0.length - (0:Int).toNat) (0:Int).toNat (x1,h0)).1),((foldN f_lmarkByteS_0 (h0.length - (0:Int).toNat) (0:Int).toNat (x1,h0)).2))
noncomputable abbrev e_lmarkByteS (r:Int×List Int):AV×List AObj×List Nat:=((.t true (.int .i64) r.1),[(.rows 5 true (.int .u8) r.2)],[])
noncomputable abbrev g_lmarkByteS:SM_lmarkByteS.den→AV×List AObj×List Nat:=fun d=>e_lmarkByteS (lmarkByteS d.1.2.1 d.2.1)
noncomputable def q_lmarkByteS (x1:Int) (h0:List Int):Bool:=okL h0&&decide (0≤x1∧x1≤10000000)
noncomputable abbrev pre_lmarkByteS:SM_lmarkByteS.den→Bool:=fun d=>q_lmarkByteS d.1.2.1 d.2.1
noncomputable abbrev L_lmarkByteS:Nat→St→Option Tree:=fun b=>match b with | 0=>say_lmarkByteS_0 | _=>fun _=>none
theorem run_lmarkByteS:RunM G48 (L_lmarkByteS) Try.f22 SM_lmarkByteS pre_lmarkByteS g_lmarkByteS:=by
 rintro ⟨⟨_,x1,_⟩,⟨h0,_⟩⟩ hp
 change q_lmarkByteS x1 h0=true at hp
 unfold q_lmarkByteS at hp
 refine Eq.trans (b:=(cond (decide (0≤(0:Int))&&(decide (0≤x1∧x1≤100000*((0:Int)+100))&&okL h0)) (some (e_lmarkByteS (((foldN f_lmarkByteS_0 (h0.length - (0:Int).toNat) (0:Int).toNat (x1,h0)).1),((foldN f_lmarkByteS_0 (h0.length - (0:Int).toNat) (0:Int).toNat (x1,h0)).2)))) none)) (by kernel_rfl) ?_
 exact (cndT (by first | rfl | decide | exact hp | (simp only [Bool.and_eq_true] at hp;simp only [hp];done) | (simp [*];done) | (simp [okL] at hp;simp [okL,MAXB];omega) | (simp_all;done) | (simp at *;omega)) (fun _h=>rfl))
noncomputable abbrev m_lmarkByteS:=win winIds (msum SM_lmarkByteS pre_lmarkByteS g_lmarkByteS)
theorem c_lmarkByteS:MContract Try.prog 22 m_lmarkByteS:=(mcM G48 (hl1 (i:=0) (by kernel_rfl) lw_lmarkByteS_0) run_lmarkByteS).win winIds
noncomputable def S49:Tab:=Tab.add S48 22 (m_lmarkByteS)
noncomputable def QF49:FuncId→Bool:=QF48
theorem G49:Good Try.prog tt S49 QF49:=G48.addM c_lmarkByteS (win_local _) (cbl Try.f22) (by kernel_rfl)

noncomputable abbrev P_lmarkText:List PSh:=[.t (.int .i64)]
noncomputable abbrev S_lmarkText_0:SS:=⟨(.t true (.int .i64)::.junk::.junk::.t true .str::jS16),[]⟩
noncomputable abbrev E_lmarkText_0_0:SS:=⟨(.junk::.junk::.junk::.t true .str::jS16),[]⟩
noncomputable def st_lmarkText_0 (x0:Int) (x3:ByteArray):RT S_lmarkText_0.den:=(.br (decide (x0 > (0:Int))) (.br (decide ((((⟨([IntKind.wrap .u8 (IntKind.wrap .i64 ((48:Int)+(Int.tmod x0 (10:Int))))].map fun n=>UInt8.ofNat n.toNat).toArray⟩:ByteArray).size+x3.size:Nat):Int)≤IntKind.i64.max)) (.next ((IntKind.wrap .i64 (Int.tdiv x0 (10:Int)),(),(),(⟨([IntKind.wrap .u8 (IntKind.wrap .i64 ((48:Int)+(Int.tmod x0 (10:Int))))].map fun n=>UInt8.ofNat n.toNat).toArray⟩:ByteArray)++x3,u17),())) .fail) (.done (.exit 0) E_lmarkText_0_0 (((),(),(),x3,u17),())))
noncomputable def T_lmarkText_0 (x0:Int) (x3:ByteArray):CT:=(.br (decide (x0≤1000000000000)&&decide (x3.size≤1000)) (.done (.exit 0) E_lmarkText_0_0 (((),(),(),(txtN 13 x0 x3),u17),())) .fail)
noncomputable abbrev sp_lmarkText_0:S_lmarkText_0.den→RT S_lmarkText_0.den:=(fun d=>st_lmarkText_0 d.1.1 d.1.2.2.2.1)
noncomputable abbrev pk_lmarkText_0 (x0:Int) (x3:ByteArray):S_lmarkText_0.den:=((x0,(),(),x3,u17),())
noncomputable def body_lmarkText_0:Code:=((loopsIn 0 (bodyOf Try.f90)).getD 0 (0,.skip)).2
theorem R_lmarkText_0 (x0:Int) (x3:ByteArray):(T_lmarkText_0 x0 x3).val (D:=S_lmarkText_0.den)=.fail∨Runs sp_lmarkText_0 (pk_lmarkText_0 x0 x3) (T_lmarkText_0 x0 x3).val:=by
 cases hc:(decide (x0≤1000000000000)&&decide (x3.size≤1000)) with
 | false=>left;simp only [T_lmarkText_0,CT.val,hc,cond_false]
 | true =>
  right
  simp only [T_lmarkText_0,CT.val,hc,cond_true]
  simp only [Bool.and_eq_true,decide_eq_true_eq] at hc
  have key:∀ (k:Nat) (x:Int) (s:ByteArray),x<10 ^ k→x≤1000000000000→s.size+k≤2000→Runs sp_lmarkText_0 (pk_lmarkText_0 x s) (((.done (.exit 0) E_lmarkText_0_0 (((),(),(),(txtN k x s),u17),())):CT).val (D:=S_lmarkText_0.den)):=by
   intro k
   induction k with
   | zero =>
    intro x s h1 h2 h3
    rw [show (10:Int) ^ 0=1 from rfl] at h1
    have e1:decide (x > (0:Int))=false:=decide_eq_false (by omega)
    refine .done (by simp) ?_
    simp only [sp_lmarkText_0,st_lmarkText_0,RT.val,e1,cond_false,txtN]
   | succ k ih =>
    intro x s h1 h2 h3
    rw [Int.pow_succ] at h1
    by_cases hx:x > 0
    ·have e1:decide (x > (0:Int))=true:=decide_eq_true hx
     have e2:decide ((((digB x).size+s.size:Nat):Int)≤IntKind.i64.max)=true:=decide_eq_true (by rw [digB_size,show IntKind.i64.max=9223372036854775807 from rfl];omega)
     have e4:Int.tdiv x (10:Int)=x / 10:=Int.tdiv_eq_ediv_of_nonneg (by omega)
     have e5:IntKind.wrap .i64 (Int.tdiv x (10:Int))=x / 10:=by rw [e4];exact wrap64 (by omega) (by omega)
     have:=ih (IntKind.wrap .i64 (Int.tdiv x (10:Int))) (digB x++s) (by rw [e5];omega) (by rw [e5];omega) (by rw [ByteArray.size_append,digB_size];omega)
     refine .next (d':=pk_lmarkText_0 (IntKind.wrap .i64 (Int.tdiv x (10:Int))) (digB x++s)) ?_ ?_
     ·have e6 : (sp_lmarkText_0 (pk_lmarkText_0 x s)).val = cond (decide ((((digB x).size + s.size : Nat) : Int) ≤ IntKind.i64.max)) (.next (pk_lmarkText_0 (IntKind.wrap .i64 (Int.tdiv x (10 : Int))) (digB x ++ s))) .fail := by
       simp only [sp_lmarkText_0,st_lmarkText_0,RT.val,e1,cond_true];rfl
      rw [e6,e2];rfl
     ·have e3:txtN (k+1) x s=txtN k (IntKind.wrap .i64 (Int.tdiv x (10:Int))) (digB x++s):=by simp only [txtN,e1,cond_true]
      rw [e3]
      exact this
    ·have e1:decide (x > (0:Int))=false:=decide_eq_false hx
     refine .done (by simp) ?_
     simp only [sp_lmarkText_0,st_lmarkText_0,RT.val,e1,cond_false,txtN]
  exact key 13 x0 x3 (by have:=hc.1;rw [show (10:Int) ^ 13=10000000000000 from rfl];omega) hc.1 (by have:=hc.2;omega)
theorem rdA_lmarkText_0:RdA G49 (fun _ _=>none) 0 body_lmarkText_0 S_lmarkText_0 0 [] (kepts [] [(0,[3])]) (fun d=>(sp_lmarkText_0 d).opt 0 []):=by
 intro d
 kernel_rfl
noncomputable abbrev say_lmarkText_0:St→Option Tree:=S_lmarkText_0.say 0 [] [] (fun d=>T_lmarkText_0 d.1.1 d.1.2.2.2.1)
theorem lw_lmarkText_0:LoopWp Try.prog say_lmarkText_0 body_lmarkText_0:=SS.wp2 hlz [] sp_lmarkText_0 rdA_lmarkText_0 (fun d=>rfl) _ (fun d=>R_lmarkText_0 d.1.1 d.1.2.2.2.1)
noncomputable def lmarkText (a0:Int):ByteArray:=(cond (decide (a0≤(0:Int))) (⟨#[109,48]⟩:ByteArray) ((⟨#[109]⟩:ByteArray)++(txtN 13 a0 bE)))
noncomputable abbrev e_lmarkText (r:ByteArray):AV×List AObj:=((.t true .str r),[])
noncomputable abbrev g_lmarkText:pshsDen P_lmarkText→AV×List AObj:=fun d=>e_lmarkText (lmarkText d.1)
noncomputable def q_lmarkText (a0:Int):Bool:=decide (a0≤1000000000000)
noncomputable abbrev pre_lmarkText:pshsDen P_lmarkText→Bool:=fun d=>q_lmarkText d.1
noncomputable abbrev L_lmarkText:Nat→St→Option Tree:=fun b=>match b with | 0=>say_lmarkText_0 | _=>fun _=>none
theorem run_lmarkText:RunP true G49 (L_lmarkText) Try.f90 P_lmarkText pre_lmarkText g_lmarkText:=by
 rintro ⟨(a0:Int),_⟩ hp
 change q_lmarkText a0=true at hp
 unfold q_lmarkText at hp
 refine Eq.trans (b:=(cond (decide (a0≤(0:Int))) (some (e_lmarkText (⟨#[109,48]⟩:ByteArray))) (cond (decide (a0≤1000000000000)&&decide ((⟨#[]⟩:ByteArray).size≤1000)) (cond (decide ((((⟨#[109]⟩:ByteArray).size+(txtN 13 a0 (⟨#[]⟩:ByteArray)).size:Nat):Int)≤IntKind.i64.max)) (some (e_lmarkText ((⟨#[109]⟩:ByteArray)++(txtN 13 a0 (⟨#[]⟩:ByteArray))))) none) none))) (by kernel_rfl) ?_
 exact (cndG e_lmarkText (fun _h=>rfl) (fun _h=>(cndT (by rw [hp];rfl) (fun _h=>(cndT (by have h1:=txtN_len 13 a0 (⟨#[]⟩:ByteArray);rw [decide_eq_true_eq];have h2:((⟨#[]⟩:ByteArray)).size=0:=rfl;have h3:((⟨#[109]⟩:ByteArray)).size=1:=rfl;rw [h2] at h1;rw [h3,show IntKind.i64.max=9223372036854775807 from rfl];omega) (fun _h=>rfl))))))
theorem c_lmarkText:PContract Try.prog 90 (sumOf P_lmarkText pre_lmarkText g_lmarkText):=pcD true G49 (hl1 (i:=0) (by kernel_rfl) lw_lmarkText_0) run_lmarkText
noncomputable def S50:Tab:=Tab.add S49 90 (lift (sumOf P_lmarkText pre_lmarkText g_lmarkText))
noncomputable def QF50:FuncId→Bool:=qadd QF49 90
theorem G50:Good Try.prog tt S50 QF50:=G49.addQ c_lmarkText (cbl Try.f90) (fun _=>rfl)

noncomputable abbrev u31:=((),u30)

noncomputable def f_lmarkOpS_0 (i:Nat) (b:Int×Lq1):Int×Lq1:=(IntKind.wrap .i64 ((IntKind.wrap .i64 ((IntKind.wrap .i64 (b.1+(1:Int)))+(1:Int)))+(1:Int)),((b.2.set i (b.1,(((b.2.getD i ((0:Int),(bE,bE))).2).1,((b.2.getD i ((0:Int),(bE,bE))).2).2))).set i (((b.2.set i (b.1,(((b.2.getD i ((0:Int),(bE,bE))).2).1,((b.2.getD i ((0:Int),(bE,bE))).2).2))).getD i ((0:Int),(bE,bE))).1,((lmarkText (IntKind.wrap .i64 (b.1+(1:Int)))),(((b.2.set i (b.1,(((b.2.getD i ((0:Int),(bE,bE))).2).1,((b.2.getD i ((0:Int),(bE,bE))).2).2))).getD i ((0:Int),(bE,bE))).2).2))).set i ((((b.2.set i (b.1,(((b.2.getD i ((0:Int),(bE,bE))).2).1,((b.2.getD i ((0:Int),(bE,bE))).2).2))).set i (((b.2.set i (b.1,(((b.2.getD i ((0:Int),(bE,bE))).2).1,((b.2.getD i ((0:Int),(bE,bE))).2).2))).getD i ((0:Int),(bE,bE))).1,((lmarkText (IntKind.wrap .i64 (b.1+(1:Int)))),(((b.2.set i (b.1,(((b.2.getD i ((0:Int),(bE,bE))).2).1,((b.2.getD i ((0:Int),(bE,bE))).2).2))).getD i ((0:Int),(bE,bE))).2).2))).getD i ((0:Int),(bE,bE))).1,(((((b.2.set i (b.1,(((b.2.getD i ((0:Int),(bE,bE))).2).1,((b.2.getD i ((0:Int),(bE,bE))).2).2))).set i (((b.2.set i (b.1,(((b.2.getD i ((0:Int),(bE,bE))).2).1,((b.2.getD i ((0:Int),(bE,bE))).2).2))).getD i ((0:Int),(bE,bE))).1,((lmarkText (IntKind.wrap .i64 (b.1+(1:Int)))),(((b.2.set i (b.1,(((b.2.getD i ((0:Int),(bE,bE))).2).1,((b.2.getD i ((0:Int),(bE,bE))).2).2))).getD i ((0:Int),(bE,bE))).2).2))).getD i ((0:Int),(bE,bE))).2).1,(lmarkText (IntKind.wrap .i64 ((IntKind.wrap .i64 (b.1+(1:Int)))+(1:Int)))))))
noncomputable abbrev SM_lmarkOpS:SS:=⟨[.all 0 3,.t true (.int .i64)],[.rows 124 true tq3]⟩
noncomputable abbrev S_lmarkOpS_0:SS:=⟨(.all 0 3::.t true (.int .i64)::.junk::.junk::.junk::.t true (.int .i64)::jS30),[.rows 124 true tq3]⟩
noncomputable abbrev E_lmarkOpS_0_0:SS:=⟨(.junk::.t true (.int .i64)::jS34),[.rows 124 true tq3]⟩
noncomputable def st_lmarkOpS_0 (x1:Int) (x5:Int) (h0:Lq1):RT S_lmarkOpS_0.den:=(.br (decide (x5<((h0.length:Nat):Int))) (.br (decide (0≤x5∧x5<((h0.length:Nat):Int))) (.br (q_lmarkText (IntKind.wrap .i64 (x1+(1:Int)))) (.br (decide (0≤x5∧x5<(((h0.set x5.toNat (x1,(((h0.getD x5.toNat ((0:Int),(bE,bE))).2).1,((h0.getD x5.toNat ((0:Int),(bE,bE))).2).2))).length:Nat):Int))) (.br (q_lmarkText (IntKind.wrap .i64 ((IntKind.wrap .i64 (x1+(1:Int)))+(1:Int)))) (.br (decide (0≤x5∧x5<((((h0.set x5.toNat (x1,(((h0.getD x5.toNat ((0:Int),(bE,bE))).2).1,((h0.getD x5.toNat ((0:Int),(bE,bE))).2).2))).set x5.toNat (((h0.set x5.toNat (x1,(((h0.getD x5.toNat ((0:Int),(bE,bE))).2).1,((h0.getD x5.toNat ((0:Int),(bE,bE))).2).2))).getD x5.toNat ((0:Int),(bE,bE))).1,((lmarkText (IntKind.wrap .i64 (x1+(1:Int)))),(((h0.set x5.toNat (x1,(((h0.getD x5.toNat ((0:Int),(bE,bE))).2).1,((h0.getD x5.toNat ((0:Int),(bE,bE))).2).2))).getD x5.toNat ((0:Int),(bE,bE))).2).2))).length:Nat):Int))) (.next (((),IntKind.wrap .i64 ((IntKind.wrap .i64 ((IntKind.wrap .i64 (x1+(1:Int)))+(1:Int)))+(1:Int)),(),(),(),IntKind.wrap .i64 (x5+(1:Int)),u31),(((h0.set x5.toNat (x1,(((h0.getD x5.toNat ((0:Int),(bE,bE))).2).1,((h0.getD x5.toNat ((0:Int),(bE,bE))).2).2))).set x5.toNat (((h0.set x5.toNat (x1,(((h0.getD x5.toNat ((0:Int),(bE,bE))).2).1,((h0.getD x5.toNat ((0:Int),(bE,bE))).2).2))).getD x5.toNat ((0:Int),(bE,bE))).1,((lmarkText (IntKind.wrap .i64 (x1+(1:Int)))),(((h0.set x5.toNat (x1,(((h0.getD x5.toNat ((0:Int),(bE,bE))).2).1,((h0.getD x5.toNat ((0:Int),(bE,bE))).2).2))).getD x5.toNat ((0:Int),(bE,bE))).2).2))).set x5.toNat ((((h0.set x5.toNat (x1,(((h0.getD x5.toNat ((0:Int),(bE,bE))).2).1,((h0.getD x5.toNat ((0:Int),(bE,bE))).2).2))).set x5.toNat (((h0.set x5.toNat (x1,(((h0.getD x5.toNat ((0:Int),(bE,bE))).2).1,((h0.getD x5.toNat ((0:Int),(bE,bE))).2).2))).getD x5.toNat ((0:Int),(bE,bE))).1,((lmarkText (IntKind.wrap .i64 (x1+(1:Int)))),(((h0.set x5.toNat (x1,(((h0.getD x5.toNat ((0:Int),(bE,bE))).2).1,((h0.getD x5.toNat ((0:Int),(bE,bE))).2).2))).getD x5.toNat ((0:Int),(bE,bE))).2).2))).getD x5.toNat ((0:Int),(bE,bE))).1,(((((h0.set x5.toNat (x1,(((h0.getD x5.toNat ((0:Int),(bE,bE))).2).1,((h0.getD x5.toNat ((0:Int),(bE,bE))).2).2))).set x5.toNat (((h0.set x5.toNat (x1,(((h0.getD x5.toNat ((0:Int),(bE,bE))).2).1,((h0.getD x5.toNat ((0:Int),(bE,bE))).2).2))).getD x5.toNat ((0:Int),(bE,bE))).1,((lmarkText (IntKind.wrap .i64 (x1+(1:Int)))),(((h0.set x5.toNat (x1,(((h0.getD x5.toNat ((0:Int),(bE,bE))).2).1,((h0.getD x5.toNat ((0:Int),(bE,bE))).2).2))).getD x5.toNat ((0:Int),(bE,bE))).2).2))).getD x5.toNat ((0:Int),(bE,bE))).2).1,(lmarkText (IntKind.wrap .i64 ((IntKind.wrap .i64 (x1+(1:Int)))+(1:Int)))))),()))) .fail) .fail) .fail) .fail) .fail) (.done (.exit 0) E_lmarkOpS_0_0 (((),x1,u35),(h0,()))))
noncomputable def T_lmarkOpS_0 (x1:Int) (x5:Int) (h0:Lq1):CT:=(.br (decide (0≤x5)&&(decide (0≤x1∧x1≤100000*(x5+100))&&okL h0)) (.done (.exit 0) E_lmarkOpS_0_0 (((),((foldN f_lmarkOpS_0 (h0.length - x5.toNat) x5.toNat (x1,h0)).1),u35),(((foldN f_lmarkOpS_0 (h0.length - x5.toNat) x5.toNat (x1,h0)).2),()))) .fail)
noncomputable abbrev sp_lmarkOpS_0:S_lmarkOpS_0.den→RT S_lmarkOpS_0.den:=(fun d=>st_lmarkOpS_0 d.1.2.1 d.1.2.2.2.2.2.1 d.2.1)
noncomputable abbrev pk_lmarkOpS_0 (x1:Int) (x5:Int) (h0:Lq1):S_lmarkOpS_0.den:=(((),x1,(),(),(),x5,u31),(h0,()))
noncomputable def body_lmarkOpS_0:Code:=((loopsIn 0 (bodyOf Try.f69)).getD 0 (0,.skip)).2
theorem R_lmarkOpS_0 (x1:Int) (x5:Int) (h0:Lq1):(T_lmarkOpS_0 x1 x5 h0).val (D:=S_lmarkOpS_0.den)=.fail∨Runs sp_lmarkOpS_0 (pk_lmarkOpS_0 x1 x5 h0) (T_lmarkOpS_0 x1 x5 h0).val:=by
 cases hc:(decide (0≤x5)&&(decide (0≤x1∧x1≤100000*(x5+100))&&okL h0)) with
 | false=>left;simp only [T_lmarkOpS_0,CT.val,hc,cond_false]
 | true =>
  right
  simp only [T_lmarkOpS_0,CT.val,hc,cond_true]
  simp only [Bool.and_eq_true,decide_eq_true_eq] at hc
  obtain ⟨i,rfl⟩:=Int.eq_ofNat_of_zero_le hc.1
  have hs:=okL_le hc.2.2
  have hk:=hc.2.1
  simp only [Int.toNat_natCast]
  refine Runs.foldN (step:=sp_lmarkOpS_0) (fun j b=>pk_lmarkOpS_0 b.1 (j:Int) b.2) (fun i b=>(0≤b.1∧b.1≤100000*((i:Int)+100))∧b.2.length=h0.length) (h0.length) f_lmarkOpS_0
   (fin:=fun b=>((.done (.exit 0) E_lmarkOpS_0_0 (((),b.1,u35),(b.2,()))):CT).val) (fun i b hi hb=>?_) (fun i b hi hb=>?_) (h0.length - i) i (x1,h0) rfl ⟨hk,rfl⟩
  ·obtain ⟨k,h⟩:=b
   obtain ⟨hb1,hb2⟩:=hb
   simp only at hb1 hb2
   have w1:IntKind.wrap .i64 (k+(1:Int))=k+(1:Int):=wrap64 (by omega) (by omega)
   have w2:IntKind.wrap .i64 (k+(1:Int)+(1:Int))=k+(1:Int)+(1:Int):=wrap64 (by omega) (by omega)
   have w3:IntKind.wrap .i64 (k+(1:Int)+(1:Int)+(1:Int))=k+(1:Int)+(1:Int)+(1:Int):=wrap64 (by omega) (by omega)
   have e0:(decide (0≤(i:Int)∧(i:Int)<((h.length:Nat):Int)))=true:=decide_eq_true (by (try simp only [List.length_set]);omega)
   have e1:(q_lmarkText (IntKind.wrap .i64 (k+(1:Int))))=true:=by simp only [q_lmarkText,w1,w2,w3];exact decide_eq_true (by omega)
   have e2:(decide (0≤(i:Int)∧(i:Int)<(((h.set i (k,(((h.getD i ((0:Int),((⟨#[]⟩:ByteArray),(⟨#[]⟩:ByteArray)))).2).1,((h.getD i ((0:Int),((⟨#[]⟩:ByteArray),(⟨#[]⟩:ByteArray)))).2).2))).length:Nat):Int)))=true:=decide_eq_true (by (try simp only [List.length_set]);omega)
   have e3:(q_lmarkText (IntKind.wrap .i64 ((IntKind.wrap .i64 (k+(1:Int)))+(1:Int))))=true:=by simp only [q_lmarkText,w1,w2,w3];exact decide_eq_true (by omega)
   have e4:(decide (0≤(i:Int)∧(i:Int)<((((h.set i (k,(((h.getD i ((0:Int),((⟨#[]⟩:ByteArray),(⟨#[]⟩:ByteArray)))).2).1,((h.getD i ((0:Int),((⟨#[]⟩:ByteArray),(⟨#[]⟩:ByteArray)))).2).2))).set i (((h.set i (k,(((h.getD i ((0:Int),((⟨#[]⟩:ByteArray),(⟨#[]⟩:ByteArray)))).2).1,((h.getD i ((0:Int),((⟨#[]⟩:ByteArray),(⟨#[]⟩:ByteArray)))).2).2))).getD i ((0:Int),((⟨#[]⟩:ByteArray),(⟨#[]⟩:ByteArray)))).1,((lmarkText (IntKind.wrap .i64 (k+(1:Int)))),(((h.set i (k,(((h.getD i ((0:Int),((⟨#[]⟩:ByteArray),(⟨#[]⟩:ByteArray)))).2).1,((h.getD i ((0:Int),((⟨#[]⟩:ByteArray),(⟨#[]⟩:ByteArray)))).2).2))).getD i ((0:Int),((⟨#[]⟩:ByteArray),(⟨#[]⟩:ByteArray)))).2).2))).length:Nat):Int)))=true:=decide_eq_true (by (try simp only [List.length_set]);omega)
   have h1:decide ((i:Int)<((h.length:Nat):Int))=true:=decide_eq_true (by omega)
   have v1:(f_lmarkOpS_0 i (k,h)).1=k+(1:Int)+(1:Int)+(1:Int):=by simp only [f_lmarkOpS_0,w1,w2,w3]
   have v2:(f_lmarkOpS_0 i (k,h)).2.length=h.length:=by simp only [f_lmarkOpS_0,List.length_set]
   refine ⟨⟨by rw [v1];omega,by rw [v2];exact hb2⟩,?_⟩
   simp only [sp_lmarkOpS_0,st_lmarkOpS_0,RT.val,h1,e0,e1,e2,e3,e4,cond_true,wrapS i (by omega),Int.toNat_natCast]
   rfl
  ·have h1:decide ((i:Int)<((b.2.length:Nat):Int))=false:=decide_eq_false (by omega)
   exact ⟨by simp only [sp_lmarkOpS_0,st_lmarkOpS_0,RT.val,h1,cond_false];rfl,_,_,_,rfl,by simp⟩
noncomputable def ox_lmarkOpS_0 (x1:Int) (x5:Int) (h0:Lq1):Option (Ex×St):=(cond (decide (x5<((h0.length:Nat):Int))) (cond (decide (0≤x5∧x5<((h0.length:Nat):Int))) (cond (q_lmarkText (IntKind.wrap .i64 (x1+(1:Int)))) (cond (decide (0≤x5∧x5<(((h0.set x5.toNat (x1,(((h0.getD x5.toNat ((0:Int),(bE,bE))).2).1,((h0.getD x5.toNat ((0:Int),(bE,bE))).2).2))).length:Nat):Int))) (cond (q_lmarkText (IntKind.wrap .i64 ((IntKind.wrap .i64 (x1+(1:Int)))+(1:Int)))) (cond (decide (0≤x5∧x5<((((h0.set x5.toNat (x1,(((h0.getD x5.toNat ((0:Int),(bE,bE))).2).1,((h0.getD x5.toNat ((0:Int),(bE,bE))).2).2))).set x5.toNat (((h0.set x5.toNat (x1,(((h0.getD x5.toNat ((0:Int),(bE,bE))).2).1,((h0.getD x5.toNat ((0:Int),(bE,bE))).2).2))).getD x5.toNat ((0:Int),(bE,bE))).1,((lmarkText (IntKind.wrap .i64 (x1+(1:Int)))),(((h0.set x5.toNat (x1,(((h0.getD x5.toNat ((0:Int),(bE,bE))).2).1,((h0.getD x5.toNat ((0:Int),(bE,bE))).2).2))).getD x5.toNat ((0:Int),(bE,bE))).2).2))).length:Nat):Int))) (some (.normal,(⟨((.all 0 3)::(.t true (.int .i64) (IntKind.wrap .i64 ((IntKind.wrap .i64 ((IntKind.wrap .i64 (x1+(1:Int)))+(1:Int)))+(1:Int))))::.junk::.junk::.junk::(.t true (.int .i64) (IntKind.wrap .i64 (x5+(1:Int))))::jA30),[(.rows 124 true tq3 (((h0.set x5.toNat (x1,(((h0.getD x5.toNat ((0:Int),(bE,bE))).2).1,((h0.getD x5.toNat ((0:Int),(bE,bE))).2).2))).set x5.toNat (((h0.set x5.toNat (x1,(((h0.getD x5.toNat ((0:Int),(bE,bE))).2).1,((h0.getD x5.toNat ((0:Int),(bE,bE))).2).2))).getD x5.toNat ((0:Int),(bE,bE))).1,((lmarkText (IntKind.wrap .i64 (x1+(1:Int)))),(((h0.set x5.toNat (x1,(((h0.getD x5.toNat ((0:Int),(bE,bE))).2).1,((h0.getD x5.toNat ((0:Int),(bE,bE))).2).2))).getD x5.toNat ((0:Int),(bE,bE))).2).2))).set x5.toNat ((((h0.set x5.toNat (x1,(((h0.getD x5.toNat ((0:Int),(bE,bE))).2).1,((h0.getD x5.toNat ((0:Int),(bE,bE))).2).2))).set x5.toNat (((h0.set x5.toNat (x1,(((h0.getD x5.toNat ((0:Int),(bE,bE))).2).1,((h0.getD x5.toNat ((0:Int),(bE,bE))).2).2))).getD x5.toNat ((0:Int),(bE,bE))).1,((lmarkText (IntKind.wrap .i64 (x1+(1:Int)))),(((h0.set x5.toNat (x1,(((h0.getD x5.toNat ((0:Int),(bE,bE))).2).1,((h0.getD x5.toNat ((0:Int),(bE,bE))).2).2))).getD x5.toNat ((0:Int),(bE,bE))).2).2))).getD x5.toNat ((0:Int),(bE,bE))).1,(((((h0.set x5.toNat (x1,(((h0.getD x5.toNat ((0:Int),(bE,bE))).2).1,((h0.getD x5.toNat ((0:Int),(bE,bE))).2).2))).set x5.toNat (((h0.set x5.toNat (x1,(((h0.getD x5.toNat ((0:Int),(bE,bE))).2).1,((h0.getD x5.toNat ((0:Int),(bE,bE))).2).2))).getD x5.toNat ((0:Int),(bE,bE))).1,((lmarkText (IntKind.wrap .i64 (x1+(1:Int)))),(((h0.set x5.toNat (x1,(((h0.getD x5.toNat ((0:Int),(bE,bE))).2).1,((h0.getD x5.toNat ((0:Int),(bE,bE))).2).2))).getD x5.toNat ((0:Int),(bE,bE))).2).2))).getD x5.toNat ((0:Int),(bE,bE))).2).1,(lmarkText (IntKind.wrap .i64 ((IntKind.wrap .i64 (x1+(1:Int)))+(1:Int))))))))],1,[]⟩:St))) none) none) none) none) none) (some ((.exit 0),(⟨(.junk::(.t true (.int .i64) x1)::jA34),[(.rows 124 true tq3 h0)],1,[]⟩:St))))
theorem rdA_lmarkOpS_0:RdA G50 (fun _ _=>none) 0 body_lmarkOpS_0 S_lmarkOpS_0 1 [] (kepts [] [(0,[1])]) (fun d=>ox_lmarkOpS_0 d.1.2.1 d.1.2.2.2.2.2.1 d.2.1):=by
 intro d
 kernel_rfl
theorem rdB_lmarkOpS_0:∀ d:S_lmarkOpS_0.den,(fun d=>ox_lmarkOpS_0 d.1.2.1 d.1.2.2.2.2.2.1 d.2.1) d=(sp_lmarkOpS_0 d).opt 1 []:=by
 intro d
 kernel_rfl
noncomputable abbrev say_lmarkOpS_0:St→Option Tree:=S_lmarkOpS_0.say 1 [] [] (fun d=>T_lmarkOpS_0 d.1.2.1 d.1.2.2.2.2.2.1 d.2.1)
theorem lw_lmarkOpS_0:LoopWp Try.prog say_lmarkOpS_0 body_lmarkOpS_0:=SS.wp2 hlz [] sp_lmarkOpS_0 rdA_lmarkOpS_0 rdB_lmarkOpS_0 _ (fun d=>R_lmarkOpS_0 d.1.2.1 d.1.2.2.2.2.2.1 d.2.1)
noncomputable def lmarkOpS (x1:Int) (h0:Lq1):Int×Lq1:=(((foldN f_lmarkOpS_0 (h0.length - (0:Int).toNat) (0:Int).toNat (x1,h0)).1),((foldN f_lmarkOpS_0 (h0.length - (0:Int).toNat) (0:Int).toNat (x1,h0)).2))
noncomputable abbrev e_lmarkOpS (r:Int×Lq1):AV×List AObj×List Nat:=((.t true (.int .i64) r.1),[(.rows 124 true tq3 r.2)],[])
noncomputable abbrev g_lmarkOpS:SM_lmarkOpS.den→AV×List AObj×List Nat:=fun d=>e_lmarkOpS (lmarkOpS d.1.2.1 d.2.1)
noncomputable def q_lmarkOpS (x1:Int) (h0:Lq1):Bool:=okL h0&&decide (0≤x1∧x1≤10000000)
noncomputable abbrev pre_lmarkOpS:SM_lmarkOpS.den→Bool:=fun d=>q_lmarkOpS d.1.2.1 d.2.1
noncomputable abbrev L_lmarkOpS:Nat→St→Option Tree:=fun b=>match b with | 0=>say_lmarkOpS_0 | _=>fun _=>none
theorem run_lmarkOpS:RunM G50 (L_lmarkOpS) Try.f69 SM_lmarkOpS pre_lmarkOpS g_lmarkOpS:=by
 rintro ⟨⟨_,x1,_⟩,⟨h0,_⟩⟩ hp
 change q_lmarkOpS x1 h0=true at hp
 unfold q_lmarkOpS at hp
 refine Eq.trans (b:=(cond (decide (0≤(0:Int))&&(decide (0≤x1∧x1≤100000*((0:Int)+100))&&okL h0)) (some (e_lmarkOpS (((foldN f_lmarkOpS_0 (h0.length - (0:Int).toNat) (0:Int).toNat (x1,h0)).1),((foldN f_lmarkOpS_0 (h0.length - (0:Int).toNat) (0:Int).toNat (x1,h0)).2)))) none)) (by kernel_rfl) ?_
 exact (cndT (by first | rfl | decide | exact hp | (simp only [Bool.and_eq_true] at hp;simp only [hp];done) | (simp [*];done) | (simp [okL] at hp;simp [okL,MAXB];omega) | (simp_all;done) | (simp at *;omega)) (fun _h=>rfl))
noncomputable abbrev m_lmarkOpS:=win winIds (msum SM_lmarkOpS pre_lmarkOpS g_lmarkOpS)
theorem c_lmarkOpS:MContract Try.prog 69 m_lmarkOpS:=(mcM G50 (hl1 (i:=0) (by kernel_rfl) lw_lmarkOpS_0) run_lmarkOpS).win winIds
noncomputable def S51:Tab:=Tab.add S50 69 (m_lmarkOpS)
noncomputable def QF51:FuncId→Bool:=QF50
theorem G51:Good Try.prog tt S51 QF51:=G50.addM c_lmarkOpS (win_local _) (cbl Try.f69) (by kernel_rfl)

noncomputable abbrev SM_lmarkRec:SS:=⟨[.agg [.t true (.int .i64),.t true (.int .i64),.all 0 3],.t true (.int .i64)],[.rows 124 true tq3]⟩
noncomputable def lmarkRec (x0_0:Int) (x0_1:Int) (x1:Int) (h0:Lq1):Int×Lq1:=(((lmarkOpS x1 h0).1),((lmarkOpS x1 h0).2))
noncomputable abbrev e_lmarkRec (r:Int×Lq1):AV×List AObj×List Nat:=((.t true (.int .i64) r.1),[(.rows 124 true tq3 r.2)],[])
noncomputable abbrev g_lmarkRec:SM_lmarkRec.den→AV×List AObj×List Nat:=fun d=>e_lmarkRec (lmarkRec d.1.1.1 d.1.1.2.1 d.1.2.1 d.2.1)
noncomputable def q_lmarkRec (x0_0:Int) (x0_1:Int) (x1:Int) (h0:Lq1):Bool:=q_lmarkOpS x1 h0
noncomputable abbrev pre_lmarkRec:SM_lmarkRec.den→Bool:=fun d=>q_lmarkRec d.1.1.1 d.1.1.2.1 d.1.2.1 d.2.1
theorem run_lmarkRec:RunM G51 (fun _ _=>none) Try.f21 SM_lmarkRec pre_lmarkRec g_lmarkRec:=by
 rintro ⟨⟨⟨x0_0,x0_1,_,_⟩,x1,_⟩,⟨h0,_⟩⟩ hp
 change q_lmarkRec x0_0 x0_1 x1 h0=true at hp
 unfold q_lmarkRec at hp
 refine Eq.trans (b:=(cond (q_lmarkOpS x1 h0) (some (e_lmarkRec (((lmarkOpS x1 h0).1),((lmarkOpS x1 h0).2)))) none)) (by kernel_rfl) ?_
 exact (cndT hp fun _h=>rfl)
noncomputable abbrev m_lmarkRec:=win winIds (msum SM_lmarkRec pre_lmarkRec g_lmarkRec)
theorem c_lmarkRec:MContract Try.prog 21 m_lmarkRec:=(mcM G51 hlz run_lmarkRec).win winIds
noncomputable def S52:Tab:=Tab.add S51 21 (m_lmarkRec)
noncomputable def QF52:FuncId→Bool:=QF51
theorem G52:Good Try.prog tt S52 QF52:=G51.addM c_lmarkRec (win_local _) (cbl Try.f21) (by kernel_rfl)

noncomputable abbrev jS37:List Sh:=.junk::jS36
noncomputable abbrev jS40:List Sh:=.junk::.junk::.junk::jS37
noncomputable abbrev u38:=((),u37)
noncomputable abbrev u41:=((),(),(),u38)
noncomputable abbrev jA37:List AV:=.junk::jA36
noncomputable abbrev jA40:List AV:=.junk::.junk::.junk::jA37

noncomputable def f_lheldOpS_0 (x0:Lq1) (i:Nat) (k:Int):Int ⊕ Unit:=(cond (((x0.getD i ((0:Int),(bE,bE))).1) != k) (.inr ()) (cond (!((((x0.getD i ((0:Int),(bE,bE))).2).1).toList==(lmarkText (IntKind.wrap .i64 (k+(1:Int)))).toList)) (.inr ()) (cond (!((((x0.getD i ((0:Int),(bE,bE))).2).2).toList==(lmarkText (IntKind.wrap .i64 ((IntKind.wrap .i64 (k+(1:Int)))+(1:Int)))).toList)) (.inr ()) (.inl (IntKind.wrap .i64 ((IntKind.wrap .i64 ((IntKind.wrap .i64 (k+(1:Int)))+(1:Int)))+(1:Int)))))))
noncomputable abbrev P_lheldOpS:List PSh:=[.t tq2,.t (.int .i64)]
noncomputable abbrev S_lheldOpS_0:SS:=⟨(.t false tq2::.t true (.int .i64)::.junk::.junk::.junk::.t true (.int .i64)::jS36),[]⟩
noncomputable abbrev E_lheldOpS_0_0:SS:=⟨(.junk::.junk::.junk::.junk::.t true (.int .i64)::jS37),[]⟩
noncomputable abbrev E_lheldOpS_0_1:SS:=⟨(.junk::.t true (.int .i64)::jS40),[]⟩
noncomputable def st_lheldOpS_0 (x0:Lq1) (x1:Int) (x5:Int):RT S_lheldOpS_0.den:=(.br (decide (x5<((x0.length:Nat):Int))) (.br (decide (0≤x5∧x5<((x0.length:Nat):Int))) (.br (((x0.getD x5.toNat ((0:Int),(bE,bE))).1) != x1) (.done .ret E_lheldOpS_0_0 (((),(),(),(),(-1:Int),u38),())) (.br (decide (0≤x5∧x5<((x0.length:Nat):Int))) (.br (q_lmarkText (IntKind.wrap .i64 (x1+(1:Int)))) (.br (!((((x0.getD x5.toNat ((0:Int),(bE,bE))).2).1).toList==(lmarkText (IntKind.wrap .i64 (x1+(1:Int)))).toList)) (.done .ret E_lheldOpS_0_0 (((),(),(),(),(-1:Int),u38),())) (.br (decide (0≤x5∧x5<((x0.length:Nat):Int))) (.br (q_lmarkText (IntKind.wrap .i64 ((IntKind.wrap .i64 (x1+(1:Int)))+(1:Int)))) (.br (!((((x0.getD x5.toNat ((0:Int),(bE,bE))).2).2).toList==(lmarkText (IntKind.wrap .i64 ((IntKind.wrap .i64 (x1+(1:Int)))+(1:Int)))).toList)) (.done .ret E_lheldOpS_0_0 (((),(),(),(),(-1:Int),u38),())) (.next ((x0,IntKind.wrap .i64 ((IntKind.wrap .i64 ((IntKind.wrap .i64 (x1+(1:Int)))+(1:Int)))+(1:Int)),(),(),(),IntKind.wrap .i64 (x5+(1:Int)),u37),()))) .fail) .fail)) .fail) .fail)) .fail) (.done (.exit 0) E_lheldOpS_0_1 (((),x1,u41),())))
noncomputable def T_lheldOpS_0 (x0:Lq1) (x1:Int) (x5:Int):CT:=(.br (decide (0≤x5)&&(decide (0≤x1∧x1≤100000*(x5+100))&&okL x0)) (.br (isInl (loopN (f_lheldOpS_0 x0) (x0.length - x5.toNat) x5.toNat x1)) (.done (.exit 0) E_lheldOpS_0_1 (((),(getInl (-1) (loopN (f_lheldOpS_0 x0) (x0.length - x5.toNat) x5.toNat x1)),u41),())) (.done .ret E_lheldOpS_0_0 (((),(),(),(),(-1:Int),u38),()))) .fail)
noncomputable abbrev sp_lheldOpS_0:S_lheldOpS_0.den→RT S_lheldOpS_0.den:=(fun d=>st_lheldOpS_0 d.1.1 d.1.2.1 d.1.2.2.2.2.2.1)
noncomputable abbrev pk_lheldOpS_0 (x0:Lq1) (x1:Int) (x5:Int):S_lheldOpS_0.den:=((x0,x1,(),(),(),x5,u37),())
noncomputable def body_lheldOpS_0:Code:=((loopsIn 0 (bodyOf Try.f85)).getD 0 (0,.skip)).2
theorem R_lheldOpS_0 (x0:Lq1) (x1:Int) (x5:Int):(T_lheldOpS_0 x0 x1 x5).val (D:=S_lheldOpS_0.den)=.fail∨Runs sp_lheldOpS_0 (pk_lheldOpS_0 x0 x1 x5) (T_lheldOpS_0 x0 x1 x5).val:=by
 cases hc:(decide (0≤x5)&&(decide (0≤x1∧x1≤100000*(x5+100))&&okL x0)) with
 | false=>left;simp only [T_lheldOpS_0,CT.val,hc,cond_false]
 | true =>
  right
  simp only [T_lheldOpS_0,CT.val,hc,cond_true]
  simp only [Bool.and_eq_true,decide_eq_true_eq] at hc
  obtain ⟨i,rfl⟩:=Int.eq_ofNat_of_zero_le hc.1
  have hs:=okL_le hc.2.2
  have hk:=hc.2.1
  simp only [Int.toNat_natCast]
  have h:=Runs.loopN (step:=sp_lheldOpS_0) (fun j b=>pk_lheldOpS_0 x0 b (j:Int)) (fun i b=>0≤b∧b≤100000*((i:Int)+100)) (x0.length) (f_lheldOpS_0 x0)
   (fin:=fun b=>((.done (.exit 0) E_lheldOpS_0_1 (((),b,u41),())):CT).val) (bad:=fun _=>((.done .ret E_lheldOpS_0_0 (((),(),(),(),(-1:Int),u38),())):CT).val)
   (fun i b hi hb=>?_) (fun i b hi hb=>?_) (x0.length - i) i x1 rfl hk
  ·revert h
   cases loopN (f_lheldOpS_0 x0) (x0.length - i) i x1 with
   | inl b=>exact id
   | inr c=>exact id
  ·revert hb
   generalize b=k
   intro hb
   have w1:IntKind.wrap .i64 (k+(1:Int))=k+(1:Int):=wrap64 (by omega) (by omega)
   have w2:IntKind.wrap .i64 (k+(1:Int)+(1:Int))=k+(1:Int)+(1:Int):=wrap64 (by omega) (by omega)
   have w3:IntKind.wrap .i64 (k+(1:Int)+(1:Int)+(1:Int))=k+(1:Int)+(1:Int)+(1:Int):=wrap64 (by omega) (by omega)
   have e0:(decide (0≤(i:Int)∧(i:Int)<((x0.length:Nat):Int)))=true:=decide_eq_true (by omega)
   have e1:(decide (0≤(i:Int)∧(i:Int)<((x0.length:Nat):Int)))=true:=decide_eq_true (by omega)
   have e2:(q_lmarkText (IntKind.wrap .i64 (k+(1:Int))))=true:=by simp only [q_lmarkText,w1,w2,w3];exact decide_eq_true (by omega)
   have e3:(decide (0≤(i:Int)∧(i:Int)<((x0.length:Nat):Int)))=true:=decide_eq_true (by omega)
   have e4:(q_lmarkText (IntKind.wrap .i64 ((IntKind.wrap .i64 (k+(1:Int)))+(1:Int))))=true:=by simp only [q_lmarkText,w1,w2,w3];exact decide_eq_true (by omega)
   have h1:decide ((i:Int)<((x0.length:Nat):Int))=true:=decide_eq_true (by omega)
   have e:(sp_lheldOpS_0 (pk_lheldOpS_0 x0 k (i:Int))).val=(cond (((x0.getD i ((0:Int),((⟨#[]⟩:ByteArray),(⟨#[]⟩:ByteArray)))).1) != k) ((.done .ret E_lheldOpS_0_0 (((),(),(),(),(-1:Int),u38),())):CT).val (cond (!((((x0.getD i ((0:Int),((⟨#[]⟩:ByteArray),(⟨#[]⟩:ByteArray)))).2).1).toList==(lmarkText (IntKind.wrap .i64 (k+(1:Int)))).toList)) ((.done .ret E_lheldOpS_0_0 (((),(),(),(),(-1:Int),u38),())):CT).val (cond (!((((x0.getD i ((0:Int),((⟨#[]⟩:ByteArray),(⟨#[]⟩:ByteArray)))).2).2).toList==(lmarkText (IntKind.wrap .i64 ((IntKind.wrap .i64 (k+(1:Int)))+(1:Int)))).toList)) ((.done .ret E_lheldOpS_0_0 (((),(),(),(),(-1:Int),u38),())):CT).val (.next (pk_lheldOpS_0 x0 (IntKind.wrap .i64 ((IntKind.wrap .i64 ((IntKind.wrap .i64 (k+(1:Int)))+(1:Int)))+(1:Int))) ((i+1:Nat):Int)))))):=by
    simp only [sp_lheldOpS_0,st_lheldOpS_0,RT.val,h1,e0,e1,e2,e3,e4,cond_true,wrapS i (by omega),Int.toNat_natCast]
    rfl
   cases g0:(((x0.getD i ((0:Int),((⟨#[]⟩:ByteArray),(⟨#[]⟩:ByteArray)))).1) != k) with
   | true=>exact .inr ⟨(),_,_,_,by simp only [f_lheldOpS_0,g0,cond_true,cond_false],by rw [e,g0];rfl,rfl,by simp⟩
   | false =>
    cases g1:(!((((x0.getD i ((0:Int),((⟨#[]⟩:ByteArray),(⟨#[]⟩:ByteArray)))).2).1).toList==(lmarkText (IntKind.wrap .i64 (k+(1:Int)))).toList)) with
    | true=>exact .inr ⟨(),_,_,_,by simp only [f_lheldOpS_0,g0,g1,cond_true,cond_false],by rw [e,g0,g1];rfl,rfl,by simp⟩
    | false =>
     cases g2:(!((((x0.getD i ((0:Int),((⟨#[]⟩:ByteArray),(⟨#[]⟩:ByteArray)))).2).2).toList==(lmarkText (IntKind.wrap .i64 ((IntKind.wrap .i64 (k+(1:Int)))+(1:Int)))).toList)) with
     | true=>exact .inr ⟨(),_,_,_,by simp only [f_lheldOpS_0,g0,g1,g2,cond_true,cond_false],by rw [e,g0,g1,g2];rfl,rfl,by simp⟩
     | false =>
      exact .inl ⟨IntKind.wrap .i64 ((IntKind.wrap .i64 ((IntKind.wrap .i64 (k+(1:Int)))+(1:Int)))+(1:Int)),by simp only [f_lheldOpS_0,g0,g1,g2,cond_false],by rw [w1,w2,w3];omega,by rw [e,g0,g1,g2];rfl⟩
  ·have h1:decide ((i:Int)<((x0.length:Nat):Int))=false:=decide_eq_false (by omega)
   exact ⟨by simp only [sp_lheldOpS_0,st_lheldOpS_0,RT.val,h1,cond_false];rfl,_,_,_,rfl,by simp⟩
noncomputable def ox_lheldOpS_0 (x0:Lq1) (x1:Int) (x5:Int):Option (Ex×St):=(cond (decide (x5<((x0.length:Nat):Int))) (cond (decide (0≤x5∧x5<((x0.length:Nat):Int))) (cond (((x0.getD x5.toNat ((0:Int),(bE,bE))).1) != x1) (some (.ret,(⟨(.junk::.junk::.junk::.junk::(.t true (.int .i64) (-1:Int))::jA37),[],0,[]⟩:St))) (cond (decide (0≤x5∧x5<((x0.length:Nat):Int))) (cond (q_lmarkText (IntKind.wrap .i64 (x1+(1:Int)))) (cond (!((((x0.getD x5.toNat ((0:Int),(bE,bE))).2).1).toList==(lmarkText (IntKind.wrap .i64 (x1+(1:Int)))).toList)) (some (.ret,(⟨(.junk::.junk::.junk::.junk::(.t true (.int .i64) (-1:Int))::jA37),[],0,[]⟩:St))) (cond (decide (0≤x5∧x5<((x0.length:Nat):Int))) (cond (q_lmarkText (IntKind.wrap .i64 ((IntKind.wrap .i64 (x1+(1:Int)))+(1:Int)))) (cond (!((((x0.getD x5.toNat ((0:Int),(bE,bE))).2).2).toList==(lmarkText (IntKind.wrap .i64 ((IntKind.wrap .i64 (x1+(1:Int)))+(1:Int)))).toList)) (some (.ret,(⟨(.junk::.junk::.junk::.junk::(.t true (.int .i64) (-1:Int))::jA37),[],0,[]⟩:St))) (some (.normal,(⟨((.t false tq2 x0)::(.t true (.int .i64) (IntKind.wrap .i64 ((IntKind.wrap .i64 ((IntKind.wrap .i64 (x1+(1:Int)))+(1:Int)))+(1:Int))))::.junk::.junk::.junk::(.t true (.int .i64) (IntKind.wrap .i64 (x5+(1:Int))))::jA36),[],0,[]⟩:St)))) none) none)) none) none)) none) (some ((.exit 0),(⟨(.junk::(.t true (.int .i64) x1)::jA40),[],0,[]⟩:St))))
theorem rdA_lheldOpS_0:RdA G52 (fun _ _=>none) 0 body_lheldOpS_0 S_lheldOpS_0 0 [] (kepts [4] [(0,[1])]) (fun d=>ox_lheldOpS_0 d.1.1 d.1.2.1 d.1.2.2.2.2.2.1):=by
 intro d
 kernel_rfl
theorem rdB_lheldOpS_0:∀ d:S_lheldOpS_0.den,(fun d=>ox_lheldOpS_0 d.1.1 d.1.2.1 d.1.2.2.2.2.2.1) d=(sp_lheldOpS_0 d).opt 0 []:=by
 intro d
 kernel_rfl
noncomputable abbrev say_lheldOpS_0:St→Option Tree:=S_lheldOpS_0.say 0 [] [] (fun d=>T_lheldOpS_0 d.1.1 d.1.2.1 d.1.2.2.2.2.2.1)
theorem lw_lheldOpS_0:LoopWp Try.prog say_lheldOpS_0 body_lheldOpS_0:=SS.wp2 hlz [] sp_lheldOpS_0 rdA_lheldOpS_0 rdB_lheldOpS_0 _ (fun d=>R_lheldOpS_0 d.1.1 d.1.2.1 d.1.2.2.2.2.2.1)
noncomputable def lheldOpS (a0:Lq1) (a1:Int):Int:=(cond (isInl (loopN (f_lheldOpS_0 a0) (a0.length - (0:Int).toNat) (0:Int).toNat a1)) (getInl (-1) (loopN (f_lheldOpS_0 a0) (a0.length - (0:Int).toNat) (0:Int).toNat a1)) (-1:Int))
noncomputable abbrev e_lheldOpS (r:Int):AV×List AObj:=((.t true (.int .i64) r),[])
noncomputable abbrev g_lheldOpS:pshsDen P_lheldOpS→AV×List AObj:=fun d=>e_lheldOpS (lheldOpS d.1 d.2.1)
noncomputable def q_lheldOpS (a0:Lq1) (a1:Int):Bool:=okL a0&&decide (0≤a1∧a1≤10000000)
noncomputable abbrev pre_lheldOpS:pshsDen P_lheldOpS→Bool:=fun d=>q_lheldOpS d.1 d.2.1
noncomputable abbrev L_lheldOpS:Nat→St→Option Tree:=fun b=>match b with | 0=>say_lheldOpS_0 | _=>fun _=>none
theorem run_lheldOpS:RunP true G52 (L_lheldOpS) Try.f85 P_lheldOpS pre_lheldOpS g_lheldOpS:=by
 rintro ⟨a0,⟨a1,_⟩⟩ hp
 change q_lheldOpS a0 a1=true at hp
 unfold q_lheldOpS at hp
 refine Eq.trans (b:=(cond (decide (0≤(0:Int))&&(decide (0≤a1∧a1≤100000*((0:Int)+100))&&okL a0)) (cond (isInl (loopN (f_lheldOpS_0 a0) (a0.length - (0:Int).toNat) (0:Int).toNat a1)) (some (e_lheldOpS (getInl (-1) (loopN (f_lheldOpS_0 a0) (a0.length - (0:Int).toNat) (0:Int).toNat a1)))) (some (e_lheldOpS (-1:Int)))) none)) (by kernel_rfl) ?_
 exact (cndT (by first | rfl | decide | exact hp | (simp only [Bool.and_eq_true] at hp;simp only [hp];done) | (simp [*];done) | (simp [okL] at hp;simp [okL,MAXB];omega) | (simp_all;done) | (simp at *;omega)) (fun _h=>(cndG e_lheldOpS (fun _h=>rfl) (fun _h=>rfl))))
theorem c_lheldOpS:PContract Try.prog 85 (sumOf P_lheldOpS pre_lheldOpS g_lheldOpS):=pcD true G52 (hl1 (i:=0) (by kernel_rfl) lw_lheldOpS_0) run_lheldOpS
noncomputable def S53:Tab:=Tab.add S52 85 (lift (sumOf P_lheldOpS pre_lheldOpS g_lheldOpS))
noncomputable def QF53:FuncId→Bool:=qadd QF52 85
theorem G53:Good Try.prog tt S53 QF53:=G52.addQ c_lheldOpS (cbl Try.f85) (fun _=>rfl)

noncomputable abbrev P_lheldRec:List PSh:=[.agg [(.int .i64),(.int .i64),tq2],.t (.int .i64)]
noncomputable def lheldRec (a0:Int) (a1:Int) (a2:Lq1) (a3:Int):Int:=(cond (decide ((lheldOpS a2 a3)<(0:Int))) (-1:Int) (lheldOpS a2 a3))
noncomputable abbrev e_lheldRec (r:Int):AV×List AObj:=((.t true (.int .i64) r),[])
noncomputable abbrev g_lheldRec:pshsDen P_lheldRec→AV×List AObj:=fun d=>e_lheldRec (lheldRec d.1.1 d.1.2.1 d.1.2.2.1 d.2.1)
noncomputable def q_lheldRec (a0:Int) (a1:Int) (a2:Lq1) (a3:Int):Bool:=q_lheldOpS a2 a3
noncomputable abbrev pre_lheldRec:pshsDen P_lheldRec→Bool:=fun d=>q_lheldRec d.1.1 d.1.2.1 d.1.2.2.1 d.2.1
theorem run_lheldRec:RunP true G53 (fun _ _=>none) Try.f36 P_lheldRec pre_lheldRec g_lheldRec:=by
 rintro ⟨⟨a0,⟨a1,⟨a2,_⟩⟩⟩,⟨a3,_⟩⟩ hp
 change q_lheldRec a0 a1 a2 a3=true at hp
 unfold q_lheldRec at hp
 refine Eq.trans (b:=(cond (q_lheldOpS a2 a3) (cond (decide ((lheldOpS a2 a3)<(0:Int))) (some (e_lheldRec (-1:Int))) (some (e_lheldRec (lheldOpS a2 a3)))) none)) (by kernel_rfl) ?_
 exact (cndT hp fun _h=>(cndG e_lheldRec (fun _h=>rfl) (fun _h=>rfl)))
theorem c_lheldRec:PContract Try.prog 36 (sumOf P_lheldRec pre_lheldRec g_lheldRec):=pcD true G53 hlz run_lheldRec
noncomputable def S54:Tab:=Tab.add S53 36 (lift (sumOf P_lheldRec pre_lheldRec g_lheldRec))
noncomputable def QF54:FuncId→Bool:=qadd QF53 36
theorem G54:Good Try.prog tt S54 QF54:=G53.addQ c_lheldRec (cbl Try.f36) (fun _=>rfl)


end Go.Proofs.Ytccelbeahdcooaa.Eng

/- What the functions that FnScanned reaches compute: further. -/
import Derived.Test.YtccelbeahdcooaaFScannedB
namespace Go.Proofs.Ytccelbeahdcooaa.Eng
open Go Go.RowKit
set_option linter.unusedSimpArgs false
set_option linter.unusedVariables false
set_option maxRecDepth 10000
noncomputable abbrev jS102:List Sh:=.junk::jS101
noncomputable abbrev u105:=((),(),(),u102)
noncomputable abbrev jA102:List AV:=.junk::jA101
noncomputable abbrev P_lFnScanned:List PSh:=[.t t_sy]
noncomputable abbrev S_lFnScanned_0:SS:=⟨(.t false t_sy::.junk::.junk::.t true tq5::.all 0 1::.all 1 1::.t true (.int .i64)::jS101),[.rows 5 true (.int .u8),.rows 3 true (.int .i64)]⟩
noncomputable abbrev E_lFnScanned_0_0:SS:=⟨(.t false t_sy::.junk::.junk::.t true tq5::.all 0 1::.all 1 1::jS102),[.rows 5 true (.int .u8),.rows 3 true (.int .i64)]⟩
noncomputable def k1_lFnScanned (x3:Lq2) (x6:Int):=iPutRec ((x3.getD x6.toNat ((0:Int),((0:Int),[]))).1) (((x3.getD x6.toNat ((0:Int),((0:Int),[]))).2).1) (((x3.getD x6.toNat ((0:Int),((0:Int),[]))).2).2)
noncomputable def st_lFnScanned_0 (x0:List Int) (x3:Lq2) (x6:Int) (h0:List Int) (h1:List Int):RT S_lFnScanned_0.den:=(.br (decide (x6<((x3.length:Nat):Int))) (.br (decide (0≤x6∧x6<((x3.length:Nat):Int))) (.br (q_iPutRec ((x3.getD x6.toNat ((0:Int),((0:Int),[]))).1) (((x3.getD x6.toNat ((0:Int),((0:Int),[]))).2).1) (((x3.getD x6.toNat ((0:Int),((0:Int),[]))).2).2)) (.br (decide ((h0.length+(k1_lFnScanned x3 x6).length)*1≤MAXB)) (.br (decide ((h1.length+[(((h0++(k1_lFnScanned x3 x6)).length:Nat):Int)].length)*8≤MAXB)) (.next ((x0,(),(),x3,(),(),IntKind.wrap .i64 (x6+(1:Int)),u102),(h0++(k1_lFnScanned x3 x6),h1++[(((h0++(k1_lFnScanned x3 x6)).length:Nat):Int)],()))) .fail) .fail) .fail) .fail) (.done (.exit 0) E_lFnScanned_0_0 ((x0,(),(),x3,u105),(h0,h1,()))))
noncomputable abbrev V_lFnScanned_0:=(List Int)×(Lq2)×(Int)×(List Int)×(List Int)
noncomputable abbrev A_lFnScanned_0:=Nat×(List Int)×(Lq2)×(List Int)×(List Int)
noncomputable def fl_lFnScanned_0:A_lFnScanned_0:=(99,([]:List Int),([]:Lq2),([]:List Int),([]:List Int))
noncomputable def ss_lFnScanned_0 (x0:List Int) (x3:Lq2) (x6:Int) (h0:List Int) (h1:List Int):V_lFnScanned_0 ⊕ A_lFnScanned_0:=(cond (decide (x6<((x3.length:Nat):Int))) (cond (decide (0≤x6∧x6<((x3.length:Nat):Int))) (cond (q_iPutRec ((x3.getD x6.toNat ((0:Int),((0:Int),[]))).1) (((x3.getD x6.toNat ((0:Int),((0:Int),[]))).2).1) (((x3.getD x6.toNat ((0:Int),((0:Int),[]))).2).2)) (cond (decide ((h0.length+(k1_lFnScanned x3 x6).length)*1≤MAXB)) (cond (decide ((h1.length+[(((h0++(k1_lFnScanned x3 x6)).length:Nat):Int)].length)*8≤MAXB)) (.inl (x0,x3,IntKind.wrap .i64 (x6+(1:Int)),h0++(k1_lFnScanned x3 x6),h1++[(((h0++(k1_lFnScanned x3 x6)).length:Nat):Int)])) (.inr fl_lFnScanned_0)) (.inr fl_lFnScanned_0)) (.inr fl_lFnScanned_0)) (.inr fl_lFnScanned_0)) (.inr (0,x0,x3,h0,h1)))
noncomputable def it_lFnScanned_0 (x0:List Int) (x3:Lq2) (x6:Int) (h0:List Int) (h1:List Int):A_lFnScanned_0:=itX (fun v:V_lFnScanned_0=>ss_lFnScanned_0 v.1 v.2.1 v.2.2.1 v.2.2.2.1 v.2.2.2.2) fl_lFnScanned_0 (x0,x3,x6,h0,h1)
noncomputable def ct_lFnScanned_0 (a:A_lFnScanned_0):CT:=(.br (a.1==0) (.done (.exit 0) E_lFnScanned_0_0 ((a.2.1,(),(),a.2.2.1,u105),(a.2.2.2.1,a.2.2.2.2,()))) .fail)
noncomputable def T_lFnScanned_0 (x0:List Int) (x3:Lq2) (x6:Int) (h0:List Int) (h1:List Int):CT:=ct_lFnScanned_0 (it_lFnScanned_0 x0 x3 x6 h0 h1)
noncomputable abbrev ap_lFnScanned_0 {α:Sort _} (f:(List Int)→(Lq2)→Int→(List Int)→(List Int)→α) (d:S_lFnScanned_0.den):α:=f d.1.1 d.1.2.2.2.1 d.1.2.2.2.2.2.2.1 d.2.1 d.2.2.1
noncomputable abbrev sp_lFnScanned_0:S_lFnScanned_0.den→RT S_lFnScanned_0.den:=(ap_lFnScanned_0 st_lFnScanned_0)
noncomputable def body_lFnScanned_0:Code:=((loopsIn 0 (bodyOf Try.f5)).getD 0 (0,.skip)).2
noncomputable abbrev pv_lFnScanned_0 (v:V_lFnScanned_0):S_lFnScanned_0.den:=((v.1,(),(),v.2.1,(),(),v.2.2.1,u102),(v.2.2.2.1,v.2.2.2.2,()))
theorem rl_lFnScanned_0:(∀ v:V_lFnScanned_0,(st_lFnScanned_0 v.1 v.2.1 v.2.2.1 v.2.2.2.1 v.2.2.2.2).val=relS pv_lFnScanned_0 ct_lFnScanned_0 (ss_lFnScanned_0 v.1 v.2.1 v.2.2.1 v.2.2.2.1 v.2.2.2.2))∧∀ a:A_lFnScanned_0,CEnd S_lFnScanned_0.den (ct_lFnScanned_0 a):=⟨fun v=>(relB (relB (relB (relB (relB rfl rfl) rfl) rfl) rfl) rfl),fun a=>(cendB (cendD (by simp)) cendF)⟩
noncomputable def ox_lFnScanned_0 (x0:List Int) (x3:Lq2) (x6:Int) (h0:List Int) (h1:List Int):Option (Ex×St):=(cond (decide (x6<((x3.length:Nat):Int))) (cond (decide (0≤x6∧x6<((x3.length:Nat):Int))) (cond (q_iPutRec ((x3.getD x6.toNat ((0:Int),((0:Int),[]))).1) (((x3.getD x6.toNat ((0:Int),((0:Int),[]))).2).1) (((x3.getD x6.toNat ((0:Int),((0:Int),[]))).2).2)) (cond (decide ((h0.length+(k1_lFnScanned x3 x6).length)*1≤MAXB)) (cond (decide ((h1.length+[(((h0++(k1_lFnScanned x3 x6)).length:Nat):Int)].length)*8≤MAXB)) (some (.normal,(⟨((.t false t_sy x0)::.junk::.junk::(.t true tq5 x3)::(.all 0 1)::(.all 1 1)::(.t true (.int .i64) (IntKind.wrap .i64 (x6+(1:Int))))::jA101),[(.rows 5 true (.int .u8) (h0++(k1_lFnScanned x3 x6))),(.rows 3 true (.int .i64) (h1++[(((h0++(k1_lFnScanned x3 x6)).length:Nat):Int)]))],0,[]⟩:St))) none) none) none) none) (some ((.exit 0),(⟨((.t false t_sy x0)::.junk::.junk::(.t true tq5 x3)::(.all 0 1)::(.all 1 1)::jA102),[(.rows 5 true (.int .u8) h0),(.rows 3 true (.int .i64) h1)],0,[]⟩:St))))
theorem rdA_lFnScanned_0:RdA G46 (fun _ _=>none) 0 body_lFnScanned_0 S_lFnScanned_0 0 [] (kepts [] [(0,[0,3,4,5])]) (ap_lFnScanned_0 ox_lFnScanned_0):=by
 intro d
 kernel_rfl
theorem rdB_lFnScanned_0:∀ d:S_lFnScanned_0.den,(ap_lFnScanned_0 ox_lFnScanned_0) d=(sp_lFnScanned_0 d).opt 0 []:=by
 intro d
 kernel_rfl
noncomputable abbrev say_lFnScanned_0:St→Option Tree:=S_lFnScanned_0.say 0 [] [] (ap_lFnScanned_0 T_lFnScanned_0)
theorem lw_lFnScanned_0:LoopWp Try.prog say_lFnScanned_0 body_lFnScanned_0:=SS.wp2 hlz [] sp_lFnScanned_0 rdA_lFnScanned_0 rdB_lFnScanned_0 _ (fun d=>Runs.ofI2 (step:=sp_lFnScanned_0) pv_lFnScanned_0 rl_lFnScanned_0 rfl (d.1.1,d.1.2.2.2.1,d.1.2.2.2.2.2.2.1,d.2.1,d.2.2.1))
noncomputable def k2_lFnScanned (a0:List Int):=iReadRecs ((it_lFnScanned_0 a0 (sDrawRecs a0) (0:Int) ([]:List Int) [(0:Int)]).2.2.2.1)
noncomputable def k3_lFnScanned (a0:List Int):=lsameRecs ((k2_lFnScanned a0).2) ((it_lFnScanned_0 a0 (sDrawRecs a0) (0:Int) ([]:List Int) [(0:Int)]).2.2.1)
noncomputable def k4_lFnScanned (a0:List Int):=lat ((it_lFnScanned_0 a0 (sDrawRecs a0) (0:Int) ([]:List Int) [(0:Int)]).2.1) (2:Int)
noncomputable def k5_lFnScanned (a0:List Int):=iReadRecs (((it_lFnScanned_0 a0 (sDrawRecs a0) (0:Int) ([]:List Int) [(0:Int)]).2.2.2.1).take ((Int.tmod (k4_lFnScanned a0) (IntKind.wrap .i64 (((((it_lFnScanned_0 a0 (sDrawRecs a0) (0:Int) ([]:List Int) [(0:Int)]).2.2.2.1).length:Nat):Int)+(1:Int)))).toNat))
noncomputable def k6_lFnScanned (a0:List Int):=lsameRecs ((k5_lFnScanned a0).2) ((((it_lFnScanned_0 a0 (sDrawRecs a0) (0:Int) ([]:List Int) [(0:Int)]).2.2.1).take ((((k5_lFnScanned a0).2).length:Nat):Int).toNat).drop (0:Int).toNat)
noncomputable def lFnScanned (a0:List Int):Bool:=(cond (lbig a0) true (cond (!(k3_lFnScanned a0)) false (cond (((k2_lFnScanned a0).1) != ((((it_lFnScanned_0 a0 (sDrawRecs a0) (0:Int) ([]:List Int) [(0:Int)]).2.2.2.1).length:Nat):Int)) false (cond (decide (((((k5_lFnScanned a0).2).length:Nat):Int)<((((it_lFnScanned_0 a0 (sDrawRecs a0) (0:Int) ([]:List Int) [(0:Int)]).2.2.2.2).length:Nat):Int))) (cond (((k5_lFnScanned a0).1)==(((it_lFnScanned_0 a0 (sDrawRecs a0) (0:Int) ([]:List Int) [(0:Int)]).2.2.2.2).getD (((((k5_lFnScanned a0).2).length:Nat):Int).toNat) (0:Int))) (cond (decide (((k5_lFnScanned a0).1)≤(Int.tmod (k4_lFnScanned a0) (IntKind.wrap .i64 (((((it_lFnScanned_0 a0 (sDrawRecs a0) (0:Int) ([]:List Int) [(0:Int)]).2.2.2.1).length:Nat):Int)+(1:Int)))))) (cond (k6_lFnScanned a0) (cond (((((k5_lFnScanned a0).2).length:Nat):Int)==((((it_lFnScanned_0 a0 (sDrawRecs a0) (0:Int) ([]:List Int) [(0:Int)]).2.2.1).length:Nat):Int)) true (decide ((((it_lFnScanned_0 a0 (sDrawRecs a0) (0:Int) ([]:List Int) [(0:Int)]).2.2.2.2).getD ((IntKind.wrap .i64 (((((k5_lFnScanned a0).2).length:Nat):Int)+(1:Int))).toNat) (0:Int)) > (Int.tmod (k4_lFnScanned a0) (IntKind.wrap .i64 (((((it_lFnScanned_0 a0 (sDrawRecs a0) (0:Int) ([]:List Int) [(0:Int)]).2.2.2.1).length:Nat):Int)+(1:Int))))))) false) false) false) false))))
noncomputable abbrev e_lFnScanned (r:Bool):AV×List AObj:=((.t true .bool r),[])
noncomputable abbrev g_lFnScanned:pshsDen P_lFnScanned→AV×List AObj:=fun d=>e_lFnScanned (lFnScanned d.1)
noncomputable def q_lFnScanned (a0:List Int):Bool:=cond (lbig a0) true ((q_sDrawRecs a0)&&(((it_lFnScanned_0 a0 (sDrawRecs a0) (0:Int) ([]:List Int) [(0:Int)]).1==0)&&((q_iReadRecs ((it_lFnScanned_0 a0 (sDrawRecs a0) (0:Int) ([]:List Int) [(0:Int)]).2.2.2.1))&&((q_lsameRecs ((k2_lFnScanned a0).2) ((it_lFnScanned_0 a0 (sDrawRecs a0) (0:Int) ([]:List Int) [(0:Int)]).2.2.1))&&(cond (!(k3_lFnScanned a0)) true (cond (((k2_lFnScanned a0).1) != ((((it_lFnScanned_0 a0 (sDrawRecs a0) (0:Int) ([]:List Int) [(0:Int)]).2.2.2.1).length:Nat):Int)) true ((q_lat ((it_lFnScanned_0 a0 (sDrawRecs a0) (0:Int) ([]:List Int) [(0:Int)]).2.1) (2:Int))&&((decide ((IntKind.wrap .i64 (((((it_lFnScanned_0 a0 (sDrawRecs a0) (0:Int) ([]:List Int) [(0:Int)]).2.2.2.1).length:Nat):Int)+(1:Int))) ≠ 0))&&((decide (0≤(0:Int)∧(0:Int)≤(Int.tmod (k4_lFnScanned a0) (IntKind.wrap .i64 (((((it_lFnScanned_0 a0 (sDrawRecs a0) (0:Int) ([]:List Int) [(0:Int)]).2.2.2.1).length:Nat):Int)+(1:Int))))∧(Int.tmod (k4_lFnScanned a0) (IntKind.wrap .i64 (((((it_lFnScanned_0 a0 (sDrawRecs a0) (0:Int) ([]:List Int) [(0:Int)]).2.2.2.1).length:Nat):Int)+(1:Int))))≤((((it_lFnScanned_0 a0 (sDrawRecs a0) (0:Int) ([]:List Int) [(0:Int)]).2.2.2.1).length:Nat):Int)))&&((q_iReadRecs (((it_lFnScanned_0 a0 (sDrawRecs a0) (0:Int) ([]:List Int) [(0:Int)]).2.2.2.1).take ((Int.tmod (k4_lFnScanned a0) (IntKind.wrap .i64 (((((it_lFnScanned_0 a0 (sDrawRecs a0) (0:Int) ([]:List Int) [(0:Int)]).2.2.2.1).length:Nat):Int)+(1:Int)))).toNat)))&&(cond (decide (((((k5_lFnScanned a0).2).length:Nat):Int)<((((it_lFnScanned_0 a0 (sDrawRecs a0) (0:Int) ([]:List Int) [(0:Int)]).2.2.2.2).length:Nat):Int))) ((decide (0≤((((k5_lFnScanned a0).2).length:Nat):Int)∧((((k5_lFnScanned a0).2).length:Nat):Int)<((((it_lFnScanned_0 a0 (sDrawRecs a0) (0:Int) ([]:List Int) [(0:Int)]).2.2.2.2).length:Nat):Int)))&&(cond (((k5_lFnScanned a0).1)==(((it_lFnScanned_0 a0 (sDrawRecs a0) (0:Int) ([]:List Int) [(0:Int)]).2.2.2.2).getD (((((k5_lFnScanned a0).2).length:Nat):Int).toNat) (0:Int))) (cond (decide (((k5_lFnScanned a0).1)≤(Int.tmod (k4_lFnScanned a0) (IntKind.wrap .i64 (((((it_lFnScanned_0 a0 (sDrawRecs a0) (0:Int) ([]:List Int) [(0:Int)]).2.2.2.1).length:Nat):Int)+(1:Int)))))) ((decide (0≤(0:Int)∧(0:Int)≤((((k5_lFnScanned a0).2).length:Nat):Int)∧((((k5_lFnScanned a0).2).length:Nat):Int)≤((((it_lFnScanned_0 a0 (sDrawRecs a0) (0:Int) ([]:List Int) [(0:Int)]).2.2.1).length:Nat):Int)))&&((q_lsameRecs ((k5_lFnScanned a0).2) ((((it_lFnScanned_0 a0 (sDrawRecs a0) (0:Int) ([]:List Int) [(0:Int)]).2.2.1).take ((((k5_lFnScanned a0).2).length:Nat):Int).toNat).drop (0:Int).toNat))&&(cond (k6_lFnScanned a0) (cond (((((k5_lFnScanned a0).2).length:Nat):Int)==((((it_lFnScanned_0 a0 (sDrawRecs a0) (0:Int) ([]:List Int) [(0:Int)]).2.2.1).length:Nat):Int)) true (decide (0≤(IntKind.wrap .i64 (((((k5_lFnScanned a0).2).length:Nat):Int)+(1:Int)))∧(IntKind.wrap .i64 (((((k5_lFnScanned a0).2).length:Nat):Int)+(1:Int)))<((((it_lFnScanned_0 a0 (sDrawRecs a0) (0:Int) ([]:List Int) [(0:Int)]).2.2.2.2).length:Nat):Int)))) true))) true) true)) true)))))))))))
noncomputable abbrev pre_lFnScanned:pshsDen P_lFnScanned→Bool:=fun d=>q_lFnScanned d.1
noncomputable abbrev L_lFnScanned:Nat→St→Option Tree:=fun b=>match b with | 0=>say_lFnScanned_0 | _=>fun _=>none
theorem run_lFnScanned:RunP true G46 (L_lFnScanned) Try.f5 P_lFnScanned pre_lFnScanned g_lFnScanned:=by
 rintro ⟨a0,_⟩ hp
 change q_lFnScanned a0=true at hp
 unfold q_lFnScanned at hp
 refine Eq.trans (b:=(cond (lbig a0) (some (e_lFnScanned true)) (cond (q_sDrawRecs a0) (cond ((it_lFnScanned_0 a0 (sDrawRecs a0) (0:Int) ([]:List Int) [(0:Int)]).1==0) (cond (q_iReadRecs ((it_lFnScanned_0 a0 (sDrawRecs a0) (0:Int) ([]:List Int) [(0:Int)]).2.2.2.1)) (cond (q_lsameRecs ((k2_lFnScanned a0).2) ((it_lFnScanned_0 a0 (sDrawRecs a0) (0:Int) ([]:List Int) [(0:Int)]).2.2.1)) (cond (!(k3_lFnScanned a0)) (some (e_lFnScanned false)) (cond (((k2_lFnScanned a0).1) != ((((it_lFnScanned_0 a0 (sDrawRecs a0) (0:Int) ([]:List Int) [(0:Int)]).2.2.2.1).length:Nat):Int)) (some (e_lFnScanned false)) (cond (q_lat ((it_lFnScanned_0 a0 (sDrawRecs a0) (0:Int) ([]:List Int) [(0:Int)]).2.1) (2:Int)) (cond (decide ((IntKind.wrap .i64 (((((it_lFnScanned_0 a0 (sDrawRecs a0) (0:Int) ([]:List Int) [(0:Int)]).2.2.2.1).length:Nat):Int)+(1:Int))) ≠ 0)) (cond (decide (0≤(0:Int)∧(0:Int)≤(Int.tmod (k4_lFnScanned a0) (IntKind.wrap .i64 (((((it_lFnScanned_0 a0 (sDrawRecs a0) (0:Int) ([]:List Int) [(0:Int)]).2.2.2.1).length:Nat):Int)+(1:Int))))∧(Int.tmod (k4_lFnScanned a0) (IntKind.wrap .i64 (((((it_lFnScanned_0 a0 (sDrawRecs a0) (0:Int) ([]:List Int) [(0:Int)]).2.2.2.1).length:Nat):Int)+(1:Int))))≤((((it_lFnScanned_0 a0 (sDrawRecs a0) (0:Int) ([]:List Int) [(0:Int)]).2.2.2.1).length:Nat):Int))) (cond (q_iReadRecs (((it_lFnScanned_0 a0 (sDrawRecs a0) (0:Int) ([]:List Int) [(0:Int)]).2.2.2.1).take ((Int.tmod (k4_lFnScanned a0) (IntKind.wrap .i64 (((((it_lFnScanned_0 a0 (sDrawRecs a0) (0:Int) ([]:List Int) [(0:Int)]).2.2.2.1).length:Nat):Int)+(1:Int)))).toNat))) (cond (decide (((((k5_lFnScanned a0).2).length:Nat):Int)<((((it_lFnScanned_0 a0 (sDrawRecs a0) (0:Int) ([]:List Int) [(0:Int)]).2.2.2.2).length:Nat):Int))) (cond (decide (0≤((((k5_lFnScanned a0).2).length:Nat):Int)∧((((k5_lFnScanned a0).2).length:Nat):Int)<((((it_lFnScanned_0 a0 (sDrawRecs a0) (0:Int) ([]:List Int) [(0:Int)]).2.2.2.2).length:Nat):Int))) (cond (((k5_lFnScanned a0).1)==(((it_lFnScanned_0 a0 (sDrawRecs a0) (0:Int) ([]:List Int) [(0:Int)]).2.2.2.2).getD (((((k5_lFnScanned a0).2).length:Nat):Int).toNat) (0:Int))) (cond (decide (((k5_lFnScanned a0).1)≤(Int.tmod (k4_lFnScanned a0) (IntKind.wrap .i64 (((((it_lFnScanned_0 a0 (sDrawRecs a0) (0:Int) ([]:List Int) [(0:Int)]).2.2.2.1).length:Nat):Int)+(1:Int)))))) (cond (decide (0≤(0:Int)∧(0:Int)≤((((k5_lFnScanned a0).2).length:Nat):Int)∧((((k5_lFnScanned a0).2).length:Nat):Int)≤((((it_lFnScanned_0 a0 (sDrawRecs a0) (0:Int) ([]:List Int) [(0:Int)]).2.2.1).length:Nat):Int))) (cond (q_lsameRecs ((k5_lFnScanned a0).2) ((((it_lFnScanned_0 a0 (sDrawRecs a0) (0:Int) ([]:List Int) [(0:Int)]).2.2.1).take ((((k5_lFnScanned a0).2).length:Nat):Int).toNat).drop (0:Int).toNat)) (cond (k6_lFnScanned a0) (cond (((((k5_lFnScanned a0).2).length:Nat):Int)==((((it_lFnScanned_0 a0 (sDrawRecs a0) (0:Int) ([]:List Int) [(0:Int)]).2.2.1).length:Nat):Int)) (some (e_lFnScanned true)) (cond (decide (0≤(IntKind.wrap .i64 (((((k5_lFnScanned a0).2).length:Nat):Int)+(1:Int)))∧(IntKind.wrap .i64 (((((k5_lFnScanned a0).2).length:Nat):Int)+(1:Int)))<((((it_lFnScanned_0 a0 (sDrawRecs a0) (0:Int) ([]:List Int) [(0:Int)]).2.2.2.2).length:Nat):Int))) (some (e_lFnScanned (decide ((((it_lFnScanned_0 a0 (sDrawRecs a0) (0:Int) ([]:List Int) [(0:Int)]).2.2.2.2).getD ((IntKind.wrap .i64 (((((k5_lFnScanned a0).2).length:Nat):Int)+(1:Int))).toNat) (0:Int)) > (Int.tmod (k4_lFnScanned a0) (IntKind.wrap .i64 (((((it_lFnScanned_0 a0 (sDrawRecs a0) (0:Int) ([]:List Int) [(0:Int)]).2.2.2.1).length:Nat):Int)+(1:Int)))))))) none)) (some (e_lFnScanned false))) none) none) (some (e_lFnScanned false))) (some (e_lFnScanned false))) none) (some (e_lFnScanned false))) none) none) none) none))) none) none) none) none))) (by kernel_rfl) ?_
 exact (cndE e_lFnScanned hp (fun hp=>rfl) (fun hp=>(cndA hp fun hp=>(cndA hp fun hp=>(cndA hp fun hp=>(cndA hp fun hp=>(cndE e_lFnScanned hp (fun hp=>rfl) (fun hp=>(cndE e_lFnScanned hp (fun hp=>rfl) (fun hp=>(cndA hp fun hp=>(cndA hp fun hp=>(cndA hp fun hp=>(cndA hp fun hp=>(cndE e_lFnScanned hp (fun hp=>(cndA hp fun hp=>(cndE e_lFnScanned hp (fun hp=>(cndE e_lFnScanned hp (fun hp=>(cndA hp fun hp=>(cndA hp fun hp=>(cndE e_lFnScanned hp (fun hp=>(cndE e_lFnScanned hp (fun hp=>rfl) (fun hp=>(cndT hp fun _h=>rfl)))) (fun hp=>rfl))))) (fun hp=>rfl))) (fun hp=>rfl)))) (fun hp=>rfl))))))))))))))))
theorem c_lFnScanned:PContract Try.prog 5 (sumOf P_lFnScanned pre_lFnScanned g_lFnScanned):=pcD true G46 (hl1 (i:=0) (by kernel_rfl) lw_lFnScanned_0) run_lFnScanned
noncomputable def S47:Tab:=Tab.add S46 5 (lift (sumOf P_lFnScanned pre_lFnScanned g_lFnScanned))
noncomputable def QF47:FuncId→Bool:=qadd QF46 5
theorem G47:Good Try.prog tt S47 QF47:=G46.addQ c_lFnScanned (cbl Try.f5) (fun _=>rfl)
noncomputable abbrev RecD:=(Int)×(Int)×Lq1
/-- The bytes of ops. -/
noncomputable def opsB (l:Lq1):List Int:=numB (l.length:Int)++(l.map opB).flatten
/-- The body of a record. -/
noncomputable def recBody (k t:Int) (l:Lq1):List Int:=numB k++(numB t++cond (k==1) (opsB l) [])
/-- The sum behind a body. -/
noncomputable def digB4 (b:List Int):List Int:=strInts ((iDigest b).extract 0 4)
/-- The bytes of a record that is right. -/
noncomputable def recB (k t:Int) (l:Lq1):List Int:=numB ((recBody k t l).length:Int)++(recBody k t l++digB4 (recBody k t l))
/-- The bytes of records, one behind the other. -/
noncomputable def recsB (l:List RecD):List Int:=(l.map fun r=>recB r.1 r.2.1 r.2.2).flatten
noncomputable def sl1In (a0:Int) (a1:Int) (a2:Int):Bool:=(cond (decide (a0 ≥ a1)) (decide (a0≤a2)) false)
noncomputable def sKeyAt (s:ByteArray) (i:Nat):Bool:=sl1In (IntKind.wrap .i64 (bt s (i:Int))) 97 122||sl1In (IntKind.wrap .i64 (bt s (i:Int))) 48 57
noncomputable def sKeyOk (a0:ByteArray):Bool:=(cond (allF (sKeyAt a0) (a0.size - (0:Int).toNat) (0:Int).toNat) (sl1In ((a0.size:Nat):Int) (1:Int) (12:Int)) false)
noncomputable def sl7Op (a0:Int) (a1:ByteArray) (a2:ByteArray):Bool:=(cond (!(sl1In a0 (1:Int) (3:Int))) false (cond (a0==(2:Int)) (cond (!(a2.toList==bE.toList)) false (cond (sKeyOk a1) (decide (((a2.size:Nat):Int)≤(20:Int))) false)) (cond (sKeyOk a1) (decide (((a2.size:Nat):Int)≤(20:Int))) false)))
noncomputable def sOpAt (l:Lq1) (i:Nat):Bool:=sl7Op (l.getD i dOp).1 (l.getD i dOp).2.1 (l.getD i dOp).2.2&&(decide (i=0)||Op.bytesLess (l.getD (i - 1) dOp).2.1.toList (l.getD i dOp).2.1.toList)
noncomputable def sOpsOk (a0:Lq1):Bool:=(cond (allF (sOpAt a0) (a0.length - (0:Int).toNat) (0:Int).toNat) (sl1In ((a0.length:Nat):Int) (1:Int) (8:Int)) false)
noncomputable def sRecOk (a0:Int) (a1:Int) (a2:Lq1):Bool:=(cond (!(sl1In a1 (1:Int) (1000000:Int))) false (cond (a0==(1:Int)) (sOpsOk a2) (cond (a0==(2:Int)) (((a2.length:Nat):Int)==(0:Int)) (cond (a0==(3:Int)) (((a2.length:Nat):Int)==(0:Int)) false))))
noncomputable def okRs (l:List RecD):Prop:=∀ r∈l,sRecOk r.1 r.2.1 r.2.2=true
noncomputable def dRec:RecD:=((0:Int),((0:Int),([]:Lq1)))
theorem getD_mem {α:Type} {l:List α} {i:Nat} (h:i<l.length) (d:α):l.getD i d∈l:=by
 simp [List.getD_eq_getElem?_getD,h]
theorem keyAt_same (s:ByteArray) (i:Nat):sKeyAt s i=iKeyAt s i:=by
 have hb:0≤bt s (i:Int)∧bt s (i:Int)<256:=by
  unfold bt
  split
  ·have:=UInt8.toNat_lt s[(i:Int).toNat];omega
  ·simp
 have e:=wrap64 (n:=bt s (i:Int)) (by omega) (by omega)
 simp only [sKeyAt,iKeyAt,sl1In,iisKeyByte,e]
 generalize bt s (i:Int)=c
 by_cases h1:c ≥ 97<;>by_cases h2:c≤122<;>by_cases h3:c ≥ 48<;>by_cases h4:c≤57<;>simp [h1,h2,h3,h4]
theorem keyOk_same (s:ByteArray):sKeyOk s=iKeyOk s:=by
 have e:allF (sKeyAt s) (s.size - (0:Int).toNat) (0:Int).toNat=allF (iKeyAt s) (s.size - (0:Int).toNat) (0:Int).toNat:=allF_congr _ _ (fun j _ _=>keyAt_same s j)
 simp only [sKeyOk,iKeyOk,iisWord,iinRange,sl1In,e]
 cases allF (iKeyAt s) (s.size - (0:Int).toNat) (0:Int).toNat<;>cases decide (((s.size:Nat):Int) ≥ 1)<;>cases decide (((s.size:Nat):Int)≤12)<;>rfl
theorem opOk_same (k:Int) (s v:ByteArray):sl7Op k s v=iopOk k s v:=by
 simp only [sl7Op,iopOk,keyOk_same,ba_beq,sl1In]
 cases iKeyOk s with
 | false =>
  by_cases h1:k=1<;>by_cases h2:k=2<;>by_cases h3:k=3<;>by_cases h4:v=⟨#[]⟩<;>by_cases h5:k ≥ 1<;>by_cases h6:k≤3<;>simp [h1,h2,h3,h4,h5,h6]<;>omega
 | true =>
  by_cases h2:k=2
  ·subst h2
   by_cases h4:v=⟨#[]⟩
   ·subst h4;simp [ByteArray.size]
   ·simp [h4]
  ·by_cases h1:k=1
   ·subst h1;simp
   ·by_cases h3:k=3
    ·subst h3;simp
    ·by_cases h5:k ≥ 1<;>by_cases h6:k≤3<;>simp [h1,h2,h3,h5,h6]<;>omega
theorem opAt_same (l:Lq1) (i:Nat):sOpAt l i=iOpAt l i:=by
 simp only [sOpAt,iOpAt,opOk_same]
 rw [← bytesLess_ge,Bool.not_not]
theorem opsOk_same (l:Lq1):sOpsOk l=iOpsOk l:=by
 have e:allF (sOpAt l) (l.length - (0:Int).toNat) (0:Int).toNat=allF (iOpAt l) (l.length - (0:Int).toNat) (0:Int).toNat:=allF_congr _ _ (fun j _ _=>opAt_same l j)
 simp only [sOpsOk,iOpsOk,e]
 rfl
theorem recOk_same (k t:Int) (l:Lq1):sRecOk k t l=iRecOk k t l:=by
 simp only [sRecOk,iRecOk,iisTx,opsOk_same]
 rw [show iinRange t 1 1000000=sl1In t 1 1000000 from rfl]
 cases sl1In t 1 1000000<;>simp
theorem opsOk_small {l:Lq1} (h:sOpsOk l=true):l.length≤8∧∀ o∈l,o.2.1.size≤12∧o.2.2.size≤20:=by
 simp only [sOpsOk] at h
 cases h5:allF (sOpAt l) (l.length - (0:Int).toNat) (0:Int).toNat with
 | false=>rw [h5] at h;simp at h
 | true =>
  rw [h5] at h
  simp only [cond_true,sl1In] at h
  constructor
  ·cases h6:decide (((l.length:Nat):Int) ≥ 1) with
   | false=>simp [h6] at h
   | true=>rw [h6] at h;simp only [cond_true,decide_eq_true_eq] at h;omega
  ·intro o ho
   obtain ⟨i,hi,rfl⟩:=List.getElem_of_mem ho
   have h6:=(allF_true _ _).1 h5 i (Nat.zero_le _) (by simpa using hi)
   simp only [sOpAt,Bool.and_eq_true,List.getD_eq_getElem?_getD,List.getElem?_eq_getElem hi,Option.getD_some] at h6
   have h7:=h6.1
   simp only [sl7Op] at h7
   have hk:∀ s:ByteArray,sKeyOk s=true→s.size≤12:=by
    intro s hs
    simp only [sKeyOk] at hs
    cases h8:allF (sKeyAt s) (s.size - (0:Int).toNat) (0:Int).toNat with
    | false=>rw [h8] at hs;simp at hs
    | true =>
     rw [h8] at hs
     simp only [cond_true,sl1In] at hs
     cases h9:decide (((s.size:Nat):Int) ≥ 1) with
     | false=>simp [h9] at hs
     | true=>rw [h9] at hs;simp only [cond_true,decide_eq_true_eq] at hs;omega
   cases h8:sKeyOk (l[i]).2.1 with
   | false=>exfalso;revert h7;simp only [h8,cond_false];cases sl1In (l[i]).1 1 3<;>cases ((l[i]).1==2)<;>simp
   | true =>
    refine ⟨hk _ h8,?_⟩
    revert h7
    simp only [h8,cond_true]
    cases sl1In (l[i]).1 1 3<;>cases ((l[i]).1==2)<;>simp<;>omega
theorem opsOk_okOps {l:Lq1} (h:sOpsOk l=true):okOps l=true:=by
 obtain ⟨a1,a2⟩:=opsOk_small h
 simp only [okOps,okL,Bool.and_eq_true,decide_eq_true_eq,List.all_eq_true]
 refine ⟨by omega,fun o ho=>?_⟩
 have:=a2 o ho
 simp only [okOp,okS,Bool.and_eq_true,decide_eq_true_eq];omega
theorem recOk_is {k t:Int} {l:Lq1} (h:sRecOk k t l=true):1≤k∧k≤3∧1≤t∧t≤1000000∧(k=1→sOpsOk l=true)∧(k ≠ 1→l=[])∧okOps l=true:=by
 simp only [sRecOk,sl1In] at h
 cases h1:decide (t ≥ 1) with
 | false=>simp [h1] at h
 | true=>cases h2:decide (t≤1000000) with
  | false=>simp [h1,h2] at h
  | true =>
   simp only [h1,h2,cond_true,Bool.not_true,cond_false] at h
   have:=of_decide_eq_true h1;have:=of_decide_eq_true h2
   cases k1:(k==1) with
   | true =>
    have:=eq_of_beq k1
    simp only [k1,cond_true] at h
    exact ⟨by omega,by omega,by omega,by omega,fun _=>h,fun hk=>absurd this hk,opsOk_okOps h⟩
   | false =>
    have hk:k ≠ 1:=by rw [beq_eq_false_iff_ne] at k1;exact k1
    simp only [k1,cond_false] at h
    have key:(k=2∨k=3)∧l=[]:=by
     cases k2:(k==2) with
     | true =>
      simp only [k2,cond_true] at h
      have:=eq_of_beq h
      exact ⟨.inl (eq_of_beq k2),List.eq_nil_of_length_eq_zero (by omega)⟩
     | false =>
      cases k3:(k==3) with
      | true =>
       simp only [k2,k3,cond_true,cond_false] at h
       have:=eq_of_beq h
       exact ⟨.inr (eq_of_beq k3),List.eq_nil_of_length_eq_zero (by omega)⟩
      | false=>simp [k2,k3] at h
    exact ⟨by omega,by omega,by omega,by omega,fun e=>absurd e hk,fun _=>key.2,by rw [key.2];rfl⟩
/-- Bytes, all of them. -/
noncomputable def okB (b:List Int):Prop:=∀ c∈b,0≤c∧c≤255
theorem opsB_len {l:Lq1} (h:sOpsOk l=true):(opsB l).length≤400:=by
 obtain ⟨a1,a2⟩:=opsOk_small h
 have h5:=flat_len (M:=47) l (fun o ho'=>by have:=a2 o ho';have:=opB_len o;omega)
 have h6:=numB_len (l.length:Int)
 simp only [opsB,List.length_append];omega
/-- The bytes of a number behind others. -/
noncomputable def hiB (j x:Nat):List Int:=(hiF gNum j (x:Int)).1++[IntKind.wrap .u8 (hiF gNum j (x:Int)).2]
theorem numB_hi (x:Nat):numB (x:Int)=hiB 4 x:=by simp only [numB,hiB,nX_eq]
theorem hiF_stop (j x:Nat) (h:¬ 127<x):hiF gNum j (x:Int)=([],(x:Int)):=by
 cases j with
 | zero=>rfl
 | succ j =>
  have e:decide ((x:Int) > 127)=false:=decide_eq_false (by omega)
  simp only [hiF,e,cond_false]
theorem wrapU8 {n:Int} (h1:0≤n) (h2:n<256):IntKind.wrap .u8 n=n:=by
 show (if (false&&decide (n % (2 ^ 8:Int) ≥ (2 ^ 7:Int)))=true then n % (2 ^ 8:Int) - (2 ^ 8:Int) else n % (2 ^ 8:Int))=n
 simp only [Bool.false_and,Bool.false_eq_true,if_false];omega
theorem hiB_stop (j x:Nat) (h:¬ 127<x):hiB j x=[(x:Int)]:=by
 simp only [hiB,hiF_stop j x h,List.nil_append];rw [wrapU8 (by omega) (by omega)]
theorem fdivN (n:Nat):Int.fdiv (n:Int) (2 ^ 7)=((n / 128:Nat):Int):=by
 rw [Int.fdiv_eq_ediv_of_nonneg _ (by decide)];rfl
/-- The high bytes of a number, and what is left. -/
theorem hiF_step (j x:Nat) (h:127<x):hiF gNum (j+1) (x:Int)=(gNum x::(hiF gNum j ((x / 128:Nat):Int)).1,(hiF gNum j ((x / 128:Nat):Int)).2):=by
 have e:decide ((x:Int) > 127)=true:=decide_eq_true (by omega)
 simp only [hiF,e,cond_true,fdivN]
theorem ofInt_nat (n:Nat) (h:n<18446744073709551616):(BitVec.ofInt 64 (n:Int)).toNat=n:=by
 simp [BitVec.toNat_ofInt];omega
theorem iand127 (n:Nat) (h:n<9223372036854775808):iand .i64 (n:Int) 127=((n % 128:Nat):Int):=by
 show IntKind.wrap .i64 (((BitVec.ofInt 64 (n:Int) &&& BitVec.ofInt 64 ((127:Nat):Int)).toNat:Nat):Int)=_
 rw [BitVec.toNat_and,ofInt_nat n (by omega),ofInt_nat 127 (by omega),show (127:Nat)=2 ^ 7 - 1 from rfl,Nat.and_two_pow_sub_one_eq_mod]
 exact wrap64 (by omega) (by omega)
theorem iorAdd (n m j:Nat) (hn:n<2 ^ j) (h:n+m*2 ^ j<9223372036854775808):ior .i64 (n:Int) ((m*2 ^ j:Nat):Int)=((n+m*2 ^ j:Nat):Int):=by
 show IntKind.wrap .i64 (((BitVec.ofInt 64 (n:Int) ||| BitVec.ofInt 64 ((m*2 ^ j:Nat):Int)).toNat:Nat):Int)=_
 rw [BitVec.toNat_or,ofInt_nat n (by omega),ofInt_nat _ (by omega),Nat.or_comm,Nat.mul_comm m,← Nat.two_pow_add_eq_or_of_lt hn,Nat.add_comm]
 rw [Nat.mul_comm m] at h
 exact wrap64 (by omega) (by omega)
theorem gNum_val (n:Nat) (h:n<9223372036854775808):gNum (n:Int)=((128+n % 128:Nat):Int):=by
 simp only [gNum]
 rw [iand127 n h]
 have:=iorAdd (n % 128) 1 7 (by omega) (by omega)
 have e:((1*2 ^ 7:Nat):Int)=128:=rfl
 rw [e] at this
 rw [this,wrapU8 (by omega) (by omega)];omega
theorem hiB_step (j x:Nat) (h:127<x) (hx:x<9223372036854775808):hiB (j+1) x=((128+x % 128:Nat):Int)::hiB j (x / 128):=by
 simp only [hiB,hiF_step j x h,gNum_val x hx,List.cons_append]
theorem hiB_ok:∀ (j x:Nat),x<128 ^ (j+1)→x<9223372036854775808→okB (hiB j x):=by
 intro j
 induction j with
 | zero=>intro x h h';rw [hiB_stop 0 x (by simp at h;omega)];intro c hc;simp at hc;simp at h;omega
 | succ j ih =>
  intro x h h'
  by_cases hx:127<x
  ·rw [hiB_step j x hx h']
   rw [Nat.pow_succ] at h
   have hx':x / 128<128 ^ (j+1):=Nat.div_lt_of_lt_mul (by rw [Nat.mul_comm];exact h)
   intro c hc
   rcases List.mem_cons.1 hc with rfl | hc
   ·omega
   ·exact ih (x / 128) hx' (by omega) c hc
  ·rw [hiB_stop _ x hx];intro c hc;simp at hc;omega
theorem numB_ok {x:Int} (h0:0≤x) (h1:x≤1000000000):okB (numB x):=by
 obtain ⟨n,rfl⟩:=Int.eq_ofNat_of_zero_le h0
 rw [numB_hi];exact hiB_ok 4 n (by simp;omega) (by omega)
/-- Ops that can be written. -/
noncomputable def fitO (o:Int×ByteArray×ByteArray):Prop:=0≤o.1∧o.1≤1000000000∧o.2.1.size≤1000000000∧o.2.2.size≤1000000000
theorem strInts_ok (s:ByteArray):okB (strInts s):=by
 intro c hc
 simp only [strInts,List.mem_map] at hc
 obtain ⟨x,_,rfl⟩:=hc
 have:=x.toNat_lt
 omega
theorem okB.app {a b:List Int} (h:okB a) (h':okB b):okB (a++b):=fun c hc=>(List.mem_append.1 hc).elim (h c) (h' c)
theorem textB_ok {s:ByteArray} (h:s.size≤1000000000):okB (textB s):=(numB_ok (by omega) (by omega)).app (strInts_ok s)
theorem opB_ok {o:Int×ByteArray×ByteArray} (h:fitO o):okB (opB o):=by
 obtain ⟨h0,h1,h2,h3⟩:=h
 simp only [opB,clampN_of h0 h1]
 exact (numB_ok h0 h1).app ((textB_ok h2).app (textB_ok h3))
theorem flat_ok:∀ l:Lq1,(∀ o∈l,fitO o)→okB (l.map opB).flatten:=by
 intro l
 induction l with
 | nil=>intro _ c hc;simp at hc
 | cons o l ih=>intro h;simp only [List.map_cons,List.flatten_cons];exact (opB_ok (h o (by simp))).app (ih fun x hx=>h x (by simp [hx]))
theorem opsOk_fit {l:Lq1} (h:sOpsOk l=true):∀ o∈l,fitO o:=by
 intro o ho
 obtain ⟨_,a2⟩:=opsOk_small h
 have a3:=a2 o ho
 simp only [sOpsOk] at h
 cases h5:allF (sOpAt l) (l.length - (0:Int).toNat) (0:Int).toNat with
 | false=>rw [h5] at h;simp at h
 | true =>
  obtain ⟨i,hi,rfl⟩:=List.getElem_of_mem ho
  have h6:=(allF_true _ _).1 h5 i (Nat.zero_le _) (by simpa using hi)
  simp only [sOpAt,Bool.and_eq_true,List.getD_eq_getElem?_getD,List.getElem?_eq_getElem hi,Option.getD_some] at h6
  have h7:=h6.1
  simp only [sl7Op,sl1In] at h7
  cases h8:decide ((l[i]).1 ≥ 1) with
  | false=>simp [h8] at h7
  | true =>
   cases h9:decide ((l[i]).1≤3) with
   | false=>simp [h8,h9] at h7
   | true =>
    have:=of_decide_eq_true h8
    have:=of_decide_eq_true h9
    exact ⟨by omega,by omega,by omega,by omega⟩
theorem opsB_ok {l:Lq1} (h:sOpsOk l=true):okB (opsB l):=by
 obtain ⟨a1,_⟩:=opsOk_small h
 exact (numB_ok (by omega) (by omega)).app (flat_ok l (opsOk_fit h))
theorem recBody_ok {k t:Int} {l:Lq1} (h:sRecOk k t l=true):okB (recBody k t l)∧(recBody k t l).length≤410∧2≤(recBody k t l).length:=by
 obtain ⟨a1,a2,a3,a4,a7,a8,a9⟩:=recOk_is h
 have l1:=numB_len k;have l2:=numB_len t
 have m1:1≤(numB k).length:=by simp [numB]
 have m2:1≤(numB t).length:=by simp [numB]
 cases hk:(k==1) with
 | true =>
  have ho:=a7 (eq_of_beq hk)
  have l5:=opsB_len ho
  refine ⟨?_,by simp only [recBody,hk,cond_true,List.length_append];omega,by simp only [recBody,hk,cond_true,List.length_append];omega⟩
  simp only [recBody,hk,cond_true]
  exact (numB_ok (by omega) (by omega)).app ((numB_ok (by omega) (by omega)).app (opsB_ok ho))
 | false =>
  refine ⟨?_,by simp only [recBody,hk,cond_false,List.length_append,List.length_nil];omega,by simp only [recBody,hk,cond_false,List.length_append,List.length_nil];omega⟩
  simp only [recBody,hk,cond_false]
  exact (numB_ok (by omega) (by omega)).app ((numB_ok (by omega) (by omega)).app (fun c hc=>by simp at hc))
noncomputable def padF (n:Nat):Nat:=(64 - (n+8) % 64) % 64
theorem ipad0 (a:List Int) (ha:a.length≤1000000000000) (h:List Int) (hh:h.length=a.length+1) :
  (it_iPadded_0 a h).1=0∧(it_iPadded_0 a h).2.1=a∧((it_iPadded_0 a h).2.2.length+8) % 64=0∧(it_iPadded_0 a h).2.2.length≤a.length+64:=by
 refine itX_inv (v:=(a,h)) (fun (v:V_iPadded_0)=>v.1=a∧v.2.length+padF v.2.length≤a.length+64)
  (fun (x:A_iPadded_0)=>x.1=0∧x.2.1=a∧(x.2.2.length+8) % 64=0∧x.2.2.length≤a.length+64) (fun v=>padF v.2.length) ?_ ⟨rfl,by simp only [padF];omega⟩ (by simp only [padF];omega)
 rintro ⟨a1,l⟩ ⟨h1,h4⟩
 simp only at h1 h4
 subst h1
 simp only [padF] at h4
 have e1:IntKind.wrap .i64 (((l.length:Nat):Int)+(8:Int))=((l.length+8:Nat):Int):=by rw [w64c _ (by omega) (by omega)];omega
 have t1:Int.tmod ((l.length+8:Nat):Int) 64=(((l.length+8) % 64:Nat):Int):=by rw [Int.tmod_eq_emod_of_nonneg (by omega)];omega
 by_cases hm:(l.length+8) % 64=0
 ·refine .inr ⟨(0,a1,l),?_,rfl,rfl,hm,by simp only;omega⟩
  simp only [ss_iPadded_0,e1,t1,hm];rfl
 ·refine .inl ⟨(a1,l++[0]),?_,⟨rfl,by simp only [padF,List.length_append,List.length_singleton];omega⟩,by simp only [padF,List.length_append,List.length_singleton];omega⟩
  have c1:((((l.length+8) % 64:Nat):Int) != (0:Int))=true:=by simp only [bne_iff_ne,ne_eq];omega
  simp only [ss_iPadded_0,e1,t1,c1,cond_true,List.length_singleton]
  rw [decide_eq_true (by simp only [MAXB];omega)];rfl
theorem ipad1 (n:Int) (h:List Int) (hh:h.length≤1000000000100) :
  (it_iPadded_1 n 7 h).1=0∧(it_iPadded_1 n 7 h).2.length=h.length+8:=by
 refine itX_inv (v:=(n,(7:Int),h)) (fun (v:V_iPadded_1)=>v.1=n∧(-1≤v.2.1∧v.2.1≤7)∧(v.2.2.length:Int)=(h.length:Int)+(7 - v.2.1))
  (fun (x:A_iPadded_1)=>x.1=0∧x.2.length=h.length+8) (fun v=>(v.2.1+1).toNat) ?_ ⟨rfl,⟨by simp only;omega,by simp only;omega⟩,by simp only;omega⟩ (by simp only;decide)
 rintro ⟨n2,i,l⟩ ⟨h1,h4,h6⟩
 simp only at h1 h4 h6
 subst h1
 by_cases hi:0≤i
 ·have e0 : IntKind.wrap .u64 (8 * i) = 8 * i := by
   have:IntKind.wrap .u64 (8*i)=(8*i) % 18446744073709551616:=by simp [IntKind.wrap,IntKind.bits,IntKind.signed]
   rw [this];omega
  refine .inl ⟨(n2,i - 1,l++[IntKind.wrap .u8 (Int.fdiv n2 (2 ^ (min (Int.toNat (8*i)) (IntKind.bits .i64))))]),?_,⟨rfl,by simp only;omega,by simp only [List.length_append,List.length_singleton];omega⟩,by simp only;omega⟩
  simp only [ss_iPadded_1,w64c (8*i) (by omega) (by omega),e0,wrap64 (n:=i - 1) (by omega) (by omega),decide_eq_true (show i ≥ 0 from hi),cond_true,List.length_singleton]
  rw [decide_eq_true (by omega),decide_eq_true (by simp only [MAXB];omega)];rfl
 ·refine .inr ⟨(0,l),?_,rfl,by simp only;omega⟩
  simp only [ss_iPadded_1,decide_eq_false (show ¬ i ≥ 0 from hi),cond_false]
theorem ipadded_ok (a:List Int) (ha:a.length≤1000000000000):q_iPadded a=true∧(iPadded a).length % 64=0∧0<(iPadded a).length∧(iPadded a).length≤a.length+72:=by
 obtain ⟨a1,a3,a6,a7⟩:=ipad0 a ha (a++[128]) (by simp)
 obtain ⟨b1,b4⟩:=ipad1 (IntKind.wrap .i64 ((8:Int)*(a.length:Int))) (it_iPadded_0 a (a++[128])).2.2 (by omega)
 have ei:k1_iPadded a=it_iPadded_1 (IntKind.wrap .i64 ((8:Int)*(a.length:Int))) 7 (it_iPadded_0 a (a++[128])).2.2:=by
  simp only [k1_iPadded,slices_Clone_byte,a3]
 refine ⟨?_,?_,?_,?_⟩
 ·have q1:q_slices_Clone_byte a=true:=decide_eq_true (by simp only [MAXB,List.length_nil];omega)
  simp only [q_iPadded,q1,slices_Clone_byte,a1,ei,b1,List.length_singleton,Bool.true_and,beq_self_eq_true,Bool.and_true]
  exact decide_eq_true (by simp only [MAXB];omega)
 ·simp only [iPadded,ei,b4];omega
 ·simp only [iPadded,ei,b4];omega
 ·simp only [iPadded,ei,b4];omega
theorem digBytesN_len (h:List Int):(digBytes h).length=4*h.length:=by
 induction h with
 | nil=>rfl
 | cons x h ih=>simp only [digBytes,List.flatMap_cons,List.length_append,List.length_cons,List.length_nil] at ih ⊢;omega
theorem digH_len (p:List Int):(digH p).length=8:=by
 have key:∀ n,64*n≤p.length→((List.range n).foldl (fun h i=>(iturnBlock ((p.drop (64*i)).take 64) h irounds).1) hinit).length=8:=by
  intro n
  induction n with
  | zero=>intro _;rfl
  | succ n ih =>
   intro hn
   rw [List.range_succ,List.foldl_append]
   exact (turn_ok _ _ (by simp only [List.length_take,List.length_drop];omega) (ih (by omega))).2.1
 exact key _ (by omega)
theorem idig_ok (b:List Int) (hl:b.length≤1000000000000):q_iDigest b=true∧(iDigest b).size=32∧(digB4 b).length=4∧okB (digB4 b):=by
 obtain ⟨p1,p2,p3,p4⟩:=ipadded_ok b hl
 have hs:(iDigest b).size=32:=by
  have:(iDigest b).size=(digBytes (digH (iPadded b))).length:=by
   show (((digBytes _).map _).toArray).size=_
   simp
  rw [this,digBytesN_len,digH_len]
 refine ⟨?_,hs,?_,strInts_ok _⟩
 ·simp only [q_iDigest,p1,Bool.true_and,Bool.and_eq_true,decide_eq_true_eq];omega
 ·simp only [digB4,strInts_len,ByteArray.size_extract,hs];rfl
theorem sOpsOk_len {l:Lq1} (h:sOpsOk l=true):1≤l.length:=by
 simp only [sOpsOk] at h
 cases h5:allF (sOpAt l) (l.length - (0:Int).toNat) (0:Int).toNat with
 | false=>rw [h5] at h;simp at h
 | true =>
  rw [h5] at h
  simp only [cond_true,sl1In] at h
  cases h6:decide (((l.length:Nat):Int) ≥ 1) with
  | false=>simp [h6] at h
  | true=>have:=of_decide_eq_true h6;omega
theorem dec_t {p:Prop} {i:Decidable p} (h:p):@decide p i=true:=@decide_eq_true p i h
theorem iputRec_eq {k t:Int} {l:Lq1} (h:sRecOk k t l=true):q_iputRec k t l=true∧iputRec k t l=recB k t l:=by
 obtain ⟨a1,a2,a3,a4,a7,a8,ho⟩:=recOk_is h
 obtain ⟨b1,b2,b3⟩:=recBody_ok h
 obtain ⟨d2,d4,d5,d6⟩:=idig_ok (recBody k t l) (by omega)
 have e0:iputNum t (iputNum_nil k)=numB k++numB t:=by
  rw [iputNum_eq,iputNum_nil_eq,clampN_of (by omega) (by omega),clampN_of (by omega) (by omega)]
 have e1:∀ n:Nat,n≤410→iputNum_nil (n:Int)=numB (n:Int):=fun n hn=>by rw [iputNum_nil_eq,clampN_of (by omega) (by omega)]
 have sz:((iDigest (recBody k t l)).extract 0 4).size=4:=by rw [ByteArray.size_extract,d4];rfl
 have lb:=numB_len ((recBody k t l).length:Int)
 have l0:=iputNum_nil_len k
 have lk:=numB_len k
 have lt:=numB_len t
 cases hk:(k==1) with
 | true =>
  have hs:=a7 (eq_of_beq hk)
  have hl:=sOpsOk_len hs
  have hd:decide (((l.length:Nat):Int) > 0)=true:=decide_eq_true (by omega)
  have oe:iputOps l (numB k++numB t)=recBody k t l:=by
   obtain ⟨c1,_⟩:=opsOk_small hs
   rw [iputOps_eq l _ ho,clampN_of (by omega) (by omega)]
   simp only [recBody,hk,cond_true,List.append_assoc,opsB]
  refine ⟨?_,?_⟩
  ·simp only [q_iputRec,q_iputNum,q_iputOps,hd,ho,e0,oe,e1 _ b2,d2,d4,cond_true,Bool.true_and,Int.toNat_zero,List.length_append]
   rw [show ((4:Int).toNat)=4 from rfl,sz]
   simp only [Bool.and_eq_true,Bool.and_true,MAXB,d4]
   repeat' first | exact dec_t (by omega) | exact trivial | refine And.intro ?_ ?_
  ·simp only [iputRec,hd,e0,oe,e1 _ b2,cond_true]
   simp only [recB,digB4,List.append_assoc];rfl
 | false =>
  have hn:=a8 (by rw [beq_eq_false_iff_ne] at hk;exact hk)
  have hd:decide (((l.length:Nat):Int) > 0)=false:=decide_eq_false (by rw [hn];simp)
  have be:numB k++numB t=recBody k t l:=by simp only [recBody,hk,cond_false,List.append_nil]
  refine ⟨?_,?_⟩
  ·simp only [q_iputRec,q_iputNum,hd,e0,be,e1 _ b2,d2,d4,cond_false,Bool.true_and,Int.toNat_zero,List.length_append]
   rw [show ((4:Int).toNat)=4 from rfl,sz]
   simp only [Bool.and_eq_true,MAXB,d4]
   repeat' first | exact dec_t (by omega) | exact trivial | refine And.intro ?_ ?_
  ·simp only [iputRec,hd,e0,be,e1 _ b2,cond_false]
   simp only [recB,digB4,List.append_assoc];rfl
theorem iPutRec_eq {k t:Int} {l:Lq1} (ho:okOps l=true):q_iPutRec k t l=true∧iPutRec k t l=cond (sRecOk k t l) (recB k t l) []:=by
 cases h:sRecOk k t l with
 | false=>simp only [q_iPutRec,iPutRec,q_iRecOk,ho,← recOk_same,h,Bool.not_false,cond_true,cond_false];exact ⟨rfl,trivial⟩
 | true =>
  obtain ⟨c1,c2⟩:=iputRec_eq h
  simp only [q_iPutRec,iPutRec,q_iRecOk,ho,← recOk_same,h,c1,c2,Bool.not_true,cond_true,cond_false];exact ⟨rfl,trivial⟩
theorem recB_ok {k t:Int} {l:Lq1} (h:sRecOk k t l=true):okB (recB k t l)∧(recB k t l).length≤419∧5≤(recB k t l).length:=by
 obtain ⟨a1,a2,a3⟩:=recBody_ok h
 obtain ⟨_,_,b1,b2⟩:=idig_ok (recBody k t l) (by omega)
 have l1:=numB_len ((recBody k t l).length:Int)
 refine ⟨(numB_ok (by omega) (by omega)).app (a1.app b2),?_,?_⟩<;>simp only [recB,List.length_append]<;>omega
theorem recsB_cons (r:RecD) (l:List RecD):recsB (r::l)=recB r.1 r.2.1 r.2.2++recsB l:=by simp [recsB]
theorem recsB_len {l:List RecD} (h:okRs l):5*l.length≤(recsB l).length∧(recsB l).length≤419*l.length:=by
 induction l with
 | nil=>simp [recsB]
 | cons r l ih =>
  have h1:=recB_ok (h r (by simp))
  have h2:=ih (fun x hx=>h x (by simp [hx]))
  rw [recsB_cons,List.length_append,List.length_cons];omega
theorem take_succ_getD {α:Type} {l:List α} {i:Nat} (hi:i<l.length) (d:α):l.take (i+1)=l.take i++[l.getD i d]:=by
 rw [List.take_add_one,List.getElem?_eq_getElem hi];simp [List.getD_eq_getElem?_getD,hi]
theorem recsB_app (l m:List RecD):recsB (l++m)=recsB l++recsB m:=by simp [recsB]
theorem recsB_one (r:RecD):recsB [r]=recB r.1 r.2.1 r.2.2:=by simp [recsB]
theorem sameOps_self {l:Lq1} (h:l.length≤1048576):q_lsameOps l l=true∧lsameOps l l=true:=by
 have hn:(((l.length:Nat):Int) != ((l.length:Nat):Int))=false:=by simp
 have key:(it_lsameOps_0 l l 0).1=1:=by
  refine itX_inv (fun v:V_lsameOps_0=>∃ i:Nat,v=(l,l,(i:Int))∧i≤l.length) (fun a:A_lsameOps_0=>a.1=1) (fun v=>l.length - v.2.2.toNat) ?_ ⟨0,rfl,Nat.zero_le _⟩ (by simp;omega)
  rintro v ⟨i,rfl,hi⟩
  by_cases hlt:i<l.length
  ·have e1:decide ((i:Int)<((l.length:Nat):Int))=true:=decide_eq_true (by omega)
   have e2:decide (0≤(i:Int)∧(i:Int)<((l.length:Nat):Int))=true:=decide_eq_true (by omega)
   have e3:∀ x:Int,(x==x)=true:=fun x=>by simp
   have e4:∀ x:List UInt8,(x==x)=true:=fun x=>by simp
   simp only [ss_lsameOps_0,e1,e2,e3,e4,Int.toNat_natCast,cond_true,cond_false,Bool.true_and,Bool.not_true,wrapU i (by omega)]
   exact .inl ⟨_,rfl,⟨i+1,rfl,by omega⟩,by simp only [Int.toNat_natCast];omega⟩
  ·have e1:decide ((i:Int)<((l.length:Nat):Int))=false:=decide_eq_false (by omega)
   simp only [ss_lsameOps_0,e1,cond_false]
   exact .inr ⟨_,rfl,rfl⟩
 simp only [q_lsameOps,lsameOps,hn,key,cond_false]
 exact ⟨rfl,rfl⟩
/-- What reading all records leaves. -/
noncomputable def RdOk (b:List Int) (rs:List RecD) (p:Nat):Prop:=okRs rs∧p≤b.length∧b.take p=recsB rs∧∀ (r:RecD) (post:List Int),sRecOk r.1 r.2.1 r.2.2=true→b.drop p ≠ recB r.1 r.2.1 r.2.2++post
theorem recsB_ok {l:List RecD} (h:okRs l):okB (recsB l):=by
 induction l with
 | nil=>intro c hc;simp [recsB] at hc
 | cons r l ih=>rw [recsB_cons];exact (recB_ok (h r (by simp))).1.app (ih fun x hx=>h x (by simp [hx]))
/-- A number out of bytes: its value and how many bytes it takes. -/
noncomputable def pN:Nat→Nat→Nat→List Int→Option (Nat×Nat)
 | 0,_,_,_=>none
 | _+1,_,_,[]=>none
 | f+1,k,n,c::r =>
  if c > 127 then pN f (k+1) (n+c.toNat % 128*2 ^ (7*k)) r
  else if (0<k∧c=0)∨n+c.toNat*2 ^ (7*k) > 1000000000 then none else some (n+c.toNat*2 ^ (7*k),k+1)
/-- A number at a place: its value, the place behind, whether there is one. -/
noncomputable def gN (b:List Int) (at':Int):Int×Int×Bool :=
 if 0≤at'∧at'<b.length then (match pN 5 0 0 (b.drop at'.toNat) with
  | some (n,l)=>((n:Int),at'+l,true)
  | none=>(0,0,false)) else (0,0,false)
theorem pN_hiB:∀ (j k n x:Nat) (post:List Int),x<128 ^ (j+1)→(0<k→0<x)→n+x*2 ^ (7*k)≤1000000000→pN (j+1) k n (hiB j x++post)=some (n+x*2 ^ (7*k),k+(hiB j x).length):=by
 intro j
 induction j with
 | zero =>
  intro k n x post h1 h2 h3
  have hx:¬ 127<x:=by simp at h1;omega
  rw [hiB_stop 0 x hx]
  simp only [List.cons_append,List.nil_append,pN,List.length_singleton,Int.toNat_natCast]
  rw [if_neg (by omega),if_neg (by omega)]
 | succ j ih =>
  intro k n x post h1 h2 h3
  by_cases hx:127<x
  ·have hb : x < 9223372036854775808 := by
    have:x*1≤x*2 ^ (7*k):=Nat.mul_le_mul_left _ (Nat.pow_pos (by decide))
    omega
   rw [hiB_step j x hx hb]
   have hx':x / 128<128 ^ (j+1):=Nat.div_lt_of_lt_mul (by rw [Nat.pow_succ] at h1;rw [Nat.mul_comm];exact h1)
   have e:n+x % 128*2 ^ (7*k)+x / 128*2 ^ (7*(k+1))=n+x*2 ^ (7*k):=by
    rw [show 7*(k+1)=7*k+7 by omega,Nat.pow_add]
    have:=Nat.div_add_mod x 128
    have h4:x*2 ^ (7*k)=(128*(x / 128)+x % 128)*2 ^ (7*k):=by rw [this]
    rw [h4,Nat.add_mul,show (2:Nat) ^ 7=128 from rfl,Nat.mul_comm 128 (x / 128),Nat.mul_assoc,Nat.mul_comm 128 (2 ^ (7*k)),← Nat.mul_assoc]
    omega
   have:=ih (k+1) (n+x % 128*2 ^ (7*k)) (x / 128) post hx' (fun _=>by omega) (by rw [e];exact h3)
   simp only [List.cons_append,pN]
   rw [if_pos (by omega)]
   have e2:(((128+x % 128:Nat):Int).toNat % 128)=x % 128:=by omega
   rw [e2,this,e]
   simp only [List.length_cons]
   congr 2;omega
  ·rw [hiB_stop _ x hx]
   simp only [List.cons_append,List.nil_append,pN,List.length_singleton,Int.toNat_natCast]
   rw [if_neg (by omega),if_neg (by omega)]
theorem pN_num {n:Int} (h0:0≤n) (h1:n≤1000000000) (post:List Int):pN 5 0 0 (numB n++post)=some (n.toNat,(numB n).length):=by
 obtain ⟨x,rfl⟩:=Int.eq_ofNat_of_zero_le h0
 rw [numB_hi,pN_hiB 4 0 0 x post (by simp;omega) (by omega) (by simp;omega)]
 simp
theorem gN_num {n:Int} (h0:0≤n) (h1:n≤1000000000) (pre post:List Int):gN (pre++(numB n++post)) (pre.length:Int)=(n,(pre.length:Int)+(numB n).length,true):=by
 have hl:1≤(numB n).length:=by simp [numB]
 simp only [gN]
 rw [if_pos (by simp only [List.length_append];omega),Int.toNat_natCast,List.drop_left,pN_num h0 h1]
 show ((n.toNat:Int),_,_)=_
 rw [Int.toNat_of_nonneg h0]
/-- The frame of a record that is right. -/
theorem recHead {k t:Int} {l:Lq1} (h:sRecOk k t l=true) {b pre post:List Int} (e:b=pre++(recB k t l++post)) :
  gN b (pre.length:Int)=(((recBody k t l).length:Int),(pre.length:Int)+((numB ((recBody k t l).length:Int)).length:Int),true) ∧
  gN (recBody k t l) 0=(k,((numB k).length:Int),true)∧gN (recBody k t l) ((numB k).length:Int)=(t,((numB k++numB t).length:Int),true) ∧
  b.length=pre.length+(numB ((recBody k t l).length:Int)).length+(recBody k t l).length+4+post.length:=by
 obtain ⟨a1,a2,a3,a4,a7,a8,ho⟩:=recOk_is h
 obtain ⟨b1,b2,b3⟩:=recBody_ok h
 obtain ⟨_,_,d5,d6⟩:=idig_ok (recBody k t l) (by omega)
 have h1:=gN_num (n:=((recBody k t l).length:Int)) (by omega) (by omega) pre ((recBody k t l++digB4 (recBody k t l))++post)
 have h2:=gN_num (n:=k) (by omega) (by omega) [] (numB t++cond (k==1) (opsB l) [])
 have h3:=gN_num (n:=t) (by omega) (by omega) (numB k) (cond (k==1) (opsB l) [])
 have e':b=pre++(numB ((recBody k t l).length:Int)++((recBody k t l++digB4 (recBody k t l))++post)):=by rw [e,recB,List.append_assoc]
 rw [← e'] at h1
 refine ⟨h1,?_,?_,?_⟩
 ·simpa [recBody] using h2
 ·rw [List.length_append,Int.natCast_add];exact h3
 ·rw [e'];simp only [List.length_append,d5];omega
theorem cutL {b x y z:List Int} {i j:Int} (e:b=x++(y++z)) (hi:i=(x.length:Int)) (hj:j=(x.length:Int)+(y.length:Int)):(b.take j.toNat).drop i.toNat=y:=by
 rw [e,← List.append_assoc,List.take_left' (by rw [List.length_append];omega),List.drop_left' (by omega)]
theorem recCuts {k t:Int} {l:Lq1} (h:sRecOk k t l=true) {b pre post:List Int} (e:b=pre++(recB k t l++post)) (hl:b.length≤1048576) :
  (b.take ((pre.length:Int)+((numB ((recBody k t l).length:Int)).length:Int)+((recBody k t l).length:Int)).toNat).drop ((pre.length:Int)+((numB ((recBody k t l).length:Int)).length:Int)).toNat=recBody k t l ∧
  (b.take ((pre.length:Int)+((numB ((recBody k t l).length:Int)).length:Int)+((recBody k t l).length:Int)+4).toNat).drop ((pre.length:Int)+((numB ((recBody k t l).length:Int)).length:Int)+((recBody k t l).length:Int)).toNat=digB4 (recBody k t l) ∧
  (b.take ((pre.length:Int)+((numB ((recBody k t l).length:Int)).length:Int)+((recBody k t l).length:Int)+4).toNat).drop (pre.length:Int).toNat=recB k t l:=by
 obtain ⟨b1,b2,b3⟩:=recBody_ok h
 obtain ⟨_,_,d5,d6⟩:=idig_ok (recBody k t l) (by omega)
 refine ⟨cutL (x:=pre++numB ((recBody k t l).length:Int)) (z:=digB4 (recBody k t l)++post) ?_ ?_ ?_,cutL (x:=pre++(numB ((recBody k t l).length:Int)++recBody k t l)) (z:=post) ?_ ?_ ?_,cutL (x:=pre) (z:=post) e rfl ?_⟩
 ·rw [e,recB];simp only [List.append_assoc]
 ·rw [List.length_append,Int.natCast_add]
 ·rw [List.length_append,Int.natCast_add]
 ·rw [e,recB];simp only [List.append_assoc]
 ·simp only [List.length_append,Int.natCast_add];omega
 ·simp only [List.length_append,Int.natCast_add,d5];omega
 ·simp only [recB,List.length_append,Int.natCast_add,d5];omega
theorem wrapU64 {n:Int} (h1:0≤n) (h2:n<18446744073709551616):IntKind.wrap .u64 n=n:=by
 show (if (false&&decide (n % (2 ^ 64:Int) ≥ (2 ^ 63:Int)))=true then n % (2 ^ 64:Int) - (2 ^ 64:Int) else n % (2 ^ 64:Int))=n
 simp only [Bool.false_and,Bool.false_eq_true,if_false];omega
theorem drop_cons {b:List Int} {i:Nat} (h:i<b.length):b.drop i=b.getD i 0::b.drop (i+1):=by
 rw [List.drop_eq_getElem_cons h];simp [List.getD_eq_getElem?_getD,h]
theorem shl7 (c k:Nat) (hc:c≤255) (hk:k<5):IntKind.wrap .i64 ((iand .i64 (IntKind.wrap .i64 (c:Int)) (127:Int))*2 ^ (min (Int.toNat (IntKind.wrap .u64 (IntKind.wrap .i64 ((7:Int)*(k:Int))))) (IntKind.bits .i64)))=((c % 128*2 ^ (7*k):Nat):Int):=by
 rw [wrap64 (n:=(c:Int)) (by omega) (by omega),iand127 c (by omega),wrap64 (n:=(7:Int)*(k:Int)) (by omega) (by omega),wrapU64 (by omega) (by omega)]
 have e:Int.toNat ((7:Int)*(k:Int))=7*k:=by omega
 have e2:min (7*k) (IntKind.bits .i64)=7*k:=Nat.min_eq_left (by show 7*k≤64;omega)
 rw [e,e2]
 have h1:c % 128*2 ^ (7*k)≤128*2 ^ 28:=Nat.mul_le_mul (by omega) (Nat.pow_le_pow_right (by decide) (by omega))
 have h2:(128:Nat)*2 ^ 28=34359738368:=by decide
 have e3:((c % 128:Nat):Int)*2 ^ (7*k)=((c % 128*2 ^ (7*k):Nat):Int):=by simp
 rw [e3]
 exact wrap64 (by omega) (by omega)
theorem acc7 (n c k:Nat) (hc:c≤255) (hk:k<5) (hn:n<2 ^ (7*k)):ior .i64 (n:Int) (IntKind.wrap .i64 ((iand .i64 (IntKind.wrap .i64 (c:Int)) (127:Int))*2 ^ (min (Int.toNat (IntKind.wrap .u64 (IntKind.wrap .i64 ((7:Int)*(k:Int))))) (IntKind.bits .i64))))=((n+c % 128*2 ^ (7*k):Nat):Int)∧n+c % 128*2 ^ (7*k)<2 ^ (7*(k+1))∧n+c % 128*2 ^ (7*k)<9223372036854775808:=by
 have h3:n+c % 128*2 ^ (7*k)<2 ^ (7*(k+1)):=by
  rw [show 7*(k+1)=7*k+7 by omega,Nat.pow_add,show (2:Nat) ^ 7=128 from rfl]
  have:c % 128*2 ^ (7*k)≤127*2 ^ (7*k):=Nat.mul_le_mul_right _ (by omega)
  omega
 have h4:(2:Nat) ^ (7*(k+1))≤2 ^ 35:=Nat.pow_le_pow_right (by decide) (by omega)
 have h5:(2:Nat) ^ 35=34359738368:=by decide
 refine ⟨?_,h3,by omega⟩
 rw [shl7 c k hc hk]
 exact iorAdd n (c % 128) (7*k) hn (by omega)
theorem okB.getD {b:List Int} (h:okB b) (i:Nat):0≤b.getD i 0∧b.getD i 0≤255:=by
 rw [List.getD_eq_getElem?_getD]
 cases e:b[i]? with
 | none=>simp
 | some c=>exact h c (List.mem_of_getElem? e)
theorem okB.drop {b:List Int} (h:okB b) (i:Nat):okB (b.drop i):=fun c hc=>h c (List.mem_of_mem_drop hc)
theorem iGetNum_it {b:List Int} (hb:okB b) (hl:b.length≤1099511627776) {i:Nat} (hi:i<b.length) :
    (match pN 5 0 0 (b.drop i) with
      | some (n,l)=>it_iGetNum_0 b (i:Int) 0 0=(0,(n:Int),(i:Int)+l,true)
      | none=>it_iGetNum_0 b (i:Int) 0 0=(0,0,0,false)∨(it_iGetNum_0 b (i:Int) 0 0).1=1):=by
  refine itX_inv (fun v => ∃ k n : Nat, v = (b, ((i + k : Nat) : Int), (n : Int), (k : Int)) ∧ k ≤ 5 ∧ n < 2 ^ (7 * k) ∧ pN (5 - k) k n (b.drop (i + k)) = pN 5 0 0 (b.drop i)) (fun a => match pN 5 0 0 (b.drop i) with
      | some (n,l)=>a=(0,(n:Int),(i:Int)+l,true)
      | none=>a=(0,0,0,false)∨a.1=1) (fun v=>5 - v.2.2.2.toNat) ?_ ⟨0,0,rfl,by omega,by simp,rfl⟩ (by simp)
  rintro v ⟨k,n,rfl,hk,hn,hp⟩
  by_cases h5:k<5
  · have e1:decide ((k:Int)<5)=true:=decide_eq_true (by omega)
    by_cases hik:i+k<b.length
    · have e5:decide (((i+k:Nat):Int)<((b.length:Nat):Int))=true:=decide_eq_true (by omega)
      have e6:decide (0≤((i+k:Nat):Int)∧((i+k:Nat):Int)<((b.length:Nat):Int))=true:=decide_eq_true (by omega)
      have e7:decide (0≤(IntKind.wrap .u64 (IntKind.wrap .i64 ((7:Int)*(k:Int)))))=true:=by
        rw [wrap64 (n:=(7:Int)*(k:Int)) (by omega) (by omega),wrapU64 (by omega) (by omega)];exact decide_eq_true (by omega)
      obtain ⟨hc0,hc1⟩:=hb.getD (i+k)
      have hdc:=drop_cons hik
      obtain ⟨c,hc⟩:=Int.eq_ofNat_of_zero_le hc0
      rw [hc] at hc1 hdc
      have hc255:c≤255:=by omega
      obtain ⟨f1,f2,f3⟩:=acc7 n c k hc255 h5 hn
      have e8:IntKind.wrap .i64 (c:Int)=(c:Int):=wrap64 (by omega) (by omega)
      have e13:IntKind.wrap .i64 (((i+k:Nat):Int)+1)=((i+k+1:Nat):Int):=wrapU (i+k) (by omega)
      rw [hdc,show 5 - k=(4 - k)+1 by omega,pN] at hp
      simp only [Int.toNat_natCast] at hp
      simp only [ss_iGetNum_0,e1,e5,e6,e7,cond_true,Int.toNat_natCast,hc,f1,e13]
      simp only [e8]
      by_cases h127:c > 127
      · rw [if_pos (by omega)] at hp
        have e9:decide ((c:Int)<128)=false:=decide_eq_false (by omega)
        simp only [e9,cond_false]
        refine .inl ⟨_,rfl,⟨k+1,n+c % 128*2 ^ (7*k),?_,by omega,f2,?_⟩,?_⟩
        · rw [wrapU k (by omega)];rfl
        · rw [show 5 - (k+1)=4 - k by omega,← hp];rfl
        · rw [wrapU k (by omega)];simp;omega
      · rw [if_neg (by omega)] at hp
        have e9:decide ((c:Int)<128)=true:=decide_eq_true (by omega)
        have hcm:c % 128=c:=by omega
        rw [hcm] at f3 ⊢
        simp only [e9,cond_true]
        right
        by_cases hz:0<k∧c=0
        · rw [if_pos (by omega)] at hp
          have e10:decide ((k:Int) > 0)=true:=decide_eq_true (by omega)
          have e11:((c:Int)==0)=true:=by rw [beq_iff_eq];omega
          simp only [e10,e11,cond_true]
          exact ⟨_,rfl,by rw [← hp];exact .inl rfl⟩
        · by_cases hg:n+c*2 ^ (7*k) > 1000000000
          · rw [if_pos (.inr hg)] at hp
            have e12:decide (((n+c*2 ^ (7*k):Nat):Int) > 1000000000)=true:=decide_eq_true (by omega)
            simp only [e12,cond_true]
            refine ⟨(0,0,0,false),?_,by rw [← hp];exact .inl rfl⟩
            cases decide ((k:Int) > 0)<;>cases ((c:Int)==0)<;>rfl
          · rw [if_neg (fun h=>h.elim (fun h=>hz ⟨h.1,by omega⟩) hg)] at hp
            have e12:decide (((n+c*2 ^ (7*k):Nat):Int) > 1000000000)=false:=decide_eq_false (by omega)
            simp only [e12,cond_false]
            refine ⟨(0,((n+c*2 ^ (7*k):Nat):Int),((i+k+1:Nat):Int),true),?_,?_⟩
            · by_cases h0:0<k
              · have e10:decide ((k:Int) > 0)=true:=decide_eq_true (by omega)
                have e11:((c:Int)==0)=false:=by rw [beq_eq_false_iff_ne];intro h;exact hz ⟨h0,by omega⟩
                simp only [e10,e11,cond_true,cond_false]
              · have e10:decide ((k:Int) > 0)=false:=decide_eq_false (by omega)
                simp only [e10,cond_false]
                cases ((c:Int)==0)<;>rfl
            · rw [← hp];show _=_
              congr 3
    · have e5:decide (((i+k:Nat):Int)<((b.length:Nat):Int))=false:=decide_eq_false (by omega)
      rw [show 5 - k=(4 - k)+1 by omega,List.drop_eq_nil_of_le (by omega),pN] at hp
      simp only [ss_iGetNum_0,e1,e5,cond_true,cond_false]
      exact .inr ⟨_,rfl,by rw [← hp];exact .inr rfl⟩
  · obtain rfl:k=5:=by omega
    have e1:decide (((5:Nat):Int)<5)=false:=by decide
    simp only [ss_iGetNum_0,e1,cond_false]
    exact .inr ⟨_,rfl,by rw [← hp];exact .inr rfl⟩
theorem iGetNum_spec {b:List Int} (hb:okB b) (hl:b.length≤1099511627776) (a:Int):iGetNum b a=gN b a∧q_iGetNum b a=true:=by
 have hw:IntKind.wrap .i64 (((b.length:Nat):Int) - 1)=((b.length:Nat):Int) - 1:=wrap64 (by omega) (by omega)
 simp only [iGetNum,q_iGetNum,gN,iinRange,hw]
 by_cases h:0≤a∧a<b.length
 ·obtain ⟨i,rfl⟩:=Int.eq_ofNat_of_zero_le h.1
  have hi:i<b.length:=by omega
  have e1:decide ((i:Int) ≥ 0)=true:=decide_eq_true (by omega)
  have e2:decide ((i:Int)≤((b.length:Nat):Int) - 1)=true:=decide_eq_true (by omega)
  rw [if_pos h,Int.toNat_natCast]
  simp only [e1,e2,cond_true,Bool.not_true,cond_false]
  have:=iGetNum_it hb hl hi
  cases hp:pN 5 0 0 (b.drop i) with
  | some x =>
   rw [hp] at this
   simp only at this
   rw [this];exact ⟨rfl,rfl⟩
  | none =>
   rw [hp] at this
   rcases this with h1 | h1
   ·rw [h1];exact ⟨rfl,rfl⟩
   ·rw [h1];exact ⟨rfl,rfl⟩
 ·rw [if_neg h]
  have e:cond (decide (a ≥ 0)) (decide (a≤((b.length:Nat):Int) - 1)) false=false:=by
   by_cases h1:a ≥ 0
   ·rw [decide_eq_true h1,cond_true,decide_eq_false (by omega)]
   ·rw [decide_eq_false h1,cond_false]
  rw [e];exact ⟨rfl,rfl⟩
theorem wraps4 {len p n:Int} (hl:0≤len∧len≤1048576) (hp:0≤p∧p≤len) (hn:0≤n∧n≤1000000000):IntKind.wrap .i64 (len - p)=len - p∧IntKind.wrap .i64 (len - p - 4)=len - p - 4∧IntKind.wrap .i64 (p+n)=p+n∧IntKind.wrap .i64 (p+n+4)=p+n+4 :=
 ⟨wrap64 (by omega) (by omega),wrap64 (by omega) (by omega),wrap64 (by omega) (by omega),wrap64 (by omega) (by omega)⟩
theorem igetter_num_spec {b:List Int} (hb:okB b) (hl:b.length≤1048576) (a:Int) (bad:Bool):q_igetter_num b a bad=true∧igetter_num b a bad=cond bad ((0:Int),b,a,true) (cond (gN b a).2.2 ((gN b a).1,b,(gN b a).2.1,false) ((0:Int),b,a,true)):=by
 obtain ⟨h1,h2⟩:=iGetNum_spec hb (by omega) a
 simp only [igetter_num,q_igetter_num,h1,h2]
 cases bad<;>cases (gN b a).2.2<;>simp
/-- Bytes as a text. -/
noncomputable def strB (l:List Int):ByteArray:=⟨(l.map fun n=>UInt8.ofNat n.toNat).toArray⟩
theorem strInts_strB {l:List Int} (h:okB l):strInts (strB l)=l:=by
 simp only [strB,strInts,List.map_map,List.toList_toArray]
 conv=>rhs;rw [← List.map_id l]
 apply List.map_congr_left
 intro n hn
 obtain ⟨h0,h1⟩:=h n hn
 simp only [Function.comp_apply,UInt8.toNat_ofNat', id_eq]
 omega
theorem bytesEqual_ok {a b:List Int} (ha:okB a) (hb:okB b):bytes_Equal a b=true↔a=b:=by
 have e:bytes_Equal a b=((strB a).toList==(strB b).toList):=rfl
 rw [e,beq_iff_eq]
 constructor
 ·intro h
  have h2:strB a=strB b:=by
   have h3:=congrArg (fun l=>(⟨l.toArray⟩:ByteArray)) h
   have k:∀ s:ByteArray,(⟨s.toList.toArray⟩:ByteArray)=s:=fun s=>by rw [ByteArray.toList_eq]
   simpa only [k] using h3
  rw [← strInts_strB ha,← strInts_strB hb,h2]
 ·rintro rfl;rfl
/-- A text at a place. -/
noncomputable def gT (b:List Int) (a:Int):ByteArray×Int×Bool :=
 if (gN b a).2.2=true∧(gN b a).1≤(b.length:Int) - (gN b a).2.1 then (strB ((b.drop (gN b a).2.1.toNat).take (gN b a).1.toNat),(gN b a).2.1+(gN b a).1,true) else (⟨#[]⟩,0,false)
/-- An op at a place. -/
noncomputable def gO (b:List Int) (p:Int):(Int×ByteArray×ByteArray)×Int×Bool :=
 (((gN b p).1,(gT b (gN b p).2.1).1,(gT b (gT b (gN b p).2.1).2.1).1),(gT b (gT b (gN b p).2.1).2.1).2.1,(gN b p).2.2&&((gT b (gN b p).2.1).2.2&&(gT b (gT b (gN b p).2.1).2.1).2.2))
/-- So many ops, one behind the other. -/
noncomputable def pO:Nat→List Int→Int→Lq1→Option (Lq1×Int)
 | 0,_,p,acc=>some (acc,p)
 | k+1,b,p,acc=>cond (gO b p).2.2 (pO k b (gO b p).2.1 (acc++[(gO b p).1])) none
/-- All ops by the getter. -/
noncomputable def gOpsI (b:List Int) (a:Int):Option (Lq1×Int) :=
 cond (gN b a).2.2 (cond (decide ((gN b a).1≤8)) (pO (gN b a).1.toNat b (gN b a).2.1 []) none) none
theorem pN_inv:∀ (j k n:Nat) (l:List Int) (m len:Nat),okB l→k+j≤4→pN (j+1) k n l=some (m,len) →
  ∃ (x:Nat) (post:List Int),l=hiB j x++post∧m=n+x*2 ^ (7*k)∧len=k+(hiB j x).length∧(0<k→0<x)∧x<128 ^ (j+1)∧m≤1000000000:=by
 intro j
 induction j with
 | zero =>
  intro k n l m len hb hk h
  cases l with
  | nil=>simp [pN] at h
  | cons c r =>
   obtain ⟨hc,_⟩:=hb c (by simp)
   obtain ⟨x,rfl⟩:=Int.eq_ofNat_of_zero_le hc
   simp only [pN,Int.toNat_natCast] at h
   split at h
   ·cases h
   ·split at h
    ·cases h
    ·simp only [Option.some.injEq,Prod.mk.injEq] at h
     obtain ⟨rfl,rfl⟩:=h
     exact ⟨x,r,by rw [hiB_stop 0 x (by omega)];rfl,rfl,by rw [hiB_stop 0 x (by omega)];rfl,by omega,by simp;omega,by omega⟩
 | succ j ih =>
  intro k n l m len hb hk h
  cases l with
  | nil=>simp [pN] at h
  | cons c r =>
   obtain ⟨hc,hc'⟩:=hb c (by simp)
   obtain ⟨y,rfl⟩:=Int.eq_ofNat_of_zero_le hc
   rw [pN] at h
   simp only [Int.toNat_natCast] at h
   split at h
   ·rename_i hgt
    obtain ⟨x,post,e1,e2,e3,e4,e5,e6⟩:=ih (k+1) (n+y % 128*2 ^ (7*k)) r m len (fun c hc=>hb c (by simp [hc])) (by omega) h
    have hx0:=e4 (by omega)
    have hxb:y % 128+128*x<128 ^ (j+1+1):=by rw [Nat.pow_succ];omega
    have hxs:y % 128+128*x<9223372036854775808:=by
     have:(128:Nat) ^ (j+1+1)≤128 ^ 5:=Nat.pow_le_pow_right (by decide) (by omega)
     have h5:(128:Nat) ^ 5=34359738368:=by decide
     omega
    have hst:=hiB_step j (y % 128+128*x) (by omega) hxs
    have q1:(y % 128+128*x) / 128=x:=by omega
    have q2:128+(y % 128+128*x) % 128=y:=by omega
    rw [q1,q2] at hst
    refine ⟨y % 128+128*x,post,by rw [hst,e1];rfl,?_,by rw [hst,e3];simp;omega,fun _=>by omega,hxb,e6⟩
    rw [e2,show 7*(k+1)=7*k+7 by omega,Nat.pow_add,show (2:Nat) ^ 7=128 from rfl,Nat.add_mul,Nat.mul_comm (2 ^ (7*k)) 128,← Nat.mul_assoc,Nat.mul_comm x 128]
    omega
   ·rename_i hgt
    split at h
    ·cases h
    ·simp only [Option.some.injEq,Prod.mk.injEq] at h
     obtain ⟨rfl,rfl⟩:=h
     refine ⟨y,r,by rw [hiB_stop _ y (by omega)];rfl,rfl,by rw [hiB_stop _ y (by omega)];rfl,by omega,?_,by omega⟩
     have:(128:Nat) ^ 1≤128 ^ (j+1+1):=Nat.pow_le_pow_right (by decide) (by omega)
     omega
theorem pN_of {l:List Int} (hb:okB l) {m len:Nat} (h:pN 5 0 0 l=some (m,len)):∃ post,l=numB (m:Int)++post∧len=(numB (m:Int)).length∧m≤1000000000:=by
 obtain ⟨x,post,e1,e2,e3,e4,e5,e6⟩:=pN_inv 4 0 0 l m len hb (by omega) h
 have:x=m:=by simp at e2;omega
 subst this
 exact ⟨post,by rw [numB_hi];exact e1,by rw [numB_hi];omega,e6⟩
theorem okB.take {b:List Int} (h:okB b) (i:Nat):okB (b.take i):=fun c hc=>h c (List.mem_of_mem_take hc)
theorem gN_of {b:List Int} (hb:okB b) {a n p:Int} (h:gN b a=(n,p,true)):∃ pre post,b=pre++(numB n++post)∧a=pre.length∧p=a+(numB n).length∧0≤n∧n≤1000000000:=by
 simp only [gN] at h
 split at h
 ·rename_i hc
  split at h
  ·rename_i m l hp
   simp only [Prod.mk.injEq] at h
   obtain ⟨rfl,rfl,_⟩:=h
   obtain ⟨post,e1,e2,e3⟩:=pN_of (hb.drop _) hp
   refine ⟨b.take a.toNat,post,?_,by rw [List.length_take];omega,by rw [e2],by omega,by omega⟩
   rw [← e1,List.take_append_drop]
  ·cases h
 ·cases h
theorem gN_range {b:List Int} (hb:okB b) {a:Int} (h:(gN b a).2.2=true):0≤a∧a<(gN b a).2.1∧(gN b a).2.1≤b.length∧0≤(gN b a).1∧(gN b a).1≤1000000000:=by
 obtain ⟨pre,post,e1,e2,e3,e4,e5⟩:=gN_of hb (a:=a) (n:=(gN b a).1) (p:=(gN b a).2.1) (by rw [← h])
 have hlen:=congrArg List.length e1
 simp only [List.length_append] at hlen
 have:1≤(numB (gN b a).1).length:=by simp [numB]
 omega
/-- The two ways a text is read. -/
theorem gT_eq {b:List Int} (hb:okB b) (hl:b.length≤1099511627776) (a:Int) :
  gT b a=(cond (!((gN b a).2.2)) ((⟨#[]⟩:ByteArray),(0:Int),false) (cond (decide (((gN b a).1) > (IntKind.wrap .i64 (((b.length:Nat):Int) - ((gN b a).2.1))))) ((⟨#[]⟩:ByteArray),(0:Int),false) ((⟨(((b.take (IntKind.wrap .i64 (((gN b a).2.1)+((gN b a).1))).toNat).drop ((gN b a).2.1).toNat).map fun n=>UInt8.ofNat n.toNat).toArray⟩:ByteArray),IntKind.wrap .i64 (((gN b a).2.1)+((gN b a).1)),true))) ∧
  (cond (!((gN b a).2.2)) true (cond (decide (((gN b a).1) > (IntKind.wrap .i64 (((b.length:Nat):Int) - ((gN b a).2.1))))) true (decide (0≤((gN b a).2.1)∧((gN b a).2.1)≤(IntKind.wrap .i64 (((gN b a).2.1)+((gN b a).1)))∧(IntKind.wrap .i64 (((gN b a).2.1)+((gN b a).1)))≤((b.length:Nat):Int)))))=true:=by
 cases h:(gN b a).2.2 with
 | false=>simp only [gT,h,Bool.not_false,cond_true];exact ⟨by rw [if_neg (by simp)],trivial⟩
 | true =>
  obtain ⟨r1,r2,r3,r4,r5⟩:=gN_range hb h
  have w1:IntKind.wrap .i64 (((b.length:Nat):Int) - ((gN b a).2.1))=((b.length:Nat):Int) - (gN b a).2.1:=wrap64 (by omega) (by omega)
  have w2:IntKind.wrap .i64 (((gN b a).2.1)+((gN b a).1))=(gN b a).2.1+(gN b a).1:=wrap64 (by omega) (by omega)
  simp only [gT,h,Bool.not_true,cond_false,w1,w2]
  by_cases hc:(gN b a).1≤(b.length:Int) - (gN b a).2.1
  ·rw [if_pos ⟨trivial,hc⟩,decide_eq_false (by omega),cond_false,cond_false]
   refine ⟨?_,decide_eq_true (by omega)⟩
   simp only [strB]
   congr 4
   have:((gN b a).2.1+(gN b a).1).toNat=(gN b a).2.1.toNat+(gN b a).1.toNat:=by omega
   rw [this,List.take_drop]
  ·rw [if_neg (fun h=>hc h.2),decide_eq_true (by omega),cond_true,cond_true]
   exact ⟨rfl,rfl⟩
theorem iGetText_spec {b:List Int} (hb:okB b) (hl:b.length≤1099511627776) (a:Int):iGetText b a=gT b a∧q_iGetText b a=true:=by
 obtain ⟨h1,h2⟩:=iGetNum_spec hb hl a
 obtain ⟨h3,h4⟩:=gT_eq hb hl a
 rw [h3]
 simp only [iGetText,q_iGetText,h1,h2,Bool.true_and]
 exact ⟨trivial,h4⟩
theorem igetter_text_spec {b:List Int} (hb:okB b) (hl:b.length≤1048576) (a:Int) (bad:Bool):q_igetter_text b a bad=true∧igetter_text b a bad=cond bad ((⟨#[]⟩:ByteArray),b,a,true) (cond (gT b a).2.2 ((gT b a).1,b,(gT b a).2.1,false) ((⟨#[]⟩:ByteArray),b,a,true)):=by
 obtain ⟨h1,h2⟩:=iGetText_spec hb (by omega) a
 simp only [igetter_text,q_igetter_text,h1,h2]
 cases bad<;>cases (gT b a).2.2<;>simp
theorem strB_size (l:List Int):(strB l).size=l.length:=by simp [strB,ByteArray.size]
theorem gT_size {b:List Int} (hb:okB b) (a:Int):(gT b a).1.size≤b.length:=by
 simp only [gT]
 split
 ·rw [strB_size,List.length_take,List.length_drop];omega
 ·exact Nat.zero_le _
/-- One op by the getter. -/
theorem igetter_one {b:List Int} (hb:okB b) (hl:b.length≤1048576) (a:Int) (bad:Bool) :
  q_igetter_num b a bad=true∧q_igetter_text (igetter_num b a bad).2.1 (igetter_num b a bad).2.2.1 (igetter_num b a bad).2.2.2=true ∧
  q_igetter_text (k1_igetter_ops b a bad).2.1 (k1_igetter_ops b a bad).2.2.1 (k1_igetter_ops b a bad).2.2.2=true ∧
  (k2_igetter_ops b a bad).2.1=b∧(k1_igetter_ops b a bad).1.size≤b.length∧(k2_igetter_ops b a bad).1.size≤b.length ∧
  (bad=true→(k2_igetter_ops b a bad).2.2.2=true) ∧
  (bad=false→(k2_igetter_ops b a bad).2.2.2=!(gO b a).2.2) ∧
  (bad=false→(gO b a).2.2=true→(k2_igetter_ops b a bad).2.2.1=(gO b a).2.1∧((igetter_num b a bad).1,(k1_igetter_ops b a bad).1,(k2_igetter_ops b a bad).1)=(gO b a).1):=by
 obtain ⟨n1,n2⟩:=igetter_num_spec hb hl a bad
 have nb:(igetter_num b a bad).2.1=b:=by rw [n2];cases bad<;>cases (gN b a).2.2<;>rfl
 have t:=fun (x:Int) (y:Bool)=>igetter_text_spec hb hl x y
 have tb:∀ x y,(igetter_text b x y).2.1=b:=fun x y=>by rw [(t x y).2];cases y<;>cases (gT b x).2.2<;>rfl
 have ts:∀ x y,(igetter_text b x y).1.size≤b.length:=fun x y=>by
  rw [(t x y).2]
  cases y with
  | true=>exact Nat.zero_le _
  | false=>cases (gT b x).2.2 with
   | true=>exact gT_size hb x
   | false=>exact Nat.zero_le _
 refine ⟨n1,by rw [nb];exact (t _ _).1,?_,?_,?_,?_,?_,?_,?_⟩
 ·simp only [k1_igetter_ops,nb,tb];exact (t _ _).1
 ·simp only [k2_igetter_ops,k1_igetter_ops,nb,tb]
 ·simp only [k1_igetter_ops,nb];exact ts _ _
 ·simp only [k2_igetter_ops,k1_igetter_ops,nb,tb];exact ts _ _
 ·rintro rfl
  simp only [k2_igetter_ops,k1_igetter_ops,nb,tb]
  simp only [n2,t,cond_true]
 ·rintro rfl
  simp only [k2_igetter_ops,k1_igetter_ops,nb,tb]
  simp only [n2,cond_false,gO]
  cases h1:(gN b a).2.2 with
  | false=>simp only [cond_false,t,cond_true];rfl
  | true =>
   simp only [cond_true,t,cond_false]
   cases h2:(gT b (gN b a).2.1).2.2 with
   | false=>simp only [cond_false,cond_true];rfl
   | true =>
    simp only [cond_true,cond_false]
    cases h3:(gT b (gT b (gN b a).2.1).2.1).2.2<;>rfl
 ·rintro rfl hc
  simp only [k2_igetter_ops,k1_igetter_ops,nb,tb]
  simp only [gO,Bool.and_eq_true] at hc ⊢
  obtain ⟨h1,h2,h3⟩:=hc
  simp only [n2,cond_false,h1,cond_true,t,h2,h3]
  exact ⟨trivial,trivial⟩
theorem igetter_ops_it {b:List Int} (hb:okB b) (hl:b.length≤1048576) (n p:Int) (bad:Bool) (hn:n≤8) (h0:0≤n) :
    (it_igetter_ops_0 n 0 b p bad []).1=0∧(it_igetter_ops_0 n 0 b p bad []).2.1=b∧okOps (it_igetter_ops_0 n 0 b p bad []).2.2.2.2=true∧(match cond bad none (pO n.toNat b p []) with
      | some (l,q)=>it_igetter_ops_0 n 0 b p bad []=(0,b,q,false,l)
      | none=>(it_igetter_ops_0 n 0 b p bad []).2.2.2.1=true):=by
  refine itX_inv (fun v : V_igetter_ops_0 => ∃ (i : Nat) (p' : Int) (bd : Bool) (l : Lq1), v = (n, (i : Int), b, p', bd, l) ∧ (i : Int) ≤ n ∧ l.length = i ∧ okOps l = true ∧ cond bd none (pO (n.toNat - i) b p' l) = cond bad none (pO n.toNat b p [])) (fun a : A_igetter_ops_0 => a.1 = 0 ∧ a.2.1 = b ∧ okOps a.2.2.2.2 = true ∧ (match cond bad none (pO n.toNat b p []) with
      | some (l,q)=>a=(0,b,q,false,l)
      | none=>a.2.2.2.1=true)) (fun v=>8 - v.2.1.toNat) ?_ ⟨0,p,bad,[],rfl,h0,rfl,rfl,rfl⟩ (by simp)
  rintro v ⟨i,p', bd,l,rfl,hi,hll,hok,hp⟩
  by_cases h5:(i:Int)<n
  · have e1:decide ((i:Int)<n)=true:=decide_eq_true h5
    obtain ⟨q1,q2,q3,q4,q5,q6,q7,q8,q9⟩:=igetter_one hb hl p' bd
    have e2:∀ o:Int×ByteArray×ByteArray,decide ((l.length+[o].length)*40≤MAXB)=true:=fun o=>decide_eq_true (by simp only [List.length_singleton,MAXB];omega)
    simp only [ss_igetter_ops_0,e1,q1,q2,q3,q4,e2,cond_true]
    refine .inl ⟨_,rfl,⟨i+1,_,_,l++[((igetter_num b p' bd).1,(k1_igetter_ops b p' bd).1,(k2_igetter_ops b p' bd).1)],by rw [wrapU i (by omega)],by omega,by simp [hll],?_,?_⟩,?_⟩
    · simp only [okOps,okL,List.length_append,List.length_singleton,List.all_append,List.all_cons,List.all_nil,Bool.and_true,Bool.and_eq_true,decide_eq_true_eq] at hok ⊢
      exact ⟨by omega,hok.2,by simp only [okOp,okS,Bool.and_eq_true,decide_eq_true_eq];omega⟩
    · rw [← hp]
      cases bd with
      | true=>rw [q7 rfl];rfl
      | false =>
        rw [q8 rfl,show n.toNat - i=(n.toNat - (i+1))+1 by omega,pO]
        cases hc:(gO b p').2.2 with
        | false=>rfl
        | true =>
          obtain ⟨z1,z2⟩:=q9 rfl hc
          rw [z1,z2];rfl
    · rw [wrapU i (by omega)];simp;omega
  · have e1:decide ((i:Int)<n)=false:=decide_eq_false h5
    have e3:n.toNat - i=0:=by omega
    rw [e3,pO] at hp
    simp only [ss_igetter_ops_0,e1,cond_false]
    refine .inr ⟨_,rfl,rfl,rfl,hok,?_⟩
    rw [← hp]
    cases bd<;>rfl
theorem igetter_ops_spec {b:List Int} (hb:okB b) (hl:b.length≤1048576) (a:Int) (bad:Bool):q_igetter_ops b a bad=true∧(igetter_ops b a bad).1=b∧okOps (igetter_ops b a bad).2.2.2=true ∧
  (match cond bad none (gOpsI b a) with
   | some (l,q)=>igetter_ops b a bad=(b,q,false,l)
   | none=>(igetter_ops b a bad).2.2.1=true):=by
 obtain ⟨n1,n2⟩:=igetter_num_spec hb hl a bad
 have nb:(igetter_num b a bad).2.1=b:=by rw [n2];cases bad<;>cases (gN b a).2.2<;>rfl
 have nr:0≤(igetter_num b a bad).1:=by
  rw [n2]
  cases bad with
  | true=>exact Int.le_refl _
  | false=>cases h:(gN b a).2.2 with
   | true=>exact (gN_range hb h).2.2.2.1
   | false=>exact Int.le_refl _
 simp only [igetter_ops,q_igetter_ops,k3_igetter_ops,n1,nb,Bool.true_and]
 by_cases h8:(igetter_num b a bad).1≤8
 ·have e1:decide ((igetter_num b a bad).1 > 8)=false:=decide_eq_false (by omega)
  obtain ⟨i1,i2,i3,i4⟩:=igetter_ops_it hb hl (igetter_num b a bad).1 (igetter_num b a bad).2.2.1 (igetter_num b a bad).2.2.2 h8 nr
  simp only [e1,cond_false,i1,i2,i3]
  refine ⟨rfl,trivial,trivial,?_⟩
  revert i4
  rw [n2]
  cases bad with
  | true=>simp
  | false =>
   simp only [cond_false,gOpsI]
   cases h:(gN b a).2.2 with
   | false=>simp
   | true =>
    have h9:decide ((gN b a).1≤8)=true:=by rw [n2] at h8;simp only [cond_false,h,cond_true] at h8;exact decide_eq_true h8
    simp only [cond_true,h9,cond_false]
    cases pO (gN b a).1.toNat b (gN b a).2.1 [] with
    | none=>exact id
    | some x=>intro i4;simp only at i4 ⊢;rw [i4]
 ·have e1:decide ((igetter_num b a bad).1 > 8)=true:=decide_eq_true (by omega)
  simp only [e1,cond_true]
  refine ⟨trivial,trivial,rfl,?_⟩
  cases bad with
  | true=>simp
  | false =>
   simp only [cond_false,gOpsI]
   rw [n2] at h8
   cases h:(gN b a).2.2 with
   | false=>rw [h] at h8;simp at h8
   | true =>
    simp only [cond_false,h,cond_true] at h8
    simp only [cond_true,decide_eq_false h8,cond_false]
theorem strB_ints (s:ByteArray):strB (strInts s)=s:=by
 cases s with
 | mk a =>
  simp only [strB,strInts,List.map_map]
  congr 1
  apply Array.toList_inj.1
  simp only [List.toList_toArray]
  conv=>rhs;rw [← List.map_id a.toList]
  apply List.map_congr_left
  intro b _
  simp
theorem gT_text {s:ByteArray} (h:s.size≤1000000000) (pre post:List Int):gT (pre++(textB s++post)) (pre.length:Int)=(s,(pre.length:Int)+(textB s).length,true):=by
 have h1:=gN_num (n:=(s.size:Int)) (by omega) (by omega) pre (strInts s++post)
 have e:pre++(textB s++post)=pre++(numB (s.size:Int)++(strInts s++post)):=by simp only [textB,List.append_assoc]
 rw [e]
 simp only [gT,h1]
 have hs:=strInts_len s
 rw [if_pos ⟨trivial,by simp only [List.length_append];omega⟩]
 have e2:((pre.length:Int)+((numB (s.size:Int)).length:Int)).toNat=pre.length+(numB (s.size:Int)).length:=by omega
 rw [e2,Int.toNat_natCast,← List.append_assoc,← List.length_append,List.drop_left,List.take_left' hs,strB_ints]
 congr 2
 simp only [textB,List.length_append];omega
theorem gO_op {o:Int×ByteArray×ByteArray} (h:fitO o) (pre post:List Int):gO (pre++(opB o++post)) (pre.length:Int)=(o,(pre.length:Int)+(opB o).length,true):=by
 obtain ⟨h0,h1,h2,h3⟩:=h
 have e:opB o=numB o.1++(textB o.2.1++textB o.2.2):=by simp only [opB,clampN_of h0 h1]
 have q1:=gN_num h0 h1 pre (textB o.2.1++(textB o.2.2++post))
 have q2:=gT_text h2 (pre++numB o.1) (textB o.2.2++post)
 have q3:=gT_text h3 (pre++numB o.1++textB o.2.1) post
 have e1:pre++(opB o++post)=pre++(numB o.1++(textB o.2.1++(textB o.2.2++post))):=by simp only [e,List.append_assoc]
 have e2:pre++(opB o++post)=pre++numB o.1++(textB o.2.1++(textB o.2.2++post)):=by simp only [e,List.append_assoc]
 have e3:pre++(opB o++post)=pre++numB o.1++textB o.2.1++(textB o.2.2++post):=by simp only [e,List.append_assoc]
 rw [← e1] at q1;rw [← e2] at q2;rw [← e3] at q3
 have l1:((pre++numB o.1).length:Int)=(pre.length:Int)+(numB o.1).length:=by simp
 have l2:((pre++numB o.1++textB o.2.1).length:Int)=((pre++numB o.1).length:Int)+(textB o.2.1).length:=by simp;omega
 rw [l1] at q2;rw [l2,l1] at q3
 simp only [gO,q1,q2,q3,Bool.and_true]
 congr 2
 simp only [e,List.length_append];omega
theorem pO_ops:∀ (l:Lq1) (pre post:List Int) (acc:Lq1),(∀ o∈l,fitO o)→pO l.length (pre++((l.map opB).flatten++post)) (pre.length:Int) acc=some (acc++l,(pre.length:Int)+(l.map opB).flatten.length):=by
 intro l
 induction l with
 | nil=>intro pre post acc _;simp [pO]
 | cons o l ih =>
  intro pre post acc h
  have h1:=gO_op (h o (by simp)) pre ((l.map opB).flatten++post)
  have h2:=ih (pre++opB o) post (acc++[o]) (fun x hx=>h x (by simp [hx]))
  have e:pre++(((o::l).map opB).flatten++post)=pre++(opB o++((l.map opB).flatten++post)):=by simp
  have e2:pre++opB o++((l.map opB).flatten++post)=pre++(opB o++((l.map opB).flatten++post)):=by simp
  rw [e2,List.length_append,Int.natCast_add] at h2
  rw [e]
  simp only [List.length_cons,pO,h1,cond_true,h2]
  simp only [List.append_assoc,List.singleton_append,List.map_cons,List.flatten_cons,List.length_append,Int.natCast_add]
  congr 2;omega
theorem pO_put {l:Lq1} (h:sOpsOk l=true) (pre post:List Int):gN (pre++(opsB l++post)) (pre.length:Int)=((l.length:Int),((pre++numB (l.length:Int)).length:Int),true)∧pO l.length (pre++(opsB l++post)) ((pre++numB (l.length:Int)).length:Int) []=some (l,(((pre++opsB l).length:Nat):Int)):=by
 obtain ⟨a1,_⟩:=opsOk_small h
 have e:pre++(opsB l++post)=pre++(numB (l.length:Int)++((l.map opB).flatten++post)):=by simp only [opsB,List.append_assoc]
 have h1:=gN_num (n:=(l.length:Int)) (by omega) (by omega) pre ((l.map opB).flatten++post)
 have h2:=pO_ops l (pre++numB (l.length:Int)) post [] (opsOk_fit h)
 rw [List.append_assoc] at h2
 rw [e]
 refine ⟨?_,?_⟩
 ·rw [h1,List.length_append,Int.natCast_add]
 ·rw [h2];simp only [List.nil_append,opsB,List.length_append,Int.natCast_add];congr 2;omega
theorem iGetRec_put {k t:Int} {l:Lq1} (h:sRecOk k t l=true) {b pre post:List Int} (e:b=pre++(recB k t l++post)) (hb:okB b) (hl:b.length≤1048576):iGetRec b (pre.length:Int)=(k,t,((pre.length+(recB k t l).length:Nat):Int),true,l):=by
 obtain ⟨a1,a2,a3,a4,a7,a8,ho⟩:=recOk_is h
 obtain ⟨b1,b2,b3⟩:=recBody_ok h
 obtain ⟨_,d4,d5,d6⟩:=idig_ok (recBody k t l) (by omega)
 obtain ⟨n1,n2,n3,hlen⟩:=recHead h e
 obtain ⟨c1,c2,c3⟩:=recCuts h e hl
 have g1:=(iGetNum_spec hb (by omega) (pre.length:Int)).1
 have ln:=numB_len ((recBody k t l).length:Int)
 obtain ⟨w1,w2,w3,w4⟩:=wraps4 (len:=((b.length:Nat):Int)) (p:=(pre.length:Int)+((numB ((recBody k t l).length:Int)).length:Int)) (n:=((recBody k t l).length:Int)) ⟨by omega,by omega⟩ ⟨by omega,by omega⟩ ⟨by omega,by omega⟩
 have hd:decide (((recBody k t l).length:Int) > ((b.length:Nat):Int) - ((pre.length:Int)+((numB ((recBody k t l).length:Int)).length:Int)) - 4)=false:=decide_eq_false (by omega)
 have hend:(pre.length:Int)+((numB ((recBody k t l).length:Int)).length:Int)+((recBody k t l).length:Int)+4=((pre.length+(recB k t l).length:Nat):Int):=by simp only [recB,List.length_append,d5,Int.natCast_add];omega
 have gn:=fun a bad=>(igetter_num_spec b1 (by omega) a bad).2
 have hw:iRecOk k t l=true:=by rw [← recOk_same];exact h
 have he:bytes_Equal (iputRec k t l) (recB k t l)=true:=by rw [(iputRec_eq h).2];exact (bytesEqual_ok (recB_ok h).1 (recB_ok h).1).2 rfl
 simp only [iGetRec,k1_iGetRec,k2_iGetRec,k3_iGetRec,k4_iGetRec,k5_iGetRec,k6_iGetRec,k7_iGetRec,k8_iGetRec,g1,n1,w1,w2,w3,w4,hd,c1,c3,gn,n2,n3,Bool.not_true,cond_false,cond_true]
 cases hk:(k==1) with
 | true =>
  have hO:=a7 (eq_of_beq hk)
  have hlo:=(opsOk_small hO).1
  obtain ⟨_,_,_,o4⟩:=igetter_ops_spec b1 (by omega) ((numB k++numB t).length:Int) false
  have eb:recBody k t l=(numB k++numB t)++(opsB l++[]):=by simp only [recBody,hk,cond_true,List.append_assoc,List.append_nil]
  obtain ⟨p1,p2⟩:=pO_put hO (numB k++numB t) []
  rw [← eb] at p1 p2
  have e8:decide ((l.length:Int)≤8)=true:=decide_eq_true (by omega)
  simp only [cond_false,gOpsI,p1,cond_true,e8,Int.toNat_natCast,p2] at o4
  simp only [cond_true,o4,cond_false,hw,Bool.not_true,he,hend]
 | false =>
  have hl0:l=[]:=a8 (by simpa using hk)
  subst hl0
  simp only [cond_false,hw,Bool.not_true,he,hend]
theorem recB_inj {r r':RecD} {x y:List Int} (h:sRecOk r.1 r.2.1 r.2.2=true) (h':sRecOk r'.1 r'.2.1 r'.2.2=true) (e:recB r.1 r.2.1 r.2.2++x=recB r'.1 r'.2.1 r'.2.2++y) (hb:okB (recB r.1 r.2.1 r.2.2++x)) (hl:(recB r.1 r.2.1 r.2.2++x).length≤1048576):r=r'∧x=y:=by
 have g1:=iGetRec_put h (b:=recB r.1 r.2.1 r.2.2++x) (pre:=[]) (post:=x) rfl hb hl
 have g2:=iGetRec_put h' (b:=recB r.1 r.2.1 r.2.2++x) (pre:=[]) (post:=y) e hb hl
 rw [g1] at g2
 simp only [Prod.mk.injEq] at g2
 obtain ⟨e1,e2,e3,_,e4⟩:=g2
 have er:r=r':=Prod.ext e1 (Prod.ext e2 e4)
 subst er
 exact ⟨rfl,List.append_cancel_left e⟩
theorem okB.right {a b:List Int} (h:okB (a++b)):okB b:=fun c hc=>h c (List.mem_append_right _ hc)
theorem recs_cmp:∀ (rs rs':List RecD) (x y:List Int),okRs rs→okRs rs'→recsB rs++x=recsB rs'++y→okB (recsB rs++x)→(recsB rs++x).length≤1048576→(∃ t,rs'=rs++t∧x=recsB t++y)∨(∃ t,rs=rs'++t∧y=recsB t++x):=by
 intro rs
 induction rs with
 | nil=>intro rs' x y _ _ e _ _;exact .inl ⟨rs', rfl,by simpa [recsB] using e⟩
 | cons r rs ih =>
  intro rs' x y h h' e hb hl
  cases rs' with
  | nil=>exact .inr ⟨r::rs,rfl,by simpa [recsB] using e.symm⟩
  | cons r' rs' =>
   rw [recsB_cons,recsB_cons,List.append_assoc,List.append_assoc] at e
   rw [recsB_cons,List.append_assoc] at hb hl
   obtain ⟨rfl,e2⟩:=recB_inj (h r (by simp)) (h' r' (by simp)) e hb hl
   rcases ih rs' x y (fun z hz=>h z (by simp [hz])) (fun z hz=>h' z (by simp [hz])) e2 hb.right (by rw [List.length_append] at hl;omega) with ⟨t,e3,e4⟩ | ⟨t,e3,e4⟩
   ·exact .inl ⟨t,by rw [e3];rfl,e4⟩
   ·exact .inr ⟨t,by rw [e3];rfl,e4⟩
theorem bigB_ok {l:List Int} (h:bigT t_sy l=true):okB l:=by
 have hb:(decide (l.length≤maxLen)&&l.all (fun x=>(Lit.int .u8 x).wf))=true:=h
 rw [Bool.and_eq_true,List.all_eq_true] at hb
 intro c hc
 have:=hb.2 c hc
 simp only [Lit.wf,Bool.and_eq_true,decide_eq_true_eq] at this
 exact ⟨this.1,this.2⟩
/-- A draw's cursor that is right. -/
noncomputable def cOk (b:List Int) (i:Int):Prop:=okB b∧0≤i∧i≤b.length∧b.length≤1048576
theorem sl1New_spec {b:List Int} (hb:okB b) (hl:b.length≤1048576):q_sl1New b=true∧(sl1New b).1=b∧cOk b (sl1New b).2.1:=by
 have key:∀ x:Int,(it_sl1New_0 b x 0).1=0∧(it_sl1New_0 b x 0).2.1=b:=by
  intro x
  refine itX_inv (fun v:V_sl1New_0=>v.1=b∧0≤v.2.2∧v.2.2≤b.length) (fun a:A_sl1New_0=>a.1=0∧a.2.1=b) (fun v=>b.length - v.2.2.toNat) ?_ ⟨rfl,Int.le_refl _,by simp⟩ (by simp;omega)
  rintro ⟨y,z,i⟩ ⟨hy,h1,h2⟩
  simp only at hy h1 h2
  subst hy
  by_cases hi:i<(y.length:Int)
  ·have e:decide (i<((y.length:Nat):Int))=true:=decide_eq_true hi
   have e2:decide (0≤i∧i<((y.length:Nat):Int))=true:=decide_eq_true ⟨h1,hi⟩
   have w:IntKind.wrap .i64 (i+1)=i+1:=wrap64 (by omega) (by omega)
   by_cases h4:i<4000
   ·simp only [ss_sl1New_0,e,e2,decide_eq_true h4,cond_true,w]
    exact .inl ⟨_,rfl,⟨rfl,by simp only;omega,by simp only;omega⟩,by simp only;omega⟩
   ·simp only [ss_sl1New_0,e,decide_eq_false h4,cond_true,cond_false]
    exact .inr ⟨_,rfl,rfl,rfl⟩
  ·simp only [ss_sl1New_0,decide_eq_false hi,cond_false]
   exact .inr ⟨_,rfl,rfl,rfl⟩
 simp only [q_sl1New,sl1New,key]
 exact ⟨rfl,trivial,hb,Int.le_refl _,by omega,hl⟩
theorem iand_range (x:Int) (m:Nat) (hm:m<9223372036854775808):0≤iand .i64 x (m:Int)∧iand .i64 x (m:Int)≤m:=by
 have e:iand .i64 x (m:Int)=IntKind.wrap .i64 (((BitVec.ofInt 64 x).toNat &&& m:Nat):Int):=by
  show IntKind.wrap .i64 (((BitVec.ofInt 64 x &&& BitVec.ofInt 64 (m:Int)).toNat:Nat):Int)=_
  rw [BitVec.toNat_and,ofInt_nat m (by omega)]
 have h:(BitVec.ofInt 64 x).toNat &&& m≤m:=Nat.and_le_right
 rw [e,wrap64 (by omega) (by omega)]
 omega
theorem sl1Byte_spec {b:List Int} {i:Int} (hc:cOk b i) (h:Int):q_sl1Byte b i h=true∧0≤(sl1Byte b i h).1∧(sl1Byte b i h).1≤255∧(sl1Byte b i h).2.1=b∧cOk b (sl1Byte b i h).2.2.1:=by
 obtain ⟨h0,h1,h2,h3⟩:=hc
 have r:=fun x=>iand_range x 255 (by decide)
 by_cases hi:i<(b.length:Int)
 ·have e:decide (i<((b.length:Nat):Int))=true:=decide_eq_true hi
  have w:IntKind.wrap .i64 (i+1)=i+1:=wrap64 (by omega) (by omega)
  simp only [q_sl1Byte,sl1Byte,e,cond_true,w]
  exact ⟨decide_eq_true ⟨h1,hi⟩,(r _).1,(r _).2,trivial,h0,by omega,by omega,h3⟩
 ·have e:decide (i<((b.length:Nat):Int))=false:=decide_eq_false hi
  simp only [q_sl1Byte,sl1Byte,e,cond_false]
  exact ⟨trivial,(r _).1,(r _).2,trivial,h0,h1,h2,h3⟩
theorem sl1Below_spec {b:List Int} {i:Int} (hc:cOk b i) (n:Int) (h:Int):q_sl1Below n b i h=true∧0≤(sl1Below n b i h).1∧(0<n→(sl1Below n b i h).1<n)∧(sl1Below n b i h).2.1=b∧cOk b (sl1Below n b i h).2.2.1:=by
 obtain ⟨a1,a2,a3,a4,a5⟩:=sl1Byte_spec hc h
 by_cases h0:n≤0
 ·have e:decide (n≤0)=true:=decide_eq_true h0
  simp only [q_sl1Below,sl1Below,e,cond_true]
  exact ⟨trivial,Int.le_refl _,fun h=>by omega,trivial,hc⟩
 ·have e:decide (n≤0)=false:=decide_eq_false h0
  have en:decide (n ≠ 0)=true:=decide_eq_true (by omega)
  by_cases h1:n≤256
  ·have e2:decide (n≤256)=true:=decide_eq_true h1
   simp only [q_sl1Below,sl1Below,e,e2,cond_true,cond_false,a1,en,Bool.and_self]
   exact ⟨trivial,Int.tmod_nonneg _ a2,fun h=>Int.tmod_lt_of_pos _ h,a4,a5⟩
  ·have e2:decide (n≤256)=false:=decide_eq_false h1
   obtain ⟨b1,b2,b3,b4,b5⟩:=sl1Byte_spec a5 (sl1Byte b i h).2.2.2
   obtain ⟨c1,c2,c3,c4,c5⟩:=sl1Byte_spec b5 (sl1Byte b (sl1Byte b i h).2.2.1 (sl1Byte b i h).2.2.2).2.2.2
   simp only [q_sl1Below,sl1Below,e,e2,cond_false,a1,a4,en,k1_sl1Below,k2_sl1Below,b1,b4,c1,Bool.and_self]
   rw [wrap64 (n:=(sl1Byte b i h).1*65536) (by omega) (by omega),wrap64 (n:=(sl1Byte b (sl1Byte b i h).2.2.1 (sl1Byte b i h).2.2.2).1*256) (by omega) (by omega),wrap64 (n:=(sl1Byte b i h).1*65536+(sl1Byte b (sl1Byte b i h).2.2.1 (sl1Byte b i h).2.2.2).1*256) (by omega) (by omega),wrap64 (by omega) (by omega)]
   exact ⟨trivial,Int.tmod_nonneg _ (by omega),fun h=>Int.tmod_lt_of_pos _ h,c4,c5⟩
theorem sl1Int_spec {b:List Int} {i:Int} (hc:cOk b i) (h:Int) {l:List Int} (hl:0<l.length):q_sl1Int b i h l=true∧(sl1Int b i h l).1∈l∧(sl1Int b i h l).2.1=b∧cOk b (sl1Int b i h l).2.2.1:=by
 obtain ⟨a1,a2,a3,a4,a5⟩:=sl1Below_spec hc (l.length:Int) h
 have:=a3 (by omega)
 simp only [q_sl1Int,sl1Int,a1,Bool.true_and]
 exact ⟨decide_eq_true ⟨a2,this⟩,getD_mem (by omega) _,a4,a5⟩
/-- One op ahead of another, by its key. -/
noncomputable def ltO (a b:Int×ByteArray×ByteArray):Prop:=Op.bytesLess a.2.1.toList b.2.1.toList=true
/-- The keys that a draw makes. -/
noncomputable def keys7:List ByteArray:=[(⟨#[97]⟩:ByteArray),(⟨#[98]⟩:ByteArray),(⟨#[99]⟩:ByteArray),(⟨#[107,49]⟩:ByteArray),(⟨#[107,50]⟩:ByteArray),(⟨#[109]⟩:ByteArray),(⟨#[122]⟩:ByteArray)]
/-- An op that a draw makes. -/
noncomputable def goodOp (k:Int) (s v:ByteArray):Prop:=s∈keys7∧((k=1∨k=3)∧v.size≤1∨k=2∧v=⟨#[]⟩)
/-- Ops that a draw makes: in order, each of them right. -/
noncomputable def drawnO (l:Lq1):Prop:=l.Pairwise ltO∧∀ o∈l,goodOp o.1 o.2.1 o.2.2∧o.2.1.size≤20∧o.2.2.size≤20
theorem sl1Str_spec {b:List Int} {i:Int} (hc:cOk b i) (h:Int) {l:List ByteArray} (hl:0<l.length):q_sl1Str b i h l=true∧(sl1Str b i h l).1∈l∧(sl1Str b i h l).2.1=b∧cOk b (sl1Str b i h l).2.2.1:=by
 obtain ⟨a1,a2,a3,a4,a5⟩:=sl1Below_spec hc (l.length:Int) h
 have:=a3 (by omega)
 simp only [q_sl1Str,sl1Str,a1,Bool.true_and]
 exact ⟨decide_eq_true ⟨a2,this⟩,getD_mem (by omega) _,a4,a5⟩
theorem keys7_size {s:ByteArray} (h:s∈keys7):s.size≤2:=by
 simp only [keys7,List.mem_cons,List.not_mem_nil,or_false] at h
 rcases h with rfl | rfl | rfl | rfl | rfl | rfl | rfl<;>decide
theorem sl3Key_spec {b:List Int} {i:Int} (hc:cOk b i) (h:Int):q_sl3Key b i h=true∧(sl3Key b i h).1.size≤2∧(sl3Key b i h).1∈keys7∧(sl3Key b i h).2.1=b∧cOk b (sl3Key b i h).2.2.1:=by
 obtain ⟨a1,a2,a3,a4⟩:=sl1Str_spec hc h (l:=keys7) (by decide)
 simp only [keys7] at a1 a2 a3 a4
 simp only [q_sl3Key,sl3Key,k1_sl3Key,a1]
 exact ⟨trivial,keys7_size a2,a2,a3,a4⟩
theorem sl7Op1_spec {b:List Int} {i:Int} (hc:cOk b i) (h:Int):q_sl7Op1 b i h=true∧(sl7Op1 b i h).2.1.size≤20∧(sl7Op1 b i h).2.2.1.size≤20∧goodOp (sl7Op1 b i h).1 (sl7Op1 b i h).2.1 (sl7Op1 b i h).2.2.1∧(sl7Op1 b i h).2.2.2.1=b∧cOk b (sl7Op1 b i h).2.2.2.2.1:=by
 obtain ⟨a1,a2,a3,a4⟩:=sl1Int_spec hc h (l:=[(1:Int),(1:Int),(1:Int),(2:Int),(3:Int)]) (by decide)
 simp only [q_sl7Op1,sl7Op1,k1_sl7Op1,k2_sl7Op1,a1,a3,Bool.true_and]
 generalize sl1Int b i h [(1:Int),(1:Int),(1:Int),(2:Int),(3:Int)]=r at *
 obtain ⟨b1,b2,b3,b4,b5⟩:=sl3Key_spec a4 r.2.2.2.1
 simp only [b1,b4,Bool.true_and]
 generalize sl3Key b r.2.2.1 r.2.2.2.1=t at *
 have hk:r.1=1∨r.1=2∨r.1=3:=by simp only [List.mem_cons,List.not_mem_nil,or_false] at a2;omega
 cases e:(r.1 != 2) with
 | true =>
  obtain ⟨c1,c2,c3,c4⟩:=sl1Str_spec b5 t.2.2.2 (l:=[(⟨#[49]⟩:ByteArray),(⟨#[50]⟩:ByteArray),(⟨#[120]⟩:ByteArray),(⟨#[]⟩:ByteArray),(⟨#[49]⟩:ByteArray)]) (by decide)
  simp only [cond_true,c1]
  generalize sl1Str b t.2.2.1 t.2.2.2 [(⟨#[49]⟩:ByteArray),(⟨#[50]⟩:ByteArray),(⟨#[120]⟩:ByteArray),(⟨#[]⟩:ByteArray),(⟨#[49]⟩:ByteArray)]=u at *
  have hs:u.1.size≤1:=by
   have h0:∀ x∈[(⟨#[49]⟩:ByteArray),(⟨#[50]⟩:ByteArray),(⟨#[120]⟩:ByteArray),(⟨#[]⟩:ByteArray),(⟨#[49]⟩:ByteArray)],x.size≤1:=by
    intro x hx
    simp only [List.mem_cons,List.not_mem_nil,or_false] at hx
    rcases hx with rfl | rfl | rfl | rfl | rfl<;>decide
   exact h0 _ c2
  have hne:r.1 ≠ 2:=by simpa using e
  exact ⟨trivial,by omega,by omega,⟨b3,.inl ⟨by omega,hs⟩⟩,c3,c4⟩
 | false =>
  have he:r.1=2:=by simpa using e
  simp only [cond_false]
  exact ⟨trivial,by omega,by decide,⟨b3,.inr ⟨he,rfl⟩⟩,trivial,b5⟩
/-- What holds on the way of putting an op in order. -/
noncomputable def oneI (l:Lq1) (o:Int×ByteArray×ByteArray) (i:Nat) (p:Bool) (h:Lq1):Prop :=
 h.Pairwise ltO∧(∀ x∈h,x=o∨x∈l)∧h.length≤i+1 ∧
 (p=false→h=l.take i∧∀ x∈h,ltO x o) ∧
 (p=true→h ≠ []∧∀ x∈h,∀ y∈l.drop i,ltO x y)
theorem pw_take {α:Type} {R:α→α→Prop} {l:List α} (h:l.Pairwise R) (i:Nat) (hi:i<l.length) (d:α):∀ x∈l.take i,R x (l.getD i d):=by
 intro x hx
 obtain ⟨j,hj,rfl⟩:=List.getElem_of_mem hx
 rw [List.length_take] at hj
 have:=List.pairwise_iff_getElem.1 h j i (by omega) hi (by omega)
 simpa [List.getD_eq_getElem?_getD,hi] using this
theorem pw_drop {α:Type} {R:α→α→Prop} {l:List α} (h:l.Pairwise R) (i:Nat) (hi:i<l.length) (d:α):∀ y∈l.drop (i+1),R (l.getD i d) y:=by
 intro y hy
 obtain ⟨j,hj,rfl⟩:=List.getElem_of_mem hy
 rw [List.length_drop] at hj
 have:=List.pairwise_iff_getElem.1 h i (i+1+j) hi (by omega) (by omega)
 simpa [List.getD_eq_getElem?_getD,hi] using this
theorem pw_snoc {α:Type} {R:α→α→Prop} {h:List α} {x:α} (h1:h.Pairwise R) (h2:∀ y∈h,R y x):(h++[x]).Pairwise R:=by
 rw [List.pairwise_append]
 exact ⟨h1,by simp,fun a ha b hb=>by simp at hb;subst hb;exact h2 a ha⟩
theorem bytesLess_trans:∀ a b c:List UInt8,Op.bytesLess a b=true→Op.bytesLess b c=true→Op.bytesLess a c=true:=by
 intro a
 induction a with
 | nil=>intro b c h1 h2;cases c with
  | nil=>cases b<;>simp [Op.bytesLess] at h2
  | cons z c=>rfl
 | cons x a ih =>
  intro b c h1 h2
  cases b with
  | nil=>simp [Op.bytesLess] at h1
  | cons y b=>cases c with
   | nil=>simp [Op.bytesLess] at h2
   | cons z c =>
    simp only [Op.bytesLess,Bool.or_eq_true,Bool.and_eq_true,decide_eq_true_eq,beq_iff_eq] at h1 h2 ⊢
    rcases h1 with h1 | ⟨rfl,h1⟩
    ·rcases h2 with h2 | ⟨rfl,h2⟩
     ·exact .inl (UInt8.lt_trans h1 h2)
     ·exact .inl h1
    ·rcases h2 with h2 | ⟨rfl,h2⟩
     ·exact .inl h2
     ·exact .inr ⟨rfl,ih b c h1 h2⟩
theorem ltO_trans {a b c:Int×ByteArray×ByteArray} (h1:ltO a b) (h2:ltO b c):ltO a c:=bytesLess_trans _ _ _ h1 h2
theorem sl7One_it {l:Lq1} (hs:l.Pairwise ltO) (hl:l.length≤1000) (o:Int×ByteArray×ByteArray) :
  ∃ p h,it_sl7One_0 l false 0 o.1 o.2.1 o.2.2 []=(0,p,h)∧oneI l o l.length p h:=by
 refine itX_inv (fun v:V_sl7One_0=>∃ (i:Nat) (p:Bool) (h:Lq1),v=(l,p,(i:Int),h)∧i≤l.length∧oneI l o i p h) (fun a=>∃ p h,a=(0,p,h)∧oneI l o l.length p h) (fun v=>l.length - v.2.2.1.toNat) ?_ ⟨0,false,[],rfl,Nat.zero_le _,.nil,by simp,by simp,fun _=>⟨rfl,by simp⟩,fun h=>by cases h⟩ (by simp;omega)
 rintro v ⟨i,p,h,rfl,hi,hI⟩
 obtain ⟨i1,i2,i3,i4,i5⟩:=hI
 by_cases hlt:i<l.length
 ·have e1:decide ((i:Int)<((l.length:Nat):Int))=true:=decide_eq_true (by omega)
  have e2:decide (0≤(i:Int)∧(i:Int)<((l.length:Nat):Int))=true:=decide_eq_true (by omega)
  have w:=wrapU i (by omega)
  have m1:∀ x:Int×ByteArray×ByteArray,decide ((h.length+[x].length)*40≤MAXB)=true:=fun x=>decide_eq_true (by simp only [List.length_singleton,MAXB];omega)
  have m2:∀ x y:Int×ByteArray×ByteArray,decide (((h++[x]).length+[y].length)*40≤MAXB)=true:=fun x y=>decide_eq_true (by simp only [List.length_append,List.length_singleton,MAXB];omega)
  have eta:∀ x:Int×ByteArray×ByteArray,(x.1,(x.2.1,x.2.2))=x:=fun _=>rfl
  have hdrop:l.drop i=l.getD i dOp::l.drop (i+1):=by rw [List.drop_eq_getElem_cons hlt];simp [List.getD_eq_getElem?_getD,hlt]
  have htk:=pw_take hs i hlt dOp
  have hdr:=pw_drop hs i hlt dOp
  have hmem:l.getD i dOp∈l:=getD_mem hlt _
  have hts:=take_succ_getD hlt dOp
  have meas:∀ (p':Bool) (h':Lq1),l.length - ((l,p', ((i+1:Nat):Int),h'):V_sl7One_0).2.2.1.toNat<l.length - ((l,p,(i:Int),h):V_sl7One_0).2.2.1.toNat:=fun _ _=>by simp only [Int.toNat_natCast];omega
  simp only [ss_sl7One_0,e1,e2,m1,m2,w,cond_true,Int.toNat_natCast,eta]
  have hd:((0:Int),((⟨#[]⟩:ByteArray),(⟨#[]⟩:ByteArray)))=dOp:=rfl
  simp only [hd]
  generalize hx:l.getD i dOp=x at *
  left
  cases p with
  | false =>
   obtain ⟨j1,j2⟩:=i4 rfl
   simp only [Bool.not_false,cond_true]
   cases hb:Op.bytesLess x.2.1.toList o.2.1.toList with
   | true =>
    -- still ahead of it
    have hxo:ltO x o:=hb
    have hne:(x.2.1.toList==o.2.1.toList)=false:=by
     rw [beq_eq_false_iff_ne];intro e;rw [e] at hb;rw [bytesLess_irrefl] at hb;cases hb
    simp only [Bool.not_true,cond_false,hne,Bool.not_false,cond_true]
    refine ⟨_,rfl,⟨i+1,false,h++[x],rfl,by omega,pw_snoc i1 (fun y hy=>?_),?_,by simp;omega,fun _=>⟨by rw [j1,hts],?_⟩,fun h=>by cases h⟩,meas _ _⟩
    ·rw [j1] at hy;exact htk y hy
    ·intro y hy
     rcases List.mem_append.1 hy with hy | hy
     ·exact i2 y hy
     ·simp at hy;subst hy;exact .inr hmem
    ·intro y hy
     rcases List.mem_append.1 hy with hy | hy
     ·exact j2 y hy
     ·simp at hy;subst hy;exact hxo
   | false =>
    have hge:=bytesLess_ge x.2.1.toList o.2.1.toList
    rw [hb] at hge
    simp only [Bool.not_false] at hge
    simp only [Bool.not_false,cond_true]
    have s1:(h++[o]).Pairwise ltO:=pw_snoc i1 j2
    have s2:∀ y∈h++[o],y=o∨y∈l:=by
     intro y hy
     rcases List.mem_append.1 hy with hy | hy
     ·exact i2 y hy
     ·simp at hy;exact .inl hy
    cases hq:(x.2.1.toList==o.2.1.toList) with
    | true =>
     simp only [Bool.not_true,cond_false]
     have hkey:x.2.1.toList=o.2.1.toList:=by simpa using hq
     have ho:∀ y∈l.drop (i+1),ltO o y:=fun y hy=>by have:=hdr y hy;unfold ltO at this ⊢;rwa [hkey] at this
     refine ⟨_,rfl,⟨i+1,true,h++[o],rfl,by omega,s1,s2,by simp;omega,(fun h=>by cases h),fun _=>⟨by simp,?_⟩⟩,meas _ _⟩
     intro y hy z hz
     rcases List.mem_append.1 hy with hy | hy
     ·exact ltO_trans (j2 y hy) (ho z hz)
     ·simp at hy;subst hy;exact ho z hz
    | false =>
     simp only [Bool.not_false,cond_true]
     have hox:ltO o x:=by
      have h9:Op.bytesLess o.2.1.toList x.2.1.toList=true:=by
       cases h8:Op.bytesLess o.2.1.toList x.2.1.toList with
       | true=>rfl
       | false =>
        rw [h8] at hge
        have h7:(o.2.1.toList==x.2.1.toList)=true:=by simpa using hge.symm
        rw [beq_iff_eq] at h7
        rw [h7] at hq;simp at hq
      exact h9
     refine ⟨_,rfl,⟨i+1,true,(h++[o])++[x],rfl,by omega,pw_snoc s1 (fun y hy=>?_),?_,?_,(fun h=>by cases h),fun _=>⟨by simp,?_⟩⟩,meas _ _⟩
     ·rcases List.mem_append.1 hy with hy | hy
      ·exact ltO_trans (j2 y hy) hox
      ·simp at hy;subst hy;exact hox
     ·intro y hy
      rcases List.mem_append.1 hy with hy | hy
      ·exact s2 y hy
      ·simp at hy;subst hy;exact .inr hmem
     ·have:h.length≤i:=by rw [j1,List.length_take];omega
      simp;omega
     ·intro y hy z hz
      have hxz:=hdr z hz
      rcases List.mem_append.1 hy with hy | hy
      ·rcases List.mem_append.1 hy with hy | hy
       ·exact ltO_trans (ltO_trans (j2 y hy) hox) hxz
       ·simp at hy;subst hy;exact ltO_trans hox hxz
      ·simp at hy;subst hy;exact hxz
  | true =>
   obtain ⟨j1,j2⟩:=i5 rfl
   simp only [Bool.not_true,cond_false]
   have j3:∀ y∈h,∀ z∈l.drop (i+1),ltO y z:=fun y hy z hz=>j2 y hy z (by rw [hdrop];exact List.mem_cons_of_mem _ hz)
   cases hq:(x.2.1.toList==o.2.1.toList) with
   | true =>
    simp only [Bool.not_true,cond_false]
    exact ⟨_,rfl,⟨i+1,true,h,rfl,by omega,i1,i2,by omega,(fun h=>by cases h),fun _=>⟨j1,j3⟩⟩,meas _ _⟩
   | false =>
    simp only [Bool.not_false,cond_true]
    refine ⟨_,rfl,⟨i+1,true,h++[x],rfl,by omega,pw_snoc i1 (fun y hy=>j2 y hy x (by rw [hdrop];simp)),?_,by simp;omega,(fun h=>by cases h),fun _=>⟨by simp,?_⟩⟩,meas _ _⟩
    ·intro y hy
     rcases List.mem_append.1 hy with hy | hy
     ·exact i2 y hy
     ·simp at hy;subst hy;exact .inr hmem
    ·intro y hy z hz
     rcases List.mem_append.1 hy with hy | hy
     ·exact j3 y hy z hz
     ·simp at hy;subst hy;exact hdr z hz
 ·obtain rfl:i=l.length:=by omega
  have e1:decide (((l.length:Nat):Int)<((l.length:Nat):Int))=false:=decide_eq_false (by omega)
  simp only [ss_sl7One_0,e1,cond_false]
  exact .inr ⟨_,rfl,p,h,rfl,i1,i2,i3,i4,i5⟩
theorem sl7One_spec {l:Lq1} (hs:l.Pairwise ltO) (hl:l.length≤1000) (k:Int) (s v:ByteArray) :
  q_sl7One l k s v=true∧(sl7One l k s v).Pairwise ltO∧(∀ x∈sl7One l k s v,x=(k,s,v)∨x∈l)∧sl7One l k s v ≠ []∧(sl7One l k s v).length≤l.length+1:=by
 obtain ⟨p,h,e,i1,i2,i3,i4,i5⟩:=sl7One_it hs hl (k,s,v)
 simp only at e
 have m1:∀ x:Int×ByteArray×ByteArray,decide ((h.length+[x].length)*40≤MAXB)=true:=fun x=>decide_eq_true (by simp only [List.length_singleton,MAXB];omega)
 simp only [q_sl7One,sl7One,e,m1]
 cases p with
 | true =>
  simp only [Bool.not_true,cond_false]
  exact ⟨rfl,i1,i2,(i5 rfl).1,i3⟩
 | false =>
  obtain ⟨j1,j2⟩:=i4 rfl
  simp only [Bool.not_false,cond_true]
  refine ⟨rfl,pw_snoc i1 j2,?_,by simp,?_⟩
  ·intro y hy
   rcases List.mem_append.1 hy with hy | hy
   ·exact i2 y hy
   ·simp at hy;exact .inl hy
  ·rw [j1];simp
theorem sl7Draw_spec {b:List Int} {i:Int} (hc:cOk b i) (h:Int):q_sl7Draw b i h=true∧(sl7Draw b i h).1=b∧cOk b (sl7Draw b i h).2.1∧drawnO (sl7Draw b i h).2.2.2∧1≤(sl7Draw b i h).2.2.2.length∧(sl7Draw b i h).2.2.2.length≤4:=by
 obtain ⟨a1,a2,a3,a4,a5⟩:=sl1Below_spec hc 4 h
 have a3:=a3 (by omega)
 simp only [q_sl7Draw,sl7Draw,k2_sl7Draw,a1,a4,Bool.true_and]
 generalize sl1Below 4 b i h=r at *
 have w:IntKind.wrap .i64 (1+r.1)=1+r.1:=wrap64 (by omega) (by omega)
 rw [w]
 obtain ⟨z1,z2,z3,z4,z5,z6⟩:(it_sl7Draw_0 (1+r.1) b r.2.2.1 r.2.2.2 []).1=0∧(it_sl7Draw_0 (1+r.1) b r.2.2.1 r.2.2.2 []).2.1=b∧cOk b (it_sl7Draw_0 (1+r.1) b r.2.2.1 r.2.2.2 []).2.2.1∧drawnO (it_sl7Draw_0 (1+r.1) b r.2.2.1 r.2.2.2 []).2.2.2.2∧1≤(it_sl7Draw_0 (1+r.1) b r.2.2.1 r.2.2.2 []).2.2.2.2.length∧(it_sl7Draw_0 (1+r.1) b r.2.2.1 r.2.2.2 []).2.2.2.2.length≤4:=by
  refine itX_inv (fun v:V_sl7Draw_0=>v.2.1=b∧cOk b v.2.2.1∧drawnO v.2.2.2.2∧0≤v.1∧v.1≤4∧(v.2.2.2.2.length:Int)≤4 - v.1∧(v.1=0→1≤v.2.2.2.2.length)) (fun a:A_sl7Draw_0=>a.1=0∧a.2.1=b∧cOk b a.2.2.1∧drawnO a.2.2.2.2∧1≤a.2.2.2.2.length∧a.2.2.2.2.length≤4) (fun v=>v.1.toNat) ?_ ⟨rfl,a5,⟨.nil,by simp⟩,by simp only;omega,by simp only;omega,by simp only [List.length_nil];omega,fun h=>by simp only at h;omega⟩ (by simp only;omega)
  rintro ⟨n,b', j,h', l⟩ ⟨e1,e2,e3,e4,e5,e6,e7⟩
  simp only at e1 e2 e3 e4 e5 e6 e7
  subst e1
  by_cases hn:n > 0
  ·obtain ⟨o1,o2,o3,o4,o5,o6⟩:=sl7Op1_spec e2 h'
   obtain ⟨p1,p2,p3,p4,p5⟩:=sl7One_spec e3.1 (by omega) (sl7Op1 b' j h').1 (sl7Op1 b' j h').2.1 (sl7Op1 b' j h').2.2.1
   have w2:IntKind.wrap .i64 (n - 1)=n - 1:=wrap64 (by omega) (by omega)
   simp only [ss_sl7Draw_0,decide_eq_true hn,o1,p1,cond_true,w2,o5,k1_sl7Draw]
   refine .inl ⟨_,rfl,⟨rfl,o6,⟨p2,fun x hx=>?_⟩,by simp only;omega,by simp only;omega,by simp only;omega,fun _=>List.length_pos_iff.2 p4⟩,by simp only;omega⟩
   rcases p3 x hx with rfl | hx
   ·exact ⟨o4,o2,o3⟩
   ·exact e3.2 x hx
  ·simp only [ss_sl7Draw_0,decide_eq_false hn,cond_false]
   exact .inr ⟨_,rfl,rfl,rfl,e2,e3,e7 (by omega),by simp only;omega⟩
 exact ⟨by rw [z1];rfl,z2,z3,z4,z5,z6⟩
theorem okOps_small {l:Lq1} (h1:l.length≤1048576) (h2:∀ o∈l,o.2.1.size≤1048576∧o.2.2.size≤1048576):okOps l=true:=by
 simp only [okOps,okL,Bool.and_eq_true,decide_eq_true_eq,List.all_eq_true]
 refine ⟨h1,fun o ho=>?_⟩
 simp only [okOp,okS,Bool.and_eq_true,decide_eq_true_eq];exact h2 o ho
theorem drawn_okOps {l:Lq1} (h:drawnO l) (h8:l.length≤8):okOps l=true:=okOps_small (by omega) fun o ho=>by have:=h.2 o ho;omega
theorem sl8Rec_spec {b:List Int} {i:Int} (hc:cOk b i) (h:Int):q_sl8Rec b i h=true∧okOps (sl8Rec b i h).2.2.1=true∧(sl8Rec b i h).2.2.2.1=b∧cOk b (sl8Rec b i h).2.2.2.2.1∧(sl8Rec b i h).2.1≤4:=by
 obtain ⟨a1,a2,a3,a4⟩:=sl1Int_spec hc h (l:=[(1:Int),(1:Int),(2:Int),(3:Int)]) (by simp)
 obtain ⟨b1,b2,b3,b4,b5⟩:=sl1Below_spec a4 4 (sl1Int b i h [(1:Int),(1:Int),(2:Int),(3:Int)]).2.2.2.1
 have k1:k1_sl8Rec b i h=sl1Below 4 b (sl1Int b i h [(1:Int),(1:Int),(2:Int),(3:Int)]).2.2.1 (sl1Int b i h [(1:Int),(1:Int),(2:Int),(3:Int)]).2.2.2.1:=by simp only [k1_sl8Rec,a3]
 rw [← k1] at b2 b3 b4 b5
 have b3:=b3 (by omega)
 have ht:IntKind.wrap .i64 ((1:Int)+(k1_sl8Rec b i h).1)≤4:=by rw [wrap64 (by omega) (by omega)];omega
 obtain ⟨c1,c2,c3,c4,c5,c6⟩:=sl7Draw_spec b5 (k1_sl8Rec b i h).2.2.2
 have k2:k2_sl8Rec b i h=sl7Draw b (k1_sl8Rec b i h).2.2.1 (k1_sl8Rec b i h).2.2.2:=by simp only [k2_sl8Rec,b4]
 rw [← k2] at c2 c3 c4 c5 c6
 simp only [q_sl8Rec,sl8Rec,a1,a3,b1,b4,c1,Bool.true_and]
 cases ((sl1Int b i h [(1:Int),(1:Int),(2:Int),(3:Int)]).1==1) with
 | true=>exact ⟨rfl,drawn_okOps c4 (Nat.le_trans c6 (by decide)),c2,c3,ht⟩
 | false=>exact ⟨rfl,rfl,rfl,b5,ht⟩
theorem keys7_ok {s:ByteArray} (h:s∈keys7):sKeyOk s=true:=by
 simp only [keys7,List.mem_cons,List.not_mem_nil,or_false] at h
 rcases h with rfl | rfl | rfl | rfl | rfl | rfl | rfl<;>kernel_rfl
theorem goodOp_ok {k:Int} {s v:ByteArray} (h:goodOp k s v):sl7Op k s v=true:=by
 obtain ⟨h1,h2⟩:=h
 have b3:=keys7_ok h1
 rcases h2 with ⟨h2,h3⟩ | ⟨rfl,rfl⟩
 ·have hd:decide (((v.size:Nat):Int)≤20)=true:=decide_eq_true (by omega)
  have hin:sl1In k 1 3=true:=by rcases h2 with e | e<;>rw [e]<;>rfl
  have hne:(k==2)=false:=by rcases h2 with e | e<;>rw [e]<;>rfl
  simp only [sl7Op,hin,hne,b3,hd,Bool.not_true,cond_false,cond_true]
 ·have hin:sl1In 2 1 3=true:=rfl
  have e:((2:Int)==2)=true:=rfl
  have hs:((⟨#[]⟩:ByteArray).toList==(⟨#[]⟩:ByteArray).toList)=true:=beq_self_eq_true _
  have hz:decide ((((⟨#[]⟩:ByteArray).size:Nat):Int)≤(20:Int))=true:=by decide
  show cond (!(sl1In 2 1 3)) false (cond ((2:Int)==2) (cond (!((⟨#[]⟩:ByteArray).toList==(⟨#[]⟩:ByteArray).toList)) false (cond (sKeyOk s) (decide ((((⟨#[]⟩:ByteArray).size:Nat):Int)≤(20:Int))) false)) (cond (sKeyOk s) (decide ((((⟨#[]⟩:ByteArray).size:Nat):Int)≤(20:Int))) false))=true
  rw [hin,e,hs,b3,hz];rfl
theorem drawn_opsOk {l:Lq1} (h:drawnO l) (h1:1≤l.length) (h8:l.length≤8):sOpsOk l=true:=by
 have e:allF (sOpAt l) (l.length - (0:Int).toNat) (0:Int).toNat=true:=by
  refine (allF_true _ _).2 fun j _ hj=>?_
  have hj':j<l.length:=by simpa using hj
  simp only [sOpAt,Bool.and_eq_true,goodOp_ok (h.2 _ (getD_mem hj' dOp)).1,true_and]
  by_cases h0:j=0
  ·subst h0;simp
  ·have hp:=List.pairwise_iff_getElem.1 h.1 (j - 1) j (by omega) hj' (by omega)
   have e2:l.getD (j - 1) dOp=l[j - 1]:=by simp [List.getD_eq_getElem?_getD,show j - 1<l.length by omega]
   have e3:l.getD j dOp=l[j]:=by simp [List.getD_eq_getElem?_getD,hj']
   rw [e2,e3]
   simp only [Bool.or_eq_true]
   exact .inr hp
 have e1:decide (((l.length:Nat):Int) ≥ 1)=true:=decide_eq_true (by omega)
 have e2:decide (((l.length:Nat):Int)≤8)=true:=decide_eq_true (by omega)
 simp only [sOpsOk,e,cond_true,sl1In,e1,e2]
theorem sl8Rec_ok {b:List Int} {i:Int} (hc:cOk b i) (h:Int):q_sl8Rec b i h=true∧sRecOk (sl8Rec b i h).1 (sl8Rec b i h).2.1 (sl8Rec b i h).2.2.1=true∧(sl8Rec b i h).2.2.2.1=b∧cOk b (sl8Rec b i h).2.2.2.2.1:=by
 obtain ⟨z1,_,z3,z4,_⟩:=sl8Rec_spec hc h
 refine ⟨z1,?_,z3,z4⟩
 obtain ⟨a1,a2,a3,a4⟩:=sl1Int_spec hc h (l:=[(1:Int),(1:Int),(2:Int),(3:Int)]) (by simp)
 obtain ⟨b1,b2,b3,b4,b5⟩:=sl1Below_spec a4 4 (sl1Int b i h [(1:Int),(1:Int),(2:Int),(3:Int)]).2.2.2.1
 have k1:k1_sl8Rec b i h=sl1Below 4 b (sl1Int b i h [(1:Int),(1:Int),(2:Int),(3:Int)]).2.2.1 (sl1Int b i h [(1:Int),(1:Int),(2:Int),(3:Int)]).2.2.2.1:=by simp only [k1_sl8Rec,a3]
 rw [← k1] at b2 b3 b4 b5
 have b3:=b3 (by omega)
 have ht:IntKind.wrap .i64 ((1:Int)+(k1_sl8Rec b i h).1)=1+(k1_sl8Rec b i h).1:=wrap64 (by omega) (by omega)
 obtain ⟨c1,c2,c3,c4,c5,c6⟩:=sl7Draw_spec b5 (k1_sl8Rec b i h).2.2.2
 have k2:k2_sl8Rec b i h=sl7Draw b (k1_sl8Rec b i h).2.2.1 (k1_sl8Rec b i h).2.2.2:=by simp only [k2_sl8Rec,b4]
 rw [← k2] at c2 c3 c4 c5 c6
 have r2:sl1In (1+(k1_sl8Rec b i h).1) 1 1000000=true:=by
  simp only [sl1In,decide_eq_true (show 1+(k1_sl8Rec b i h).1 ≥ 1 by omega),decide_eq_true (show 1+(k1_sl8Rec b i h).1≤1000000 by omega),cond_true]
 have hz:(((([]:Lq1).length:Nat):Int)==0)=true:=rfl
 have hK:(sl1Int b i h [(1:Int),(1:Int),(2:Int),(3:Int)]).1=1∨(sl1Int b i h [(1:Int),(1:Int),(2:Int),(3:Int)]).1=2∨(sl1Int b i h [(1:Int),(1:Int),(2:Int),(3:Int)]).1=3:=by
  simp only [List.mem_cons,List.not_mem_nil,or_false] at a2
  omega
 have ho:=drawn_opsOk c4 c5 (by omega)
 have e21:((2:Int)==1)=false:=rfl
 have e31:((3:Int)==1)=false:=rfl
 have e32:((3:Int)==2)=false:=rfl
 simp only [sl8Rec,ht]
 rcases hK with hK | hK | hK<;>simp only [hK,sRecOk,r2,ho,hz,e21,e31,e32,beq_self_eq_true,cond_true,cond_false,Bool.not_true]
theorem sDrawRecs_spec {b:List Int} (hb:okB b) (hl:b.length≤1048576):q_sDrawRecs b=true∧okRs (sDrawRecs b)∧(sDrawRecs b).length≤5:=by
 obtain ⟨a1,a2,a3⟩:=sl1New_spec hb hl
 obtain ⟨b1,b2,b3,b4,b5⟩:=sl1Below_spec a3 6 (sl1New b).2.2
 have b3:=b3 (by omega)
 have key:(k1_sDrawRecs b).1=0∧okRs (k1_sDrawRecs b).2∧(k1_sDrawRecs b).2.length≤5:=by
  simp only [k1_sDrawRecs,a2,b4]
  generalize sl1Below 6 b (sl1New b).2.1 (sl1New b).2.2=r at *
  refine itX_inv (fun v:V_sDrawRecs_0=>v.2.1=b∧cOk b v.2.2.1∧0≤v.1∧v.1+(v.2.2.2.2.length:Int)≤5∧okRs v.2.2.2.2) (fun a:A_sDrawRecs_0=>a.1=0∧okRs a.2∧a.2.length≤5) (fun v=>v.1.toNat) ?_ ⟨rfl,b5,b2,by simp only [List.length_nil];omega,fun x hx=>by cases hx⟩ (by simp only;omega)
  rintro ⟨x5,c,i,h,l⟩ ⟨h1,h2,h3,h4,h5⟩
  simp only at h1 h2 h3 h4 h5
  subst h1
  by_cases hx:x5 > 0
  ·obtain ⟨d1,d2,d3,d4⟩:=sl8Rec_ok h2 h
   have hM:decide ((l.length+[((sl8Rec c i h).1,((sl8Rec c i h).2.1,(sl8Rec c i h).2.2.1))].length)*40≤MAXB)=true:=decide_eq_true (by simp only [List.length_singleton,MAXB];omega)
   have w:IntKind.wrap .i64 (x5 - 1)=x5 - 1:=wrap64 (by omega) (by omega)
   simp only [ss_sDrawRecs_0,decide_eq_true hx,d1,hM,w,cond_true]
   refine .inl ⟨_,rfl,⟨d3,d4,by simp only;omega,by simp only [List.length_append,List.length_singleton];omega,fun z hz=>?_⟩,by simp only;omega⟩
   rcases List.mem_append.1 hz with hz | hz
   ·exact h5 z hz
   ·rw [List.mem_singleton.1 hz];exact d2
  ·simp only [ss_sDrawRecs_0,decide_eq_false hx,cond_false]
   exact .inr ⟨_,rfl,rfl,h5,by simp only;omega⟩
 obtain ⟨k1,k2,k3⟩:=key
 refine ⟨?_,k2,k3⟩
 simp only [q_sDrawRecs,a1,a2,b1,k1,Bool.true_and];rfl
theorem lat_spec {b:List Int} (hb:okB b) (hl:b.length≤1048576) (i:Nat) (hi:i≤100):q_lat b (i:Int)=true∧0≤lat b (i:Int)∧lat b (i:Int)≤255:=by
 by_cases h:(i:Int)<((b.length:Nat):Int)
 ·have e:decide ((i:Int)<((b.length:Nat):Int))=true:=decide_eq_true h
  have hx:=hb _ (getD_mem (show i<b.length by omega) 0)
  have w:=wrap64 (n:=b.getD i 0) (by omega) (by omega)
  simp only [q_lat,lat,e,cond_true,Int.toNat_natCast,w]
  exact ⟨decide_eq_true (by omega),hx.1,hx.2⟩
 ·have e:decide ((i:Int)<((b.length:Nat):Int))=false:=decide_eq_false h
  have w1:=wrap64 (n:=(i:Int)*31) (by omega) (by omega)
  have w2:=wrap64 (n:=((b.length:Nat):Int)*7) (by omega) (by omega)
  have w3:=wrap64 (n:=(i:Int)*31+((b.length:Nat):Int)*7) (by omega) (by omega)
  simp only [q_lat,lat,e,cond_false,w1,w2,w3]
  have h1:=Int.tmod_nonneg (a:=(i:Int)*31+((b.length:Nat):Int)*7) 256 (by omega)
  have h2:=Int.tmod_lt_of_pos ((i:Int)*31+((b.length:Nat):Int)*7) (show (0:Int)<256 by omega)
  exact ⟨by trivial,h1,by omega⟩
/-- A record's frame: a number, so many bytes, four more. -/
theorem getHead {b:List Int} (hb:okB b) (hl:b.length≤1048576) {a n p:Int} (h:gN b a=(n,p,true)) (hn:¬ n > (b.length:Int) - p - 4):∃ pre body s4 rest:List Int,b=pre++(numB n++(body++(s4++rest)))∧a=pre.length∧p=a+(numB n).length∧(body.length:Int)=n∧s4.length=4∧n≤1000000000∧0≤n∧okB body∧okB s4:=by
 obtain ⟨pre,post,e,ea,ep,h0,h1⟩:=gN_of hb h
 have hlen:=congrArg List.length e
 simp only [List.length_append] at hlen
 have hp:okB post:=okB.right (okB.right (by rw [← e];exact hb))
 refine ⟨pre,post.take n.toNat,(post.drop n.toNat).take 4,(post.drop n.toNat).drop 4,by rw [List.take_append_drop,List.take_append_drop];exact e,ea,ep,?_,?_,h1,h0,hp.take _,(hp.drop _).take _⟩
 ·rw [List.length_take];omega
 ·rw [List.length_take,List.length_drop];omega
theorem iGetRec_of {b:List Int} (hb:okB b) (hl:b.length≤1048576) (a:Int):q_iGetRec b a=true∧((∃ k t l pre post,iGetRec b a=(k,t,((pre.length+(recB k t l).length:Nat):Int),true,l)∧sRecOk k t l=true∧b=pre++(recB k t l++post)∧a=(pre.length:Int))∨iGetRec b a=(0,0,a,false,[])):=by
 obtain ⟨g1,g2⟩:=iGetNum_spec hb (by omega) a
 simp only [iGetRec,q_iGetRec,g1,g2,k1_iGetRec,k2_iGetRec,k3_iGetRec,k4_iGetRec,k5_iGetRec,k6_iGetRec,k7_iGetRec,k8_iGetRec,Bool.true_and]
 cases h1:(gN b a).2.2 with
 | false=>exact ⟨rfl,.inr rfl⟩
 | true =>
 obtain ⟨r1,r2,r3,r4,r5⟩:=gN_range hb h1
 generalize eg:gN b a=g at *
 obtain ⟨n,p,o⟩:=g
 simp only at h1 r1 r2 r3 r4 r5 ⊢
 subst h1
 obtain ⟨w1,w2,w3,w4⟩:=wraps4 (len:=((b.length:Nat):Int)) (p:=p) (n:=n) ⟨by omega,by omega⟩ ⟨by omega,by omega⟩ ⟨by omega,by omega⟩
 simp only [w1,w2,w3,w4,Bool.not_true,cond_false]
 by_cases hn:n > ((b.length:Nat):Int) - p - 4
 ·simp only [decide_eq_true hn,cond_true];exact ⟨trivial,.inr trivial⟩
 simp only [decide_eq_false hn,cond_false]
 obtain ⟨pre,body,s4,rest,e,ea,ep,el,e4,n1,n0,hB,h4⟩:=getHead hb hl eg hn
 have hlen:=congrArg List.length e
 simp only [List.length_append] at hlen
 have c1:(b.take (p+n).toNat).drop p.toNat=body:=cutL (x:=pre++numB n) (z:=s4++rest) (by rw [e];simp only [List.append_assoc]) (by rw [List.length_append];omega) (by rw [List.length_append];omega)
 have c3:(b.take (p+n+4).toNat).drop a.toNat=numB n++(body++s4):=cutL (x:=pre) (z:=rest) (by rw [e];simp only [List.append_assoc]) ea (by simp only [List.length_append];omega)
 have hlB:body.length≤1048576:=by omega
 have gn:=fun a bad=>igetter_num_spec hB hlB a bad
 have nb:∀ a bad,(igetter_num body a bad).2.1=body:=fun a bad=>by rw [(gn a bad).2];cases bad<;>cases (gN body a).2.2<;>rfl
 have gq:∀ a bad,q_igetter_num body a bad=true:=fun a bad=>(gn a bad).1
 have go:=fun a bad=>igetter_ops_spec hB hlB a bad
 have m1:decide (0≤p∧p≤p+n∧p+n≤((b.length:Nat):Int))=true:=decide_eq_true (by omega)
 have m2:decide (0≤a∧a≤p+n+4∧p+n+4≤((b.length:Nat):Int))=true:=decide_eq_true (by omega)
 have h3B:okB (numB n++(body++s4)):=(numB_ok n0 n1).app (hB.app h4)
 have fin:∀ k t l,sRecOk k t l=true→bytes_Equal (iputRec k t l) (numB n++(body++s4))=true→∃ k' t' l' pre' post', (k,t,p+n+4,true,l)=(k', t', ((pre'.length+(recB k' t' l').length:Nat):Int),true,l')∧sRecOk k' t' l'=true∧b=pre'++(recB k' t' l'++post')∧a=(pre'.length:Int):=by
  intro k t l hw he
  obtain ⟨_,i2⟩:=iputRec_eq hw
  rw [i2] at he
  have he:=(bytesEqual_ok (recB_ok hw).1 h3B).1 he
  have hE:p+n+4=((pre.length+(recB k t l).length:Nat):Int):=by rw [he];simp only [List.length_append,e4];omega
  refine ⟨k,t,l,pre,rest,by rw [hE],hw,?_,ea⟩
  rw [he,e];simp only [List.append_assoc]
 simp only [c1,c3,m1,m2,nb,gq,Bool.true_and]
 generalize igetter_num body 0 false=x1
 generalize igetter_num body x1.2.2.1 x1.2.2.2=x2
 cases hk:(x1.1==1) with
 | true =>
  obtain ⟨o1,o2,o3,o4⟩:=go x2.2.2.1 x2.2.2.2
  simp only [cond_true,o1,Bool.true_and]
  cases hbad:(igetter_ops body x2.2.2.1 x2.2.2.2).2.2.1 with
  | true=>exact ⟨rfl,.inr rfl⟩
  | false =>
   simp only [cond_false,q_iRecOk,o3,Bool.true_and]
   cases hw:iRecOk x1.1 x2.1 (igetter_ops body x2.2.2.1 x2.2.2.2).2.2.2 with
   | false=>exact ⟨rfl,.inr rfl⟩
   | true =>
    rw [← recOk_same] at hw
    simp only [Bool.not_true,cond_false,(iputRec_eq hw).1,Bool.and_self]
    cases he:bytes_Equal (iputRec x1.1 x2.1 (igetter_ops body x2.2.2.1 x2.2.2.2).2.2.2) (numB n++(body++s4)) with
    | false=>exact ⟨trivial,.inr rfl⟩
    | true=>exact ⟨trivial,.inl (fin _ _ _ hw he)⟩
 | false =>
  simp only [cond_false]
  cases hbad:x2.2.2.2 with
  | true=>exact ⟨rfl,.inr rfl⟩
  | false =>
   have o3:okOps []=true:=rfl
   simp only [cond_false,q_iRecOk,o3,Bool.true_and]
   cases hw:iRecOk x1.1 x2.1 [] with
   | false=>exact ⟨rfl,.inr rfl⟩
   | true =>
    rw [← recOk_same] at hw
    simp only [Bool.not_true,cond_false,(iputRec_eq hw).1,Bool.and_self]
    cases he:bytes_Equal (iputRec x1.1 x2.1 []) (numB n++(body++s4)) with
    | false=>exact ⟨trivial,.inr rfl⟩
    | true=>exact ⟨trivial,.inl (fin _ _ _ hw he)⟩
theorem rd_step {b:List Int} (hb:okB b) (hl:b.length≤1048576) {rs:List RecD} {p:Nat} (h1:okRs rs) (hp:p<b.length) (ht:b.take p=recsB rs):(∃ (r:RecD) (p':Nat),iGetRec b (p:Int)=(r.1,r.2.1,(p':Int),true,r.2.2)∧sRecOk r.1 r.2.1 r.2.2=true∧p<p'∧p'≤b.length∧b.take p'=recsB (rs++[r]))∨iGetRec b (p:Int)=(0,0,(p:Int),false,[]):=by
 obtain ⟨_,g⟩:=iGetRec_of hb hl (p:Int)
 rcases g with ⟨k,t,l,pre,post,i1,hw,eb,ea⟩ | h
 ·left
  have hpp:p=pre.length:=by omega
  have hlen:=congrArg List.length eb
  simp only [List.length_append] at hlen
  have hR:=(recB_ok hw).2.2
  refine ⟨(k,t,l),pre.length+(recB k t l).length,i1,hw,by omega,by omega,?_⟩
  rw [recsB_app,recsB_one,← ht,hpp]
  rw [eb,List.take_left' rfl,← List.append_assoc,List.take_left' (by rw [List.length_append])]
 ·exact .inr h
/-- At the place where a read stops. -/
theorem rd_stop {b:List Int} (hb:okB b) (hl:b.length≤1048576) {p:Nat} (hp:p≤b.length) (h:p=b.length∨(iGetRec b (p:Int)).2.2.2.1=false) (r:RecD) (post:List Int) (hr:sRecOk r.1 r.2.1 r.2.2=true):b.drop p ≠ recB r.1 r.2.1 r.2.2++post:=by
 intro e
 rcases h with rfl | h
 ·have:=congrArg List.length e
  have:=(recB_ok hr).2.2
  simp only [List.length_drop,List.length_append] at *
  omega
 ·have e1:b=b.take p++(recB r.1 r.2.1 r.2.2++post):=by rw [← e,List.take_append_drop]
  have g:=iGetRec_put hr e1 hb hl
  rw [List.length_take,Nat.min_eq_left hp] at g
  rw [g] at h;cases h
theorem iReadRecs_of {b:List Int} (hb:okB b) (hl:b.length≤1048576):q_iReadRecs b=true∧∃ (rs:List RecD) (p:Nat),iReadRecs b=((p:Int),rs)∧RdOk b rs p:=by
 have key:∃ (rs:List RecD) (p:Nat),RdOk b rs p∧it_iReadRecs_0 b 0 []=(0,(p:Int),rs):=by
  refine itX_inv (fun v:V_iReadRecs_0=>∃ (p:Nat) (rs:List RecD),v=(b,(p:Int),rs)∧p≤b.length∧okRs rs∧b.take p=recsB rs) (fun a:A_iReadRecs_0=>∃ (rs:List RecD) (p:Nat),RdOk b rs p∧a=(0,(p:Int),rs)) (fun v=>b.length - v.2.1.toNat) ?_ ⟨0,[],rfl,Nat.zero_le _,fun r hr=>(by cases hr),rfl⟩ (by simp;omega)
  rintro v ⟨p,rs,rfl,hp,h1,ht⟩
  by_cases hlt:p<b.length
  ·have e1:decide ((p:Int)<((b.length:Nat):Int))=true:=decide_eq_true (by omega)
   have q1:=(iGetRec_of hb hl (p:Int)).1
   rcases rd_step hb hl h1 hlt ht with ⟨r,p', s1,hr,hp1,hp2,ht2⟩ | s1
   ·have hrs:=recsB_len h1
    have hM:decide ((rs.length+[((r.1:Int),(r.2.1,r.2.2))].length)*40≤MAXB)=true:=decide_eq_true (by
     have:=congrArg List.length ht
     rw [List.length_take] at this
     simp only [List.length_singleton,MAXB];omega)
    simp only [ss_iReadRecs_0,e1,q1,s1,hM,cond_true,cond_false,Bool.not_true]
    refine .inl ⟨_,rfl,⟨p', rs++[r],rfl,hp2,fun z hz=>?_,ht2⟩,by simp only [Int.toNat_natCast];omega⟩
    rcases List.mem_append.1 hz with hz | hz
    ·exact h1 z hz
    ·rw [List.mem_singleton.1 hz];exact hr
   ·simp only [ss_iReadRecs_0,e1,q1,s1,cond_true,Bool.not_false]
    exact .inr ⟨_,rfl,rs,p,⟨h1,hp,ht,rd_stop hb hl hp (.inr (by rw [s1]))⟩,rfl⟩
  ·obtain rfl:p=b.length:=by omega
   have e1:decide ((b.length:Int)<((b.length:Nat):Int))=false:=decide_eq_false (by omega)
   simp only [ss_iReadRecs_0,e1,cond_false]
   exact .inr ⟨_,rfl,rs,b.length,⟨h1,hp,ht,rd_stop hb hl hp (.inl rfl)⟩,rfl⟩
 obtain ⟨rs,p,h1,h2⟩:=key
 exact ⟨by simp only [q_iReadRecs,h2];rfl,rs,p,by simp only [iReadRecs,h2],h1⟩
theorem RdOk.uniq {b:List Int} (hb:okB b) (hl:b.length≤1048576) {rs rs':List RecD} {p p':Nat} (h:RdOk b rs p) (h':RdOk b rs' p'):rs=rs'∧p=p':=by
 obtain ⟨a1,a2,a3,a4⟩:=h
 obtain ⟨b1,b2,b3,b4⟩:=h'
 have e1:b=recsB rs++b.drop p:=by rw [← a3,List.take_append_drop]
 have e2:b=recsB rs'++b.drop p':=by rw [← b3,List.take_append_drop]
 have la:p=(recsB rs).length:=by have:=congrArg List.length a3;rw [List.length_take] at this;omega
 have lb:p'=(recsB rs').length:=by have:=congrArg List.length b3;rw [List.length_take] at this;omega
 have key:rs=rs':=by
  rcases recs_cmp rs rs' (b.drop p) (b.drop p') a1 b1 (by rw [← e1,← e2]) (by rw [← e1];exact hb) (by rw [← e1];exact hl) with ⟨t,e3,e4⟩ | ⟨t,e3,e4⟩
  ·cases t with
   | nil=>rw [e3,List.append_nil]
   | cons r t =>
    rw [recsB_cons,List.append_assoc] at e4
    exact absurd e4 (a4 r _ (b1 r (by rw [e3];simp)))
  ·cases t with
   | nil=>rw [e3,List.append_nil]
   | cons r t =>
    rw [recsB_cons,List.append_assoc] at e4
    exact absurd e4 (b4 r _ (a1 r (by rw [e3];simp)))
 subst key
 exact ⟨rfl,by rw [la,lb]⟩
/-- Where records end. -/
noncomputable def endsL (l:List RecD) (n:Nat):List Int:=(List.range (n+1)).map fun i=>((recsB (l.take i)).length:Int)
theorem endsL_len (l:List RecD) (n:Nat):(endsL l n).length=n+1:=by simp [endsL]
theorem endsL_at (l:List RecD) (n i:Nat) (h:i≤n):(endsL l n).getD i 0=((recsB (l.take i)).length:Int):=by
 simp only [endsL,List.getD_eq_getElem?_getD,List.getElem?_map,List.getElem?_range (show i<n+1 by omega),Option.map_some,Option.getD_some]
theorem endsL_succ (l:List RecD) (n:Nat):endsL l (n+1)=endsL l n++[((recsB (l.take (n+1))).length:Int)]:=by
 rw [endsL,List.range_succ,List.map_append];rfl
theorem scan_loop (a0:List Int) {l:List RecD} (h:okRs l) (hl:l.length≤5):it_lFnScanned_0 a0 l 0 [] [(0:Int)]=(0,a0,l,recsB l,endsL l l.length):=by
 refine itX_inv (fun v:V_lFnScanned_0=>∃ i:Nat,v=(a0,l,(i:Int),recsB (l.take i),endsL l i)∧i≤l.length) (fun a:A_lFnScanned_0=>a=(0,a0,l,recsB l,endsL l l.length)) (fun v=>l.length - v.2.2.1.toNat) ?_ ⟨0,rfl,Nat.zero_le _⟩ (by simp only;omega)
 rintro v ⟨i,rfl,hi⟩
 by_cases hlt:i<l.length
 ·have e1:decide ((i:Int)<((l.length:Nat):Int))=true:=decide_eq_true (by omega)
  have e2:decide (0≤(i:Int)∧(i:Int)<((l.length:Nat):Int))=true:=decide_eq_true (by omega)
  have hdj:((0:Int),((0:Int),([]:Lq1)))=dRec:=rfl
  have hr:=h _ (getD_mem hlt dRec)
  obtain ⟨p1,p2⟩:=iPutRec_eq (k:=(l.getD i dRec).1) (t:=(l.getD i dRec).2.1) (recOk_is hr).2.2.2.2.2.2
  rw [hr,cond_true] at p2
  have hR:=(recB_ok hr).2.1
  have ht:=(recsB_len (l:=l.take i) (fun x hx=>h x (List.mem_of_mem_take hx))).2
  rw [List.length_take] at ht
  have hm:min i l.length≤5:=by omega
  have hnx:recsB (l.take i)++recB (l.getD i dRec).1 (l.getD i dRec).2.1 (l.getD i dRec).2.2=recsB (l.take (i+1)):=by
   rw [take_succ_getD hlt dRec,recsB_app,recsB_one]
  have m1:decide (((recsB (l.take i)).length+(recB (l.getD i dRec).1 (l.getD i dRec).2.1 (l.getD i dRec).2.2).length)*1≤MAXB)=true:=decide_eq_true (by simp only [MAXB];omega)
  have m2:∀ x:Int,decide (((endsL l i).length+[x].length)*8≤MAXB)=true:=fun x=>decide_eq_true (by rw [endsL_len];simp only [List.length_singleton,MAXB];omega)
  simp only [ss_lFnScanned_0,k1_lFnScanned,hdj,e1,e2,p1,p2,m1,m2,hnx,cond_true,Int.toNat_natCast,wrapU i (by omega)]
  exact .inl ⟨_,rfl,⟨i+1,by rw [endsL_succ],by omega⟩,by simp only [Int.toNat_natCast];omega⟩
 ·obtain rfl:i=l.length:=by omega
  have e1:decide ((l.length:Int)<((l.length:Nat):Int))=false:=decide_eq_false (by omega)
  simp only [ss_lFnScanned_0,e1,cond_false,List.take_length]
  exact .inr ⟨_,rfl,rfl⟩
theorem sameRecs_self {l:List RecD} (h:okRs l) (hl:l.length≤1000):q_lsameRecs l l=true∧lsameRecs l l=true:=by
 have hn:(((l.length:Nat):Int) != ((l.length:Nat):Int))=false:=by simp
 have key:(it_lsameRecs_0 l l 0).1=1:=by
  refine itX_inv (fun v:V_lsameRecs_0=>∃ i:Nat,v=(l,l,(i:Int))∧i≤l.length) (fun a:A_lsameRecs_0=>a.1=1) (fun v=>l.length - v.2.2.toNat) ?_ ⟨0,rfl,Nat.zero_le _⟩ (by simp;omega)
  rintro v ⟨i,rfl,hi⟩
  by_cases hlt:i<l.length
  ·have e1:decide ((i:Int)<((l.length:Nat):Int))=true:=decide_eq_true (by omega)
   have e2:decide (0≤(i:Int)∧(i:Int)<((l.length:Nat):Int))=true:=decide_eq_true (by omega)
   have hdj:((0:Int),((0:Int),([]:Lq1)))=dRec:=rfl
   have e3:∀ x:Int,(x==x)=true:=fun x=>by simp
   obtain ⟨s1,s2⟩:=sameOps_self (okOps_len (recOk_is (h _ (getD_mem hlt dRec))).2.2.2.2.2.2)
   simp only [ss_lsameRecs_0,k1_lsameRecs,hdj,e1,e2,e3,s1,s2,q_lsameRec,lsameRec,Int.toNat_natCast,cond_true,cond_false,Bool.not_true,wrapU i (by omega)]
   exact .inl ⟨_,rfl,⟨i+1,rfl,by omega⟩,by simp only [Int.toNat_natCast];omega⟩
  ·obtain rfl:i=l.length:=by omega
   have e1:decide ((l.length:Int)<((l.length:Nat):Int))=false:=decide_eq_false (by omega)
   simp only [ss_lsameRecs_0,e1,cond_false]
   exact .inr ⟨_,rfl,rfl⟩
 simp only [q_lsameRecs,lsameRecs,hn,key,cond_false]
 exact ⟨rfl,rfl⟩
theorem rd_whole {l:List RecD} (h:okRs l):RdOk (recsB l) l (recsB l).length:=by
 refine ⟨h,Nat.le_refl _,List.take_length,fun r post hr e=>?_⟩
 have:=congrArg List.length e
 have:=(recB_ok hr).2.2
 simp only [List.length_drop,List.length_append] at *
 omega
theorem rd_cut {l rs:List RecD} {c p:Nat} (h:okRs l) (hl:(recsB l).length≤1048576) (hc:c≤(recsB l).length) (hr:RdOk ((recsB l).take c) rs p):p≤c∧rs.length≤l.length∧rs=l.take rs.length∧p=(recsB (l.take rs.length)).length∧(rs.length=l.length∨c<(recsB (l.take (rs.length+1))).length):=by
 obtain ⟨a1,a2,a3,a4⟩:=hr
 have hcl:((recsB l).take c).length=c:=by rw [List.length_take];omega
 have lp:p=(recsB rs).length:=by have:=congrArg List.length a3;rw [List.length_take] at this;omega
 have e1:recsB rs++(((recsB l).take c).drop p++(recsB l).drop c)=recsB l++[]:=by
  rw [← a3,← List.append_assoc,List.take_append_drop,List.take_append_drop,List.append_nil]
 have hbb:okB (recsB rs++(((recsB l).take c).drop p++(recsB l).drop c)):=by rw [e1,List.append_nil];exact recsB_ok h
 have key:∃ t,l=rs++t∧((recsB l).take c).drop p++(recsB l).drop c=recsB t:=by
  rcases recs_cmp rs l _ [] a1 h e1 hbb (by rw [e1,List.append_nil];exact hl) with ⟨t,e3,e4⟩ | ⟨t,e3,e4⟩
  ·exact ⟨t,e3,by rw [e4,List.append_nil]⟩
  ·cases t with
   | nil=>exact ⟨[],by rw [e3];simp,by simpa [recsB] using e4.symm⟩
   | cons r t =>
    exfalso
    have:=congrArg List.length e4
    have hR:=(recB_ok (a1 r (by rw [e3];simp))).2.2
    rw [recsB_cons] at this
    simp only [List.length_nil,List.length_append] at this
    omega
 obtain ⟨t,rfl,ht⟩:=key
 have htk:(rs++t).take rs.length=rs:=List.take_left' rfl
 refine ⟨by omega,by rw [List.length_append];omega,htk.symm,by rw [htk];exact lp,?_⟩
 cases t with
 | nil=>left;simp
 | cons r t =>
  right
  have htk2:(rs++r::t).take (rs.length+1)=rs++[r]:=by
   rw [show rs++r::t=(rs++[r])++t by simp,List.take_left' (by simp)]
  rw [htk2,recsB_app,recsB_one,List.length_append,← lp]
  apply Nat.lt_of_not_le
  intro hle
  have hro:=h r (by simp)
  refine a4 r ((((recsB (rs++r::t)).take c).drop p).drop (recB r.1 r.2.1 r.2.2).length) hro ?_
  rw [recsB_cons] at ht
  have e5:=congrArg (List.take (recB r.1 r.2.1 r.2.2).length) ht
  rw [List.take_left' rfl,List.take_append_of_le_length (by rw [List.length_drop];omega)] at e5
  have e6:=List.take_append_drop (recB r.1 r.2.1 r.2.2).length (((recsB (rs++r::t)).take c).drop p)
  rw [e5] at e6
  exact e6.symm
theorem scanned_all {b:List Int} (h:bigT t_sy b=true):q_lFnScanned b=true∧lFnScanned b=true:=by
 have hb:=bigB_ok h
 cases hd:lbig b with
 | true=>simp only [q_lFnScanned,lFnScanned,hd,cond_true];exact ⟨trivial,trivial⟩
 | false =>
  have hl:b.length≤1048576:=by simp only [lbig] at hd;have:=of_decide_eq_false hd;omega
  obtain ⟨a1,a2,a3⟩:=sDrawRecs_spec hb hl
  obtain ⟨t1,t2,_⟩:=lat_spec hb hl 2 (by decide)
  have t1:q_lat b 2=true:=t1
  have t2:0≤lat b 2:=t2
  have lp:=scan_loop b a2 a3
  generalize hdr:sDrawRecs b=l at *
  have hL:=recsB_len a2
  have hB:=recsB_ok a2
  obtain ⟨i1,rs,p,i2,i3⟩:=iReadRecs_of hB (by omega)
  obtain ⟨rfl,rfl⟩:=RdOk.uniq hB (by omega) i3 (rd_whole a2)
  obtain ⟨s1,s2⟩:=sameRecs_self a2 (by omega)
  have w:IntKind.wrap .i64 (((recsB rs).length:Int)+1)=((recsB rs).length:Int)+1:=wrap64 (by omega) (by omega)
  have n0:∀ x:Int,(x != x)=false:=fun x=>by simp
  have e0:∀ x:Int,(x==x)=true:=fun x=>by simp
  have z0:((0:Nat)==0)=true:=rfl
  have m1:=Int.tmod_nonneg (a:=lat b 2) (((recsB rs).length:Int)+1) t2
  have m2:=Int.tmod_lt_of_pos (lat b 2) (show (0:Int)<((recsB rs).length:Int)+1 by omega)
  have d1:decide (((recsB rs).length:Int)+1 ≠ 0)=true:=decide_eq_true (by omega)
  have d2:decide (0≤(0:Int)∧(0:Int)≤Int.tmod (lat b 2) (((recsB rs).length:Int)+1)∧Int.tmod (lat b 2) (((recsB rs).length:Int)+1)≤((recsB rs).length:Int))=true:=decide_eq_true (by omega)
  obtain ⟨c,hc⟩:=Int.eq_ofNat_of_zero_le m1
  have wc:okB ((recsB rs).take c):=hB.take _
  obtain ⟨j1,ys,q,j2,j3⟩:=iReadRecs_of wc (by rw [List.length_take];omega)
  obtain ⟨u1,u2,u3,u4,u5⟩:=rd_cut a2 (by omega) (show c≤(recsB rs).length by omega) j3
  obtain ⟨v1,v2⟩:=sameRecs_self (l:=ys) j3.1 (by omega)
  have g1:decide (((ys.length:Nat):Int)<(((endsL rs rs.length).length:Nat):Int))=true:=decide_eq_true (by rw [endsL_len];omega)
  have g2:decide (0≤((ys.length:Nat):Int)∧((ys.length:Nat):Int)<(((endsL rs rs.length).length:Nat):Int))=true:=decide_eq_true (by rw [endsL_len];omega)
  have g3:(endsL rs rs.length).getD ys.length 0=(q:Int):=by rw [endsL_at _ _ _ u2,u4]
  have g4:decide ((q:Int)≤(c:Int))=true:=decide_eq_true (by omega)
  have g5:(rs.take ys.length).drop (0:Int).toNat=ys:=by rw [← u3];rfl
  have g6:decide (0≤(0:Int)∧(0:Int)≤((ys.length:Nat):Int)∧((ys.length:Nat):Int)≤((rs.length:Nat):Int))=true:=decide_eq_true (by omega)
  have wy:IntKind.wrap .i64 (((ys.length:Nat):Int)+1)=((ys.length+1:Nat):Int):=wrapU _ (by omega)
  have k4:k4_lFnScanned b=lat b 2:=by simp only [k4_lFnScanned,hdr,lp]
  have k2:k2_lFnScanned b=iReadRecs (recsB rs):=by simp only [k2_lFnScanned,hdr,lp]
  have k3:k3_lFnScanned b=lsameRecs (iReadRecs (recsB rs)).2 rs:=by simp only [k3_lFnScanned,k2,hdr,lp]
  have k5:k5_lFnScanned b=iReadRecs ((recsB rs).take (Int.tmod (lat b 2) (((recsB rs).length:Int)+1)).toNat):=by simp only [k5_lFnScanned,k4,hdr,lp,w]
  have k6:k6_lFnScanned b=lsameRecs (k5_lFnScanned b).2 ((rs.take (((k5_lFnScanned b).2.length:Nat):Int).toNat).drop (0:Int).toNat):=by simp only [k6_lFnScanned,hdr,lp]
  simp only [q_lFnScanned,lFnScanned,k2,k3,k4,k6,k5,hdr,hd,a1,lp,i1,i2,s1,s2,w,n0,z0,t1,d1,d2,cond_false,cond_true,Bool.true_and,Bool.not_true]
  simp only [hc,Int.toNat_natCast,j1,j2,g1,g2,g3,g4,g5,g6,e0,v1,v2,wy,cond_true,Bool.true_and]
  by_cases hy:ys.length=rs.length
  ·have h1:(((ys.length:Nat):Int)==((rs.length:Nat):Int))=true:=by rw [hy];exact e0 _
   simp only [h1,cond_true];exact ⟨trivial,trivial⟩
  ·have h1:(((ys.length:Nat):Int)==((rs.length:Nat):Int))=false:=by rw [beq_eq_false_iff_ne];omega
   have u5:=u5.resolve_left hy
   have h2:decide (0≤((ys.length+1:Nat):Int)∧((ys.length+1:Nat):Int)<(((endsL rs rs.length).length:Nat):Int))=true:=decide_eq_true (by rw [endsL_len];omega)
   have h3:(endsL rs rs.length).getD (ys.length+1) 0=((recsB (rs.take (ys.length+1))).length:Int):=endsL_at _ _ _ (by omega)
   simp only [h1,h2,h3,cond_false,Bool.true_and,Bool.and_true]
   exact ⟨trivial,decide_eq_true (by omega)⟩
theorem pre_of_lFnScanned (b:List Int) (h:bigT t_sy b=true):pre_lFnScanned (b,())=true:=(scanned_all h).1
theorem exact_lFnScanned (b:List Int) (h:bigT t_sy b=true):lFnScanned b=true:=(scanned_all h).2

end Go.Proofs.Ytccelbeahdcooaa.Eng

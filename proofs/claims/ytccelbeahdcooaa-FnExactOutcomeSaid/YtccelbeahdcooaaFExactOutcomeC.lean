/- What the functions that FnExactOutcome reaches compute: further. -/
import Derived.Test.YtccelbeahdcooaaFExactOutcomeB
namespace Go.Proofs.Ytccelbeahdcooaa.Eng
open Go Go.RowKit
set_option linter.unusedSimpArgs false
set_option linter.unusedVariables false
set_option maxRecDepth 10000
/-! 88 (*loop.example/g00244/impl.replay).add -/
noncomputable abbrev SM_ireplay_add_w2 : SS := ⟨[.ptr 0 0 1 0, .agg [.t true (.int .i64), .t true (.int .i64), .t false t_spiptt], .t false t_spipispiptt], [.box [.all 1 2, .all 2 3], .rows 110 true t_ptt, .rows 30 true t_pipispiptt]⟩
noncomputable def ireplay_add_w2 (x1_0 : Int) (x1_1 : Int) (x1_2 : LIBBe) (x2 : LIILIBBee) (h1 : LBBe) (h2 : LIILIBBee) : Bool × (LBBe) × LIILIBBee := (cond (x1_0 == (1 : Int)) (cond (decide ((irecAt x2 x1_1) ≥ (0 : Int))) (false, h1, h2) (cond (iisHeldKey h2 x1_2) (false, h1, h2) (cond (!(iMeets h1 x1_2)) (false, h1, h2) (true, h1, h2 ++ [((1 : Int), (x1_1, (slices_Clone_iOp x1_2)))])))) (cond (decide ((irecAt h2 x1_1) < (0 : Int))) (cond (x1_0 == (3 : Int)) (!(decide ((irecAt x2 x1_1) ≥ (0 : Int))), h1, h2) (false, h1, h2)) (cond (x1_0 == (2 : Int)) (decide ((((iApply h1 (((h2.getD ((irecAt h2 x1_1).toNat) ((0 : Int), ((0 : Int), []))).2).2)).length : Nat) : Int) ≤ (60 : Int)), (iApply h1 (((h2.getD ((irecAt h2 x1_1).toNat) ((0 : Int), ((0 : Int), []))).2).2)), (slices_Delete_iRec (irecAt h2 x1_1) (IntKind.wrap .i64 ((irecAt h2 x1_1) + (1 : Int))) h2)) (decide (((h1.length : Nat) : Int) ≤ (60 : Int)), h1, (slices_Delete_iRec (irecAt h2 x1_1) (IntKind.wrap .i64 ((irecAt h2 x1_1) + (1 : Int))) h2)))))
noncomputable abbrev e_ireplay_add_w2 (r : Bool × (LBBe) × LIILIBBee) : AV × List AObj × List Nat := ((.t true .bool r.1), [(.box [(.all 1 2), (.all 2 3)]), (.rows 110 true t_ptt r.2.1), (.rows 30 true t_pipispiptt r.2.2)], [1, 2])
noncomputable abbrev F_ireplay_add_w2 (r : Bool × (LBBe) × LIILIBBee) := some (e_ireplay_add_w2 r)
noncomputable abbrev g_ireplay_add_w2 : SM_ireplay_add_w2.den → AV × List AObj × List Nat := fun d => e_ireplay_add_w2 (ireplay_add_w2 d.1.2.1.1 d.1.2.1.2.1 d.1.2.1.2.2.1 d.1.2.2.1 d.2.2.1 d.2.2.2.1)
noncomputable def q_ireplay_add_w2 (x1_0 : Int) (x1_1 : Int) (x1_2 : LIBBe) (x2 : LIILIBBee) (h1 : LBBe) (h2 : LIILIBBee) : Bool := (q_irecAt x2 x1_1) && (cond (x1_0 == (1 : Int)) (cond (decide ((irecAt x2 x1_1) ≥ (0 : Int))) true ((q_iisHeldKey h2 x1_2) && (cond (iisHeldKey h2 x1_2) true ((q_iMeets h1 x1_2) && (cond (!(iMeets h1 x1_2)) true ((q_slices_Clone_iOp x1_2) && (decide ((h2.length + [((1 : Int), (x1_1, (slices_Clone_iOp x1_2)))].length) * 40 ≤ MAXB)))))))) ((q_irecAt h2 x1_1) && (cond (decide ((irecAt h2 x1_1) < (0 : Int))) true (cond (x1_0 == (2 : Int)) ((decide (0 ≤ (irecAt h2 x1_1) ∧ (irecAt h2 x1_1) < ((h2.length : Nat) : Int))) && ((q_iApply h1 (((h2.getD ((irecAt h2 x1_1).toNat) ((0 : Int), ((0 : Int), []))).2).2)) && (q_slices_Delete_iRec (irecAt h2 x1_1) (IntKind.wrap .i64 ((irecAt h2 x1_1) + (1 : Int))) h2))) (q_slices_Delete_iRec (irecAt h2 x1_1) (IntKind.wrap .i64 ((irecAt h2 x1_1) + (1 : Int))) h2)))))
noncomputable abbrev pre_ireplay_add_w2 : SM_ireplay_add_w2.den → Bool := fun d => q_ireplay_add_w2 d.1.2.1.1 d.1.2.1.2.1 d.1.2.1.2.2.1 d.1.2.2.1 d.2.2.1 d.2.2.2.1
theorem runA_ireplay_add_w2 (x1_0 : Int) (x1_1 : Int) (x1_2 : LIBBe) (x2 : LIILIBBee) (h1 : LBBe) (h2 : LIILIBBee) (hp : q_ireplay_add_w2 x1_0 x1_1 x1_2 x2 h1 h2 = true) : runE false Try.prog tt S66 QF66 (fun _ _ => none) Try.f88 (shsMk SM_ireplay_add_w2.sl ((((), (x1_0, x1_1, x1_2, ()), x2, ()), (((), (), ()), h1, h2, ())) : SM_ireplay_add_w2.den).1) (ohsMk SM_ireplay_add_w2.hp ((((), (x1_0, x1_1, x1_2, ()), x2, ()), (((), (), ()), h1, h2, ())) : SM_ireplay_add_w2.den).2) [] [1, 2] [(0, 0, 1, 110, t_ptt)] = some (g_ireplay_add_w2 (((), (x1_0, x1_1, x1_2, ()), x2, ()), (((), (), ()), h1, h2, ()))) := by
  unfold q_ireplay_add_w2 at hp
  refine Eq.trans (b := (cond (q_irecAt x2 x1_1) (cond (x1_0 == (1 : Int)) (cond (decide ((irecAt x2 x1_1) ≥ (0 : Int))) (some (e_ireplay_add_w2 (false, h1, h2))) (cond (q_iisHeldKey h2 x1_2) (cond (iisHeldKey h2 x1_2) (some (e_ireplay_add_w2 (false, h1, h2))) (cond (q_iMeets h1 x1_2) (cond (!(iMeets h1 x1_2)) (some (e_ireplay_add_w2 (false, h1, h2))) (cond (q_slices_Clone_iOp x1_2) (cond (decide ((h2.length + [((1 : Int), (x1_1, (slices_Clone_iOp x1_2)))].length) * 40 ≤ MAXB)) (some (e_ireplay_add_w2 (true, h1, h2 ++ [((1 : Int), (x1_1, (slices_Clone_iOp x1_2)))]))) none) none)) none)) none)) (cond (q_irecAt h2 x1_1) (cond (decide ((irecAt h2 x1_1) < (0 : Int))) (cond (x1_0 == (3 : Int)) (some (e_ireplay_add_w2 (!(decide ((irecAt x2 x1_1) ≥ (0 : Int))), h1, h2))) (some (e_ireplay_add_w2 (false, h1, h2)))) (cond (x1_0 == (2 : Int)) (cond (decide (0 ≤ (irecAt h2 x1_1) ∧ (irecAt h2 x1_1) < ((h2.length : Nat) : Int))) (cond (q_iApply h1 (((h2.getD ((irecAt h2 x1_1).toNat) ((0 : Int), ((0 : Int), []))).2).2)) (cond (q_slices_Delete_iRec (irecAt h2 x1_1) (IntKind.wrap .i64 ((irecAt h2 x1_1) + (1 : Int))) h2) (some (e_ireplay_add_w2 (decide ((((iApply h1 (((h2.getD ((irecAt h2 x1_1).toNat) ((0 : Int), ((0 : Int), []))).2).2)).length : Nat) : Int) ≤ (60 : Int)), (iApply h1 (((h2.getD ((irecAt h2 x1_1).toNat) ((0 : Int), ((0 : Int), []))).2).2)), (slices_Delete_iRec (irecAt h2 x1_1) (IntKind.wrap .i64 ((irecAt h2 x1_1) + (1 : Int))) h2)))) none) none) none) (cond (q_slices_Delete_iRec (irecAt h2 x1_1) (IntKind.wrap .i64 ((irecAt h2 x1_1) + (1 : Int))) h2) (some (e_ireplay_add_w2 (decide (((h1.length : Nat) : Int) ≤ (60 : Int)), h1, (slices_Delete_iRec (irecAt h2 x1_1) (IntKind.wrap .i64 ((irecAt h2 x1_1) + (1 : Int))) h2)))) none))) none)) none)) (by kernel_rfl) ?_
  exact (cndA hp fun hp => (cndQ (F := F_ireplay_add_w2) hp (fun hp => (cndQ (F := F_ireplay_add_w2) hp (fun hp => rfl) (fun hp => (cndA hp fun hp => (cndQ (F := F_ireplay_add_w2) hp (fun hp => rfl) (fun hp => (cndA hp fun hp => (cndQ (F := F_ireplay_add_w2) hp (fun hp => rfl) (fun hp => (cndA hp fun hp => (cndT hp fun _h => rfl))))))))))) (fun hp => (cndA hp fun hp => (cndQ (F := F_ireplay_add_w2) hp (fun hp => (cnd (F := F_ireplay_add_w2) (fun _h => rfl) (fun _h => rfl))) (fun hp => (cndQ (F := F_ireplay_add_w2) hp (fun hp => (cndA hp fun hp => (cndA hp fun hp => (cndT hp fun _h => rfl)))) (fun hp => (cndT hp fun _h => rfl)))))))))
theorem run_ireplay_add_w2 : ∀ d : SM_ireplay_add_w2.den, pre_ireplay_add_w2 d = true → runE false Try.prog tt S66 QF66 (fun _ _ => none) Try.f88 (shsMk SM_ireplay_add_w2.sl (d : SM_ireplay_add_w2.den).1) (ohsMk SM_ireplay_add_w2.hp (d : SM_ireplay_add_w2.den).2) [] [1, 2] [(0, 0, 1, 110, t_ptt)] = some (g_ireplay_add_w2 d) := fun d hp => runA_ireplay_add_w2 d.1.2.1.1 d.1.2.1.2.1 d.1.2.1.2.2.1 d.1.2.2.1 d.2.2.1 d.2.2.2.1 hp
theorem c_ireplay_add_w2 : MContract Try.prog 88 (win winIds (msum SM_ireplay_add_w2 pre_ireplay_add_w2 g_ireplay_add_w2)) := (MContract.of_dataE false [] [1, 2] [(0, 0, 1, 110, t_ptt)]  G66 (fn := Try.f88) (by kernel_rfl) (L := fun _ _ => none) (by rw [show loopsIn 0 (bodyOf Try.f88) = [] by kernel_rfl]; simp) SM_ireplay_add_w2 pre_ireplay_add_w2 g_ireplay_add_w2 run_ireplay_add_w2).win winIds
noncomputable def S67 : Tab := Tab.add S66 88 (orElseS (orElseS (win winIds (msum SM_ireplay_add pre_ireplay_add g_ireplay_add)) (win winIds (msum SM_ireplay_add_w1 pre_ireplay_add_w1 g_ireplay_add_w1))) (win winIds (msum SM_ireplay_add_w2 pre_ireplay_add_w2 g_ireplay_add_w2)))
noncomputable def QF67 : FuncId → Bool := QF66
theorem G67 : Good Try.prog tt S67 QF67 := G66.addM (MContract.orElse (MContract.orElse c_ireplay_add c_ireplay_add_w1) c_ireplay_add_w2) (orElse_local (orElse_local (win_local _) (win_local _)) (win_local _)) ⟨Try.f88, by kernel_rfl, by kernel_rfl, by kernel_rfl⟩ (by kernel_rfl)

/-! 46 loop.example/g00244/impl.ReplayRecs -/
noncomputable abbrev jA20 : List AV := .junk :: .junk :: .junk :: jA17
noncomputable abbrev P_iReplayRecs : List PSh := [.t t_spipispiptt]
noncomputable abbrev S_iReplayRecs_0 : SS := ⟨(.t false t_spipispiptt :: .junk :: .junk :: .junk :: .junk :: .ptr 0 0 1 0 :: .junk :: .junk :: .t false t_spipispiptt :: .t true (.int .i64) :: .t true (.int .i64) :: jS20), [.box [.all 1 2, .all 2 3], .rows 110 true t_ptt, .rows 30 true t_pipispiptt]⟩
noncomputable abbrev E_iReplayRecs_0_0 : SS := ⟨(.junk :: .junk :: .nil :: .nil :: .t true .bool :: jS26), []⟩
noncomputable abbrev E_iReplayRecs_0_1 : SS := ⟨(.junk :: .junk :: .junk :: .junk :: .junk :: .ptr 0 0 1 0 :: jS25), [.box [.all 1 2, .all 2 3], .rows 110 true t_ptt, .rows 30 true t_pipispiptt]⟩
noncomputable def k1_iReplayRecs (x8 : LIILIBBee) (x10 : Int) := iRecOk ((x8.getD x10.toNat ((0 : Int), ((0 : Int), []))).1) (((x8.getD x10.toNat ((0 : Int), ((0 : Int), []))).2).1) (((x8.getD x10.toNat ((0 : Int), ((0 : Int), []))).2).2)
noncomputable def k2_iReplayRecs (x0 : LIILIBBee) (x8 : LIILIBBee) (x10 : Int) (h1 : LBBe) (h2 : LIILIBBee) := ireplay_add_w2 ((x8.getD x10.toNat ((0 : Int), ((0 : Int), []))).1) (((x8.getD x10.toNat ((0 : Int), ((0 : Int), []))).2).1) (((x8.getD x10.toNat ((0 : Int), ((0 : Int), []))).2).2) ((x0.take x10.toNat).drop (0 : Int).toNat) h1 h2
noncomputable def st_iReplayRecs_0 (x0 : LIILIBBee) (x8 : LIILIBBee) (x9 : Int) (x10 : Int) (h1 : LBBe) (h2 : LIILIBBee) : RT S_iReplayRecs_0.den := (.br (decide (x10 < x9)) (.br (decide (0 ≤ x10 ∧ x10 < ((x8.length : Nat) : Int))) (.br (q_iRecOk ((x8.getD x10.toNat ((0 : Int), ((0 : Int), []))).1) (((x8.getD x10.toNat ((0 : Int), ((0 : Int), []))).2).1) (((x8.getD x10.toNat ((0 : Int), ((0 : Int), []))).2).2)) (.br (!(k1_iReplayRecs x8 x10)) (.done .ret E_iReplayRecs_0_0 (((), (), (), (), false, u27), ())) (.br (decide (0 ≤ (0 : Int) ∧ (0 : Int) ≤ x10 ∧ x10 ≤ ((x0.length : Nat) : Int))) (.br (q_ireplay_add_w2 ((x8.getD x10.toNat ((0 : Int), ((0 : Int), []))).1) (((x8.getD x10.toNat ((0 : Int), ((0 : Int), []))).2).1) (((x8.getD x10.toNat ((0 : Int), ((0 : Int), []))).2).2) ((x0.take x10.toNat).drop (0 : Int).toNat) h1 h2) (.br (!((k2_iReplayRecs x0 x8 x10 h1 h2).1)) (.done .ret E_iReplayRecs_0_0 (((), (), (), (), false, u27), ())) (.next ((x0, (), (), (), (), (), (), (), x8, x9, IntKind.wrap .i64 (x10 + (1 : Int)), u21), (((), (), ()), ((k2_iReplayRecs x0 x8 x10 h1 h2).2.1), ((k2_iReplayRecs x0 x8 x10 h1 h2).2.2), ())))) .fail) .fail)) .fail) .fail) (.done (.exit 0) E_iReplayRecs_0_1 ((u32), (((), (), ()), h1, h2, ()))))
noncomputable abbrev V_iReplayRecs_0 := (LIILIBBee) × (LIILIBBee) × (Int) × (Int) × (LBBe) × (LIILIBBee)
noncomputable abbrev A_iReplayRecs_0 := Nat × (Bool) × (LBBe) × (LIILIBBee)
noncomputable def fl_iReplayRecs_0 : A_iReplayRecs_0 := (99, (false : Bool), ([] : LBBe), ([] : LIILIBBee))
noncomputable def ss_iReplayRecs_0 (x0 : LIILIBBee) (x8 : LIILIBBee) (x9 : Int) (x10 : Int) (h1 : LBBe) (h2 : LIILIBBee) : V_iReplayRecs_0 ⊕ A_iReplayRecs_0 := (cond (decide (x10 < x9)) (cond (decide (0 ≤ x10 ∧ x10 < ((x8.length : Nat) : Int))) (cond (q_iRecOk ((x8.getD x10.toNat ((0 : Int), ((0 : Int), []))).1) (((x8.getD x10.toNat ((0 : Int), ((0 : Int), []))).2).1) (((x8.getD x10.toNat ((0 : Int), ((0 : Int), []))).2).2)) (cond (!(k1_iReplayRecs x8 x10)) (.inr (0, false, ([] : LBBe), ([] : LIILIBBee))) (cond (decide (0 ≤ (0 : Int) ∧ (0 : Int) ≤ x10 ∧ x10 ≤ ((x0.length : Nat) : Int))) (cond (q_ireplay_add_w2 ((x8.getD x10.toNat ((0 : Int), ((0 : Int), []))).1) (((x8.getD x10.toNat ((0 : Int), ((0 : Int), []))).2).1) (((x8.getD x10.toNat ((0 : Int), ((0 : Int), []))).2).2) ((x0.take x10.toNat).drop (0 : Int).toNat) h1 h2) (cond (!((k2_iReplayRecs x0 x8 x10 h1 h2).1)) (.inr (0, false, ([] : LBBe), ([] : LIILIBBee))) (.inl (x0, x8, x9, IntKind.wrap .i64 (x10 + (1 : Int)), ((k2_iReplayRecs x0 x8 x10 h1 h2).2.1), ((k2_iReplayRecs x0 x8 x10 h1 h2).2.2)))) (.inr fl_iReplayRecs_0)) (.inr fl_iReplayRecs_0))) (.inr fl_iReplayRecs_0)) (.inr fl_iReplayRecs_0)) (.inr (1, (false : Bool), h1, h2)))
noncomputable def it_iReplayRecs_0 (x0 : LIILIBBee) (x8 : LIILIBBee) (x9 : Int) (x10 : Int) (h1 : LBBe) (h2 : LIILIBBee) : A_iReplayRecs_0 := itX (fun v : V_iReplayRecs_0 => ss_iReplayRecs_0 v.1 v.2.1 v.2.2.1 v.2.2.2.1 v.2.2.2.2.1 v.2.2.2.2.2) fl_iReplayRecs_0 (x0, x8, x9, x10, h1, h2)
noncomputable def ct_iReplayRecs_0 (a : A_iReplayRecs_0) : CT := (.br (a.1 == 0) (.done .ret E_iReplayRecs_0_0 (((), (), (), (), a.2.1, u27), ())) (.br (a.1 == 1) (.done (.exit 0) E_iReplayRecs_0_1 ((u32), (((), (), ()), a.2.2.1, a.2.2.2, ()))) .fail))
noncomputable def T_iReplayRecs_0 (x0 : LIILIBBee) (x8 : LIILIBBee) (x9 : Int) (x10 : Int) (h1 : LBBe) (h2 : LIILIBBee) : CT := ct_iReplayRecs_0 (it_iReplayRecs_0 x0 x8 x9 x10 h1 h2)
noncomputable abbrev sp_iReplayRecs_0 : S_iReplayRecs_0.den → RT S_iReplayRecs_0.den := fun d => st_iReplayRecs_0 d.1.1 d.1.2.2.2.2.2.2.2.2.1 d.1.2.2.2.2.2.2.2.2.2.1 d.1.2.2.2.2.2.2.2.2.2.2.1 d.2.2.1 d.2.2.2.1
noncomputable abbrev pk_iReplayRecs_0 (x0 : LIILIBBee) (x8 : LIILIBBee) (x9 : Int) (x10 : Int) (h1 : LBBe) (h2 : LIILIBBee) : S_iReplayRecs_0.den := ((x0, (), (), (), (), (), (), (), x8, x9, x10, u21), (((), (), ()), h1, h2, ()))
noncomputable def body_iReplayRecs_0 : Code := ((loopsIn 0 (bodyOf Try.f46)).getD 0 (0, .skip)).2
noncomputable abbrev pv_iReplayRecs_0 (v : V_iReplayRecs_0) : S_iReplayRecs_0.den := pk_iReplayRecs_0 v.1 v.2.1 v.2.2.1 v.2.2.2.1 v.2.2.2.2.1 v.2.2.2.2.2
theorem R_iReplayRecs_0 (x0 : LIILIBBee) (x8 : LIILIBBee) (x9 : Int) (x10 : Int) (h1 : LBBe) (h2 : LIILIBBee) : (T_iReplayRecs_0 x0 x8 x9 x10 h1 h2).val (D := S_iReplayRecs_0.den) = .fail ∨ Runs sp_iReplayRecs_0 (pk_iReplayRecs_0 x0 x8 x9 x10 h1 h2) (T_iReplayRecs_0 x0 x8 x9 x10 h1 h2).val := Runs.ofIt (step := sp_iReplayRecs_0) pv_iReplayRecs_0 (ct := ct_iReplayRecs_0) rfl (fun v => ((relB (relB (relB (relB rfl (relB (relB (relB rfl rfl) rfl) rfl)) rfl) rfl) rfl) : (st_iReplayRecs_0 v.1 v.2.1 v.2.2.1 v.2.2.2.1 v.2.2.2.2.1 v.2.2.2.2.2).val = relS pv_iReplayRecs_0 ct_iReplayRecs_0 (ss_iReplayRecs_0 v.1 v.2.1 v.2.2.1 v.2.2.2.1 v.2.2.2.2.1 v.2.2.2.2.2))) (fun a => ((cendB (cendD (by simp)) (cendB (cendD (by simp)) cendF)) : CEnd _ (ct_iReplayRecs_0 a))) (x0, x8, x9, x10, h1, h2)
noncomputable def ox_iReplayRecs_0 (x0 : LIILIBBee) (x8 : LIILIBBee) (x9 : Int) (x10 : Int) (h1 : LBBe) (h2 : LIILIBBee) : Option (Ex × St) := (cond (decide (x10 < x9)) (cond (decide (0 ≤ x10 ∧ x10 < ((x8.length : Nat) : Int))) (cond (q_iRecOk ((x8.getD x10.toNat ((0 : Int), ((0 : Int), []))).1) (((x8.getD x10.toNat ((0 : Int), ((0 : Int), []))).2).1) (((x8.getD x10.toNat ((0 : Int), ((0 : Int), []))).2).2)) (cond (!(k1_iReplayRecs x8 x10)) (some (.ret, (⟨(.junk :: .junk :: (.raw (.slice none 0 0)) :: (.raw (.slice none 0 0)) :: (.t true .bool false) :: jA26), [], 0, []⟩ : St))) (cond (decide (0 ≤ (0 : Int) ∧ (0 : Int) ≤ x10 ∧ x10 ≤ ((x0.length : Nat) : Int))) (cond (q_ireplay_add_w2 ((x8.getD x10.toNat ((0 : Int), ((0 : Int), []))).1) (((x8.getD x10.toNat ((0 : Int), ((0 : Int), []))).2).1) (((x8.getD x10.toNat ((0 : Int), ((0 : Int), []))).2).2) ((x0.take x10.toNat).drop (0 : Int).toNat) h1 h2) (cond (!((k2_iReplayRecs x0 x8 x10 h1 h2).1)) (some (.ret, (⟨(.junk :: .junk :: (.raw (.slice none 0 0)) :: (.raw (.slice none 0 0)) :: (.t true .bool false) :: jA26), [], 0, []⟩ : St))) (some (.normal, (⟨((.t false t_spipispiptt x0) :: .junk :: .junk :: .junk :: .junk :: (.ptr 0 0 1 0) :: .junk :: .junk :: (.t false t_spipispiptt x8) :: (.t true (.int .i64) x9) :: (.t true (.int .i64) (IntKind.wrap .i64 (x10 + (1 : Int)))) :: jA20), [(.box [(.all 1 2), (.all 2 3)]), (.rows 110 true t_ptt ((k2_iReplayRecs x0 x8 x10 h1 h2).2.1)), (.rows 30 true t_pipispiptt ((k2_iReplayRecs x0 x8 x10 h1 h2).2.2))], 0, []⟩ : St)))) none) none)) none) none) (some ((.exit 0), (⟨(.junk :: .junk :: .junk :: .junk :: .junk :: (.ptr 0 0 1 0) :: jA25), [(.box [(.all 1 2), (.all 2 3)]), (.rows 110 true t_ptt h1), (.rows 30 true t_pipispiptt h2)], 0, []⟩ : St))))
theorem rdA_iReplayRecs_0 : ∀ d, execC Try.prog tt S67 QF67 (fun _ _ => none) 0 body_iReplayRecs_0 (S_iReplayRecs_0.st d 0 []) (fun e s' => some (e, S_iReplayRecs_0.cutE (kepts [2, 3, 4] [(0, [5])]) e s')) = ox_iReplayRecs_0 d.1.1 d.1.2.2.2.2.2.2.2.2.1 d.1.2.2.2.2.2.2.2.2.2.1 d.1.2.2.2.2.2.2.2.2.2.2.1 d.2.2.1 d.2.2.2.1 := by
  intro d
  kernel_rfl
theorem rdB_iReplayRecs_0 : ∀ d : S_iReplayRecs_0.den, ox_iReplayRecs_0 d.1.1 d.1.2.2.2.2.2.2.2.2.1 d.1.2.2.2.2.2.2.2.2.2.1 d.1.2.2.2.2.2.2.2.2.2.2.1 d.2.2.1 d.2.2.2.1 = (sp_iReplayRecs_0 d).opt 0 [] := by
  intro d
  kernel_rfl
theorem rd_iReplayRecs_0 : ∀ d, execC Try.prog tt S67 QF67 (fun _ _ => none) 0 body_iReplayRecs_0 (S_iReplayRecs_0.st d 0 []) (fun e s' => some (e, S_iReplayRecs_0.cutE (kepts [2, 3, 4] [(0, [5])]) e s')) = (sp_iReplayRecs_0 d).opt 0 [] := fun d => (rdA_iReplayRecs_0 d).trans (rdB_iReplayRecs_0 d)
noncomputable abbrev say_iReplayRecs_0 : St → Option Tree := S_iReplayRecs_0.say 0 [] [(2005001, 30, t_pipispiptt), (2005000, 110, t_ptt)] (fun d => T_iReplayRecs_0 d.1.1 d.1.2.2.2.2.2.2.2.2.1 d.1.2.2.2.2.2.2.2.2.2.1 d.1.2.2.2.2.2.2.2.2.2.2.1 d.2.2.1 d.2.2.2.1)
theorem lw_iReplayRecs_0 : LoopWp Try.prog say_iReplayRecs_0 body_iReplayRecs_0 := SS.wp G67 (fun _ _ => none) (by rw [show loopsIn 0 body_iReplayRecs_0 = [] by kernel_rfl]; simp) S_iReplayRecs_0 0 [] (kepts [2, 3, 4] [(0, [5])]) [(2005001, 30, t_pipispiptt), (2005000, 110, t_ptt)] sp_iReplayRecs_0 rd_iReplayRecs_0 _ (fun d => R_iReplayRecs_0 d.1.1 d.1.2.2.2.2.2.2.2.2.1 d.1.2.2.2.2.2.2.2.2.2.1 d.1.2.2.2.2.2.2.2.2.2.2.1 d.2.2.1 d.2.2.2.1)
noncomputable def k3_iReplayRecs (a0 : LIILIBBee) := it_iReplayRecs_0 a0 a0 ((a0.length : Nat) : Int) (0 : Int) ([] : LBBe) ([] : LIILIBBee)
noncomputable def iReplayRecs (a0 : LIILIBBee) : (LBBe) × (LIILIBBee) × Bool := (cond ((k3_iReplayRecs a0).1 == 0) ([], [], ((k3_iReplayRecs a0).2.1)) (((k3_iReplayRecs a0).2.2.1), ((k3_iReplayRecs a0).2.2.2), true))
noncomputable abbrev e_iReplayRecs (r : (LBBe) × (LIILIBBee) × Bool) : AV × List AObj := ((.tup [(.t true t_sptt r.1), (.t true t_spipispiptt r.2.1), (.t true .bool r.2.2)]), [])
noncomputable abbrev F_iReplayRecs (r : (LBBe) × (LIILIBBee) × Bool) := some (e_iReplayRecs r)
noncomputable abbrev g_iReplayRecs : pshsDen P_iReplayRecs → AV × List AObj := fun d => e_iReplayRecs (iReplayRecs d.1)
noncomputable def q_iReplayRecs (a0 : LIILIBBee) : Bool := cond ((k3_iReplayRecs a0).1 == 0) true ((k3_iReplayRecs a0).1 == 1)
noncomputable abbrev pre_iReplayRecs : pshsDen P_iReplayRecs → Bool := fun d => q_iReplayRecs d.1
theorem runA_iReplayRecs (a0 : LIILIBBee) (hp : q_iReplayRecs a0 = true) : runP true Try.prog tt S67 QF67 (fun b => match b with | 0 => say_iReplayRecs_0 | _ => fun _ => none) Try.f46 (argsMk P_iReplayRecs (a0, ())) = some (g_iReplayRecs (a0, ())) := by
  unfold q_iReplayRecs at hp
  refine Eq.trans (b := (cond ((k3_iReplayRecs a0).1 == 0) (some (e_iReplayRecs ([], [], ((k3_iReplayRecs a0).2.1)))) (cond ((k3_iReplayRecs a0).1 == 1) (some (e_iReplayRecs (((k3_iReplayRecs a0).2.2.1), ((k3_iReplayRecs a0).2.2.2), true))) none))) (by kernel_rfl) ?_
  exact (cndQ (F := F_iReplayRecs) hp (fun hp => rfl) (fun hp => (cndT hp fun _h => rfl)))
theorem run_iReplayRecs : ∀ d, pre_iReplayRecs d = true → runP true Try.prog tt S67 QF67 (fun b => match b with | 0 => say_iReplayRecs_0 | _ => fun _ => none) Try.f46 (argsMk P_iReplayRecs d) = some (g_iReplayRecs d) := fun d hp => runA_iReplayRecs d.1 hp
theorem c_iReplayRecs : PContract Try.prog 46 (sumOf P_iReplayRecs pre_iReplayRecs g_iReplayRecs) := PContract.of_data true G67 (fn := Try.f46) (by kernel_rfl) (L := fun b => match b with | 0 => say_iReplayRecs_0 | _ => fun _ => none) (by rw [show loopsIn 0 (bodyOf Try.f46) = [(0, body_iReplayRecs_0)] by kernel_rfl]; intro p hp; simp only [List.mem_singleton] at hp; subst hp; exact lw_iReplayRecs_0) P_iReplayRecs pre_iReplayRecs g_iReplayRecs run_iReplayRecs
noncomputable def S68 : Tab := Tab.add S67 46 (lift (sumOf P_iReplayRecs pre_iReplayRecs g_iReplayRecs))
noncomputable def QF68 : FuncId → Bool := qadd QF67 46
theorem G68 : Good Try.prog tt S68 QF68 := G67.addQ c_iReplayRecs ⟨Try.f46, by kernel_rfl, by kernel_rfl, by kernel_rfl⟩ (fun _ => rfl)

/-! 102 slices.Equal[[]loop.example/g00244/impl.Pair,loop.example/g00244/impl.Pair] -/
noncomputable abbrev P_slices_Equal_iPair : List PSh := [.t t_sptt, .t t_sptt]
noncomputable abbrev S_slices_Equal_iPair_0 : SS := ⟨(.t false t_sptt :: .t false t_sptt :: .junk :: .junk :: .junk :: .junk :: .junk :: .junk :: .junk :: .junk :: .junk :: .junk :: .t true (.int .i64) :: .t true (.int .i64) :: jS12), []⟩
noncomputable abbrev E_slices_Equal_iPair_0_0 : SS := ⟨(.junk :: .junk :: .junk :: .junk :: .t true .bool :: jS21), []⟩
noncomputable abbrev E_slices_Equal_iPair_0_1 : SS := ⟨(.junk :: jS25), []⟩
noncomputable def st_slices_Equal_iPair_0 (x0 : LBBe) (x1 : LBBe) (x12 : Int) (x13 : Int) : RT S_slices_Equal_iPair_0.den := (.br (decide (x13 < x12)) (.br (decide (0 ≤ x13 ∧ x13 < ((x0.length : Nat) : Int))) (.br (decide (0 ≤ x13 ∧ x13 < ((x1.length : Nat) : Int))) (.br (!((((x0.getD x13.toNat (bE, bE)).1).toList == ((x1.getD x13.toNat (bE, bE)).1).toList) && ((((x0.getD x13.toNat (bE, bE)).2).toList == ((x1.getD x13.toNat (bE, bE)).2).toList) && true))) (.done .ret E_slices_Equal_iPair_0_0 (((), (), (), (), false, u22), ())) (.next ((x0, x1, (), (), (), (), (), (), (), (), (), (), x12, IntKind.wrap .i64 (x13 + (1 : Int)), u13), ()))) .fail) .fail) (.done (.exit 0) E_slices_Equal_iPair_0_1 ((u27), ())))
noncomputable abbrev V_slices_Equal_iPair_0 := (LBBe) × (LBBe) × (Int) × (Int)
noncomputable abbrev A_slices_Equal_iPair_0 := Nat × (Bool)
noncomputable def fl_slices_Equal_iPair_0 : A_slices_Equal_iPair_0 := (99, (false : Bool))
noncomputable def ss_slices_Equal_iPair_0 (x0 : LBBe) (x1 : LBBe) (x12 : Int) (x13 : Int) : V_slices_Equal_iPair_0 ⊕ A_slices_Equal_iPair_0 := (cond (decide (x13 < x12)) (cond (decide (0 ≤ x13 ∧ x13 < ((x0.length : Nat) : Int))) (cond (decide (0 ≤ x13 ∧ x13 < ((x1.length : Nat) : Int))) (cond (!((((x0.getD x13.toNat (bE, bE)).1).toList == ((x1.getD x13.toNat (bE, bE)).1).toList) && ((((x0.getD x13.toNat (bE, bE)).2).toList == ((x1.getD x13.toNat (bE, bE)).2).toList) && true))) (.inr (0, false)) (.inl (x0, x1, x12, IntKind.wrap .i64 (x13 + (1 : Int))))) (.inr fl_slices_Equal_iPair_0)) (.inr fl_slices_Equal_iPair_0)) (.inr (1, (false : Bool))))
noncomputable def it_slices_Equal_iPair_0 (x0 : LBBe) (x1 : LBBe) (x12 : Int) (x13 : Int) : A_slices_Equal_iPair_0 := itX (fun v : V_slices_Equal_iPair_0 => ss_slices_Equal_iPair_0 v.1 v.2.1 v.2.2.1 v.2.2.2) fl_slices_Equal_iPair_0 (x0, x1, x12, x13)
noncomputable def ct_slices_Equal_iPair_0 (a : A_slices_Equal_iPair_0) : CT := (.br (a.1 == 0) (.done .ret E_slices_Equal_iPair_0_0 (((), (), (), (), a.2, u22), ())) (.br (a.1 == 1) (.done (.exit 0) E_slices_Equal_iPair_0_1 ((u27), ())) .fail))
noncomputable def T_slices_Equal_iPair_0 (x0 : LBBe) (x1 : LBBe) (x12 : Int) (x13 : Int) : CT := ct_slices_Equal_iPair_0 (it_slices_Equal_iPair_0 x0 x1 x12 x13)
noncomputable abbrev sp_slices_Equal_iPair_0 : S_slices_Equal_iPair_0.den → RT S_slices_Equal_iPair_0.den := fun d => st_slices_Equal_iPair_0 d.1.1 d.1.2.1 d.1.2.2.2.2.2.2.2.2.2.2.2.2.1 d.1.2.2.2.2.2.2.2.2.2.2.2.2.2.1
noncomputable abbrev pk_slices_Equal_iPair_0 (x0 : LBBe) (x1 : LBBe) (x12 : Int) (x13 : Int) : S_slices_Equal_iPair_0.den := ((x0, x1, (), (), (), (), (), (), (), (), (), (), x12, x13, u13), ())
noncomputable def body_slices_Equal_iPair_0 : Code := ((loopsIn 0 (bodyOf Try.f102)).getD 0 (0, .skip)).2
noncomputable abbrev pv_slices_Equal_iPair_0 (v : V_slices_Equal_iPair_0) : S_slices_Equal_iPair_0.den := pk_slices_Equal_iPair_0 v.1 v.2.1 v.2.2.1 v.2.2.2
theorem R_slices_Equal_iPair_0 (x0 : LBBe) (x1 : LBBe) (x12 : Int) (x13 : Int) : (T_slices_Equal_iPair_0 x0 x1 x12 x13).val (D := S_slices_Equal_iPair_0.den) = .fail ∨ Runs sp_slices_Equal_iPair_0 (pk_slices_Equal_iPair_0 x0 x1 x12 x13) (T_slices_Equal_iPair_0 x0 x1 x12 x13).val := Runs.ofIt (step := sp_slices_Equal_iPair_0) pv_slices_Equal_iPair_0 (ct := ct_slices_Equal_iPair_0) rfl (fun v => ((relB (relB (relB (relB rfl rfl) rfl) rfl) rfl) : (st_slices_Equal_iPair_0 v.1 v.2.1 v.2.2.1 v.2.2.2).val = relS pv_slices_Equal_iPair_0 ct_slices_Equal_iPair_0 (ss_slices_Equal_iPair_0 v.1 v.2.1 v.2.2.1 v.2.2.2))) (fun a => ((cendB (cendD (by simp)) (cendB (cendD (by simp)) cendF)) : CEnd _ (ct_slices_Equal_iPair_0 a))) (x0, x1, x12, x13)
theorem rd_slices_Equal_iPair_0 : ∀ d, execC Try.prog tt S68 QF68 (fun _ _ => none) 0 body_slices_Equal_iPair_0 (S_slices_Equal_iPair_0.st d 0 []) (fun e s' => some (e, S_slices_Equal_iPair_0.cutE (kepts [4] [(0, [])]) e s')) = (sp_slices_Equal_iPair_0 d).opt 0 [] := by
  intro d
  kernel_rfl
noncomputable abbrev say_slices_Equal_iPair_0 : St → Option Tree := S_slices_Equal_iPair_0.say 0 [] [] (fun d => T_slices_Equal_iPair_0 d.1.1 d.1.2.1 d.1.2.2.2.2.2.2.2.2.2.2.2.2.1 d.1.2.2.2.2.2.2.2.2.2.2.2.2.2.1)
theorem lw_slices_Equal_iPair_0 : LoopWp Try.prog say_slices_Equal_iPair_0 body_slices_Equal_iPair_0 := SS.wp G68 (fun _ _ => none) (by rw [show loopsIn 0 body_slices_Equal_iPair_0 = [] by kernel_rfl]; simp) S_slices_Equal_iPair_0 0 [] (kepts [4] [(0, [])]) [] sp_slices_Equal_iPair_0 rd_slices_Equal_iPair_0 _ (fun d => R_slices_Equal_iPair_0 d.1.1 d.1.2.1 d.1.2.2.2.2.2.2.2.2.2.2.2.2.1 d.1.2.2.2.2.2.2.2.2.2.2.2.2.2.1)
noncomputable def slices_Equal_iPair (a0 : LBBe) (a1 : LBBe) : Bool := (cond (((a0.length : Nat) : Int) != ((a1.length : Nat) : Int)) false (cond ((it_slices_Equal_iPair_0 a0 a1 ((a0.length : Nat) : Int) (0 : Int)).1 == 0) ((it_slices_Equal_iPair_0 a0 a1 ((a0.length : Nat) : Int) (0 : Int)).2) true))
noncomputable abbrev e_slices_Equal_iPair (r : Bool) : AV × List AObj := ((.t true .bool r), [])
noncomputable abbrev F_slices_Equal_iPair (r : Bool) := some (e_slices_Equal_iPair r)
noncomputable abbrev g_slices_Equal_iPair : pshsDen P_slices_Equal_iPair → AV × List AObj := fun d => e_slices_Equal_iPair (slices_Equal_iPair d.1 d.2.1)
noncomputable def q_slices_Equal_iPair (a0 : LBBe) (a1 : LBBe) : Bool := cond (((a0.length : Nat) : Int) != ((a1.length : Nat) : Int)) true (cond ((it_slices_Equal_iPair_0 a0 a1 ((a0.length : Nat) : Int) (0 : Int)).1 == 0) true ((it_slices_Equal_iPair_0 a0 a1 ((a0.length : Nat) : Int) (0 : Int)).1 == 1))
noncomputable abbrev pre_slices_Equal_iPair : pshsDen P_slices_Equal_iPair → Bool := fun d => q_slices_Equal_iPair d.1 d.2.1
theorem runA_slices_Equal_iPair (a0 : LBBe) (a1 : LBBe) (hp : q_slices_Equal_iPair a0 a1 = true) : runP true Try.prog tt S68 QF68 (fun b => match b with | 0 => say_slices_Equal_iPair_0 | _ => fun _ => none) Try.f102 (argsMk P_slices_Equal_iPair (a0, (a1, ()))) = some (g_slices_Equal_iPair (a0, (a1, ()))) := by
  unfold q_slices_Equal_iPair at hp
  refine Eq.trans (b := (cond (((a0.length : Nat) : Int) != ((a1.length : Nat) : Int)) (some (e_slices_Equal_iPair false)) (cond ((it_slices_Equal_iPair_0 a0 a1 ((a0.length : Nat) : Int) (0 : Int)).1 == 0) (some (e_slices_Equal_iPair ((it_slices_Equal_iPair_0 a0 a1 ((a0.length : Nat) : Int) (0 : Int)).2))) (cond ((it_slices_Equal_iPair_0 a0 a1 ((a0.length : Nat) : Int) (0 : Int)).1 == 1) (some (e_slices_Equal_iPair true)) none)))) (by kernel_rfl) ?_
  exact (cndQ (F := F_slices_Equal_iPair) hp (fun hp => rfl) (fun hp => (cndQ (F := F_slices_Equal_iPair) hp (fun hp => rfl) (fun hp => (cndT hp fun _h => rfl)))))
theorem run_slices_Equal_iPair : ∀ d, pre_slices_Equal_iPair d = true → runP true Try.prog tt S68 QF68 (fun b => match b with | 0 => say_slices_Equal_iPair_0 | _ => fun _ => none) Try.f102 (argsMk P_slices_Equal_iPair d) = some (g_slices_Equal_iPair d) := fun d hp => runA_slices_Equal_iPair d.1 d.2.1 hp
theorem c_slices_Equal_iPair : PContract Try.prog 102 (sumOf P_slices_Equal_iPair pre_slices_Equal_iPair g_slices_Equal_iPair) := PContract.of_data true G68 (fn := Try.f102) (by kernel_rfl) (L := fun b => match b with | 0 => say_slices_Equal_iPair_0 | _ => fun _ => none) (by rw [show loopsIn 0 (bodyOf Try.f102) = [(0, body_slices_Equal_iPair_0)] by kernel_rfl]; intro p hp; simp only [List.mem_singleton] at hp; subst hp; exact lw_slices_Equal_iPair_0) P_slices_Equal_iPair pre_slices_Equal_iPair g_slices_Equal_iPair run_slices_Equal_iPair
noncomputable def S69 : Tab := Tab.add S68 102 (lift (sumOf P_slices_Equal_iPair pre_slices_Equal_iPair g_slices_Equal_iPair))
noncomputable def QF69 : FuncId → Bool := qadd QF68 102
theorem G69 : Good Try.prog tt S69 QF69 := G68.addQ c_slices_Equal_iPair ⟨Try.f102, by kernel_rfl, by kernel_rfl, by kernel_rfl⟩ (fun _ => rfl)

/-! 144 slices.Equal[[]loop.example/g00244/impl.Op,loop.example/g00244/impl.Op] -/
noncomputable abbrev P_slices_Equal_iOp : List PSh := [.t t_spiptt, .t t_spiptt]
noncomputable abbrev S_slices_Equal_iOp_0 : SS := ⟨(.t false t_spiptt :: .t false t_spiptt :: .junk :: .junk :: .junk :: .junk :: .junk :: .junk :: .junk :: .junk :: .junk :: .junk :: .t true (.int .i64) :: .t true (.int .i64) :: jS12), []⟩
noncomputable abbrev E_slices_Equal_iOp_0_0 : SS := ⟨(.junk :: .junk :: .junk :: .junk :: .t true .bool :: jS21), []⟩
noncomputable abbrev E_slices_Equal_iOp_0_1 : SS := ⟨(.junk :: jS25), []⟩
noncomputable def st_slices_Equal_iOp_0 (x0 : LIBBe) (x1 : LIBBe) (x12 : Int) (x13 : Int) : RT S_slices_Equal_iOp_0.den := (.br (decide (x13 < x12)) (.br (decide (0 ≤ x13 ∧ x13 < ((x0.length : Nat) : Int))) (.br (decide (0 ≤ x13 ∧ x13 < ((x1.length : Nat) : Int))) (.br (!((((x0.getD x13.toNat ((0 : Int), (bE, bE))).1) == ((x1.getD x13.toNat ((0 : Int), (bE, bE))).1)) && (((((x0.getD x13.toNat ((0 : Int), (bE, bE))).2).1).toList == (((x1.getD x13.toNat ((0 : Int), (bE, bE))).2).1).toList) && (((((x0.getD x13.toNat ((0 : Int), (bE, bE))).2).2).toList == (((x1.getD x13.toNat ((0 : Int), (bE, bE))).2).2).toList) && true)))) (.done .ret E_slices_Equal_iOp_0_0 (((), (), (), (), false, u22), ())) (.next ((x0, x1, (), (), (), (), (), (), (), (), (), (), x12, IntKind.wrap .i64 (x13 + (1 : Int)), u13), ()))) .fail) .fail) (.done (.exit 0) E_slices_Equal_iOp_0_1 ((u27), ())))
noncomputable abbrev V_slices_Equal_iOp_0 := (LIBBe) × (LIBBe) × (Int) × (Int)
noncomputable abbrev A_slices_Equal_iOp_0 := Nat × (Bool)
noncomputable def fl_slices_Equal_iOp_0 : A_slices_Equal_iOp_0 := (99, (false : Bool))
noncomputable def ss_slices_Equal_iOp_0 (x0 : LIBBe) (x1 : LIBBe) (x12 : Int) (x13 : Int) : V_slices_Equal_iOp_0 ⊕ A_slices_Equal_iOp_0 := (cond (decide (x13 < x12)) (cond (decide (0 ≤ x13 ∧ x13 < ((x0.length : Nat) : Int))) (cond (decide (0 ≤ x13 ∧ x13 < ((x1.length : Nat) : Int))) (cond (!((((x0.getD x13.toNat ((0 : Int), (bE, bE))).1) == ((x1.getD x13.toNat ((0 : Int), (bE, bE))).1)) && (((((x0.getD x13.toNat ((0 : Int), (bE, bE))).2).1).toList == (((x1.getD x13.toNat ((0 : Int), (bE, bE))).2).1).toList) && (((((x0.getD x13.toNat ((0 : Int), (bE, bE))).2).2).toList == (((x1.getD x13.toNat ((0 : Int), (bE, bE))).2).2).toList) && true)))) (.inr (0, false)) (.inl (x0, x1, x12, IntKind.wrap .i64 (x13 + (1 : Int))))) (.inr fl_slices_Equal_iOp_0)) (.inr fl_slices_Equal_iOp_0)) (.inr (1, (false : Bool))))
noncomputable def it_slices_Equal_iOp_0 (x0 : LIBBe) (x1 : LIBBe) (x12 : Int) (x13 : Int) : A_slices_Equal_iOp_0 := itX (fun v : V_slices_Equal_iOp_0 => ss_slices_Equal_iOp_0 v.1 v.2.1 v.2.2.1 v.2.2.2) fl_slices_Equal_iOp_0 (x0, x1, x12, x13)
noncomputable def ct_slices_Equal_iOp_0 (a : A_slices_Equal_iOp_0) : CT := (.br (a.1 == 0) (.done .ret E_slices_Equal_iOp_0_0 (((), (), (), (), a.2, u22), ())) (.br (a.1 == 1) (.done (.exit 0) E_slices_Equal_iOp_0_1 ((u27), ())) .fail))
noncomputable def T_slices_Equal_iOp_0 (x0 : LIBBe) (x1 : LIBBe) (x12 : Int) (x13 : Int) : CT := ct_slices_Equal_iOp_0 (it_slices_Equal_iOp_0 x0 x1 x12 x13)
noncomputable abbrev sp_slices_Equal_iOp_0 : S_slices_Equal_iOp_0.den → RT S_slices_Equal_iOp_0.den := fun d => st_slices_Equal_iOp_0 d.1.1 d.1.2.1 d.1.2.2.2.2.2.2.2.2.2.2.2.2.1 d.1.2.2.2.2.2.2.2.2.2.2.2.2.2.1
noncomputable abbrev pk_slices_Equal_iOp_0 (x0 : LIBBe) (x1 : LIBBe) (x12 : Int) (x13 : Int) : S_slices_Equal_iOp_0.den := ((x0, x1, (), (), (), (), (), (), (), (), (), (), x12, x13, u13), ())
noncomputable def body_slices_Equal_iOp_0 : Code := ((loopsIn 0 (bodyOf Try.f144)).getD 0 (0, .skip)).2
noncomputable abbrev pv_slices_Equal_iOp_0 (v : V_slices_Equal_iOp_0) : S_slices_Equal_iOp_0.den := pk_slices_Equal_iOp_0 v.1 v.2.1 v.2.2.1 v.2.2.2
theorem R_slices_Equal_iOp_0 (x0 : LIBBe) (x1 : LIBBe) (x12 : Int) (x13 : Int) : (T_slices_Equal_iOp_0 x0 x1 x12 x13).val (D := S_slices_Equal_iOp_0.den) = .fail ∨ Runs sp_slices_Equal_iOp_0 (pk_slices_Equal_iOp_0 x0 x1 x12 x13) (T_slices_Equal_iOp_0 x0 x1 x12 x13).val := Runs.ofIt (step := sp_slices_Equal_iOp_0) pv_slices_Equal_iOp_0 (ct := ct_slices_Equal_iOp_0) rfl (fun v => ((relB (relB (relB (relB rfl rfl) rfl) rfl) rfl) : (st_slices_Equal_iOp_0 v.1 v.2.1 v.2.2.1 v.2.2.2).val = relS pv_slices_Equal_iOp_0 ct_slices_Equal_iOp_0 (ss_slices_Equal_iOp_0 v.1 v.2.1 v.2.2.1 v.2.2.2))) (fun a => ((cendB (cendD (by simp)) (cendB (cendD (by simp)) cendF)) : CEnd _ (ct_slices_Equal_iOp_0 a))) (x0, x1, x12, x13)
theorem rd_slices_Equal_iOp_0 : ∀ d, execC Try.prog tt S69 QF69 (fun _ _ => none) 0 body_slices_Equal_iOp_0 (S_slices_Equal_iOp_0.st d 0 []) (fun e s' => some (e, S_slices_Equal_iOp_0.cutE (kepts [4] [(0, [])]) e s')) = (sp_slices_Equal_iOp_0 d).opt 0 [] := by
  intro d
  kernel_rfl
noncomputable abbrev say_slices_Equal_iOp_0 : St → Option Tree := S_slices_Equal_iOp_0.say 0 [] [] (fun d => T_slices_Equal_iOp_0 d.1.1 d.1.2.1 d.1.2.2.2.2.2.2.2.2.2.2.2.2.1 d.1.2.2.2.2.2.2.2.2.2.2.2.2.2.1)
theorem lw_slices_Equal_iOp_0 : LoopWp Try.prog say_slices_Equal_iOp_0 body_slices_Equal_iOp_0 := SS.wp G69 (fun _ _ => none) (by rw [show loopsIn 0 body_slices_Equal_iOp_0 = [] by kernel_rfl]; simp) S_slices_Equal_iOp_0 0 [] (kepts [4] [(0, [])]) [] sp_slices_Equal_iOp_0 rd_slices_Equal_iOp_0 _ (fun d => R_slices_Equal_iOp_0 d.1.1 d.1.2.1 d.1.2.2.2.2.2.2.2.2.2.2.2.2.1 d.1.2.2.2.2.2.2.2.2.2.2.2.2.2.1)
noncomputable def slices_Equal_iOp (a0 : LIBBe) (a1 : LIBBe) : Bool := (cond (((a0.length : Nat) : Int) != ((a1.length : Nat) : Int)) false (cond ((it_slices_Equal_iOp_0 a0 a1 ((a0.length : Nat) : Int) (0 : Int)).1 == 0) ((it_slices_Equal_iOp_0 a0 a1 ((a0.length : Nat) : Int) (0 : Int)).2) true))
noncomputable abbrev e_slices_Equal_iOp (r : Bool) : AV × List AObj := ((.t true .bool r), [])
noncomputable abbrev F_slices_Equal_iOp (r : Bool) := some (e_slices_Equal_iOp r)
noncomputable abbrev g_slices_Equal_iOp : pshsDen P_slices_Equal_iOp → AV × List AObj := fun d => e_slices_Equal_iOp (slices_Equal_iOp d.1 d.2.1)
noncomputable def q_slices_Equal_iOp (a0 : LIBBe) (a1 : LIBBe) : Bool := cond (((a0.length : Nat) : Int) != ((a1.length : Nat) : Int)) true (cond ((it_slices_Equal_iOp_0 a0 a1 ((a0.length : Nat) : Int) (0 : Int)).1 == 0) true ((it_slices_Equal_iOp_0 a0 a1 ((a0.length : Nat) : Int) (0 : Int)).1 == 1))
noncomputable abbrev pre_slices_Equal_iOp : pshsDen P_slices_Equal_iOp → Bool := fun d => q_slices_Equal_iOp d.1 d.2.1
theorem runA_slices_Equal_iOp (a0 : LIBBe) (a1 : LIBBe) (hp : q_slices_Equal_iOp a0 a1 = true) : runP true Try.prog tt S69 QF69 (fun b => match b with | 0 => say_slices_Equal_iOp_0 | _ => fun _ => none) Try.f144 (argsMk P_slices_Equal_iOp (a0, (a1, ()))) = some (g_slices_Equal_iOp (a0, (a1, ()))) := by
  unfold q_slices_Equal_iOp at hp
  refine Eq.trans (b := (cond (((a0.length : Nat) : Int) != ((a1.length : Nat) : Int)) (some (e_slices_Equal_iOp false)) (cond ((it_slices_Equal_iOp_0 a0 a1 ((a0.length : Nat) : Int) (0 : Int)).1 == 0) (some (e_slices_Equal_iOp ((it_slices_Equal_iOp_0 a0 a1 ((a0.length : Nat) : Int) (0 : Int)).2))) (cond ((it_slices_Equal_iOp_0 a0 a1 ((a0.length : Nat) : Int) (0 : Int)).1 == 1) (some (e_slices_Equal_iOp true)) none)))) (by kernel_rfl) ?_
  exact (cndQ (F := F_slices_Equal_iOp) hp (fun hp => rfl) (fun hp => (cndQ (F := F_slices_Equal_iOp) hp (fun hp => rfl) (fun hp => (cndT hp fun _h => rfl)))))
theorem run_slices_Equal_iOp : ∀ d, pre_slices_Equal_iOp d = true → runP true Try.prog tt S69 QF69 (fun b => match b with | 0 => say_slices_Equal_iOp_0 | _ => fun _ => none) Try.f144 (argsMk P_slices_Equal_iOp d) = some (g_slices_Equal_iOp d) := fun d hp => runA_slices_Equal_iOp d.1 d.2.1 hp
theorem c_slices_Equal_iOp : PContract Try.prog 144 (sumOf P_slices_Equal_iOp pre_slices_Equal_iOp g_slices_Equal_iOp) := PContract.of_data true G69 (fn := Try.f144) (by kernel_rfl) (L := fun b => match b with | 0 => say_slices_Equal_iOp_0 | _ => fun _ => none) (by rw [show loopsIn 0 (bodyOf Try.f144) = [(0, body_slices_Equal_iOp_0)] by kernel_rfl]; intro p hp; simp only [List.mem_singleton] at hp; subst hp; exact lw_slices_Equal_iOp_0) P_slices_Equal_iOp pre_slices_Equal_iOp g_slices_Equal_iOp run_slices_Equal_iOp
noncomputable def S70 : Tab := Tab.add S69 144 (lift (sumOf P_slices_Equal_iOp pre_slices_Equal_iOp g_slices_Equal_iOp))
noncomputable def QF70 : FuncId → Bool := qadd QF69 144
theorem G70 : Good Try.prog tt S70 QF70 := G69.addQ c_slices_Equal_iOp ⟨Try.f144, by kernel_rfl, by kernel_rfl, by kernel_rfl⟩ (fun _ => rfl)

/-! 104 loop.example/g00244/impl.sameRec -/
noncomputable abbrev P_isameRec : List PSh := [.agg [(.int .i64), (.int .i64), t_spiptt], .agg [(.int .i64), (.int .i64), t_spiptt]]
noncomputable def isameRec (a0 : Int) (a1 : Int) (a2 : LIBBe) (a3 : Int) (a4 : Int) (a5 : LIBBe) : Bool := (cond (a0 == a3) (cond (a1 == a4) (slices_Equal_iOp a2 a5) false) false)
noncomputable abbrev e_isameRec (r : Bool) : AV × List AObj := ((.t true .bool r), [])
noncomputable abbrev F_isameRec (r : Bool) := some (e_isameRec r)
noncomputable abbrev g_isameRec : pshsDen P_isameRec → AV × List AObj := fun d => e_isameRec (isameRec d.1.1 d.1.2.1 d.1.2.2.1 d.2.1.1 d.2.1.2.1 d.2.1.2.2.1)
noncomputable def q_isameRec (a0 : Int) (a1 : Int) (a2 : LIBBe) (a3 : Int) (a4 : Int) (a5 : LIBBe) : Bool := cond (a0 == a3) (cond (a1 == a4) (q_slices_Equal_iOp a2 a5) true) true
noncomputable abbrev pre_isameRec : pshsDen P_isameRec → Bool := fun d => q_isameRec d.1.1 d.1.2.1 d.1.2.2.1 d.2.1.1 d.2.1.2.1 d.2.1.2.2.1
theorem runA_isameRec (a0 : Int) (a1 : Int) (a2 : LIBBe) (a3 : Int) (a4 : Int) (a5 : LIBBe) (hp : q_isameRec a0 a1 a2 a3 a4 a5 = true) : runP true Try.prog tt S70 QF70 (fun _ _ => none) Try.f104 (argsMk P_isameRec ((a0, (a1, (a2, ()))), ((a3, (a4, (a5, ()))), ()))) = some (g_isameRec ((a0, (a1, (a2, ()))), ((a3, (a4, (a5, ()))), ()))) := by
  unfold q_isameRec at hp
  refine Eq.trans (b := (cond (a0 == a3) (cond (a1 == a4) (cond (q_slices_Equal_iOp a2 a5) (some (e_isameRec (slices_Equal_iOp a2 a5))) none) (some (e_isameRec false))) (some (e_isameRec false)))) (by kernel_rfl) ?_
  exact (cndQ (F := F_isameRec) hp (fun hp => (cndQ (F := F_isameRec) hp (fun hp => (cndT hp fun _h => rfl)) (fun hp => rfl))) (fun hp => rfl))
theorem run_isameRec : ∀ d, pre_isameRec d = true → runP true Try.prog tt S70 QF70 (fun _ _ => none) Try.f104 (argsMk P_isameRec d) = some (g_isameRec d) := fun d hp => runA_isameRec d.1.1 d.1.2.1 d.1.2.2.1 d.2.1.1 d.2.1.2.1 d.2.1.2.2.1 hp
theorem c_isameRec : PContract Try.prog 104 (sumOf P_isameRec pre_isameRec g_isameRec) := PContract.of_data true G70 (fn := Try.f104) (by kernel_rfl) (L := fun _ _ => none) (by rw [show loopsIn 0 (bodyOf Try.f104) = [] by kernel_rfl]; simp) P_isameRec pre_isameRec g_isameRec run_isameRec
noncomputable def S71 : Tab := Tab.add S70 104 (lift (sumOf P_isameRec pre_isameRec g_isameRec))
noncomputable def QF71 : FuncId → Bool := qadd QF70 104
theorem G71 : Good Try.prog tt S71 QF71 := G70.addQ c_isameRec ⟨Try.f104, by kernel_rfl, by kernel_rfl, by kernel_rfl⟩ (fun _ => rfl)

/-! 103 slices.EqualFunc[[]loop.example/g00244/impl.Rec,[]loop.example/g00244/impl.Rec,loop.example/g00244/impl.Rec,loop.example/g00244/impl.Rec] -/
noncomputable abbrev jA14 : List AV := .junk :: .junk :: .junk :: jA11
noncomputable abbrev SM_slices_EqualFunc_iReciRec_iRec_iRec_ : SS := ⟨[.t false t_spipispiptt, .t false t_spipispiptt, .fn 104 []], []⟩
noncomputable abbrev S_slices_EqualFunc_iReciRec_iRec_iRec__0 : SS := ⟨(.junk :: .t false t_spipispiptt :: .fn 104 [] :: .junk :: .junk :: .junk :: .junk :: .junk :: .junk :: .junk :: .junk :: .junk :: .junk :: .junk :: .junk :: .t false t_spipispiptt :: .t true (.int .i64) :: .t true (.int .i64) :: jS14), []⟩
noncomputable abbrev E_slices_EqualFunc_iReciRec_iRec_iRec__0_0 : SS := ⟨(.junk :: .junk :: .junk :: .junk :: .junk :: .junk :: .t true .bool :: jS25), []⟩
noncomputable abbrev E_slices_EqualFunc_iReciRec_iRec_iRec__0_1 : SS := ⟨(.junk :: jS31), []⟩
noncomputable def k1_slices_EqualFunc_iReciRec_iRec_iRec_ (x1 : LIILIBBee) (x15 : LIILIBBee) (x17 : Int) := isameRec ((x15.getD x17.toNat ((0 : Int), ((0 : Int), []))).1) (((x15.getD x17.toNat ((0 : Int), ((0 : Int), []))).2).1) (((x15.getD x17.toNat ((0 : Int), ((0 : Int), []))).2).2) ((x1.getD x17.toNat ((0 : Int), ((0 : Int), []))).1) (((x1.getD x17.toNat ((0 : Int), ((0 : Int), []))).2).1) (((x1.getD x17.toNat ((0 : Int), ((0 : Int), []))).2).2)
noncomputable def st_slices_EqualFunc_iReciRec_iRec_iRec__0 (x1 : LIILIBBee) (x15 : LIILIBBee) (x16 : Int) (x17 : Int) : RT S_slices_EqualFunc_iReciRec_iRec_iRec__0.den := (.br (decide (x17 < x16)) (.br (decide (0 ≤ x17 ∧ x17 < ((x15.length : Nat) : Int))) (.br (decide (0 ≤ x17 ∧ x17 < ((x1.length : Nat) : Int))) (.br (q_isameRec ((x15.getD x17.toNat ((0 : Int), ((0 : Int), []))).1) (((x15.getD x17.toNat ((0 : Int), ((0 : Int), []))).2).1) (((x15.getD x17.toNat ((0 : Int), ((0 : Int), []))).2).2) ((x1.getD x17.toNat ((0 : Int), ((0 : Int), []))).1) (((x1.getD x17.toNat ((0 : Int), ((0 : Int), []))).2).1) (((x1.getD x17.toNat ((0 : Int), ((0 : Int), []))).2).2)) (.br (!(k1_slices_EqualFunc_iReciRec_iRec_iRec_ x1 x15 x17)) (.done .ret E_slices_EqualFunc_iReciRec_iRec_iRec__0_0 (((), (), (), (), (), (), false, u26), ())) (.next (((), x1, (), (), (), (), (), (), (), (), (), (), (), (), (), x15, x16, IntKind.wrap .i64 (x17 + (1 : Int)), u15), ()))) .fail) .fail) .fail) (.done (.exit 0) E_slices_EqualFunc_iReciRec_iRec_iRec__0_1 ((u33), ())))
noncomputable abbrev V_slices_EqualFunc_iReciRec_iRec_iRec__0 := (LIILIBBee) × (LIILIBBee) × (Int) × (Int)
noncomputable abbrev A_slices_EqualFunc_iReciRec_iRec_iRec__0 := Nat × (Bool)
noncomputable def fl_slices_EqualFunc_iReciRec_iRec_iRec__0 : A_slices_EqualFunc_iReciRec_iRec_iRec__0 := (99, (false : Bool))
noncomputable def ss_slices_EqualFunc_iReciRec_iRec_iRec__0 (x1 : LIILIBBee) (x15 : LIILIBBee) (x16 : Int) (x17 : Int) : V_slices_EqualFunc_iReciRec_iRec_iRec__0 ⊕ A_slices_EqualFunc_iReciRec_iRec_iRec__0 := (cond (decide (x17 < x16)) (cond (decide (0 ≤ x17 ∧ x17 < ((x15.length : Nat) : Int))) (cond (decide (0 ≤ x17 ∧ x17 < ((x1.length : Nat) : Int))) (cond (q_isameRec ((x15.getD x17.toNat ((0 : Int), ((0 : Int), []))).1) (((x15.getD x17.toNat ((0 : Int), ((0 : Int), []))).2).1) (((x15.getD x17.toNat ((0 : Int), ((0 : Int), []))).2).2) ((x1.getD x17.toNat ((0 : Int), ((0 : Int), []))).1) (((x1.getD x17.toNat ((0 : Int), ((0 : Int), []))).2).1) (((x1.getD x17.toNat ((0 : Int), ((0 : Int), []))).2).2)) (cond (!(k1_slices_EqualFunc_iReciRec_iRec_iRec_ x1 x15 x17)) (.inr (0, false)) (.inl (x1, x15, x16, IntKind.wrap .i64 (x17 + (1 : Int))))) (.inr fl_slices_EqualFunc_iReciRec_iRec_iRec__0)) (.inr fl_slices_EqualFunc_iReciRec_iRec_iRec__0)) (.inr fl_slices_EqualFunc_iReciRec_iRec_iRec__0)) (.inr (1, (false : Bool))))
noncomputable def it_slices_EqualFunc_iReciRec_iRec_iRec__0 (x1 : LIILIBBee) (x15 : LIILIBBee) (x16 : Int) (x17 : Int) : A_slices_EqualFunc_iReciRec_iRec_iRec__0 := itX (fun v : V_slices_EqualFunc_iReciRec_iRec_iRec__0 => ss_slices_EqualFunc_iReciRec_iRec_iRec__0 v.1 v.2.1 v.2.2.1 v.2.2.2) fl_slices_EqualFunc_iReciRec_iRec_iRec__0 (x1, x15, x16, x17)
noncomputable def ct_slices_EqualFunc_iReciRec_iRec_iRec__0 (a : A_slices_EqualFunc_iReciRec_iRec_iRec__0) : CT := (.br (a.1 == 0) (.done .ret E_slices_EqualFunc_iReciRec_iRec_iRec__0_0 (((), (), (), (), (), (), a.2, u26), ())) (.br (a.1 == 1) (.done (.exit 0) E_slices_EqualFunc_iReciRec_iRec_iRec__0_1 ((u33), ())) .fail))
noncomputable def T_slices_EqualFunc_iReciRec_iRec_iRec__0 (x1 : LIILIBBee) (x15 : LIILIBBee) (x16 : Int) (x17 : Int) : CT := ct_slices_EqualFunc_iReciRec_iRec_iRec__0 (it_slices_EqualFunc_iReciRec_iRec_iRec__0 x1 x15 x16 x17)
noncomputable abbrev sp_slices_EqualFunc_iReciRec_iRec_iRec__0 : S_slices_EqualFunc_iReciRec_iRec_iRec__0.den → RT S_slices_EqualFunc_iReciRec_iRec_iRec__0.den := fun d => st_slices_EqualFunc_iReciRec_iRec_iRec__0 d.1.2.1 d.1.2.2.2.2.2.2.2.2.2.2.2.2.2.2.2.1 d.1.2.2.2.2.2.2.2.2.2.2.2.2.2.2.2.2.1 d.1.2.2.2.2.2.2.2.2.2.2.2.2.2.2.2.2.2.1
noncomputable abbrev pk_slices_EqualFunc_iReciRec_iRec_iRec__0 (x1 : LIILIBBee) (x15 : LIILIBBee) (x16 : Int) (x17 : Int) : S_slices_EqualFunc_iReciRec_iRec_iRec__0.den := (((), x1, (), (), (), (), (), (), (), (), (), (), (), (), (), x15, x16, x17, u15), ())
noncomputable def body_slices_EqualFunc_iReciRec_iRec_iRec__0 : Code := ((loopsIn 0 (bodyOf Try.f103)).getD 0 (0, .skip)).2
noncomputable abbrev pv_slices_EqualFunc_iReciRec_iRec_iRec__0 (v : V_slices_EqualFunc_iReciRec_iRec_iRec__0) : S_slices_EqualFunc_iReciRec_iRec_iRec__0.den := pk_slices_EqualFunc_iReciRec_iRec_iRec__0 v.1 v.2.1 v.2.2.1 v.2.2.2
theorem R_slices_EqualFunc_iReciRec_iRec_iRec__0 (x1 : LIILIBBee) (x15 : LIILIBBee) (x16 : Int) (x17 : Int) : (T_slices_EqualFunc_iReciRec_iRec_iRec__0 x1 x15 x16 x17).val (D := S_slices_EqualFunc_iReciRec_iRec_iRec__0.den) = .fail ∨ Runs sp_slices_EqualFunc_iReciRec_iRec_iRec__0 (pk_slices_EqualFunc_iReciRec_iRec_iRec__0 x1 x15 x16 x17) (T_slices_EqualFunc_iReciRec_iRec_iRec__0 x1 x15 x16 x17).val := Runs.ofIt (step := sp_slices_EqualFunc_iReciRec_iRec_iRec__0) pv_slices_EqualFunc_iReciRec_iRec_iRec__0 (ct := ct_slices_EqualFunc_iReciRec_iRec_iRec__0) rfl (fun v => ((relB (relB (relB (relB (relB rfl rfl) rfl) rfl) rfl) rfl) : (st_slices_EqualFunc_iReciRec_iRec_iRec__0 v.1 v.2.1 v.2.2.1 v.2.2.2).val = relS pv_slices_EqualFunc_iReciRec_iRec_iRec__0 ct_slices_EqualFunc_iReciRec_iRec_iRec__0 (ss_slices_EqualFunc_iReciRec_iRec_iRec__0 v.1 v.2.1 v.2.2.1 v.2.2.2))) (fun a => ((cendB (cendD (by simp)) (cendB (cendD (by simp)) cendF)) : CEnd _ (ct_slices_EqualFunc_iReciRec_iRec_iRec__0 a))) (x1, x15, x16, x17)
noncomputable def ox_slices_EqualFunc_iReciRec_iRec_iRec__0 (x1 : LIILIBBee) (x15 : LIILIBBee) (x16 : Int) (x17 : Int) : Option (Ex × St) := (cond (decide (x17 < x16)) (cond (decide (0 ≤ x17 ∧ x17 < ((x15.length : Nat) : Int))) (cond (decide (0 ≤ x17 ∧ x17 < ((x1.length : Nat) : Int))) (cond (q_isameRec ((x15.getD x17.toNat ((0 : Int), ((0 : Int), []))).1) (((x15.getD x17.toNat ((0 : Int), ((0 : Int), []))).2).1) (((x15.getD x17.toNat ((0 : Int), ((0 : Int), []))).2).2) ((x1.getD x17.toNat ((0 : Int), ((0 : Int), []))).1) (((x1.getD x17.toNat ((0 : Int), ((0 : Int), []))).2).1) (((x1.getD x17.toNat ((0 : Int), ((0 : Int), []))).2).2)) (cond (!(k1_slices_EqualFunc_iReciRec_iRec_iRec_ x1 x15 x17)) (some (.ret, (⟨(.junk :: .junk :: .junk :: .junk :: .junk :: .junk :: (.t true .bool false) :: jA25), [], 0, []⟩ : St))) (some (.normal, (⟨(.junk :: (.t false t_spipispiptt x1) :: (.fn 104 []) :: .junk :: .junk :: .junk :: .junk :: .junk :: .junk :: .junk :: .junk :: .junk :: .junk :: .junk :: .junk :: (.t false t_spipispiptt x15) :: (.t true (.int .i64) x16) :: (.t true (.int .i64) (IntKind.wrap .i64 (x17 + (1 : Int)))) :: jA14), [], 0, []⟩ : St)))) none) none) none) (some ((.exit 0), (⟨(.junk :: jA31), [], 0, []⟩ : St))))
theorem rdA_slices_EqualFunc_iReciRec_iRec_iRec__0 : ∀ d, execC Try.prog tt S71 QF71 (fun _ _ => none) 0 body_slices_EqualFunc_iReciRec_iRec_iRec__0 (S_slices_EqualFunc_iReciRec_iRec_iRec__0.st d 0 []) (fun e s' => some (e, S_slices_EqualFunc_iReciRec_iRec_iRec__0.cutE (kepts [6] [(0, [])]) e s')) = ox_slices_EqualFunc_iReciRec_iRec_iRec__0 d.1.2.1 d.1.2.2.2.2.2.2.2.2.2.2.2.2.2.2.2.1 d.1.2.2.2.2.2.2.2.2.2.2.2.2.2.2.2.2.1 d.1.2.2.2.2.2.2.2.2.2.2.2.2.2.2.2.2.2.1 := by
  intro d
  kernel_rfl
theorem rdB_slices_EqualFunc_iReciRec_iRec_iRec__0 : ∀ d : S_slices_EqualFunc_iReciRec_iRec_iRec__0.den, ox_slices_EqualFunc_iReciRec_iRec_iRec__0 d.1.2.1 d.1.2.2.2.2.2.2.2.2.2.2.2.2.2.2.2.1 d.1.2.2.2.2.2.2.2.2.2.2.2.2.2.2.2.2.1 d.1.2.2.2.2.2.2.2.2.2.2.2.2.2.2.2.2.2.1 = (sp_slices_EqualFunc_iReciRec_iRec_iRec__0 d).opt 0 [] := by
  intro d
  kernel_rfl
theorem rd_slices_EqualFunc_iReciRec_iRec_iRec__0 : ∀ d, execC Try.prog tt S71 QF71 (fun _ _ => none) 0 body_slices_EqualFunc_iReciRec_iRec_iRec__0 (S_slices_EqualFunc_iReciRec_iRec_iRec__0.st d 0 []) (fun e s' => some (e, S_slices_EqualFunc_iReciRec_iRec_iRec__0.cutE (kepts [6] [(0, [])]) e s')) = (sp_slices_EqualFunc_iReciRec_iRec_iRec__0 d).opt 0 [] := fun d => (rdA_slices_EqualFunc_iReciRec_iRec_iRec__0 d).trans (rdB_slices_EqualFunc_iReciRec_iRec_iRec__0 d)
noncomputable abbrev say_slices_EqualFunc_iReciRec_iRec_iRec__0 : St → Option Tree := S_slices_EqualFunc_iReciRec_iRec_iRec__0.say 0 [] [] (fun d => T_slices_EqualFunc_iReciRec_iRec_iRec__0 d.1.2.1 d.1.2.2.2.2.2.2.2.2.2.2.2.2.2.2.2.1 d.1.2.2.2.2.2.2.2.2.2.2.2.2.2.2.2.2.1 d.1.2.2.2.2.2.2.2.2.2.2.2.2.2.2.2.2.2.1)
theorem lw_slices_EqualFunc_iReciRec_iRec_iRec__0 : LoopWp Try.prog say_slices_EqualFunc_iReciRec_iRec_iRec__0 body_slices_EqualFunc_iReciRec_iRec_iRec__0 := SS.wp G71 (fun _ _ => none) (by rw [show loopsIn 0 body_slices_EqualFunc_iReciRec_iRec_iRec__0 = [] by kernel_rfl]; simp) S_slices_EqualFunc_iReciRec_iRec_iRec__0 0 [] (kepts [6] [(0, [])]) [] sp_slices_EqualFunc_iReciRec_iRec_iRec__0 rd_slices_EqualFunc_iReciRec_iRec_iRec__0 _ (fun d => R_slices_EqualFunc_iReciRec_iRec_iRec__0 d.1.2.1 d.1.2.2.2.2.2.2.2.2.2.2.2.2.2.2.2.1 d.1.2.2.2.2.2.2.2.2.2.2.2.2.2.2.2.2.1 d.1.2.2.2.2.2.2.2.2.2.2.2.2.2.2.2.2.2.1)
noncomputable def slices_EqualFunc_iReciRec_iRec_iRec_ (x0 : LIILIBBee) (x1 : LIILIBBee) : Bool := (cond (((x0.length : Nat) : Int) != ((x1.length : Nat) : Int)) false (cond ((it_slices_EqualFunc_iReciRec_iRec_iRec__0 x1 x0 ((x0.length : Nat) : Int) (0 : Int)).1 == 0) ((it_slices_EqualFunc_iReciRec_iRec_iRec__0 x1 x0 ((x0.length : Nat) : Int) (0 : Int)).2) true))
noncomputable abbrev e_slices_EqualFunc_iReciRec_iRec_iRec_ (r : Bool) : AV × List AObj × List Nat := ((.t true .bool r), [], [])
noncomputable abbrev F_slices_EqualFunc_iReciRec_iRec_iRec_ (r : Bool) := some (e_slices_EqualFunc_iReciRec_iRec_iRec_ r)
noncomputable abbrev g_slices_EqualFunc_iReciRec_iRec_iRec_ : SM_slices_EqualFunc_iReciRec_iRec_iRec_.den → AV × List AObj × List Nat := fun d => e_slices_EqualFunc_iReciRec_iRec_iRec_ (slices_EqualFunc_iReciRec_iRec_iRec_ d.1.1 d.1.2.1)
noncomputable def q_slices_EqualFunc_iReciRec_iRec_iRec_ (x0 : LIILIBBee) (x1 : LIILIBBee) : Bool := cond (((x0.length : Nat) : Int) != ((x1.length : Nat) : Int)) true (cond ((it_slices_EqualFunc_iReciRec_iRec_iRec__0 x1 x0 ((x0.length : Nat) : Int) (0 : Int)).1 == 0) true ((it_slices_EqualFunc_iReciRec_iRec_iRec__0 x1 x0 ((x0.length : Nat) : Int) (0 : Int)).1 == 1))
noncomputable abbrev pre_slices_EqualFunc_iReciRec_iRec_iRec_ : SM_slices_EqualFunc_iReciRec_iRec_iRec_.den → Bool := fun d => q_slices_EqualFunc_iReciRec_iRec_iRec_ d.1.1 d.1.2.1
theorem runA_slices_EqualFunc_iReciRec_iRec_iRec_ (x0 : LIILIBBee) (x1 : LIILIBBee) (hp : q_slices_EqualFunc_iReciRec_iRec_iRec_ x0 x1 = true) : runM Try.prog tt S71 QF71 (fun b => match b with | 0 => say_slices_EqualFunc_iReciRec_iRec_iRec__0 | _ => fun _ => none) Try.f103 (shsMk SM_slices_EqualFunc_iReciRec_iRec_iRec_.sl (((x0, x1, (), ()), ()) : SM_slices_EqualFunc_iReciRec_iRec_iRec_.den).1) (ohsMk SM_slices_EqualFunc_iReciRec_iRec_iRec_.hp (((x0, x1, (), ()), ()) : SM_slices_EqualFunc_iReciRec_iRec_iRec_.den).2) = some (g_slices_EqualFunc_iReciRec_iRec_iRec_ ((x0, x1, (), ()), ())) := by
  unfold q_slices_EqualFunc_iReciRec_iRec_iRec_ at hp
  refine Eq.trans (b := (cond (((x0.length : Nat) : Int) != ((x1.length : Nat) : Int)) (some (e_slices_EqualFunc_iReciRec_iRec_iRec_ false)) (cond ((it_slices_EqualFunc_iReciRec_iRec_iRec__0 x1 x0 ((x0.length : Nat) : Int) (0 : Int)).1 == 0) (some (e_slices_EqualFunc_iReciRec_iRec_iRec_ ((it_slices_EqualFunc_iReciRec_iRec_iRec__0 x1 x0 ((x0.length : Nat) : Int) (0 : Int)).2))) (cond ((it_slices_EqualFunc_iReciRec_iRec_iRec__0 x1 x0 ((x0.length : Nat) : Int) (0 : Int)).1 == 1) (some (e_slices_EqualFunc_iReciRec_iRec_iRec_ true)) none)))) (by kernel_rfl) ?_
  exact (cndQ (F := F_slices_EqualFunc_iReciRec_iRec_iRec_) hp (fun hp => rfl) (fun hp => (cndQ (F := F_slices_EqualFunc_iReciRec_iRec_iRec_) hp (fun hp => rfl) (fun hp => (cndT hp fun _h => rfl)))))
theorem run_slices_EqualFunc_iReciRec_iRec_iRec_ : ∀ d : SM_slices_EqualFunc_iReciRec_iRec_iRec_.den, pre_slices_EqualFunc_iReciRec_iRec_iRec_ d = true → runM Try.prog tt S71 QF71 (fun b => match b with | 0 => say_slices_EqualFunc_iReciRec_iRec_iRec__0 | _ => fun _ => none) Try.f103 (shsMk SM_slices_EqualFunc_iReciRec_iRec_iRec_.sl (d : SM_slices_EqualFunc_iReciRec_iRec_iRec_.den).1) (ohsMk SM_slices_EqualFunc_iReciRec_iRec_iRec_.hp (d : SM_slices_EqualFunc_iReciRec_iRec_iRec_.den).2) = some (g_slices_EqualFunc_iReciRec_iRec_iRec_ d) := fun d hp => runA_slices_EqualFunc_iReciRec_iRec_iRec_ d.1.1 d.1.2.1 hp
theorem c_slices_EqualFunc_iReciRec_iRec_iRec_ : MContract Try.prog 103 (winQ (msum SM_slices_EqualFunc_iReciRec_iRec_iRec_ pre_slices_EqualFunc_iReciRec_iRec_iRec_ g_slices_EqualFunc_iReciRec_iRec_iRec_)) := (MContract.of_data G71 (fn := Try.f103) (by kernel_rfl) (L := fun b => match b with | 0 => say_slices_EqualFunc_iReciRec_iRec_iRec__0 | _ => fun _ => none) (by rw [show loopsIn 0 (bodyOf Try.f103) = [(0, body_slices_EqualFunc_iReciRec_iRec_iRec__0)] by kernel_rfl]; intro p hp; simp only [List.mem_singleton] at hp; subst hp; exact lw_slices_EqualFunc_iReciRec_iRec_iRec__0) SM_slices_EqualFunc_iReciRec_iRec_iRec_ pre_slices_EqualFunc_iReciRec_iRec_iRec_ g_slices_EqualFunc_iReciRec_iRec_iRec_ run_slices_EqualFunc_iReciRec_iRec_iRec_).winQ (msum_quiet fun d => ⟨rfl, rfl⟩)
noncomputable def S72 : Tab := Tab.add S71 103 (winQ (msum SM_slices_EqualFunc_iReciRec_iRec_iRec_ pre_slices_EqualFunc_iReciRec_iRec_iRec_ g_slices_EqualFunc_iReciRec_iRec_iRec_))
noncomputable def QF72 : FuncId → Bool := qadd QF71 103
theorem G72 : Good Try.prog tt S72 QF72 := G71.addMQ c_slices_EqualFunc_iReciRec_iRec_iRec_ (winQ_local _) ⟨Try.f103, by kernel_rfl, by kernel_rfl, by kernel_rfl⟩ (winQ_quiet _)

/-! 55 loop.example/g00244/impl.ShardOk -/
noncomputable abbrev P_iShardOk : List PSh := [.agg [(.int .i64), t_spipispiptt, (.int .i64), t_sptt, t_spipispiptt]]
noncomputable def iShardOk (a0 : Int) (a1 : LIILIBBee) (a2 : Int) (a3 : LBBe) (a4 : LIILIBBee) : Bool := (cond (!(iisId a0)) false (cond (!(iinRange a2 (0 : Int) ((a1.length : Nat) : Int))) false (cond (decide ((IntKind.wrap .i64 (((a1.length : Nat) : Int) + ((a4.length : Nat) : Int))) > (300 : Int))) false (cond ((iReplayRecs a1).2.2) (cond (slices_Equal_iPair ((iReplayRecs a1).1) a3) (slices_EqualFunc_iReciRec_iRec_iRec_ ((iReplayRecs a1).2.1) a4) false) false))))
noncomputable abbrev e_iShardOk (r : Bool) : AV × List AObj := ((.t true .bool r), [])
noncomputable abbrev F_iShardOk (r : Bool) := some (e_iShardOk r)
noncomputable abbrev g_iShardOk : pshsDen P_iShardOk → AV × List AObj := fun d => e_iShardOk (iShardOk d.1.1 d.1.2.1 d.1.2.2.1 d.1.2.2.2.1 d.1.2.2.2.2.1)
noncomputable def q_iShardOk (a0 : Int) (a1 : LIILIBBee) (a2 : Int) (a3 : LBBe) (a4 : LIILIBBee) : Bool := cond (!(iisId a0)) true (cond (!(iinRange a2 (0 : Int) ((a1.length : Nat) : Int))) true (cond (decide ((IntKind.wrap .i64 (((a1.length : Nat) : Int) + ((a4.length : Nat) : Int))) > (300 : Int))) true ((q_iReplayRecs a1) && (cond ((iReplayRecs a1).2.2) ((q_slices_Equal_iPair ((iReplayRecs a1).1) a3) && (cond (slices_Equal_iPair ((iReplayRecs a1).1) a3) (q_slices_EqualFunc_iReciRec_iRec_iRec_ ((iReplayRecs a1).2.1) a4) true)) true))))
noncomputable abbrev pre_iShardOk : pshsDen P_iShardOk → Bool := fun d => q_iShardOk d.1.1 d.1.2.1 d.1.2.2.1 d.1.2.2.2.1 d.1.2.2.2.2.1
theorem runA_iShardOk (a0 : Int) (a1 : LIILIBBee) (a2 : Int) (a3 : LBBe) (a4 : LIILIBBee) (hp : q_iShardOk a0 a1 a2 a3 a4 = true) : runP true Try.prog tt S72 QF72 (fun _ _ => none) Try.f55 (argsMk P_iShardOk ((a0, (a1, (a2, (a3, (a4, ()))))), ())) = some (g_iShardOk ((a0, (a1, (a2, (a3, (a4, ()))))), ())) := by
  unfold q_iShardOk at hp
  refine Eq.trans (b := (cond (!(iisId a0)) (some (e_iShardOk false)) (cond (!(iinRange a2 (0 : Int) ((a1.length : Nat) : Int))) (some (e_iShardOk false)) (cond (decide ((IntKind.wrap .i64 (((a1.length : Nat) : Int) + ((a4.length : Nat) : Int))) > (300 : Int))) (some (e_iShardOk false)) (cond (q_iReplayRecs a1) (cond ((iReplayRecs a1).2.2) (cond (q_slices_Equal_iPair ((iReplayRecs a1).1) a3) (cond (slices_Equal_iPair ((iReplayRecs a1).1) a3) (cond (q_slices_EqualFunc_iReciRec_iRec_iRec_ ((iReplayRecs a1).2.1) a4) (some (e_iShardOk (slices_EqualFunc_iReciRec_iRec_iRec_ ((iReplayRecs a1).2.1) a4))) none) (some (e_iShardOk false))) none) (some (e_iShardOk false))) none))))) (by kernel_rfl) ?_
  exact (cndQ (F := F_iShardOk) hp (fun hp => rfl) (fun hp => (cndQ (F := F_iShardOk) hp (fun hp => rfl) (fun hp => (cndQ (F := F_iShardOk) hp (fun hp => rfl) (fun hp => (cndA hp fun hp => (cndQ (F := F_iShardOk) hp (fun hp => (cndA hp fun hp => (cndQ (F := F_iShardOk) hp (fun hp => (cndT hp fun _h => rfl)) (fun hp => rfl)))) (fun hp => rfl)))))))))
theorem run_iShardOk : ∀ d, pre_iShardOk d = true → runP true Try.prog tt S72 QF72 (fun _ _ => none) Try.f55 (argsMk P_iShardOk d) = some (g_iShardOk d) := fun d hp => runA_iShardOk d.1.1 d.1.2.1 d.1.2.2.1 d.1.2.2.2.1 d.1.2.2.2.2.1 hp
theorem c_iShardOk : PContract Try.prog 55 (sumOf P_iShardOk pre_iShardOk g_iShardOk) := PContract.of_data true G72 (fn := Try.f55) (by kernel_rfl) (L := fun _ _ => none) (by rw [show loopsIn 0 (bodyOf Try.f55) = [] by kernel_rfl]; simp) P_iShardOk pre_iShardOk g_iShardOk run_iShardOk
noncomputable def S73 : Tab := Tab.add S72 55 (lift (sumOf P_iShardOk pre_iShardOk g_iShardOk))
noncomputable def QF73 : FuncId → Bool := qadd QF72 55
theorem G73 : Good Try.prog tt S73 QF73 := G72.addQ c_iShardOk ⟨Try.f55, by kernel_rfl, by kernel_rfl, by kernel_rfl⟩ (fun _ => rfl)

/-! 106 (*loop.example/g00244/impl.Shard).outcome -/
noncomputable abbrev SM_iShard_outcome : SS := ⟨[.ptr 0 0 1 0, .t true (.int .i64)], [.box [.t true (.int .i64), .t false t_spipispiptt, .t true (.int .i64), .t false t_sptt, .t false t_spipispiptt]]⟩
noncomputable def iShard_outcome (x1 : Int) (h0_0 : Int) (h0_1 : LIILIBBee) (h0_2 : Int) (h0_3 : LBBe) (h0_4 : LIILIBBee) : Int := (cond (decide ((irecAt h0_4 x1) ≥ (0 : Int))) (1 : Int) (cond (decide ((irecAt h0_1 x1) < (0 : Int))) (2 : Int) (cond (((h0_1.getD ((irecAt h0_1 x1).toNat) ((0 : Int), ((0 : Int), []))).1) == (2 : Int)) (3 : Int) (4 : Int))))
noncomputable abbrev e_iShard_outcome (h0_0 : Int) (h0_1 : LIILIBBee) (h0_2 : Int) (h0_3 : LBBe) (h0_4 : LIILIBBee) (r : Int) : AV × List AObj × List Nat := ((.t true (.int .i64) r), [(.box [(.t true (.int .i64) h0_0), (.t false t_spipispiptt h0_1), (.t true (.int .i64) h0_2), (.t false t_sptt h0_3), (.t false t_spipispiptt h0_4)])], [])
noncomputable abbrev F_iShard_outcome (h0_0 : Int) (h0_1 : LIILIBBee) (h0_2 : Int) (h0_3 : LBBe) (h0_4 : LIILIBBee) (r : Int) := some (e_iShard_outcome h0_0 h0_1 h0_2 h0_3 h0_4 r)
noncomputable abbrev g_iShard_outcome : SM_iShard_outcome.den → AV × List AObj × List Nat := fun d => e_iShard_outcome d.2.1.1 d.2.1.2.1 d.2.1.2.2.1 d.2.1.2.2.2.1 d.2.1.2.2.2.2.1 (iShard_outcome d.1.2.1 d.2.1.1 d.2.1.2.1 d.2.1.2.2.1 d.2.1.2.2.2.1 d.2.1.2.2.2.2.1)
noncomputable def q_iShard_outcome (x1 : Int) (h0_0 : Int) (h0_1 : LIILIBBee) (h0_2 : Int) (h0_3 : LBBe) (h0_4 : LIILIBBee) : Bool := (q_irecAt h0_1 x1) && ((q_irecAt h0_4 x1) && (cond (decide ((irecAt h0_4 x1) ≥ (0 : Int))) true (cond (decide ((irecAt h0_1 x1) < (0 : Int))) true (decide (0 ≤ (irecAt h0_1 x1) ∧ (irecAt h0_1 x1) < ((h0_1.length : Nat) : Int))))))
noncomputable abbrev pre_iShard_outcome : SM_iShard_outcome.den → Bool := fun d => q_iShard_outcome d.1.2.1 d.2.1.1 d.2.1.2.1 d.2.1.2.2.1 d.2.1.2.2.2.1 d.2.1.2.2.2.2.1
theorem runA_iShard_outcome (x1 : Int) (h0_0 : Int) (h0_1 : LIILIBBee) (h0_2 : Int) (h0_3 : LBBe) (h0_4 : LIILIBBee) (hp : q_iShard_outcome x1 h0_0 h0_1 h0_2 h0_3 h0_4 = true) : runM Try.prog tt S73 QF73 (fun _ _ => none) Try.f106 (shsMk SM_iShard_outcome.sl ((((), x1, ()), ((h0_0, h0_1, h0_2, h0_3, h0_4, ()), ())) : SM_iShard_outcome.den).1) (ohsMk SM_iShard_outcome.hp ((((), x1, ()), ((h0_0, h0_1, h0_2, h0_3, h0_4, ()), ())) : SM_iShard_outcome.den).2) = some (g_iShard_outcome (((), x1, ()), ((h0_0, h0_1, h0_2, h0_3, h0_4, ()), ()))) := by
  unfold q_iShard_outcome at hp
  refine Eq.trans (b := (cond (q_irecAt h0_1 x1) (cond (q_irecAt h0_4 x1) (cond (decide ((irecAt h0_4 x1) ≥ (0 : Int))) (some (e_iShard_outcome h0_0 h0_1 h0_2 h0_3 h0_4 (1 : Int))) (cond (decide ((irecAt h0_1 x1) < (0 : Int))) (some (e_iShard_outcome h0_0 h0_1 h0_2 h0_3 h0_4 (2 : Int))) (cond (decide (0 ≤ (irecAt h0_1 x1) ∧ (irecAt h0_1 x1) < ((h0_1.length : Nat) : Int))) (cond (((h0_1.getD ((irecAt h0_1 x1).toNat) ((0 : Int), ((0 : Int), []))).1) == (2 : Int)) (some (e_iShard_outcome h0_0 h0_1 h0_2 h0_3 h0_4 (3 : Int))) (some (e_iShard_outcome h0_0 h0_1 h0_2 h0_3 h0_4 (4 : Int)))) none))) none) none)) (by kernel_rfl) ?_
  exact (cndA hp fun hp => (cndA hp fun hp => (cndQ (F := (F_iShard_outcome h0_0 h0_1 h0_2 h0_3 h0_4)) hp (fun hp => rfl) (fun hp => (cndQ (F := (F_iShard_outcome h0_0 h0_1 h0_2 h0_3 h0_4)) hp (fun hp => rfl) (fun hp => (cndT hp fun _h => (cnd (F := (F_iShard_outcome h0_0 h0_1 h0_2 h0_3 h0_4)) (fun _h => rfl) (fun _h => rfl)))))))))
theorem run_iShard_outcome : ∀ d : SM_iShard_outcome.den, pre_iShard_outcome d = true → runM Try.prog tt S73 QF73 (fun _ _ => none) Try.f106 (shsMk SM_iShard_outcome.sl (d : SM_iShard_outcome.den).1) (ohsMk SM_iShard_outcome.hp (d : SM_iShard_outcome.den).2) = some (g_iShard_outcome d) := fun d hp => runA_iShard_outcome d.1.2.1 d.2.1.1 d.2.1.2.1 d.2.1.2.2.1 d.2.1.2.2.2.1 d.2.1.2.2.2.2.1 hp
theorem c_iShard_outcome : MContract Try.prog 106 (winQ (msum SM_iShard_outcome pre_iShard_outcome g_iShard_outcome)) := (MContract.of_data G73 (fn := Try.f106) (by kernel_rfl) (L := fun _ _ => none) (by rw [show loopsIn 0 (bodyOf Try.f106) = [] by kernel_rfl]; simp) SM_iShard_outcome pre_iShard_outcome g_iShard_outcome run_iShard_outcome).winQ (msum_quiet fun d => ⟨rfl, rfl⟩)
noncomputable def S74 : Tab := Tab.add S73 106 (winQ (msum SM_iShard_outcome pre_iShard_outcome g_iShard_outcome))
noncomputable def QF74 : FuncId → Bool := qadd QF73 106
theorem G74 : Good Try.prog tt S74 QF74 := G73.addMQ c_iShard_outcome (winQ_local _) ⟨Try.f106, by kernel_rfl, by kernel_rfl, by kernel_rfl⟩ (winQ_quiet _)

/-! 58 loop.example/g00244/impl.Outcome -/
noncomputable abbrev P_iOutcome : List PSh := [.agg [(.int .i64), t_spipispiptt, (.int .i64), t_sptt, t_spipispiptt], .t (.int .i64)]
noncomputable def iOutcome (a0 : Int) (a1 : LIILIBBee) (a2 : Int) (a3 : LBBe) (a4 : LIILIBBee) (a5 : Int) : Int := (cond (!(iShardOk a0 a1 a2 a3 a4)) (5 : Int) (iShard_outcome a5 a0 a1 a2 a3 a4))
noncomputable abbrev e_iOutcome (r : Int) : AV × List AObj := ((.t true (.int .i64) r), [])
noncomputable abbrev F_iOutcome (r : Int) := some (e_iOutcome r)
noncomputable abbrev g_iOutcome : pshsDen P_iOutcome → AV × List AObj := fun d => e_iOutcome (iOutcome d.1.1 d.1.2.1 d.1.2.2.1 d.1.2.2.2.1 d.1.2.2.2.2.1 d.2.1)
noncomputable def q_iOutcome (a0 : Int) (a1 : LIILIBBee) (a2 : Int) (a3 : LBBe) (a4 : LIILIBBee) (a5 : Int) : Bool := (q_iShardOk a0 a1 a2 a3 a4) && (cond (!(iShardOk a0 a1 a2 a3 a4)) true (q_iShard_outcome a5 a0 a1 a2 a3 a4))
noncomputable abbrev pre_iOutcome : pshsDen P_iOutcome → Bool := fun d => q_iOutcome d.1.1 d.1.2.1 d.1.2.2.1 d.1.2.2.2.1 d.1.2.2.2.2.1 d.2.1
theorem runA_iOutcome (a0 : Int) (a1 : LIILIBBee) (a2 : Int) (a3 : LBBe) (a4 : LIILIBBee) (a5 : Int) (hp : q_iOutcome a0 a1 a2 a3 a4 a5 = true) : runP true Try.prog tt S74 QF74 (fun _ _ => none) Try.f58 (argsMk P_iOutcome ((a0, (a1, (a2, (a3, (a4, ()))))), (a5, ()))) = some (g_iOutcome ((a0, (a1, (a2, (a3, (a4, ()))))), (a5, ()))) := by
  unfold q_iOutcome at hp
  refine Eq.trans (b := (cond (q_iShardOk a0 a1 a2 a3 a4) (cond (!(iShardOk a0 a1 a2 a3 a4)) (some (e_iOutcome (5 : Int))) (cond (q_iShard_outcome a5 a0 a1 a2 a3 a4) (some (e_iOutcome (iShard_outcome a5 a0 a1 a2 a3 a4))) none)) none)) (by kernel_rfl) ?_
  exact (cndA hp fun hp => (cndQ (F := F_iOutcome) hp (fun hp => rfl) (fun hp => (cndT hp fun _h => rfl))))
theorem run_iOutcome : ∀ d, pre_iOutcome d = true → runP true Try.prog tt S74 QF74 (fun _ _ => none) Try.f58 (argsMk P_iOutcome d) = some (g_iOutcome d) := fun d hp => runA_iOutcome d.1.1 d.1.2.1 d.1.2.2.1 d.1.2.2.2.1 d.1.2.2.2.2.1 d.2.1 hp
theorem c_iOutcome : PContract Try.prog 58 (sumOf P_iOutcome pre_iOutcome g_iOutcome) := PContract.of_data true G74 (fn := Try.f58) (by kernel_rfl) (L := fun _ _ => none) (by rw [show loopsIn 0 (bodyOf Try.f58) = [] by kernel_rfl]; simp) P_iOutcome pre_iOutcome g_iOutcome run_iOutcome
noncomputable def S75 : Tab := Tab.add S74 58 (lift (sumOf P_iOutcome pre_iOutcome g_iOutcome))
noncomputable def QF75 : FuncId → Bool := qadd QF74 58
theorem G75 : Good Try.prog tt S75 QF75 := G74.addQ c_iOutcome ⟨Try.f58, by kernel_rfl, by kernel_rfl, by kernel_rfl⟩ (fun _ => rfl)

/-! 116 loop.example/g00244/laws.eqOp -/
noncomputable abbrev P_leqOp : List PSh := [.agg [(.int .i64), .str, .str], .agg [(.int .i64), .str, .str]]
noncomputable def leqOp (a0 : Int) (a1 : ByteArray) (a2 : ByteArray) (a3 : Int) (a4 : ByteArray) (a5 : ByteArray) : Bool := (cond (a0 != a3) false (cond (!(a1.toList == a4.toList)) false (cond (!(a2.toList == a5.toList)) false true)))
noncomputable abbrev e_leqOp (r : Bool) : AV × List AObj := ((.t true .bool r), [])
noncomputable abbrev F_leqOp (r : Bool) := some (e_leqOp r)
noncomputable abbrev g_leqOp : pshsDen P_leqOp → AV × List AObj := fun d => e_leqOp (leqOp d.1.1 d.1.2.1 d.1.2.2.1 d.2.1.1 d.2.1.2.1 d.2.1.2.2.1)
noncomputable abbrev pre_leqOp : pshsDen P_leqOp → Bool := fun d => true
theorem runA_leqOp (a0 : Int) (a1 : ByteArray) (a2 : ByteArray) (a3 : Int) (a4 : ByteArray) (a5 : ByteArray) : runP true Try.prog tt S75 QF75 (fun _ _ => none) Try.f116 (argsMk P_leqOp ((a0, (a1, (a2, ()))), ((a3, (a4, (a5, ()))), ()))) = some (g_leqOp ((a0, (a1, (a2, ()))), ((a3, (a4, (a5, ()))), ()))) := by
  refine Eq.trans (b := (cond (a0 != a3) (some (e_leqOp false)) (cond (!(a1.toList == a4.toList)) (some (e_leqOp false)) (cond (!(a2.toList == a5.toList)) (some (e_leqOp false)) (some (e_leqOp true)))))) (by kernel_rfl) ?_
  exact (cnd (F := F_leqOp) (fun _h => rfl) (fun _h => (cnd (F := F_leqOp) (fun _h => rfl) (fun _h => (cnd (F := F_leqOp) (fun _h => rfl) (fun _h => rfl))))))
theorem run_leqOp : ∀ d, pre_leqOp d = true → runP true Try.prog tt S75 QF75 (fun _ _ => none) Try.f116 (argsMk P_leqOp d) = some (g_leqOp d) := fun d hp => runA_leqOp d.1.1 d.1.2.1 d.1.2.2.1 d.2.1.1 d.2.1.2.1 d.2.1.2.2.1
theorem c_leqOp : PContract Try.prog 116 (sumOf P_leqOp pre_leqOp g_leqOp) := PContract.of_data true G75 (fn := Try.f116) (by kernel_rfl) (L := fun _ _ => none) (by rw [show loopsIn 0 (bodyOf Try.f116) = [] by kernel_rfl]; simp) P_leqOp pre_leqOp g_leqOp run_leqOp
noncomputable def S76 : Tab := Tab.add S75 116 (lift (sumOf P_leqOp pre_leqOp g_leqOp))
noncomputable def QF76 : FuncId → Bool := qadd QF75 116
theorem G76 : Good Try.prog tt S76 QF76 := G75.addQ c_leqOp ⟨Try.f116, by kernel_rfl, by kernel_rfl, by kernel_rfl⟩ (fun _ => rfl)

/-! 68 loop.example/g00244/laws.eqOpS -/

noncomputable def f_leqOpS_0 (x0 x1 : LIBBe) (i : Nat) : Bool := !(!(leqOp ((x0.getD i ((0 : Int), (bE, bE))).1) (((x0.getD i ((0 : Int), (bE, bE))).2).1) (((x0.getD i ((0 : Int), (bE, bE))).2).2) ((x1.getD i ((0 : Int), (bE, bE))).1) (((x1.getD i ((0 : Int), (bE, bE))).2).1) (((x1.getD i ((0 : Int), (bE, bE))).2).2)))
noncomputable abbrev P_leqOpS : List PSh := [.t t_spiptt, .t t_spiptt]
noncomputable abbrev S_leqOpS_0 : SS := ⟨(.t false t_spiptt :: .t false t_spiptt :: .junk :: .junk :: .junk :: .t true (.int .i64) :: jS21), []⟩
noncomputable abbrev E_leqOpS_0_0 : SS := ⟨(.junk :: .junk :: .junk :: .junk :: .t true .bool :: jS22), []⟩
noncomputable abbrev E_leqOpS_0_1 : SS := ⟨(.junk :: jS26), []⟩
noncomputable def st_leqOpS_0 (x0 : LIBBe) (x1 : LIBBe) (x5 : Int) : RT S_leqOpS_0.den := (.br (decide (x5 < ((x0.length : Nat) : Int))) (.br (decide (0 ≤ x5 ∧ x5 < ((x0.length : Nat) : Int))) (.br (decide (0 ≤ x5 ∧ x5 < ((x1.length : Nat) : Int))) (.br (!(leqOp ((x0.getD x5.toNat ((0 : Int), (bE, bE))).1) (((x0.getD x5.toNat ((0 : Int), (bE, bE))).2).1) (((x0.getD x5.toNat ((0 : Int), (bE, bE))).2).2) ((x1.getD x5.toNat ((0 : Int), (bE, bE))).1) (((x1.getD x5.toNat ((0 : Int), (bE, bE))).2).1) (((x1.getD x5.toNat ((0 : Int), (bE, bE))).2).2))) (.done .ret E_leqOpS_0_0 (((), (), (), (), false, u23), ())) (.next ((x0, x1, (), (), (), IntKind.wrap .i64 (x5 + (1 : Int)), u22), ()))) .fail) .fail) (.done (.exit 0) E_leqOpS_0_1 ((u28), ())))
noncomputable def T_leqOpS_0 (x0 : LIBBe) (x1 : LIBBe) (x5 : Int) : CT := (.br (decide (0 ≤ x5) && (decide (x0.length = x1.length) && okL x0)) (.br (allF (f_leqOpS_0 x0 x1) (x0.length - x5.toNat) x5.toNat) (.done (.exit 0) E_leqOpS_0_1 ((u28), ())) (.done .ret E_leqOpS_0_0 (((), (), (), (), false, u23), ()))) .fail)
noncomputable abbrev sp_leqOpS_0 : S_leqOpS_0.den → RT S_leqOpS_0.den := fun d => st_leqOpS_0 d.1.1 d.1.2.1 d.1.2.2.2.2.2.1
noncomputable abbrev pk_leqOpS_0 (x0 : LIBBe) (x1 : LIBBe) (x5 : Int) : S_leqOpS_0.den := ((x0, x1, (), (), (), x5, u22), ())
noncomputable def body_leqOpS_0 : Code := ((loopsIn 0 (bodyOf Try.f68)).getD 0 (0, .skip)).2
theorem R_leqOpS_0 (x0 : LIBBe) (x1 : LIBBe) (x5 : Int) : (T_leqOpS_0 x0 x1 x5).val (D := S_leqOpS_0.den) = .fail ∨ Runs sp_leqOpS_0 (pk_leqOpS_0 x0 x1 x5) (T_leqOpS_0 x0 x1 x5).val := by
  cases hc : (decide (0 ≤ x5) && (decide (x0.length = x1.length) && okL x0)) with
  | false => left; simp only [T_leqOpS_0, CT.val, hc, cond_false]
  | true =>
    right
    simp only [T_leqOpS_0, CT.val, hc, cond_true]
    simp only [Bool.and_eq_true, decide_eq_true_eq] at hc
    obtain ⟨i, rfl⟩ := Int.eq_ofNat_of_zero_le hc.1
    have hs := okL_le hc.2.2
    simp only [Int.toNat_natCast]
    refine Runs.scan (fun j => pk_leqOpS_0 x0 x1 (j : Int)) (x0.length) (f_leqOpS_0 x0 x1) (fun i hi => ?_) (fun i hi => ?_) ⟨_, _, _, rfl, by simp⟩ ⟨_, _, _, rfl, by simp⟩ _ _ rfl
    · 
      have h0a : decide ((i : Int) < ((x0.length : Nat) : Int)) = true := decide_eq_true (by omega)
      have h0b : decide (0 ≤ (i : Int) ∧ (i : Int) < ((x0.length : Nat) : Int)) = true := decide_eq_true (by omega)
      simp only [sp_leqOpS_0, st_leqOpS_0, RT.val, h0a, h0b, cond_true, wrapS i (by omega), Int.toNat_natCast]
      have h9 : decide (0 ≤ (i : Int) ∧ (i : Int) < ((x1.length : Nat) : Int)) = true := decide_eq_true (by omega)
      simp only [h9, cond_true]
      simp only [f_leqOpS_0]
      generalize (!(leqOp ((x0.getD i ((0 : Int), ((⟨#[]⟩ : ByteArray), (⟨#[]⟩ : ByteArray)))).1) (((x0.getD i ((0 : Int), ((⟨#[]⟩ : ByteArray), (⟨#[]⟩ : ByteArray)))).2).1) (((x0.getD i ((0 : Int), ((⟨#[]⟩ : ByteArray), (⟨#[]⟩ : ByteArray)))).2).2) ((x1.getD i ((0 : Int), ((⟨#[]⟩ : ByteArray), (⟨#[]⟩ : ByteArray)))).1) (((x1.getD i ((0 : Int), ((⟨#[]⟩ : ByteArray), (⟨#[]⟩ : ByteArray)))).2).1) (((x1.getD i ((0 : Int), ((⟨#[]⟩ : ByteArray), (⟨#[]⟩ : ByteArray)))).2).2))) = c
      cases c <;> rfl
    · have h1 : decide ((i : Int) < ((x0.length : Nat) : Int)) = false := decide_eq_false (by omega)
      simp only [sp_leqOpS_0, st_leqOpS_0, RT.val, h1, cond_false]
theorem rd_leqOpS_0 : ∀ d, execC Try.prog tt S76 QF76 (fun _ _ => none) 0 body_leqOpS_0 (S_leqOpS_0.st d 0 []) (fun e s' => some (e, S_leqOpS_0.cutE (kepts [4] [(0, [])]) e s')) = (sp_leqOpS_0 d).opt 0 [] := by
  intro d
  kernel_rfl
noncomputable abbrev say_leqOpS_0 : St → Option Tree := S_leqOpS_0.say 0 [] [] (fun d => T_leqOpS_0 d.1.1 d.1.2.1 d.1.2.2.2.2.2.1)
theorem lw_leqOpS_0 : LoopWp Try.prog say_leqOpS_0 body_leqOpS_0 := SS.wp G76 (fun _ _ => none) (by rw [show loopsIn 0 body_leqOpS_0 = [] by kernel_rfl]; simp) S_leqOpS_0 0 [] (kepts [4] [(0, [])]) [] sp_leqOpS_0 rd_leqOpS_0 _ (fun d => R_leqOpS_0 d.1.1 d.1.2.1 d.1.2.2.2.2.2.1)
noncomputable def leqOpS (a0 : LIBBe) (a1 : LIBBe) : Bool := (cond (((a0.length : Nat) : Int) != ((a1.length : Nat) : Int)) false (cond (allF (f_leqOpS_0 a0 a1) (a0.length - (0 : Int).toNat) (0 : Int).toNat) true false))
noncomputable abbrev e_leqOpS (r : Bool) : AV × List AObj := ((.t true .bool r), [])
noncomputable abbrev F_leqOpS (r : Bool) := some (e_leqOpS r)
noncomputable abbrev g_leqOpS : pshsDen P_leqOpS → AV × List AObj := fun d => e_leqOpS (leqOpS d.1 d.2.1)
noncomputable def q_leqOpS (a0 : LIBBe) (a1 : LIBBe) : Bool := okL a0
noncomputable abbrev pre_leqOpS : pshsDen P_leqOpS → Bool := fun d => q_leqOpS d.1 d.2.1
theorem runA_leqOpS (a0 : LIBBe) (a1 : LIBBe) (hp : q_leqOpS a0 a1 = true) : runP true Try.prog tt S76 QF76 (fun b => match b with | 0 => say_leqOpS_0 | _ => fun _ => none) Try.f68 (argsMk P_leqOpS (a0, (a1, ()))) = some (g_leqOpS (a0, (a1, ()))) := by
  unfold q_leqOpS at hp
  refine Eq.trans (b := (cond (((a0.length : Nat) : Int) != ((a1.length : Nat) : Int)) (some (e_leqOpS false)) (cond (decide (0 ≤ (0 : Int)) && (decide (a0.length = a1.length) && okL a0)) (cond (allF (f_leqOpS_0 a0 a1) (a0.length - (0 : Int).toNat) (0 : Int).toNat) (some (e_leqOpS true)) (some (e_leqOpS false))) none))) (by kernel_rfl) ?_
  exact (cnd (F := F_leqOpS) (fun _h => rfl) (fun _h => (cndT (by simp only [okL, Bool.and_eq_true, decide_eq_true_eq] at hp ⊢; simp at _h; exact ⟨Int.le_refl 0, by omega, hp⟩) (fun _h => (cnd (F := F_leqOpS) (fun _h => rfl) (fun _h => rfl))))))
theorem run_leqOpS : ∀ d, pre_leqOpS d = true → runP true Try.prog tt S76 QF76 (fun b => match b with | 0 => say_leqOpS_0 | _ => fun _ => none) Try.f68 (argsMk P_leqOpS d) = some (g_leqOpS d) := fun d hp => runA_leqOpS d.1 d.2.1 hp
theorem c_leqOpS : PContract Try.prog 68 (sumOf P_leqOpS pre_leqOpS g_leqOpS) := PContract.of_data true G76 (fn := Try.f68) (by kernel_rfl) (L := fun b => match b with | 0 => say_leqOpS_0 | _ => fun _ => none) (by rw [show loopsIn 0 (bodyOf Try.f68) = [(0, body_leqOpS_0)] by kernel_rfl]; intro p hp; simp only [List.mem_singleton] at hp; subst hp; exact lw_leqOpS_0) P_leqOpS pre_leqOpS g_leqOpS run_leqOpS
noncomputable def S77 : Tab := Tab.add S76 68 (lift (sumOf P_leqOpS pre_leqOpS g_leqOpS))
noncomputable def QF77 : FuncId → Bool := qadd QF76 68
theorem G77 : Good Try.prog tt S77 QF77 := G76.addQ c_leqOpS ⟨Try.f68, by kernel_rfl, by kernel_rfl, by kernel_rfl⟩ (fun _ => rfl)

/-! 20 loop.example/g00244/laws.eqRec -/
noncomputable abbrev P_leqRec : List PSh := [.agg [(.int .i64), (.int .i64), t_spiptt], .agg [(.int .i64), (.int .i64), t_spiptt]]
noncomputable def leqRec (a0 : Int) (a1 : Int) (a2 : LIBBe) (a3 : Int) (a4 : Int) (a5 : LIBBe) : Bool := (cond (a0 != a3) false (cond (a1 != a4) false (cond (!(leqOpS a2 a5)) false true)))
noncomputable abbrev e_leqRec (r : Bool) : AV × List AObj := ((.t true .bool r), [])
noncomputable abbrev F_leqRec (r : Bool) := some (e_leqRec r)
noncomputable abbrev g_leqRec : pshsDen P_leqRec → AV × List AObj := fun d => e_leqRec (leqRec d.1.1 d.1.2.1 d.1.2.2.1 d.2.1.1 d.2.1.2.1 d.2.1.2.2.1)
noncomputable def q_leqRec (a0 : Int) (a1 : Int) (a2 : LIBBe) (a3 : Int) (a4 : Int) (a5 : LIBBe) : Bool := okL a2
noncomputable abbrev pre_leqRec : pshsDen P_leqRec → Bool := fun d => q_leqRec d.1.1 d.1.2.1 d.1.2.2.1 d.2.1.1 d.2.1.2.1 d.2.1.2.2.1
theorem runA_leqRec (a0 : Int) (a1 : Int) (a2 : LIBBe) (a3 : Int) (a4 : Int) (a5 : LIBBe) (hp : q_leqRec a0 a1 a2 a3 a4 a5 = true) : runP true Try.prog tt S77 QF77 (fun _ _ => none) Try.f20 (argsMk P_leqRec ((a0, (a1, (a2, ()))), ((a3, (a4, (a5, ()))), ()))) = some (g_leqRec ((a0, (a1, (a2, ()))), ((a3, (a4, (a5, ()))), ()))) := by
  unfold q_leqRec at hp
  refine Eq.trans (b := (cond (a0 != a3) (some (e_leqRec false)) (cond (a1 != a4) (some (e_leqRec false)) (cond (q_leqOpS a2 a5) (cond (!(leqOpS a2 a5)) (some (e_leqRec false)) (some (e_leqRec true))) none)))) (by kernel_rfl) ?_
  exact (cnd (F := F_leqRec) (fun _h => rfl) (fun _h => (cnd (F := F_leqRec) (fun _h => rfl) (fun _h => (cndT (by first | rfl | decide | exact hp | (simp only [Bool.and_eq_true] at hp; simp only [hp]; done) | (simp [*]; done) | (simp [okL] at hp; simp [okL, MAXB]; omega) | (simp_all; done) | (simp at *; omega)) (fun _h => (cnd (F := F_leqRec) (fun _h => rfl) (fun _h => rfl))))))))
theorem run_leqRec : ∀ d, pre_leqRec d = true → runP true Try.prog tt S77 QF77 (fun _ _ => none) Try.f20 (argsMk P_leqRec d) = some (g_leqRec d) := fun d hp => runA_leqRec d.1.1 d.1.2.1 d.1.2.2.1 d.2.1.1 d.2.1.2.1 d.2.1.2.2.1 hp
theorem c_leqRec : PContract Try.prog 20 (sumOf P_leqRec pre_leqRec g_leqRec) := PContract.of_data true G77 (fn := Try.f20) (by kernel_rfl) (L := fun _ _ => none) (by rw [show loopsIn 0 (bodyOf Try.f20) = [] by kernel_rfl]; simp) P_leqRec pre_leqRec g_leqRec run_leqRec
noncomputable def S78 : Tab := Tab.add S77 20 (lift (sumOf P_leqRec pre_leqRec g_leqRec))
noncomputable def QF78 : FuncId → Bool := qadd QF77 20
theorem G78 : Good Try.prog tt S78 QF78 := G77.addQ c_leqRec ⟨Try.f20, by kernel_rfl, by kernel_rfl, by kernel_rfl⟩ (fun _ => rfl)

/-! 40 loop.example/g00244/laws.eqRecS -/
noncomputable abbrev P_leqRecS : List PSh := [.t t_spipispiptt, .t t_spipispiptt]
noncomputable abbrev S_leqRecS_0 : SS := ⟨(.t false t_spipispiptt :: .t false t_spipispiptt :: .junk :: .junk :: .junk :: .t true (.int .i64) :: jS21), []⟩
noncomputable abbrev E_leqRecS_0_0 : SS := ⟨(.junk :: .junk :: .junk :: .junk :: .t true .bool :: jS22), []⟩
noncomputable abbrev E_leqRecS_0_1 : SS := ⟨(.junk :: jS26), []⟩
noncomputable def st_leqRecS_0 (x0 : LIILIBBee) (x1 : LIILIBBee) (x5 : Int) : RT S_leqRecS_0.den := (.br (decide (x5 < ((x0.length : Nat) : Int))) (.br (decide (0 ≤ x5 ∧ x5 < ((x0.length : Nat) : Int))) (.br (decide (0 ≤ x5 ∧ x5 < ((x1.length : Nat) : Int))) (.br (q_leqRec ((x0.getD x5.toNat ((0 : Int), ((0 : Int), []))).1) (((x0.getD x5.toNat ((0 : Int), ((0 : Int), []))).2).1) (((x0.getD x5.toNat ((0 : Int), ((0 : Int), []))).2).2) ((x1.getD x5.toNat ((0 : Int), ((0 : Int), []))).1) (((x1.getD x5.toNat ((0 : Int), ((0 : Int), []))).2).1) (((x1.getD x5.toNat ((0 : Int), ((0 : Int), []))).2).2)) (.br (!(leqRec ((x0.getD x5.toNat ((0 : Int), ((0 : Int), []))).1) (((x0.getD x5.toNat ((0 : Int), ((0 : Int), []))).2).1) (((x0.getD x5.toNat ((0 : Int), ((0 : Int), []))).2).2) ((x1.getD x5.toNat ((0 : Int), ((0 : Int), []))).1) (((x1.getD x5.toNat ((0 : Int), ((0 : Int), []))).2).1) (((x1.getD x5.toNat ((0 : Int), ((0 : Int), []))).2).2))) (.done .ret E_leqRecS_0_0 (((), (), (), (), false, u23), ())) (.next ((x0, x1, (), (), (), IntKind.wrap .i64 (x5 + (1 : Int)), u22), ()))) .fail) .fail) .fail) (.done (.exit 0) E_leqRecS_0_1 ((u28), ())))
noncomputable abbrev V_leqRecS_0 := (LIILIBBee) × (LIILIBBee) × (Int)
noncomputable abbrev A_leqRecS_0 := Nat × (Bool)
noncomputable def fl_leqRecS_0 : A_leqRecS_0 := (99, (false : Bool))
noncomputable def ss_leqRecS_0 (x0 : LIILIBBee) (x1 : LIILIBBee) (x5 : Int) : V_leqRecS_0 ⊕ A_leqRecS_0 := (cond (decide (x5 < ((x0.length : Nat) : Int))) (cond (decide (0 ≤ x5 ∧ x5 < ((x0.length : Nat) : Int))) (cond (decide (0 ≤ x5 ∧ x5 < ((x1.length : Nat) : Int))) (cond (q_leqRec ((x0.getD x5.toNat ((0 : Int), ((0 : Int), []))).1) (((x0.getD x5.toNat ((0 : Int), ((0 : Int), []))).2).1) (((x0.getD x5.toNat ((0 : Int), ((0 : Int), []))).2).2) ((x1.getD x5.toNat ((0 : Int), ((0 : Int), []))).1) (((x1.getD x5.toNat ((0 : Int), ((0 : Int), []))).2).1) (((x1.getD x5.toNat ((0 : Int), ((0 : Int), []))).2).2)) (cond (!(leqRec ((x0.getD x5.toNat ((0 : Int), ((0 : Int), []))).1) (((x0.getD x5.toNat ((0 : Int), ((0 : Int), []))).2).1) (((x0.getD x5.toNat ((0 : Int), ((0 : Int), []))).2).2) ((x1.getD x5.toNat ((0 : Int), ((0 : Int), []))).1) (((x1.getD x5.toNat ((0 : Int), ((0 : Int), []))).2).1) (((x1.getD x5.toNat ((0 : Int), ((0 : Int), []))).2).2))) (.inr (0, false)) (.inl (x0, x1, IntKind.wrap .i64 (x5 + (1 : Int))))) (.inr fl_leqRecS_0)) (.inr fl_leqRecS_0)) (.inr fl_leqRecS_0)) (.inr (1, (false : Bool))))
noncomputable def it_leqRecS_0 (x0 : LIILIBBee) (x1 : LIILIBBee) (x5 : Int) : A_leqRecS_0 := itX (fun v : V_leqRecS_0 => ss_leqRecS_0 v.1 v.2.1 v.2.2) fl_leqRecS_0 (x0, x1, x5)
noncomputable def ct_leqRecS_0 (a : A_leqRecS_0) : CT := (.br (a.1 == 0) (.done .ret E_leqRecS_0_0 (((), (), (), (), a.2, u23), ())) (.br (a.1 == 1) (.done (.exit 0) E_leqRecS_0_1 ((u28), ())) .fail))
noncomputable def T_leqRecS_0 (x0 : LIILIBBee) (x1 : LIILIBBee) (x5 : Int) : CT := ct_leqRecS_0 (it_leqRecS_0 x0 x1 x5)
noncomputable abbrev sp_leqRecS_0 : S_leqRecS_0.den → RT S_leqRecS_0.den := fun d => st_leqRecS_0 d.1.1 d.1.2.1 d.1.2.2.2.2.2.1
noncomputable abbrev pk_leqRecS_0 (x0 : LIILIBBee) (x1 : LIILIBBee) (x5 : Int) : S_leqRecS_0.den := ((x0, x1, (), (), (), x5, u22), ())
noncomputable def body_leqRecS_0 : Code := ((loopsIn 0 (bodyOf Try.f40)).getD 0 (0, .skip)).2
noncomputable abbrev pv_leqRecS_0 (v : V_leqRecS_0) : S_leqRecS_0.den := pk_leqRecS_0 v.1 v.2.1 v.2.2
theorem R_leqRecS_0 (x0 : LIILIBBee) (x1 : LIILIBBee) (x5 : Int) : (T_leqRecS_0 x0 x1 x5).val (D := S_leqRecS_0.den) = .fail ∨ Runs sp_leqRecS_0 (pk_leqRecS_0 x0 x1 x5) (T_leqRecS_0 x0 x1 x5).val := Runs.ofIt (step := sp_leqRecS_0) pv_leqRecS_0 (ct := ct_leqRecS_0) rfl (fun v => ((relB (relB (relB (relB (relB rfl rfl) rfl) rfl) rfl) rfl) : (st_leqRecS_0 v.1 v.2.1 v.2.2).val = relS pv_leqRecS_0 ct_leqRecS_0 (ss_leqRecS_0 v.1 v.2.1 v.2.2))) (fun a => ((cendB (cendD (by simp)) (cendB (cendD (by simp)) cendF)) : CEnd _ (ct_leqRecS_0 a))) (x0, x1, x5)
theorem rd_leqRecS_0 : ∀ d, execC Try.prog tt S78 QF78 (fun _ _ => none) 0 body_leqRecS_0 (S_leqRecS_0.st d 0 []) (fun e s' => some (e, S_leqRecS_0.cutE (kepts [4] [(0, [])]) e s')) = (sp_leqRecS_0 d).opt 0 [] := by
  intro d
  kernel_rfl
noncomputable abbrev say_leqRecS_0 : St → Option Tree := S_leqRecS_0.say 0 [] [] (fun d => T_leqRecS_0 d.1.1 d.1.2.1 d.1.2.2.2.2.2.1)
theorem lw_leqRecS_0 : LoopWp Try.prog say_leqRecS_0 body_leqRecS_0 := SS.wp G78 (fun _ _ => none) (by rw [show loopsIn 0 body_leqRecS_0 = [] by kernel_rfl]; simp) S_leqRecS_0 0 [] (kepts [4] [(0, [])]) [] sp_leqRecS_0 rd_leqRecS_0 _ (fun d => R_leqRecS_0 d.1.1 d.1.2.1 d.1.2.2.2.2.2.1)
noncomputable def leqRecS (a0 : LIILIBBee) (a1 : LIILIBBee) : Bool := (cond (((a0.length : Nat) : Int) != ((a1.length : Nat) : Int)) false (cond ((it_leqRecS_0 a0 a1 (0 : Int)).1 == 0) ((it_leqRecS_0 a0 a1 (0 : Int)).2) true))
noncomputable abbrev e_leqRecS (r : Bool) : AV × List AObj := ((.t true .bool r), [])
noncomputable abbrev F_leqRecS (r : Bool) := some (e_leqRecS r)
noncomputable abbrev g_leqRecS : pshsDen P_leqRecS → AV × List AObj := fun d => e_leqRecS (leqRecS d.1 d.2.1)
noncomputable def q_leqRecS (a0 : LIILIBBee) (a1 : LIILIBBee) : Bool := cond (((a0.length : Nat) : Int) != ((a1.length : Nat) : Int)) true (cond ((it_leqRecS_0 a0 a1 (0 : Int)).1 == 0) true ((it_leqRecS_0 a0 a1 (0 : Int)).1 == 1))
noncomputable abbrev pre_leqRecS : pshsDen P_leqRecS → Bool := fun d => q_leqRecS d.1 d.2.1
theorem runA_leqRecS (a0 : LIILIBBee) (a1 : LIILIBBee) (hp : q_leqRecS a0 a1 = true) : runP true Try.prog tt S78 QF78 (fun b => match b with | 0 => say_leqRecS_0 | _ => fun _ => none) Try.f40 (argsMk P_leqRecS (a0, (a1, ()))) = some (g_leqRecS (a0, (a1, ()))) := by
  unfold q_leqRecS at hp
  refine Eq.trans (b := (cond (((a0.length : Nat) : Int) != ((a1.length : Nat) : Int)) (some (e_leqRecS false)) (cond ((it_leqRecS_0 a0 a1 (0 : Int)).1 == 0) (some (e_leqRecS ((it_leqRecS_0 a0 a1 (0 : Int)).2))) (cond ((it_leqRecS_0 a0 a1 (0 : Int)).1 == 1) (some (e_leqRecS true)) none)))) (by kernel_rfl) ?_
  exact (cndQ (F := F_leqRecS) hp (fun hp => rfl) (fun hp => (cndQ (F := F_leqRecS) hp (fun hp => rfl) (fun hp => (cndT hp fun _h => rfl)))))
theorem run_leqRecS : ∀ d, pre_leqRecS d = true → runP true Try.prog tt S78 QF78 (fun b => match b with | 0 => say_leqRecS_0 | _ => fun _ => none) Try.f40 (argsMk P_leqRecS d) = some (g_leqRecS d) := fun d hp => runA_leqRecS d.1 d.2.1 hp
theorem c_leqRecS : PContract Try.prog 40 (sumOf P_leqRecS pre_leqRecS g_leqRecS) := PContract.of_data true G78 (fn := Try.f40) (by kernel_rfl) (L := fun b => match b with | 0 => say_leqRecS_0 | _ => fun _ => none) (by rw [show loopsIn 0 (bodyOf Try.f40) = [(0, body_leqRecS_0)] by kernel_rfl]; intro p hp; simp only [List.mem_singleton] at hp; subst hp; exact lw_leqRecS_0) P_leqRecS pre_leqRecS g_leqRecS run_leqRecS
noncomputable def S79 : Tab := Tab.add S78 40 (lift (sumOf P_leqRecS pre_leqRecS g_leqRecS))
noncomputable def QF79 : FuncId → Bool := qadd QF78 40
theorem G79 : Good Try.prog tt S79 QF79 := G78.addQ c_leqRecS ⟨Try.f40, by kernel_rfl, by kernel_rfl, by kernel_rfl⟩ (fun _ => rfl)

/-! 89 loop.example/g00244/laws.eqPair -/
noncomputable abbrev P_leqPair : List PSh := [.agg [.str, .str], .agg [.str, .str]]
noncomputable def leqPair (a0 : ByteArray) (a1 : ByteArray) (a2 : ByteArray) (a3 : ByteArray) : Bool := (cond (!(a0.toList == a2.toList)) false (cond (!(a1.toList == a3.toList)) false true))
noncomputable abbrev e_leqPair (r : Bool) : AV × List AObj := ((.t true .bool r), [])
noncomputable abbrev F_leqPair (r : Bool) := some (e_leqPair r)
noncomputable abbrev g_leqPair : pshsDen P_leqPair → AV × List AObj := fun d => e_leqPair (leqPair d.1.1 d.1.2.1 d.2.1.1 d.2.1.2.1)
noncomputable abbrev pre_leqPair : pshsDen P_leqPair → Bool := fun d => true
theorem runA_leqPair (a0 : ByteArray) (a1 : ByteArray) (a2 : ByteArray) (a3 : ByteArray) : runP true Try.prog tt S79 QF79 (fun _ _ => none) Try.f89 (argsMk P_leqPair ((a0, (a1, ())), ((a2, (a3, ())), ()))) = some (g_leqPair ((a0, (a1, ())), ((a2, (a3, ())), ()))) := by
  refine Eq.trans (b := (cond (!(a0.toList == a2.toList)) (some (e_leqPair false)) (cond (!(a1.toList == a3.toList)) (some (e_leqPair false)) (some (e_leqPair true))))) (by kernel_rfl) ?_
  exact (cnd (F := F_leqPair) (fun _h => rfl) (fun _h => (cnd (F := F_leqPair) (fun _h => rfl) (fun _h => rfl))))
theorem run_leqPair : ∀ d, pre_leqPair d = true → runP true Try.prog tt S79 QF79 (fun _ _ => none) Try.f89 (argsMk P_leqPair d) = some (g_leqPair d) := fun d hp => runA_leqPair d.1.1 d.1.2.1 d.2.1.1 d.2.1.2.1
theorem c_leqPair : PContract Try.prog 89 (sumOf P_leqPair pre_leqPair g_leqPair) := PContract.of_data true G79 (fn := Try.f89) (by kernel_rfl) (L := fun _ _ => none) (by rw [show loopsIn 0 (bodyOf Try.f89) = [] by kernel_rfl]; simp) P_leqPair pre_leqPair g_leqPair run_leqPair
noncomputable def S80 : Tab := Tab.add S79 89 (lift (sumOf P_leqPair pre_leqPair g_leqPair))
noncomputable def QF80 : FuncId → Bool := qadd QF79 89
theorem G80 : Good Try.prog tt S80 QF80 := G79.addQ c_leqPair ⟨Try.f89, by kernel_rfl, by kernel_rfl, by kernel_rfl⟩ (fun _ => rfl)

/-! 47 loop.example/g00244/laws.eqPairS -/

noncomputable def f_leqPairS_0 (x0 x1 : LBBe) (i : Nat) : Bool := !(!(leqPair ((x0.getD i (bE, bE)).1) ((x0.getD i (bE, bE)).2) ((x1.getD i (bE, bE)).1) ((x1.getD i (bE, bE)).2)))
noncomputable abbrev P_leqPairS : List PSh := [.t t_sptt, .t t_sptt]
noncomputable abbrev S_leqPairS_0 : SS := ⟨(.t false t_sptt :: .t false t_sptt :: .junk :: .junk :: .junk :: .t true (.int .i64) :: jS21), []⟩
noncomputable abbrev E_leqPairS_0_0 : SS := ⟨(.junk :: .junk :: .junk :: .junk :: .t true .bool :: jS22), []⟩
noncomputable abbrev E_leqPairS_0_1 : SS := ⟨(.junk :: jS26), []⟩
noncomputable def st_leqPairS_0 (x0 : LBBe) (x1 : LBBe) (x5 : Int) : RT S_leqPairS_0.den := (.br (decide (x5 < ((x0.length : Nat) : Int))) (.br (decide (0 ≤ x5 ∧ x5 < ((x0.length : Nat) : Int))) (.br (decide (0 ≤ x5 ∧ x5 < ((x1.length : Nat) : Int))) (.br (!(leqPair ((x0.getD x5.toNat (bE, bE)).1) ((x0.getD x5.toNat (bE, bE)).2) ((x1.getD x5.toNat (bE, bE)).1) ((x1.getD x5.toNat (bE, bE)).2))) (.done .ret E_leqPairS_0_0 (((), (), (), (), false, u23), ())) (.next ((x0, x1, (), (), (), IntKind.wrap .i64 (x5 + (1 : Int)), u22), ()))) .fail) .fail) (.done (.exit 0) E_leqPairS_0_1 ((u28), ())))
noncomputable def T_leqPairS_0 (x0 : LBBe) (x1 : LBBe) (x5 : Int) : CT := (.br (decide (0 ≤ x5) && (decide (x0.length = x1.length) && okL x0)) (.br (allF (f_leqPairS_0 x0 x1) (x0.length - x5.toNat) x5.toNat) (.done (.exit 0) E_leqPairS_0_1 ((u28), ())) (.done .ret E_leqPairS_0_0 (((), (), (), (), false, u23), ()))) .fail)
noncomputable abbrev sp_leqPairS_0 : S_leqPairS_0.den → RT S_leqPairS_0.den := fun d => st_leqPairS_0 d.1.1 d.1.2.1 d.1.2.2.2.2.2.1
noncomputable abbrev pk_leqPairS_0 (x0 : LBBe) (x1 : LBBe) (x5 : Int) : S_leqPairS_0.den := ((x0, x1, (), (), (), x5, u22), ())
noncomputable def body_leqPairS_0 : Code := ((loopsIn 0 (bodyOf Try.f47)).getD 0 (0, .skip)).2
theorem R_leqPairS_0 (x0 : LBBe) (x1 : LBBe) (x5 : Int) : (T_leqPairS_0 x0 x1 x5).val (D := S_leqPairS_0.den) = .fail ∨ Runs sp_leqPairS_0 (pk_leqPairS_0 x0 x1 x5) (T_leqPairS_0 x0 x1 x5).val := by
  cases hc : (decide (0 ≤ x5) && (decide (x0.length = x1.length) && okL x0)) with
  | false => left; simp only [T_leqPairS_0, CT.val, hc, cond_false]
  | true =>
    right
    simp only [T_leqPairS_0, CT.val, hc, cond_true]
    simp only [Bool.and_eq_true, decide_eq_true_eq] at hc
    obtain ⟨i, rfl⟩ := Int.eq_ofNat_of_zero_le hc.1
    have hs := okL_le hc.2.2
    simp only [Int.toNat_natCast]
    refine Runs.scan (fun j => pk_leqPairS_0 x0 x1 (j : Int)) (x0.length) (f_leqPairS_0 x0 x1) (fun i hi => ?_) (fun i hi => ?_) ⟨_, _, _, rfl, by simp⟩ ⟨_, _, _, rfl, by simp⟩ _ _ rfl
    · 
      have h0a : decide ((i : Int) < ((x0.length : Nat) : Int)) = true := decide_eq_true (by omega)
      have h0b : decide (0 ≤ (i : Int) ∧ (i : Int) < ((x0.length : Nat) : Int)) = true := decide_eq_true (by omega)
      simp only [sp_leqPairS_0, st_leqPairS_0, RT.val, h0a, h0b, cond_true, wrapS i (by omega), Int.toNat_natCast]
      have h9 : decide (0 ≤ (i : Int) ∧ (i : Int) < ((x1.length : Nat) : Int)) = true := decide_eq_true (by omega)
      simp only [h9, cond_true]
      simp only [f_leqPairS_0]
      generalize (!(leqPair ((x0.getD i ((⟨#[]⟩ : ByteArray), (⟨#[]⟩ : ByteArray))).1) ((x0.getD i ((⟨#[]⟩ : ByteArray), (⟨#[]⟩ : ByteArray))).2) ((x1.getD i ((⟨#[]⟩ : ByteArray), (⟨#[]⟩ : ByteArray))).1) ((x1.getD i ((⟨#[]⟩ : ByteArray), (⟨#[]⟩ : ByteArray))).2))) = c
      cases c <;> rfl
    · have h1 : decide ((i : Int) < ((x0.length : Nat) : Int)) = false := decide_eq_false (by omega)
      simp only [sp_leqPairS_0, st_leqPairS_0, RT.val, h1, cond_false]
theorem rd_leqPairS_0 : ∀ d, execC Try.prog tt S80 QF80 (fun _ _ => none) 0 body_leqPairS_0 (S_leqPairS_0.st d 0 []) (fun e s' => some (e, S_leqPairS_0.cutE (kepts [4] [(0, [])]) e s')) = (sp_leqPairS_0 d).opt 0 [] := by
  intro d
  kernel_rfl
noncomputable abbrev say_leqPairS_0 : St → Option Tree := S_leqPairS_0.say 0 [] [] (fun d => T_leqPairS_0 d.1.1 d.1.2.1 d.1.2.2.2.2.2.1)
theorem lw_leqPairS_0 : LoopWp Try.prog say_leqPairS_0 body_leqPairS_0 := SS.wp G80 (fun _ _ => none) (by rw [show loopsIn 0 body_leqPairS_0 = [] by kernel_rfl]; simp) S_leqPairS_0 0 [] (kepts [4] [(0, [])]) [] sp_leqPairS_0 rd_leqPairS_0 _ (fun d => R_leqPairS_0 d.1.1 d.1.2.1 d.1.2.2.2.2.2.1)
noncomputable def leqPairS (a0 : LBBe) (a1 : LBBe) : Bool := (cond (((a0.length : Nat) : Int) != ((a1.length : Nat) : Int)) false (cond (allF (f_leqPairS_0 a0 a1) (a0.length - (0 : Int).toNat) (0 : Int).toNat) true false))
noncomputable abbrev e_leqPairS (r : Bool) : AV × List AObj := ((.t true .bool r), [])
noncomputable abbrev F_leqPairS (r : Bool) := some (e_leqPairS r)
noncomputable abbrev g_leqPairS : pshsDen P_leqPairS → AV × List AObj := fun d => e_leqPairS (leqPairS d.1 d.2.1)
noncomputable def q_leqPairS (a0 : LBBe) (a1 : LBBe) : Bool := okL a0
noncomputable abbrev pre_leqPairS : pshsDen P_leqPairS → Bool := fun d => q_leqPairS d.1 d.2.1
theorem runA_leqPairS (a0 : LBBe) (a1 : LBBe) (hp : q_leqPairS a0 a1 = true) : runP true Try.prog tt S80 QF80 (fun b => match b with | 0 => say_leqPairS_0 | _ => fun _ => none) Try.f47 (argsMk P_leqPairS (a0, (a1, ()))) = some (g_leqPairS (a0, (a1, ()))) := by
  unfold q_leqPairS at hp
  refine Eq.trans (b := (cond (((a0.length : Nat) : Int) != ((a1.length : Nat) : Int)) (some (e_leqPairS false)) (cond (decide (0 ≤ (0 : Int)) && (decide (a0.length = a1.length) && okL a0)) (cond (allF (f_leqPairS_0 a0 a1) (a0.length - (0 : Int).toNat) (0 : Int).toNat) (some (e_leqPairS true)) (some (e_leqPairS false))) none))) (by kernel_rfl) ?_
  exact (cnd (F := F_leqPairS) (fun _h => rfl) (fun _h => (cndT (by simp only [okL, Bool.and_eq_true, decide_eq_true_eq] at hp ⊢; simp at _h; exact ⟨Int.le_refl 0, by omega, hp⟩) (fun _h => (cnd (F := F_leqPairS) (fun _h => rfl) (fun _h => rfl))))))
theorem run_leqPairS : ∀ d, pre_leqPairS d = true → runP true Try.prog tt S80 QF80 (fun b => match b with | 0 => say_leqPairS_0 | _ => fun _ => none) Try.f47 (argsMk P_leqPairS d) = some (g_leqPairS d) := fun d hp => runA_leqPairS d.1 d.2.1 hp
theorem c_leqPairS : PContract Try.prog 47 (sumOf P_leqPairS pre_leqPairS g_leqPairS) := PContract.of_data true G80 (fn := Try.f47) (by kernel_rfl) (L := fun b => match b with | 0 => say_leqPairS_0 | _ => fun _ => none) (by rw [show loopsIn 0 (bodyOf Try.f47) = [(0, body_leqPairS_0)] by kernel_rfl]; intro p hp; simp only [List.mem_singleton] at hp; subst hp; exact lw_leqPairS_0) P_leqPairS pre_leqPairS g_leqPairS run_leqPairS
noncomputable def S81 : Tab := Tab.add S80 47 (lift (sumOf P_leqPairS pre_leqPairS g_leqPairS))
noncomputable def QF81 : FuncId → Bool := qadd QF80 47
theorem G81 : Good Try.prog tt S81 QF81 := G80.addQ c_leqPairS ⟨Try.f47, by kernel_rfl, by kernel_rfl, by kernel_rfl⟩ (fun _ => rfl)

/-! 56 loop.example/g00244/laws.eqShard -/
noncomputable abbrev P_leqShard : List PSh := [.agg [(.int .i64), t_spipispiptt, (.int .i64), t_sptt, t_spipispiptt], .agg [(.int .i64), t_spipispiptt, (.int .i64), t_sptt, t_spipispiptt]]
noncomputable def leqShard (a0 : Int) (a1 : LIILIBBee) (a2 : Int) (a3 : LBBe) (a4 : LIILIBBee) (a5 : Int) (a6 : LIILIBBee) (a7 : Int) (a8 : LBBe) (a9 : LIILIBBee) : Bool := (cond (a0 != a5) false (cond (!(leqRecS a1 a6)) false (cond (a2 != a7) false (cond (!(leqPairS a3 a8)) false (cond (!(leqRecS a4 a9)) false true)))))
noncomputable abbrev e_leqShard (r : Bool) : AV × List AObj := ((.t true .bool r), [])
noncomputable abbrev F_leqShard (r : Bool) := some (e_leqShard r)
noncomputable abbrev g_leqShard : pshsDen P_leqShard → AV × List AObj := fun d => e_leqShard (leqShard d.1.1 d.1.2.1 d.1.2.2.1 d.1.2.2.2.1 d.1.2.2.2.2.1 d.2.1.1 d.2.1.2.1 d.2.1.2.2.1 d.2.1.2.2.2.1 d.2.1.2.2.2.2.1)
noncomputable def q_leqShard (a0 : Int) (a1 : LIILIBBee) (a2 : Int) (a3 : LBBe) (a4 : LIILIBBee) (a5 : Int) (a6 : LIILIBBee) (a7 : Int) (a8 : LBBe) (a9 : LIILIBBee) : Bool := cond (a0 != a5) true ((q_leqRecS a1 a6) && (cond (!(leqRecS a1 a6)) true (cond (a2 != a7) true ((q_leqPairS a3 a8) && (cond (!(leqPairS a3 a8)) true (q_leqRecS a4 a9))))))
noncomputable abbrev pre_leqShard : pshsDen P_leqShard → Bool := fun d => q_leqShard d.1.1 d.1.2.1 d.1.2.2.1 d.1.2.2.2.1 d.1.2.2.2.2.1 d.2.1.1 d.2.1.2.1 d.2.1.2.2.1 d.2.1.2.2.2.1 d.2.1.2.2.2.2.1
theorem runA_leqShard (a0 : Int) (a1 : LIILIBBee) (a2 : Int) (a3 : LBBe) (a4 : LIILIBBee) (a5 : Int) (a6 : LIILIBBee) (a7 : Int) (a8 : LBBe) (a9 : LIILIBBee) (hp : q_leqShard a0 a1 a2 a3 a4 a5 a6 a7 a8 a9 = true) : runP true Try.prog tt S81 QF81 (fun _ _ => none) Try.f56 (argsMk P_leqShard ((a0, (a1, (a2, (a3, (a4, ()))))), ((a5, (a6, (a7, (a8, (a9, ()))))), ()))) = some (g_leqShard ((a0, (a1, (a2, (a3, (a4, ()))))), ((a5, (a6, (a7, (a8, (a9, ()))))), ()))) := by
  unfold q_leqShard at hp
  refine Eq.trans (b := (cond (a0 != a5) (some (e_leqShard false)) (cond (q_leqRecS a1 a6) (cond (!(leqRecS a1 a6)) (some (e_leqShard false)) (cond (a2 != a7) (some (e_leqShard false)) (cond (q_leqPairS a3 a8) (cond (!(leqPairS a3 a8)) (some (e_leqShard false)) (cond (q_leqRecS a4 a9) (cond (!(leqRecS a4 a9)) (some (e_leqShard false)) (some (e_leqShard true))) none)) none))) none))) (by kernel_rfl) ?_
  exact (cndQ (F := F_leqShard) hp (fun hp => rfl) (fun hp => (cndA hp fun hp => (cndQ (F := F_leqShard) hp (fun hp => rfl) (fun hp => (cndQ (F := F_leqShard) hp (fun hp => rfl) (fun hp => (cndA hp fun hp => (cndQ (F := F_leqShard) hp (fun hp => rfl) (fun hp => (cndT hp fun _h => (cnd (F := F_leqShard) (fun _h => rfl) (fun _h => rfl)))))))))))))
theorem run_leqShard : ∀ d, pre_leqShard d = true → runP true Try.prog tt S81 QF81 (fun _ _ => none) Try.f56 (argsMk P_leqShard d) = some (g_leqShard d) := fun d hp => runA_leqShard d.1.1 d.1.2.1 d.1.2.2.1 d.1.2.2.2.1 d.1.2.2.2.2.1 d.2.1.1 d.2.1.2.1 d.2.1.2.2.1 d.2.1.2.2.2.1 d.2.1.2.2.2.2.1 hp
theorem c_leqShard : PContract Try.prog 56 (sumOf P_leqShard pre_leqShard g_leqShard) := PContract.of_data true G81 (fn := Try.f56) (by kernel_rfl) (L := fun _ _ => none) (by rw [show loopsIn 0 (bodyOf Try.f56) = [] by kernel_rfl]; simp) P_leqShard pre_leqShard g_leqShard run_leqShard
noncomputable def S82 : Tab := Tab.add S81 56 (lift (sumOf P_leqShard pre_leqShard g_leqShard))
noncomputable def QF82 : FuncId → Bool := qadd QF81 56
theorem G82 : Good Try.prog tt S82 QF82 := G81.addQ c_leqShard ⟨Try.f56, by kernel_rfl, by kernel_rfl, by kernel_rfl⟩ (fun _ => rfl)


end Go.Proofs.Ytccelbeahdcooaa.Eng

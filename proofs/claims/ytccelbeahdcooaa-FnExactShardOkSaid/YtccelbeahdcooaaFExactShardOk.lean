/- What the functions that FnExactShardOk reaches compute: further. -/
import Derived.Test.YtccelbeahdcooaaFExactShardOkB
namespace Go.Proofs.Ytccelbeahdcooaa.Eng
open Go Go.RowKit
set_option linter.unusedSimpArgs false
set_option linter.unusedVariables false
set_option maxRecDepth 10000
/-! 88 (*loop.example/g00244/impl.replay).add -/
noncomputable abbrev SM_ireplay_add_w1 : SS := ⟨[.ptr 0 0 1 0, .agg [.t true (.int .i64), .t true (.int .i64), .t false t_spiptt], .t false t_spipispiptt], [.box [.nil, .all 1 3], .rows 30 true t_pipispiptt]⟩
noncomputable def ireplay_add_w1 (x1_0 : Int) (x1_1 : Int) (x1_2 : LIBBe) (x2 : LIILIBBee) (h1 : LIILIBBee) : Bool × (LIILIBBee) × LBBe := (cond (x1_0 == (1 : Int)) (cond (decide ((irecAt x2 x1_1) ≥ (0 : Int))) (false, h1, ([] : LBBe)) (cond (iisHeldKey h1 x1_2) (false, h1, ([] : LBBe)) (cond (!(iMeets [] x1_2)) (false, h1, ([] : LBBe)) (true, h1 ++ [((1 : Int), (x1_1, (slices_Clone_iOp x1_2)))], ([] : LBBe))))) (cond (decide ((irecAt h1 x1_1) < (0 : Int))) (cond (x1_0 == (3 : Int)) (!(decide ((irecAt x2 x1_1) ≥ (0 : Int))), h1, ([] : LBBe)) (false, h1, ([] : LBBe))) (cond (x1_0 == (2 : Int)) (decide ((((iApply [] (((h1.getD ((irecAt h1 x1_1).toNat) ((0 : Int), ((0 : Int), []))).2).2)).length : Nat) : Int) ≤ (60 : Int)), (slices_Delete_iRec (irecAt h1 x1_1) (IntKind.wrap .i64 ((irecAt h1 x1_1) + (1 : Int))) h1), (iApply [] (((h1.getD ((irecAt h1 x1_1).toNat) ((0 : Int), ((0 : Int), []))).2).2))) (decide (((0 : Nat) : Int) ≤ (60 : Int)), (slices_Delete_iRec (irecAt h1 x1_1) (IntKind.wrap .i64 ((irecAt h1 x1_1) + (1 : Int))) h1), ([] : LBBe)))))
noncomputable abbrev e_ireplay_add_w1 (r : Bool × (LIILIBBee) × LBBe) : AV × List AObj × List Nat := ((.t true .bool r.1), [(.box [(.all 2 2), (.all 1 3)]), (.rows 30 true t_pipispiptt r.2.1), (.rows 110 true t_ptt r.2.2)], [1])
noncomputable abbrev g_ireplay_add_w1 : SM_ireplay_add_w1.den → AV × List AObj × List Nat := fun d => e_ireplay_add_w1 (ireplay_add_w1 d.1.2.1.1 d.1.2.1.2.1 d.1.2.1.2.2.1 d.1.2.2.1 d.2.2.1)
noncomputable def q_ireplay_add_w1 (x1_0 : Int) (x1_1 : Int) (x1_2 : LIBBe) (x2 : LIILIBBee) (h1 : LIILIBBee) : Bool := (q_irecAt x2 x1_1) && (cond (x1_0 == (1 : Int)) (cond (decide ((irecAt x2 x1_1) ≥ (0 : Int))) true ((q_iisHeldKey h1 x1_2) && (cond (iisHeldKey h1 x1_2) true ((q_iMeets [] x1_2) && (cond (!(iMeets [] x1_2)) true ((q_slices_Clone_iOp x1_2) && (decide ((h1.length + [((1 : Int), (x1_1, (slices_Clone_iOp x1_2)))].length) * 40 ≤ MAXB)))))))) ((q_irecAt h1 x1_1) && (cond (decide ((irecAt h1 x1_1) < (0 : Int))) true (cond (x1_0 == (2 : Int)) ((decide (0 ≤ (irecAt h1 x1_1) ∧ (irecAt h1 x1_1) < ((h1.length : Nat) : Int))) && ((q_iApply [] (((h1.getD ((irecAt h1 x1_1).toNat) ((0 : Int), ((0 : Int), []))).2).2)) && (q_slices_Delete_iRec (irecAt h1 x1_1) (IntKind.wrap .i64 ((irecAt h1 x1_1) + (1 : Int))) h1))) (q_slices_Delete_iRec (irecAt h1 x1_1) (IntKind.wrap .i64 ((irecAt h1 x1_1) + (1 : Int))) h1)))))
noncomputable abbrev pre_ireplay_add_w1 : SM_ireplay_add_w1.den → Bool := fun d => q_ireplay_add_w1 d.1.2.1.1 d.1.2.1.2.1 d.1.2.1.2.2.1 d.1.2.2.1 d.2.2.1
theorem runA_ireplay_add_w1 (x1_0 : Int) (x1_1 : Int) (x1_2 : LIBBe) (x2 : LIILIBBee) (h1 : LIILIBBee) (hp : q_ireplay_add_w1 x1_0 x1_1 x1_2 x2 h1 = true) : runE false Try.prog tt S63 QF63 (fun _ _ => none) Try.f88 (shsMk SM_ireplay_add_w1.sl ((((), (x1_0, x1_1, x1_2, ()), x2, ()), (((), (), ()), h1, ())) : SM_ireplay_add_w1.den).1) (ohsMk SM_ireplay_add_w1.hp ((((), (x1_0, x1_1, x1_2, ()), x2, ()), (((), (), ()), h1, ())) : SM_ireplay_add_w1.den).2) [] [1] [(0, 0, 99999, 110, t_ptt)] = some (g_ireplay_add_w1 (((), (x1_0, x1_1, x1_2, ()), x2, ()), (((), (), ()), h1, ()))) := by
  unfold q_ireplay_add_w1 at hp
  refine Eq.trans (b := (cond (q_irecAt x2 x1_1) (cond (x1_0 == (1 : Int)) (cond (decide ((irecAt x2 x1_1) ≥ (0 : Int))) (some (e_ireplay_add_w1 (false, h1, ([] : LBBe)))) (cond (q_iisHeldKey h1 x1_2) (cond (iisHeldKey h1 x1_2) (some (e_ireplay_add_w1 (false, h1, ([] : LBBe)))) (cond (q_iMeets [] x1_2) (cond (!(iMeets [] x1_2)) (some (e_ireplay_add_w1 (false, h1, ([] : LBBe)))) (cond (q_slices_Clone_iOp x1_2) (cond (decide ((h1.length + [((1 : Int), (x1_1, (slices_Clone_iOp x1_2)))].length) * 40 ≤ MAXB)) (some (e_ireplay_add_w1 (true, h1 ++ [((1 : Int), (x1_1, (slices_Clone_iOp x1_2)))], ([] : LBBe)))) none) none)) none)) none)) (cond (q_irecAt h1 x1_1) (cond (decide ((irecAt h1 x1_1) < (0 : Int))) (cond (x1_0 == (3 : Int)) (some (e_ireplay_add_w1 (!(decide ((irecAt x2 x1_1) ≥ (0 : Int))), h1, ([] : LBBe)))) (some (e_ireplay_add_w1 (false, h1, ([] : LBBe))))) (cond (x1_0 == (2 : Int)) (cond (decide (0 ≤ (irecAt h1 x1_1) ∧ (irecAt h1 x1_1) < ((h1.length : Nat) : Int))) (cond (q_iApply [] (((h1.getD ((irecAt h1 x1_1).toNat) ((0 : Int), ((0 : Int), []))).2).2)) (cond (q_slices_Delete_iRec (irecAt h1 x1_1) (IntKind.wrap .i64 ((irecAt h1 x1_1) + (1 : Int))) h1) (some (e_ireplay_add_w1 (decide ((((iApply [] (((h1.getD ((irecAt h1 x1_1).toNat) ((0 : Int), ((0 : Int), []))).2).2)).length : Nat) : Int) ≤ (60 : Int)), (slices_Delete_iRec (irecAt h1 x1_1) (IntKind.wrap .i64 ((irecAt h1 x1_1) + (1 : Int))) h1), (iApply [] (((h1.getD ((irecAt h1 x1_1).toNat) ((0 : Int), ((0 : Int), []))).2).2))))) none) none) none) (cond (q_slices_Delete_iRec (irecAt h1 x1_1) (IntKind.wrap .i64 ((irecAt h1 x1_1) + (1 : Int))) h1) (some (e_ireplay_add_w1 (decide (((0 : Nat) : Int) ≤ (60 : Int)), (slices_Delete_iRec (irecAt h1 x1_1) (IntKind.wrap .i64 ((irecAt h1 x1_1) + (1 : Int))) h1), ([] : LBBe)))) none))) none)) none)) (by kernel_rfl) ?_
  exact (cndT (andL hp) (fun _h => (fun hp => (cndQ (F := fun r => some (e_ireplay_add_w1 r)) hp (fun hp => (cndQ (F := fun r => some (e_ireplay_add_w1 r)) hp (fun hp => rfl) (fun hp => (cndT (andL hp) (fun _h => (fun hp => (cndQ (F := fun r => some (e_ireplay_add_w1 r)) hp (fun hp => rfl) (fun hp => (cndT (andL hp) (fun _h => (fun hp => (cndQ (F := fun r => some (e_ireplay_add_w1 r)) hp (fun hp => rfl) (fun hp => (cndT (andL hp) (fun _h => (fun hp => (cndT hp (fun _h => rfl))) (andR hp)))))) (andR hp)))))) (andR hp)))))) (fun hp => (cndT (andL hp) (fun _h => (fun hp => (cndQ (F := fun r => some (e_ireplay_add_w1 r)) hp (fun hp => (cnd (F := fun r => some (e_ireplay_add_w1 r)) (fun _h => rfl) (fun _h => rfl))) (fun hp => (cndQ (F := fun r => some (e_ireplay_add_w1 r)) hp (fun hp => (cndT (andL hp) (fun _h => (fun hp => (cndT (andL hp) (fun _h => (fun hp => (cndT hp (fun _h => rfl))) (andR hp)))) (andR hp)))) (fun hp => (cndT hp (fun _h => rfl))))))) (andR hp)))))) (andR hp)))
theorem run_ireplay_add_w1 : ∀ d : SM_ireplay_add_w1.den, pre_ireplay_add_w1 d = true → runE false Try.prog tt S63 QF63 (fun _ _ => none) Try.f88 (shsMk SM_ireplay_add_w1.sl (d : SM_ireplay_add_w1.den).1) (ohsMk SM_ireplay_add_w1.hp (d : SM_ireplay_add_w1.den).2) [] [1] [(0, 0, 99999, 110, t_ptt)] = some (g_ireplay_add_w1 d) := fun d hp => runA_ireplay_add_w1 d.1.2.1.1 d.1.2.1.2.1 d.1.2.1.2.2.1 d.1.2.2.1 d.2.2.1 hp
theorem c_ireplay_add_w1 : MContract Try.prog 88 (win winIds (msum SM_ireplay_add_w1 pre_ireplay_add_w1 g_ireplay_add_w1)) := (MContract.of_dataE false [] [1] [(0, 0, 99999, 110, t_ptt)]  G63 (fn := Try.f88) (by kernel_rfl) (L := fun _ _ => none) (by rw [show loopsIn 0 (bodyOf Try.f88) = [] by kernel_rfl]; simp) SM_ireplay_add_w1 pre_ireplay_add_w1 g_ireplay_add_w1 run_ireplay_add_w1).win winIds
noncomputable def S64 : Tab := Tab.add S63 88 (orElseS (win winIds (msum SM_ireplay_add pre_ireplay_add g_ireplay_add)) (win winIds (msum SM_ireplay_add_w1 pre_ireplay_add_w1 g_ireplay_add_w1)))
noncomputable def QF64 : FuncId → Bool := QF63
theorem G64 : Good Try.prog tt S64 QF64 := G63.addM (MContract.orElse c_ireplay_add c_ireplay_add_w1) (orElse_local (win_local _) (win_local _)) ⟨Try.f88, by kernel_rfl, by kernel_rfl, by kernel_rfl⟩ (by kernel_rfl)

/-! 88 (*loop.example/g00244/impl.replay).add -/
noncomputable abbrev SM_ireplay_add_w2 : SS := ⟨[.ptr 0 0 1 0, .agg [.t true (.int .i64), .t true (.int .i64), .t false t_spiptt], .t false t_spipispiptt], [.box [.all 1 2, .all 2 3], .rows 110 true t_ptt, .rows 30 true t_pipispiptt]⟩
noncomputable def ireplay_add_w2 (x1_0 : Int) (x1_1 : Int) (x1_2 : LIBBe) (x2 : LIILIBBee) (h1 : LBBe) (h2 : LIILIBBee) : Bool × (LBBe) × LIILIBBee := (cond (x1_0 == (1 : Int)) (cond (decide ((irecAt x2 x1_1) ≥ (0 : Int))) (false, h1, h2) (cond (iisHeldKey h2 x1_2) (false, h1, h2) (cond (!(iMeets h1 x1_2)) (false, h1, h2) (true, h1, h2 ++ [((1 : Int), (x1_1, (slices_Clone_iOp x1_2)))])))) (cond (decide ((irecAt h2 x1_1) < (0 : Int))) (cond (x1_0 == (3 : Int)) (!(decide ((irecAt x2 x1_1) ≥ (0 : Int))), h1, h2) (false, h1, h2)) (cond (x1_0 == (2 : Int)) (decide ((((iApply h1 (((h2.getD ((irecAt h2 x1_1).toNat) ((0 : Int), ((0 : Int), []))).2).2)).length : Nat) : Int) ≤ (60 : Int)), (iApply h1 (((h2.getD ((irecAt h2 x1_1).toNat) ((0 : Int), ((0 : Int), []))).2).2)), (slices_Delete_iRec (irecAt h2 x1_1) (IntKind.wrap .i64 ((irecAt h2 x1_1) + (1 : Int))) h2)) (decide (((h1.length : Nat) : Int) ≤ (60 : Int)), h1, (slices_Delete_iRec (irecAt h2 x1_1) (IntKind.wrap .i64 ((irecAt h2 x1_1) + (1 : Int))) h2)))))
noncomputable abbrev e_ireplay_add_w2 (r : Bool × (LBBe) × LIILIBBee) : AV × List AObj × List Nat := ((.t true .bool r.1), [(.box [(.all 1 2), (.all 2 3)]), (.rows 110 true t_ptt r.2.1), (.rows 30 true t_pipispiptt r.2.2)], [1, 2])
noncomputable abbrev g_ireplay_add_w2 : SM_ireplay_add_w2.den → AV × List AObj × List Nat := fun d => e_ireplay_add_w2 (ireplay_add_w2 d.1.2.1.1 d.1.2.1.2.1 d.1.2.1.2.2.1 d.1.2.2.1 d.2.2.1 d.2.2.2.1)
noncomputable def q_ireplay_add_w2 (x1_0 : Int) (x1_1 : Int) (x1_2 : LIBBe) (x2 : LIILIBBee) (h1 : LBBe) (h2 : LIILIBBee) : Bool := (q_irecAt x2 x1_1) && (cond (x1_0 == (1 : Int)) (cond (decide ((irecAt x2 x1_1) ≥ (0 : Int))) true ((q_iisHeldKey h2 x1_2) && (cond (iisHeldKey h2 x1_2) true ((q_iMeets h1 x1_2) && (cond (!(iMeets h1 x1_2)) true ((q_slices_Clone_iOp x1_2) && (decide ((h2.length + [((1 : Int), (x1_1, (slices_Clone_iOp x1_2)))].length) * 40 ≤ MAXB)))))))) ((q_irecAt h2 x1_1) && (cond (decide ((irecAt h2 x1_1) < (0 : Int))) true (cond (x1_0 == (2 : Int)) ((decide (0 ≤ (irecAt h2 x1_1) ∧ (irecAt h2 x1_1) < ((h2.length : Nat) : Int))) && ((q_iApply h1 (((h2.getD ((irecAt h2 x1_1).toNat) ((0 : Int), ((0 : Int), []))).2).2)) && (q_slices_Delete_iRec (irecAt h2 x1_1) (IntKind.wrap .i64 ((irecAt h2 x1_1) + (1 : Int))) h2))) (q_slices_Delete_iRec (irecAt h2 x1_1) (IntKind.wrap .i64 ((irecAt h2 x1_1) + (1 : Int))) h2)))))
noncomputable abbrev pre_ireplay_add_w2 : SM_ireplay_add_w2.den → Bool := fun d => q_ireplay_add_w2 d.1.2.1.1 d.1.2.1.2.1 d.1.2.1.2.2.1 d.1.2.2.1 d.2.2.1 d.2.2.2.1
theorem runA_ireplay_add_w2 (x1_0 : Int) (x1_1 : Int) (x1_2 : LIBBe) (x2 : LIILIBBee) (h1 : LBBe) (h2 : LIILIBBee) (hp : q_ireplay_add_w2 x1_0 x1_1 x1_2 x2 h1 h2 = true) : runE false Try.prog tt S64 QF64 (fun _ _ => none) Try.f88 (shsMk SM_ireplay_add_w2.sl ((((), (x1_0, x1_1, x1_2, ()), x2, ()), (((), (), ()), h1, h2, ())) : SM_ireplay_add_w2.den).1) (ohsMk SM_ireplay_add_w2.hp ((((), (x1_0, x1_1, x1_2, ()), x2, ()), (((), (), ()), h1, h2, ())) : SM_ireplay_add_w2.den).2) [] [1, 2] [(0, 0, 1, 110, t_ptt)] = some (g_ireplay_add_w2 (((), (x1_0, x1_1, x1_2, ()), x2, ()), (((), (), ()), h1, h2, ()))) := by
  unfold q_ireplay_add_w2 at hp
  refine Eq.trans (b := (cond (q_irecAt x2 x1_1) (cond (x1_0 == (1 : Int)) (cond (decide ((irecAt x2 x1_1) ≥ (0 : Int))) (some (e_ireplay_add_w2 (false, h1, h2))) (cond (q_iisHeldKey h2 x1_2) (cond (iisHeldKey h2 x1_2) (some (e_ireplay_add_w2 (false, h1, h2))) (cond (q_iMeets h1 x1_2) (cond (!(iMeets h1 x1_2)) (some (e_ireplay_add_w2 (false, h1, h2))) (cond (q_slices_Clone_iOp x1_2) (cond (decide ((h2.length + [((1 : Int), (x1_1, (slices_Clone_iOp x1_2)))].length) * 40 ≤ MAXB)) (some (e_ireplay_add_w2 (true, h1, h2 ++ [((1 : Int), (x1_1, (slices_Clone_iOp x1_2)))]))) none) none)) none)) none)) (cond (q_irecAt h2 x1_1) (cond (decide ((irecAt h2 x1_1) < (0 : Int))) (cond (x1_0 == (3 : Int)) (some (e_ireplay_add_w2 (!(decide ((irecAt x2 x1_1) ≥ (0 : Int))), h1, h2))) (some (e_ireplay_add_w2 (false, h1, h2)))) (cond (x1_0 == (2 : Int)) (cond (decide (0 ≤ (irecAt h2 x1_1) ∧ (irecAt h2 x1_1) < ((h2.length : Nat) : Int))) (cond (q_iApply h1 (((h2.getD ((irecAt h2 x1_1).toNat) ((0 : Int), ((0 : Int), []))).2).2)) (cond (q_slices_Delete_iRec (irecAt h2 x1_1) (IntKind.wrap .i64 ((irecAt h2 x1_1) + (1 : Int))) h2) (some (e_ireplay_add_w2 (decide ((((iApply h1 (((h2.getD ((irecAt h2 x1_1).toNat) ((0 : Int), ((0 : Int), []))).2).2)).length : Nat) : Int) ≤ (60 : Int)), (iApply h1 (((h2.getD ((irecAt h2 x1_1).toNat) ((0 : Int), ((0 : Int), []))).2).2)), (slices_Delete_iRec (irecAt h2 x1_1) (IntKind.wrap .i64 ((irecAt h2 x1_1) + (1 : Int))) h2)))) none) none) none) (cond (q_slices_Delete_iRec (irecAt h2 x1_1) (IntKind.wrap .i64 ((irecAt h2 x1_1) + (1 : Int))) h2) (some (e_ireplay_add_w2 (decide (((h1.length : Nat) : Int) ≤ (60 : Int)), h1, (slices_Delete_iRec (irecAt h2 x1_1) (IntKind.wrap .i64 ((irecAt h2 x1_1) + (1 : Int))) h2)))) none))) none)) none)) (by kernel_rfl) ?_
  exact (cndT (andL hp) (fun _h => (fun hp => (cndQ (F := fun r => some (e_ireplay_add_w2 r)) hp (fun hp => (cndQ (F := fun r => some (e_ireplay_add_w2 r)) hp (fun hp => rfl) (fun hp => (cndT (andL hp) (fun _h => (fun hp => (cndQ (F := fun r => some (e_ireplay_add_w2 r)) hp (fun hp => rfl) (fun hp => (cndT (andL hp) (fun _h => (fun hp => (cndQ (F := fun r => some (e_ireplay_add_w2 r)) hp (fun hp => rfl) (fun hp => (cndT (andL hp) (fun _h => (fun hp => (cndT hp (fun _h => rfl))) (andR hp)))))) (andR hp)))))) (andR hp)))))) (fun hp => (cndT (andL hp) (fun _h => (fun hp => (cndQ (F := fun r => some (e_ireplay_add_w2 r)) hp (fun hp => (cnd (F := fun r => some (e_ireplay_add_w2 r)) (fun _h => rfl) (fun _h => rfl))) (fun hp => (cndQ (F := fun r => some (e_ireplay_add_w2 r)) hp (fun hp => (cndT (andL hp) (fun _h => (fun hp => (cndT (andL hp) (fun _h => (fun hp => (cndT hp (fun _h => rfl))) (andR hp)))) (andR hp)))) (fun hp => (cndT hp (fun _h => rfl))))))) (andR hp)))))) (andR hp)))
theorem run_ireplay_add_w2 : ∀ d : SM_ireplay_add_w2.den, pre_ireplay_add_w2 d = true → runE false Try.prog tt S64 QF64 (fun _ _ => none) Try.f88 (shsMk SM_ireplay_add_w2.sl (d : SM_ireplay_add_w2.den).1) (ohsMk SM_ireplay_add_w2.hp (d : SM_ireplay_add_w2.den).2) [] [1, 2] [(0, 0, 1, 110, t_ptt)] = some (g_ireplay_add_w2 d) := fun d hp => runA_ireplay_add_w2 d.1.2.1.1 d.1.2.1.2.1 d.1.2.1.2.2.1 d.1.2.2.1 d.2.2.1 d.2.2.2.1 hp
theorem c_ireplay_add_w2 : MContract Try.prog 88 (win winIds (msum SM_ireplay_add_w2 pre_ireplay_add_w2 g_ireplay_add_w2)) := (MContract.of_dataE false [] [1, 2] [(0, 0, 1, 110, t_ptt)]  G64 (fn := Try.f88) (by kernel_rfl) (L := fun _ _ => none) (by rw [show loopsIn 0 (bodyOf Try.f88) = [] by kernel_rfl]; simp) SM_ireplay_add_w2 pre_ireplay_add_w2 g_ireplay_add_w2 run_ireplay_add_w2).win winIds
noncomputable def S65 : Tab := Tab.add S64 88 (orElseS (orElseS (win winIds (msum SM_ireplay_add pre_ireplay_add g_ireplay_add)) (win winIds (msum SM_ireplay_add_w1 pre_ireplay_add_w1 g_ireplay_add_w1))) (win winIds (msum SM_ireplay_add_w2 pre_ireplay_add_w2 g_ireplay_add_w2)))
noncomputable def QF65 : FuncId → Bool := QF64
theorem G65 : Good Try.prog tt S65 QF65 := G64.addM (MContract.orElse (MContract.orElse c_ireplay_add c_ireplay_add_w1) c_ireplay_add_w2) (orElse_local (orElse_local (win_local _) (win_local _)) (win_local _)) ⟨Try.f88, by kernel_rfl, by kernel_rfl, by kernel_rfl⟩ (by kernel_rfl)

/-! 46 loop.example/g00244/impl.ReplayRecs -/
noncomputable abbrev jA20 : List AV := [.junk, .junk, .junk, .junk, .junk, .junk, .junk, .junk, .junk, .junk, .junk, .junk, .junk, .junk, .junk, .junk, .junk, .junk, .junk, .junk]
noncomputable abbrev P_iReplayRecs : List PSh := [.t t_spipispiptt]
noncomputable abbrev S_iReplayRecs_0 : SS := ⟨(.t false t_spipispiptt :: .junk :: .junk :: .junk :: .junk :: .ptr 0 0 1 0 :: .junk :: .junk :: .t false t_spipispiptt :: .t true (.int .i64) :: .t true (.int .i64) :: jS20), [.box [.all 1 2, .all 2 3], .rows 110 true t_ptt, .rows 30 true t_pipispiptt]⟩
noncomputable abbrev E_iReplayRecs_0_0 : SS := ⟨(.junk :: .junk :: .nil :: .nil :: .t true .bool :: jS26), []⟩
noncomputable abbrev E_iReplayRecs_0_1 : SS := ⟨(.junk :: .junk :: .junk :: .junk :: .junk :: .ptr 0 0 1 0 :: jS25), [.box [.all 1 2, .all 2 3], .rows 110 true t_ptt, .rows 30 true t_pipispiptt]⟩
noncomputable def k1_iReplayRecs (x8 : LIILIBBee) (x10 : Int) := iRecOk ((x8.getD x10.toNat ((0 : Int), ((0 : Int), []))).1) (((x8.getD x10.toNat ((0 : Int), ((0 : Int), []))).2).1) (((x8.getD x10.toNat ((0 : Int), ((0 : Int), []))).2).2)
noncomputable def k2_iReplayRecs (x0 : LIILIBBee) (x8 : LIILIBBee) (x10 : Int) (h1 : LBBe) (h2 : LIILIBBee) := ireplay_add_w2 ((x8.getD x10.toNat ((0 : Int), ((0 : Int), []))).1) (((x8.getD x10.toNat ((0 : Int), ((0 : Int), []))).2).1) (((x8.getD x10.toNat ((0 : Int), ((0 : Int), []))).2).2) ((x0.take x10.toNat).drop (0 : Int).toNat) h1 h2
noncomputable def st_iReplayRecs_0 (x0 : LIILIBBee) (x8 : LIILIBBee) (x9 : Int) (x10 : Int) (h1 : LBBe) (h2 : LIILIBBee) : RT S_iReplayRecs_0.den := (.br (decide (x10 < x9)) (.br (decide (0 ≤ x10 ∧ x10 < ((x8.length : Nat) : Int))) (.br (q_iRecOk ((x8.getD x10.toNat ((0 : Int), ((0 : Int), []))).1) (((x8.getD x10.toNat ((0 : Int), ((0 : Int), []))).2).1) (((x8.getD x10.toNat ((0 : Int), ((0 : Int), []))).2).2)) (.br (!(k1_iReplayRecs x8 x10)) (.done .ret E_iReplayRecs_0_0 (((), (), (), (), false, u27), ())) (.br (decide (0 ≤ (0 : Int) ∧ (0 : Int) ≤ x10 ∧ x10 ≤ ((x0.length : Nat) : Int))) (.br (q_ireplay_add_w2 ((x8.getD x10.toNat ((0 : Int), ((0 : Int), []))).1) (((x8.getD x10.toNat ((0 : Int), ((0 : Int), []))).2).1) (((x8.getD x10.toNat ((0 : Int), ((0 : Int), []))).2).2) ((x0.take x10.toNat).drop (0 : Int).toNat) h1 h2) (.br (!((k2_iReplayRecs x0 x8 x10 h1 h2).1)) (.done .ret E_iReplayRecs_0_0 (((), (), (), (), false, u27), ())) (.next ((x0, (), (), (), (), (), (), (), x8, x9, IntKind.wrap .i64 (x10 + (1 : Int)), u21), (((), (), ()), ((k2_iReplayRecs x0 x8 x10 h1 h2).2.1), ((k2_iReplayRecs x0 x8 x10 h1 h2).2.2), ())))) .fail) .fail)) .fail) .fail) (.done (.exit 0) E_iReplayRecs_0_1 ((u32), (((), (), ()), h1, h2, ()))))
noncomputable abbrev V_iReplayRecs_0 := (LIILIBBee) × (LIILIBBee) × (Int) × (Int) × (LBBe) × (LIILIBBee)
noncomputable abbrev A_iReplayRecs_0 := Nat × (Bool) × (LBBe) × (LIILIBBee)
noncomputable def fl_iReplayRecs_0 : A_iReplayRecs_0 := (99, (false : Bool), ([] : LBBe), ([] : LIILIBBee))
noncomputable def ss_iReplayRecs_0 (x0 : LIILIBBee) (x8 : LIILIBBee) (x9 : Int) (x10 : Int) (h1 : LBBe) (h2 : LIILIBBee) : V_iReplayRecs_0 ⊕ A_iReplayRecs_0 := (cond (decide (x10 < x9)) (cond (decide (0 ≤ x10 ∧ x10 < ((x8.length : Nat) : Int))) (cond (q_iRecOk ((x8.getD x10.toNat ((0 : Int), ((0 : Int), []))).1) (((x8.getD x10.toNat ((0 : Int), ((0 : Int), []))).2).1) (((x8.getD x10.toNat ((0 : Int), ((0 : Int), []))).2).2)) (cond (!(k1_iReplayRecs x8 x10)) (.inr (0, false, ([] : LBBe), ([] : LIILIBBee))) (cond (decide (0 ≤ (0 : Int) ∧ (0 : Int) ≤ x10 ∧ x10 ≤ ((x0.length : Nat) : Int))) (cond (q_ireplay_add_w2 ((x8.getD x10.toNat ((0 : Int), ((0 : Int), []))).1) (((x8.getD x10.toNat ((0 : Int), ((0 : Int), []))).2).1) (((x8.getD x10.toNat ((0 : Int), ((0 : Int), []))).2).2) ((x0.take x10.toNat).drop (0 : Int).toNat) h1 h2) (cond (!((k2_iReplayRecs x0 x8 x10 h1 h2).1)) (.inr (0, false, ([] : LBBe), ([] : LIILIBBee))) (.inl (x0, x8, x9, IntKind.wrap .i64 (x10 + (1 : Int)), ((k2_iReplayRecs x0 x8 x10 h1 h2).2.1), ((k2_iReplayRecs x0 x8 x10 h1 h2).2.2)))) (.inr fl_iReplayRecs_0)) (.inr fl_iReplayRecs_0))) (.inr fl_iReplayRecs_0)) (.inr fl_iReplayRecs_0)) (.inr (1, (false : Bool), h1, h2)))
noncomputable def it_iReplayRecs_0 (x0 : LIILIBBee) (x8 : LIILIBBee) (x9 : Int) (x10 : Int) (h1 : LBBe) (h2 : LIILIBBee) : A_iReplayRecs_0 := itX (fun v : V_iReplayRecs_0 => ss_iReplayRecs_0 v.1 v.2.1 v.2.2.1 v.2.2.2.1 v.2.2.2.2.1 v.2.2.2.2.2) fl_iReplayRecs_0 (x0, x8, x9, x10, h1, h2)
noncomputable def ct_iReplayRecs_0 (a : A_iReplayRecs_0) : CT := (.br (a.1 == 0) (.done .ret E_iReplayRecs_0_0 (((), (), (), (), a.2.1, u27), ())) (.br (a.1 == 1) (.done (.exit 0) E_iReplayRecs_0_1 ((u32), (((), (), ()), a.2.2.1, a.2.2.2, ()))) .fail))
noncomputable def T_iReplayRecs_0 (x0 : LIILIBBee) (x8 : LIILIBBee) (x9 : Int) (x10 : Int) (h1 : LBBe) (h2 : LIILIBBee) : CT := ct_iReplayRecs_0 (it_iReplayRecs_0 x0 x8 x9 x10 h1 h2)
noncomputable abbrev sp_iReplayRecs_0 : S_iReplayRecs_0.den → RT S_iReplayRecs_0.den := fun d => st_iReplayRecs_0 d.1.1 d.1.2.2.2.2.2.2.2.2.1 d.1.2.2.2.2.2.2.2.2.2.1 d.1.2.2.2.2.2.2.2.2.2.2.1 d.2.2.1 d.2.2.2.1
noncomputable abbrev pk_iReplayRecs_0 (x0 : LIILIBBee) (x8 : LIILIBBee) (x9 : Int) (x10 : Int) (h1 : LBBe) (h2 : LIILIBBee) : S_iReplayRecs_0.den := ((x0, (), (), (), (), (), (), (), x8, x9, x10, u21), (((), (), ()), h1, h2, ()))
noncomputable def body_iReplayRecs_0 : Code := ((loopsIn 0 (bodyOf Try.f46)).getD 0 (0, .skip)).2
theorem R_iReplayRecs_0 (x0 : LIILIBBee) (x8 : LIILIBBee) (x9 : Int) (x10 : Int) (h1 : LBBe) (h2 : LIILIBBee) : (T_iReplayRecs_0 x0 x8 x9 x10 h1 h2).val (D := S_iReplayRecs_0.den) = .fail ∨ Runs sp_iReplayRecs_0 (pk_iReplayRecs_0 x0 x8 x9 x10 h1 h2) (T_iReplayRecs_0 x0 x8 x9 x10 h1 h2).val := Runs.ofIt (step := sp_iReplayRecs_0) (fun v : V_iReplayRecs_0 => pk_iReplayRecs_0 v.1 v.2.1 v.2.2.1 v.2.2.2.1 v.2.2.2.2.1 v.2.2.2.2.2) (ct := ct_iReplayRecs_0) rfl (fun v => ((relB (relB (relB (relB rfl (relB (relB (relB rfl rfl) rfl) rfl)) rfl) rfl) rfl) : (st_iReplayRecs_0 v.1 v.2.1 v.2.2.1 v.2.2.2.1 v.2.2.2.2.1 v.2.2.2.2.2).val = relS (fun v : V_iReplayRecs_0 => pk_iReplayRecs_0 v.1 v.2.1 v.2.2.1 v.2.2.2.1 v.2.2.2.2.1 v.2.2.2.2.2) ct_iReplayRecs_0 (ss_iReplayRecs_0 v.1 v.2.1 v.2.2.1 v.2.2.2.1 v.2.2.2.2.1 v.2.2.2.2.2))) (fun a => ((cendB (cendD (by simp)) (cendB (cendD (by simp)) cendF)) : CEnd _ (ct_iReplayRecs_0 a))) (x0, x8, x9, x10, h1, h2)
noncomputable def ox_iReplayRecs_0 (x0 : LIILIBBee) (x8 : LIILIBBee) (x9 : Int) (x10 : Int) (h1 : LBBe) (h2 : LIILIBBee) : Option (Ex × St) := (cond (decide (x10 < x9)) (cond (decide (0 ≤ x10 ∧ x10 < ((x8.length : Nat) : Int))) (cond (q_iRecOk ((x8.getD x10.toNat ((0 : Int), ((0 : Int), []))).1) (((x8.getD x10.toNat ((0 : Int), ((0 : Int), []))).2).1) (((x8.getD x10.toNat ((0 : Int), ((0 : Int), []))).2).2)) (cond (!(k1_iReplayRecs x8 x10)) (some (.ret, (⟨(.junk :: .junk :: (.raw (.slice none 0 0)) :: (.raw (.slice none 0 0)) :: (.t true .bool false) :: jA26), [], 0, []⟩ : St))) (cond (decide (0 ≤ (0 : Int) ∧ (0 : Int) ≤ x10 ∧ x10 ≤ ((x0.length : Nat) : Int))) (cond (q_ireplay_add_w2 ((x8.getD x10.toNat ((0 : Int), ((0 : Int), []))).1) (((x8.getD x10.toNat ((0 : Int), ((0 : Int), []))).2).1) (((x8.getD x10.toNat ((0 : Int), ((0 : Int), []))).2).2) ((x0.take x10.toNat).drop (0 : Int).toNat) h1 h2) (cond (!((k2_iReplayRecs x0 x8 x10 h1 h2).1)) (some (.ret, (⟨(.junk :: .junk :: (.raw (.slice none 0 0)) :: (.raw (.slice none 0 0)) :: (.t true .bool false) :: jA26), [], 0, []⟩ : St))) (some (.normal, (⟨((.t false t_spipispiptt x0) :: .junk :: .junk :: .junk :: .junk :: (.ptr 0 0 1 0) :: .junk :: .junk :: (.t false t_spipispiptt x8) :: (.t true (.int .i64) x9) :: (.t true (.int .i64) (IntKind.wrap .i64 (x10 + (1 : Int)))) :: jA20), [(.box [(.all 1 2), (.all 2 3)]), (.rows 110 true t_ptt ((k2_iReplayRecs x0 x8 x10 h1 h2).2.1)), (.rows 30 true t_pipispiptt ((k2_iReplayRecs x0 x8 x10 h1 h2).2.2))], 0, []⟩ : St)))) none) none)) none) none) (some ((.exit 0), (⟨(.junk :: .junk :: .junk :: .junk :: .junk :: (.ptr 0 0 1 0) :: jA25), [(.box [(.all 1 2), (.all 2 3)]), (.rows 110 true t_ptt h1), (.rows 30 true t_pipispiptt h2)], 0, []⟩ : St))))
theorem rdA_iReplayRecs_0 : ∀ d, execC Try.prog tt S65 QF65 (fun _ _ => none) 0 body_iReplayRecs_0 (S_iReplayRecs_0.st d 0 []) (fun e s' => some (e, S_iReplayRecs_0.cutE (kepts [2, 3, 4] [(0, [5])]) e s')) = ox_iReplayRecs_0 d.1.1 d.1.2.2.2.2.2.2.2.2.1 d.1.2.2.2.2.2.2.2.2.2.1 d.1.2.2.2.2.2.2.2.2.2.2.1 d.2.2.1 d.2.2.2.1 := by
  intro d
  kernel_rfl
theorem rdB_iReplayRecs_0 : ∀ d : S_iReplayRecs_0.den, ox_iReplayRecs_0 d.1.1 d.1.2.2.2.2.2.2.2.2.1 d.1.2.2.2.2.2.2.2.2.2.1 d.1.2.2.2.2.2.2.2.2.2.2.1 d.2.2.1 d.2.2.2.1 = (sp_iReplayRecs_0 d).opt 0 [] := by
  intro d
  kernel_rfl
theorem rd_iReplayRecs_0 : ∀ d, execC Try.prog tt S65 QF65 (fun _ _ => none) 0 body_iReplayRecs_0 (S_iReplayRecs_0.st d 0 []) (fun e s' => some (e, S_iReplayRecs_0.cutE (kepts [2, 3, 4] [(0, [5])]) e s')) = (sp_iReplayRecs_0 d).opt 0 [] := fun d => (rdA_iReplayRecs_0 d).trans (rdB_iReplayRecs_0 d)
noncomputable abbrev say_iReplayRecs_0 : St → Option Tree := S_iReplayRecs_0.say 0 [] [(2005001, 30, t_pipispiptt), (2005000, 110, t_ptt)] (fun d => T_iReplayRecs_0 d.1.1 d.1.2.2.2.2.2.2.2.2.1 d.1.2.2.2.2.2.2.2.2.2.1 d.1.2.2.2.2.2.2.2.2.2.2.1 d.2.2.1 d.2.2.2.1)
theorem lw_iReplayRecs_0 : LoopWp Try.prog say_iReplayRecs_0 body_iReplayRecs_0 := SS.wp G65 (fun _ _ => none) (by rw [show loopsIn 0 body_iReplayRecs_0 = [] by kernel_rfl]; simp) S_iReplayRecs_0 0 [] (kepts [2, 3, 4] [(0, [5])]) [(2005001, 30, t_pipispiptt), (2005000, 110, t_ptt)] sp_iReplayRecs_0 rd_iReplayRecs_0 _ (fun d => R_iReplayRecs_0 d.1.1 d.1.2.2.2.2.2.2.2.2.1 d.1.2.2.2.2.2.2.2.2.2.1 d.1.2.2.2.2.2.2.2.2.2.2.1 d.2.2.1 d.2.2.2.1)
noncomputable def k3_iReplayRecs (a0 : LIILIBBee) := it_iReplayRecs_0 a0 a0 ((a0.length : Nat) : Int) (0 : Int) ([] : LBBe) ([] : LIILIBBee)
noncomputable def iReplayRecs (a0 : LIILIBBee) : (LBBe) × (LIILIBBee) × Bool := (cond ((k3_iReplayRecs a0).1 == 0) ([], [], ((k3_iReplayRecs a0).2.1)) (((k3_iReplayRecs a0).2.2.1), ((k3_iReplayRecs a0).2.2.2), true))
noncomputable abbrev e_iReplayRecs (r : (LBBe) × (LIILIBBee) × Bool) : AV × List AObj := ((.tup [(.t true t_sptt r.1), (.t true t_spipispiptt r.2.1), (.t true .bool r.2.2)]), [])
noncomputable abbrev g_iReplayRecs : pshsDen P_iReplayRecs → AV × List AObj := fun d => e_iReplayRecs (iReplayRecs d.1)
noncomputable def q_iReplayRecs (a0 : LIILIBBee) : Bool := cond ((k3_iReplayRecs a0).1 == 0) true ((k3_iReplayRecs a0).1 == 1)
noncomputable abbrev pre_iReplayRecs : pshsDen P_iReplayRecs → Bool := fun d => q_iReplayRecs d.1
theorem runA_iReplayRecs (a0 : LIILIBBee) (hp : q_iReplayRecs a0 = true) : runP true Try.prog tt S65 QF65 (fun b => match b with | 0 => say_iReplayRecs_0 | _ => fun _ => none) Try.f46 (argsMk P_iReplayRecs (a0, ())) = some (g_iReplayRecs (a0, ())) := by
  unfold q_iReplayRecs at hp
  refine Eq.trans (b := (cond ((k3_iReplayRecs a0).1 == 0) (some (e_iReplayRecs ([], [], ((k3_iReplayRecs a0).2.1)))) (cond ((k3_iReplayRecs a0).1 == 1) (some (e_iReplayRecs (((k3_iReplayRecs a0).2.2.1), ((k3_iReplayRecs a0).2.2.2), true))) none))) (by kernel_rfl) ?_
  exact (cndQ (F := fun r => some (e_iReplayRecs r)) hp (fun hp => rfl) (fun hp => (cndT hp (fun _h => rfl))))
theorem run_iReplayRecs : ∀ d, pre_iReplayRecs d = true → runP true Try.prog tt S65 QF65 (fun b => match b with | 0 => say_iReplayRecs_0 | _ => fun _ => none) Try.f46 (argsMk P_iReplayRecs d) = some (g_iReplayRecs d) := fun d hp => runA_iReplayRecs d.1 hp
theorem c_iReplayRecs : PContract Try.prog 46 (sumOf P_iReplayRecs pre_iReplayRecs g_iReplayRecs) := PContract.of_data true G65 (fn := Try.f46) (by kernel_rfl) (L := fun b => match b with | 0 => say_iReplayRecs_0 | _ => fun _ => none) (by rw [show loopsIn 0 (bodyOf Try.f46) = [(0, body_iReplayRecs_0)] by kernel_rfl]; intro p hp; simp only [List.mem_singleton] at hp; subst hp; exact lw_iReplayRecs_0) P_iReplayRecs pre_iReplayRecs g_iReplayRecs run_iReplayRecs
noncomputable def S66 : Tab := Tab.add S65 46 (lift (sumOf P_iReplayRecs pre_iReplayRecs g_iReplayRecs))
noncomputable def QF66 : FuncId → Bool := qadd QF65 46
theorem G66 : Good Try.prog tt S66 QF66 := G65.addQ c_iReplayRecs ⟨Try.f46, by kernel_rfl, by kernel_rfl, by kernel_rfl⟩ (fun _ => rfl)

/-! 102 slices.Equal[[]loop.example/g00244/impl.Pair,loop.example/g00244/impl.Pair] -/
noncomputable abbrev P_slices_Equal_iPair : List PSh := [.t t_sptt, .t t_sptt]
noncomputable abbrev S_slices_Equal_iPair_0 : SS := ⟨(.t false t_sptt :: .t false t_sptt :: .junk :: .junk :: .junk :: .junk :: .junk :: .junk :: .junk :: .junk :: .junk :: .junk :: .t true (.int .i64) :: .t true (.int .i64) :: jS12), []⟩
noncomputable abbrev E_slices_Equal_iPair_0_0 : SS := ⟨(.junk :: .junk :: .junk :: .junk :: .t true .bool :: jS21), []⟩
noncomputable abbrev E_slices_Equal_iPair_0_1 : SS := ⟨(.junk :: jS25), []⟩
noncomputable def st_slices_Equal_iPair_0 (x0 : LBBe) (x1 : LBBe) (x12 : Int) (x13 : Int) : RT S_slices_Equal_iPair_0.den := (.br (decide (x13 < x12)) (.br (decide (0 ≤ x13 ∧ x13 < ((x0.length : Nat) : Int))) (.br (decide (0 ≤ x13 ∧ x13 < ((x1.length : Nat) : Int))) (.br (!((((x0.getD x13.toNat ((⟨#[]⟩ : ByteArray), (⟨#[]⟩ : ByteArray))).1).toList == ((x1.getD x13.toNat ((⟨#[]⟩ : ByteArray), (⟨#[]⟩ : ByteArray))).1).toList) && ((((x0.getD x13.toNat ((⟨#[]⟩ : ByteArray), (⟨#[]⟩ : ByteArray))).2).toList == ((x1.getD x13.toNat ((⟨#[]⟩ : ByteArray), (⟨#[]⟩ : ByteArray))).2).toList) && true))) (.done .ret E_slices_Equal_iPair_0_0 (((), (), (), (), false, u22), ())) (.next ((x0, x1, (), (), (), (), (), (), (), (), (), (), x12, IntKind.wrap .i64 (x13 + (1 : Int)), u13), ()))) .fail) .fail) (.done (.exit 0) E_slices_Equal_iPair_0_1 ((u27), ())))
noncomputable abbrev V_slices_Equal_iPair_0 := (LBBe) × (LBBe) × (Int) × (Int)
noncomputable abbrev A_slices_Equal_iPair_0 := Nat × (Bool)
noncomputable def fl_slices_Equal_iPair_0 : A_slices_Equal_iPair_0 := (99, (false : Bool))
noncomputable def ss_slices_Equal_iPair_0 (x0 : LBBe) (x1 : LBBe) (x12 : Int) (x13 : Int) : V_slices_Equal_iPair_0 ⊕ A_slices_Equal_iPair_0 := (cond (decide (x13 < x12)) (cond (decide (0 ≤ x13 ∧ x13 < ((x0.length : Nat) : Int))) (cond (decide (0 ≤ x13 ∧ x13 < ((x1.length : Nat) : Int))) (cond (!((((x0.getD x13.toNat ((⟨#[]⟩ : ByteArray), (⟨#[]⟩ : ByteArray))).1).toList == ((x1.getD x13.toNat ((⟨#[]⟩ : ByteArray), (⟨#[]⟩ : ByteArray))).1).toList) && ((((x0.getD x13.toNat ((⟨#[]⟩ : ByteArray), (⟨#[]⟩ : ByteArray))).2).toList == ((x1.getD x13.toNat ((⟨#[]⟩ : ByteArray), (⟨#[]⟩ : ByteArray))).2).toList) && true))) (.inr (0, false)) (.inl (x0, x1, x12, IntKind.wrap .i64 (x13 + (1 : Int))))) (.inr fl_slices_Equal_iPair_0)) (.inr fl_slices_Equal_iPair_0)) (.inr (1, (false : Bool))))
noncomputable def it_slices_Equal_iPair_0 (x0 : LBBe) (x1 : LBBe) (x12 : Int) (x13 : Int) : A_slices_Equal_iPair_0 := itX (fun v : V_slices_Equal_iPair_0 => ss_slices_Equal_iPair_0 v.1 v.2.1 v.2.2.1 v.2.2.2) fl_slices_Equal_iPair_0 (x0, x1, x12, x13)
noncomputable def ct_slices_Equal_iPair_0 (a : A_slices_Equal_iPair_0) : CT := (.br (a.1 == 0) (.done .ret E_slices_Equal_iPair_0_0 (((), (), (), (), a.2, u22), ())) (.br (a.1 == 1) (.done (.exit 0) E_slices_Equal_iPair_0_1 ((u27), ())) .fail))
noncomputable def T_slices_Equal_iPair_0 (x0 : LBBe) (x1 : LBBe) (x12 : Int) (x13 : Int) : CT := ct_slices_Equal_iPair_0 (it_slices_Equal_iPair_0 x0 x1 x12 x13)
noncomputable abbrev sp_slices_Equal_iPair_0 : S_slices_Equal_iPair_0.den → RT S_slices_Equal_iPair_0.den := fun d => st_slices_Equal_iPair_0 d.1.1 d.1.2.1 d.1.2.2.2.2.2.2.2.2.2.2.2.2.1 d.1.2.2.2.2.2.2.2.2.2.2.2.2.2.1
noncomputable abbrev pk_slices_Equal_iPair_0 (x0 : LBBe) (x1 : LBBe) (x12 : Int) (x13 : Int) : S_slices_Equal_iPair_0.den := ((x0, x1, (), (), (), (), (), (), (), (), (), (), x12, x13, u13), ())
noncomputable def body_slices_Equal_iPair_0 : Code := ((loopsIn 0 (bodyOf Try.f102)).getD 0 (0, .skip)).2
theorem R_slices_Equal_iPair_0 (x0 : LBBe) (x1 : LBBe) (x12 : Int) (x13 : Int) : (T_slices_Equal_iPair_0 x0 x1 x12 x13).val (D := S_slices_Equal_iPair_0.den) = .fail ∨ Runs sp_slices_Equal_iPair_0 (pk_slices_Equal_iPair_0 x0 x1 x12 x13) (T_slices_Equal_iPair_0 x0 x1 x12 x13).val := Runs.ofIt (step := sp_slices_Equal_iPair_0) (fun v : V_slices_Equal_iPair_0 => pk_slices_Equal_iPair_0 v.1 v.2.1 v.2.2.1 v.2.2.2) (ct := ct_slices_Equal_iPair_0) rfl (fun v => ((relB (relB (relB (relB rfl rfl) rfl) rfl) rfl) : (st_slices_Equal_iPair_0 v.1 v.2.1 v.2.2.1 v.2.2.2).val = relS (fun v : V_slices_Equal_iPair_0 => pk_slices_Equal_iPair_0 v.1 v.2.1 v.2.2.1 v.2.2.2) ct_slices_Equal_iPair_0 (ss_slices_Equal_iPair_0 v.1 v.2.1 v.2.2.1 v.2.2.2))) (fun a => ((cendB (cendD (by simp)) (cendB (cendD (by simp)) cendF)) : CEnd _ (ct_slices_Equal_iPair_0 a))) (x0, x1, x12, x13)
theorem rd_slices_Equal_iPair_0 : ∀ d, execC Try.prog tt S66 QF66 (fun _ _ => none) 0 body_slices_Equal_iPair_0 (S_slices_Equal_iPair_0.st d 0 []) (fun e s' => some (e, S_slices_Equal_iPair_0.cutE (kepts [4] [(0, [])]) e s')) = (sp_slices_Equal_iPair_0 d).opt 0 [] := by
  intro d
  kernel_rfl
noncomputable abbrev say_slices_Equal_iPair_0 : St → Option Tree := S_slices_Equal_iPair_0.say 0 [] [] (fun d => T_slices_Equal_iPair_0 d.1.1 d.1.2.1 d.1.2.2.2.2.2.2.2.2.2.2.2.2.1 d.1.2.2.2.2.2.2.2.2.2.2.2.2.2.1)
theorem lw_slices_Equal_iPair_0 : LoopWp Try.prog say_slices_Equal_iPair_0 body_slices_Equal_iPair_0 := SS.wp G66 (fun _ _ => none) (by rw [show loopsIn 0 body_slices_Equal_iPair_0 = [] by kernel_rfl]; simp) S_slices_Equal_iPair_0 0 [] (kepts [4] [(0, [])]) [] sp_slices_Equal_iPair_0 rd_slices_Equal_iPair_0 _ (fun d => R_slices_Equal_iPair_0 d.1.1 d.1.2.1 d.1.2.2.2.2.2.2.2.2.2.2.2.2.1 d.1.2.2.2.2.2.2.2.2.2.2.2.2.2.1)
noncomputable def slices_Equal_iPair (a0 : LBBe) (a1 : LBBe) : Bool := (cond (((a0.length : Nat) : Int) != ((a1.length : Nat) : Int)) false (cond ((it_slices_Equal_iPair_0 a0 a1 ((a0.length : Nat) : Int) (0 : Int)).1 == 0) ((it_slices_Equal_iPair_0 a0 a1 ((a0.length : Nat) : Int) (0 : Int)).2) true))
noncomputable abbrev e_slices_Equal_iPair (r : Bool) : AV × List AObj := ((.t true .bool r), [])
noncomputable abbrev g_slices_Equal_iPair : pshsDen P_slices_Equal_iPair → AV × List AObj := fun d => e_slices_Equal_iPair (slices_Equal_iPair d.1 d.2.1)
noncomputable def q_slices_Equal_iPair (a0 : LBBe) (a1 : LBBe) : Bool := cond (((a0.length : Nat) : Int) != ((a1.length : Nat) : Int)) true (cond ((it_slices_Equal_iPair_0 a0 a1 ((a0.length : Nat) : Int) (0 : Int)).1 == 0) true ((it_slices_Equal_iPair_0 a0 a1 ((a0.length : Nat) : Int) (0 : Int)).1 == 1))
noncomputable abbrev pre_slices_Equal_iPair : pshsDen P_slices_Equal_iPair → Bool := fun d => q_slices_Equal_iPair d.1 d.2.1
theorem runA_slices_Equal_iPair (a0 : LBBe) (a1 : LBBe) (hp : q_slices_Equal_iPair a0 a1 = true) : runP true Try.prog tt S66 QF66 (fun b => match b with | 0 => say_slices_Equal_iPair_0 | _ => fun _ => none) Try.f102 (argsMk P_slices_Equal_iPair (a0, (a1, ()))) = some (g_slices_Equal_iPair (a0, (a1, ()))) := by
  unfold q_slices_Equal_iPair at hp
  refine Eq.trans (b := (cond (((a0.length : Nat) : Int) != ((a1.length : Nat) : Int)) (some (e_slices_Equal_iPair false)) (cond ((it_slices_Equal_iPair_0 a0 a1 ((a0.length : Nat) : Int) (0 : Int)).1 == 0) (some (e_slices_Equal_iPair ((it_slices_Equal_iPair_0 a0 a1 ((a0.length : Nat) : Int) (0 : Int)).2))) (cond ((it_slices_Equal_iPair_0 a0 a1 ((a0.length : Nat) : Int) (0 : Int)).1 == 1) (some (e_slices_Equal_iPair true)) none)))) (by kernel_rfl) ?_
  exact (cndQ (F := fun r => some (e_slices_Equal_iPair r)) hp (fun hp => rfl) (fun hp => (cndQ (F := fun r => some (e_slices_Equal_iPair r)) hp (fun hp => rfl) (fun hp => (cndT hp (fun _h => rfl))))))
theorem run_slices_Equal_iPair : ∀ d, pre_slices_Equal_iPair d = true → runP true Try.prog tt S66 QF66 (fun b => match b with | 0 => say_slices_Equal_iPair_0 | _ => fun _ => none) Try.f102 (argsMk P_slices_Equal_iPair d) = some (g_slices_Equal_iPair d) := fun d hp => runA_slices_Equal_iPair d.1 d.2.1 hp
theorem c_slices_Equal_iPair : PContract Try.prog 102 (sumOf P_slices_Equal_iPair pre_slices_Equal_iPair g_slices_Equal_iPair) := PContract.of_data true G66 (fn := Try.f102) (by kernel_rfl) (L := fun b => match b with | 0 => say_slices_Equal_iPair_0 | _ => fun _ => none) (by rw [show loopsIn 0 (bodyOf Try.f102) = [(0, body_slices_Equal_iPair_0)] by kernel_rfl]; intro p hp; simp only [List.mem_singleton] at hp; subst hp; exact lw_slices_Equal_iPair_0) P_slices_Equal_iPair pre_slices_Equal_iPair g_slices_Equal_iPair run_slices_Equal_iPair
noncomputable def S67 : Tab := Tab.add S66 102 (lift (sumOf P_slices_Equal_iPair pre_slices_Equal_iPair g_slices_Equal_iPair))
noncomputable def QF67 : FuncId → Bool := qadd QF66 102
theorem G67 : Good Try.prog tt S67 QF67 := G66.addQ c_slices_Equal_iPair ⟨Try.f102, by kernel_rfl, by kernel_rfl, by kernel_rfl⟩ (fun _ => rfl)

/-! 144 slices.Equal[[]loop.example/g00244/impl.Op,loop.example/g00244/impl.Op] -/
noncomputable abbrev P_slices_Equal_iOp : List PSh := [.t t_spiptt, .t t_spiptt]
noncomputable abbrev S_slices_Equal_iOp_0 : SS := ⟨(.t false t_spiptt :: .t false t_spiptt :: .junk :: .junk :: .junk :: .junk :: .junk :: .junk :: .junk :: .junk :: .junk :: .junk :: .t true (.int .i64) :: .t true (.int .i64) :: jS12), []⟩
noncomputable abbrev E_slices_Equal_iOp_0_0 : SS := ⟨(.junk :: .junk :: .junk :: .junk :: .t true .bool :: jS21), []⟩
noncomputable abbrev E_slices_Equal_iOp_0_1 : SS := ⟨(.junk :: jS25), []⟩
noncomputable def st_slices_Equal_iOp_0 (x0 : LIBBe) (x1 : LIBBe) (x12 : Int) (x13 : Int) : RT S_slices_Equal_iOp_0.den := (.br (decide (x13 < x12)) (.br (decide (0 ≤ x13 ∧ x13 < ((x0.length : Nat) : Int))) (.br (decide (0 ≤ x13 ∧ x13 < ((x1.length : Nat) : Int))) (.br (!((((x0.getD x13.toNat ((0 : Int), ((⟨#[]⟩ : ByteArray), (⟨#[]⟩ : ByteArray)))).1) == ((x1.getD x13.toNat ((0 : Int), ((⟨#[]⟩ : ByteArray), (⟨#[]⟩ : ByteArray)))).1)) && (((((x0.getD x13.toNat ((0 : Int), ((⟨#[]⟩ : ByteArray), (⟨#[]⟩ : ByteArray)))).2).1).toList == (((x1.getD x13.toNat ((0 : Int), ((⟨#[]⟩ : ByteArray), (⟨#[]⟩ : ByteArray)))).2).1).toList) && (((((x0.getD x13.toNat ((0 : Int), ((⟨#[]⟩ : ByteArray), (⟨#[]⟩ : ByteArray)))).2).2).toList == (((x1.getD x13.toNat ((0 : Int), ((⟨#[]⟩ : ByteArray), (⟨#[]⟩ : ByteArray)))).2).2).toList) && true)))) (.done .ret E_slices_Equal_iOp_0_0 (((), (), (), (), false, u22), ())) (.next ((x0, x1, (), (), (), (), (), (), (), (), (), (), x12, IntKind.wrap .i64 (x13 + (1 : Int)), u13), ()))) .fail) .fail) (.done (.exit 0) E_slices_Equal_iOp_0_1 ((u27), ())))
noncomputable abbrev V_slices_Equal_iOp_0 := (LIBBe) × (LIBBe) × (Int) × (Int)
noncomputable abbrev A_slices_Equal_iOp_0 := Nat × (Bool)
noncomputable def fl_slices_Equal_iOp_0 : A_slices_Equal_iOp_0 := (99, (false : Bool))
noncomputable def ss_slices_Equal_iOp_0 (x0 : LIBBe) (x1 : LIBBe) (x12 : Int) (x13 : Int) : V_slices_Equal_iOp_0 ⊕ A_slices_Equal_iOp_0 := (cond (decide (x13 < x12)) (cond (decide (0 ≤ x13 ∧ x13 < ((x0.length : Nat) : Int))) (cond (decide (0 ≤ x13 ∧ x13 < ((x1.length : Nat) : Int))) (cond (!((((x0.getD x13.toNat ((0 : Int), ((⟨#[]⟩ : ByteArray), (⟨#[]⟩ : ByteArray)))).1) == ((x1.getD x13.toNat ((0 : Int), ((⟨#[]⟩ : ByteArray), (⟨#[]⟩ : ByteArray)))).1)) && (((((x0.getD x13.toNat ((0 : Int), ((⟨#[]⟩ : ByteArray), (⟨#[]⟩ : ByteArray)))).2).1).toList == (((x1.getD x13.toNat ((0 : Int), ((⟨#[]⟩ : ByteArray), (⟨#[]⟩ : ByteArray)))).2).1).toList) && (((((x0.getD x13.toNat ((0 : Int), ((⟨#[]⟩ : ByteArray), (⟨#[]⟩ : ByteArray)))).2).2).toList == (((x1.getD x13.toNat ((0 : Int), ((⟨#[]⟩ : ByteArray), (⟨#[]⟩ : ByteArray)))).2).2).toList) && true)))) (.inr (0, false)) (.inl (x0, x1, x12, IntKind.wrap .i64 (x13 + (1 : Int))))) (.inr fl_slices_Equal_iOp_0)) (.inr fl_slices_Equal_iOp_0)) (.inr (1, (false : Bool))))
noncomputable def it_slices_Equal_iOp_0 (x0 : LIBBe) (x1 : LIBBe) (x12 : Int) (x13 : Int) : A_slices_Equal_iOp_0 := itX (fun v : V_slices_Equal_iOp_0 => ss_slices_Equal_iOp_0 v.1 v.2.1 v.2.2.1 v.2.2.2) fl_slices_Equal_iOp_0 (x0, x1, x12, x13)
noncomputable def ct_slices_Equal_iOp_0 (a : A_slices_Equal_iOp_0) : CT := (.br (a.1 == 0) (.done .ret E_slices_Equal_iOp_0_0 (((), (), (), (), a.2, u22), ())) (.br (a.1 == 1) (.done (.exit 0) E_slices_Equal_iOp_0_1 ((u27), ())) .fail))
noncomputable def T_slices_Equal_iOp_0 (x0 : LIBBe) (x1 : LIBBe) (x12 : Int) (x13 : Int) : CT := ct_slices_Equal_iOp_0 (it_slices_Equal_iOp_0 x0 x1 x12 x13)
noncomputable abbrev sp_slices_Equal_iOp_0 : S_slices_Equal_iOp_0.den → RT S_slices_Equal_iOp_0.den := fun d => st_slices_Equal_iOp_0 d.1.1 d.1.2.1 d.1.2.2.2.2.2.2.2.2.2.2.2.2.1 d.1.2.2.2.2.2.2.2.2.2.2.2.2.2.1
noncomputable abbrev pk_slices_Equal_iOp_0 (x0 : LIBBe) (x1 : LIBBe) (x12 : Int) (x13 : Int) : S_slices_Equal_iOp_0.den := ((x0, x1, (), (), (), (), (), (), (), (), (), (), x12, x13, u13), ())
noncomputable def body_slices_Equal_iOp_0 : Code := ((loopsIn 0 (bodyOf Try.f144)).getD 0 (0, .skip)).2
theorem R_slices_Equal_iOp_0 (x0 : LIBBe) (x1 : LIBBe) (x12 : Int) (x13 : Int) : (T_slices_Equal_iOp_0 x0 x1 x12 x13).val (D := S_slices_Equal_iOp_0.den) = .fail ∨ Runs sp_slices_Equal_iOp_0 (pk_slices_Equal_iOp_0 x0 x1 x12 x13) (T_slices_Equal_iOp_0 x0 x1 x12 x13).val := Runs.ofIt (step := sp_slices_Equal_iOp_0) (fun v : V_slices_Equal_iOp_0 => pk_slices_Equal_iOp_0 v.1 v.2.1 v.2.2.1 v.2.2.2) (ct := ct_slices_Equal_iOp_0) rfl (fun v => ((relB (relB (relB (relB rfl rfl) rfl) rfl) rfl) : (st_slices_Equal_iOp_0 v.1 v.2.1 v.2.2.1 v.2.2.2).val = relS (fun v : V_slices_Equal_iOp_0 => pk_slices_Equal_iOp_0 v.1 v.2.1 v.2.2.1 v.2.2.2) ct_slices_Equal_iOp_0 (ss_slices_Equal_iOp_0 v.1 v.2.1 v.2.2.1 v.2.2.2))) (fun a => ((cendB (cendD (by simp)) (cendB (cendD (by simp)) cendF)) : CEnd _ (ct_slices_Equal_iOp_0 a))) (x0, x1, x12, x13)
theorem rd_slices_Equal_iOp_0 : ∀ d, execC Try.prog tt S67 QF67 (fun _ _ => none) 0 body_slices_Equal_iOp_0 (S_slices_Equal_iOp_0.st d 0 []) (fun e s' => some (e, S_slices_Equal_iOp_0.cutE (kepts [4] [(0, [])]) e s')) = (sp_slices_Equal_iOp_0 d).opt 0 [] := by
  intro d
  kernel_rfl
noncomputable abbrev say_slices_Equal_iOp_0 : St → Option Tree := S_slices_Equal_iOp_0.say 0 [] [] (fun d => T_slices_Equal_iOp_0 d.1.1 d.1.2.1 d.1.2.2.2.2.2.2.2.2.2.2.2.2.1 d.1.2.2.2.2.2.2.2.2.2.2.2.2.2.1)
theorem lw_slices_Equal_iOp_0 : LoopWp Try.prog say_slices_Equal_iOp_0 body_slices_Equal_iOp_0 := SS.wp G67 (fun _ _ => none) (by rw [show loopsIn 0 body_slices_Equal_iOp_0 = [] by kernel_rfl]; simp) S_slices_Equal_iOp_0 0 [] (kepts [4] [(0, [])]) [] sp_slices_Equal_iOp_0 rd_slices_Equal_iOp_0 _ (fun d => R_slices_Equal_iOp_0 d.1.1 d.1.2.1 d.1.2.2.2.2.2.2.2.2.2.2.2.2.1 d.1.2.2.2.2.2.2.2.2.2.2.2.2.2.1)
noncomputable def slices_Equal_iOp (a0 : LIBBe) (a1 : LIBBe) : Bool := (cond (((a0.length : Nat) : Int) != ((a1.length : Nat) : Int)) false (cond ((it_slices_Equal_iOp_0 a0 a1 ((a0.length : Nat) : Int) (0 : Int)).1 == 0) ((it_slices_Equal_iOp_0 a0 a1 ((a0.length : Nat) : Int) (0 : Int)).2) true))
noncomputable abbrev e_slices_Equal_iOp (r : Bool) : AV × List AObj := ((.t true .bool r), [])
noncomputable abbrev g_slices_Equal_iOp : pshsDen P_slices_Equal_iOp → AV × List AObj := fun d => e_slices_Equal_iOp (slices_Equal_iOp d.1 d.2.1)
noncomputable def q_slices_Equal_iOp (a0 : LIBBe) (a1 : LIBBe) : Bool := cond (((a0.length : Nat) : Int) != ((a1.length : Nat) : Int)) true (cond ((it_slices_Equal_iOp_0 a0 a1 ((a0.length : Nat) : Int) (0 : Int)).1 == 0) true ((it_slices_Equal_iOp_0 a0 a1 ((a0.length : Nat) : Int) (0 : Int)).1 == 1))
noncomputable abbrev pre_slices_Equal_iOp : pshsDen P_slices_Equal_iOp → Bool := fun d => q_slices_Equal_iOp d.1 d.2.1
theorem runA_slices_Equal_iOp (a0 : LIBBe) (a1 : LIBBe) (hp : q_slices_Equal_iOp a0 a1 = true) : runP true Try.prog tt S67 QF67 (fun b => match b with | 0 => say_slices_Equal_iOp_0 | _ => fun _ => none) Try.f144 (argsMk P_slices_Equal_iOp (a0, (a1, ()))) = some (g_slices_Equal_iOp (a0, (a1, ()))) := by
  unfold q_slices_Equal_iOp at hp
  refine Eq.trans (b := (cond (((a0.length : Nat) : Int) != ((a1.length : Nat) : Int)) (some (e_slices_Equal_iOp false)) (cond ((it_slices_Equal_iOp_0 a0 a1 ((a0.length : Nat) : Int) (0 : Int)).1 == 0) (some (e_slices_Equal_iOp ((it_slices_Equal_iOp_0 a0 a1 ((a0.length : Nat) : Int) (0 : Int)).2))) (cond ((it_slices_Equal_iOp_0 a0 a1 ((a0.length : Nat) : Int) (0 : Int)).1 == 1) (some (e_slices_Equal_iOp true)) none)))) (by kernel_rfl) ?_
  exact (cndQ (F := fun r => some (e_slices_Equal_iOp r)) hp (fun hp => rfl) (fun hp => (cndQ (F := fun r => some (e_slices_Equal_iOp r)) hp (fun hp => rfl) (fun hp => (cndT hp (fun _h => rfl))))))
theorem run_slices_Equal_iOp : ∀ d, pre_slices_Equal_iOp d = true → runP true Try.prog tt S67 QF67 (fun b => match b with | 0 => say_slices_Equal_iOp_0 | _ => fun _ => none) Try.f144 (argsMk P_slices_Equal_iOp d) = some (g_slices_Equal_iOp d) := fun d hp => runA_slices_Equal_iOp d.1 d.2.1 hp
theorem c_slices_Equal_iOp : PContract Try.prog 144 (sumOf P_slices_Equal_iOp pre_slices_Equal_iOp g_slices_Equal_iOp) := PContract.of_data true G67 (fn := Try.f144) (by kernel_rfl) (L := fun b => match b with | 0 => say_slices_Equal_iOp_0 | _ => fun _ => none) (by rw [show loopsIn 0 (bodyOf Try.f144) = [(0, body_slices_Equal_iOp_0)] by kernel_rfl]; intro p hp; simp only [List.mem_singleton] at hp; subst hp; exact lw_slices_Equal_iOp_0) P_slices_Equal_iOp pre_slices_Equal_iOp g_slices_Equal_iOp run_slices_Equal_iOp
noncomputable def S68 : Tab := Tab.add S67 144 (lift (sumOf P_slices_Equal_iOp pre_slices_Equal_iOp g_slices_Equal_iOp))
noncomputable def QF68 : FuncId → Bool := qadd QF67 144
theorem G68 : Good Try.prog tt S68 QF68 := G67.addQ c_slices_Equal_iOp ⟨Try.f144, by kernel_rfl, by kernel_rfl, by kernel_rfl⟩ (fun _ => rfl)

/-! 104 loop.example/g00244/impl.sameRec -/
noncomputable abbrev P_isameRec : List PSh := [.agg [(.int .i64), (.int .i64), t_spiptt], .agg [(.int .i64), (.int .i64), t_spiptt]]
noncomputable def isameRec (a0 : Int) (a1 : Int) (a2 : LIBBe) (a3 : Int) (a4 : Int) (a5 : LIBBe) : Bool := (cond (a0 == a3) (cond (a1 == a4) (slices_Equal_iOp a2 a5) false) false)
noncomputable abbrev e_isameRec (r : Bool) : AV × List AObj := ((.t true .bool r), [])
noncomputable abbrev g_isameRec : pshsDen P_isameRec → AV × List AObj := fun d => e_isameRec (isameRec d.1.1 d.1.2.1 d.1.2.2.1 d.2.1.1 d.2.1.2.1 d.2.1.2.2.1)
noncomputable def q_isameRec (a0 : Int) (a1 : Int) (a2 : LIBBe) (a3 : Int) (a4 : Int) (a5 : LIBBe) : Bool := cond (a0 == a3) (cond (a1 == a4) (q_slices_Equal_iOp a2 a5) true) true
noncomputable abbrev pre_isameRec : pshsDen P_isameRec → Bool := fun d => q_isameRec d.1.1 d.1.2.1 d.1.2.2.1 d.2.1.1 d.2.1.2.1 d.2.1.2.2.1
theorem runA_isameRec (a0 : Int) (a1 : Int) (a2 : LIBBe) (a3 : Int) (a4 : Int) (a5 : LIBBe) (hp : q_isameRec a0 a1 a2 a3 a4 a5 = true) : runP true Try.prog tt S68 QF68 (fun _ _ => none) Try.f104 (argsMk P_isameRec ((a0, (a1, (a2, ()))), ((a3, (a4, (a5, ()))), ()))) = some (g_isameRec ((a0, (a1, (a2, ()))), ((a3, (a4, (a5, ()))), ()))) := by
  unfold q_isameRec at hp
  refine Eq.trans (b := (cond (a0 == a3) (cond (a1 == a4) (cond (q_slices_Equal_iOp a2 a5) (some (e_isameRec (slices_Equal_iOp a2 a5))) none) (some (e_isameRec false))) (some (e_isameRec false)))) (by kernel_rfl) ?_
  exact (cndQ (F := fun r => some (e_isameRec r)) hp (fun hp => (cndQ (F := fun r => some (e_isameRec r)) hp (fun hp => (cndT hp (fun _h => rfl))) (fun hp => rfl))) (fun hp => rfl))
theorem run_isameRec : ∀ d, pre_isameRec d = true → runP true Try.prog tt S68 QF68 (fun _ _ => none) Try.f104 (argsMk P_isameRec d) = some (g_isameRec d) := fun d hp => runA_isameRec d.1.1 d.1.2.1 d.1.2.2.1 d.2.1.1 d.2.1.2.1 d.2.1.2.2.1 hp
theorem c_isameRec : PContract Try.prog 104 (sumOf P_isameRec pre_isameRec g_isameRec) := PContract.of_data true G68 (fn := Try.f104) (by kernel_rfl) (L := fun _ _ => none) (by rw [show loopsIn 0 (bodyOf Try.f104) = [] by kernel_rfl]; simp) P_isameRec pre_isameRec g_isameRec run_isameRec
noncomputable def S69 : Tab := Tab.add S68 104 (lift (sumOf P_isameRec pre_isameRec g_isameRec))
noncomputable def QF69 : FuncId → Bool := qadd QF68 104
theorem G69 : Good Try.prog tt S69 QF69 := G68.addQ c_isameRec ⟨Try.f104, by kernel_rfl, by kernel_rfl, by kernel_rfl⟩ (fun _ => rfl)

/-! 103 slices.EqualFunc[[]loop.example/g00244/impl.Rec,[]loop.example/g00244/impl.Rec,loop.example/g00244/impl.Rec,loop.example/g00244/impl.Rec] -/
noncomputable abbrev jA14 : List AV := [.junk, .junk, .junk, .junk, .junk, .junk, .junk, .junk, .junk, .junk, .junk, .junk, .junk, .junk]
noncomputable abbrev SM_slices_EqualFunc_iReciRec_iRec_iRec_ : SS := ⟨[.t false t_spipispiptt, .t false t_spipispiptt, .fn 104 []], []⟩
noncomputable abbrev S_slices_EqualFunc_iReciRec_iRec_iRec__0 : SS := ⟨(.junk :: .t false t_spipispiptt :: .fn 104 [] :: .junk :: .junk :: .junk :: .junk :: .junk :: .junk :: .junk :: .junk :: .junk :: .junk :: .junk :: .junk :: .t false t_spipispiptt :: .t true (.int .i64) :: .t true (.int .i64) :: jS14), []⟩
noncomputable abbrev E_slices_EqualFunc_iReciRec_iRec_iRec__0_0 : SS := ⟨(.junk :: .junk :: .junk :: .junk :: .junk :: .junk :: .t true .bool :: jS25), []⟩
noncomputable abbrev E_slices_EqualFunc_iReciRec_iRec_iRec__0_1 : SS := ⟨(.junk :: jS31), []⟩
noncomputable def k1_slices_EqualFunc_iReciRec_iRec_iRec_ (x1 : LIILIBBee) (x15 : LIILIBBee) (x17 : Int) := isameRec ((x15.getD x17.toNat ((0 : Int), ((0 : Int), []))).1) (((x15.getD x17.toNat ((0 : Int), ((0 : Int), []))).2).1) (((x15.getD x17.toNat ((0 : Int), ((0 : Int), []))).2).2) ((x1.getD x17.toNat ((0 : Int), ((0 : Int), []))).1) (((x1.getD x17.toNat ((0 : Int), ((0 : Int), []))).2).1) (((x1.getD x17.toNat ((0 : Int), ((0 : Int), []))).2).2)
noncomputable def st_slices_EqualFunc_iReciRec_iRec_iRec__0 (x1 : LIILIBBee) (x15 : LIILIBBee) (x16 : Int) (x17 : Int) : RT S_slices_EqualFunc_iReciRec_iRec_iRec__0.den := (.br (decide (x17 < x16)) (.br (decide (0 ≤ x17 ∧ x17 < ((x15.length : Nat) : Int))) (.br (decide (0 ≤ x17 ∧ x17 < ((x1.length : Nat) : Int))) (.br (q_isameRec ((x15.getD x17.toNat ((0 : Int), ((0 : Int), []))).1) (((x15.getD x17.toNat ((0 : Int), ((0 : Int), []))).2).1) (((x15.getD x17.toNat ((0 : Int), ((0 : Int), []))).2).2) ((x1.getD x17.toNat ((0 : Int), ((0 : Int), []))).1) (((x1.getD x17.toNat ((0 : Int), ((0 : Int), []))).2).1) (((x1.getD x17.toNat ((0 : Int), ((0 : Int), []))).2).2)) (.br (!(k1_slices_EqualFunc_iReciRec_iRec_iRec_ x1 x15 x17)) (.done .ret E_slices_EqualFunc_iReciRec_iRec_iRec__0_0 (((), (), (), (), (), (), false, u26), ())) (.next (((), x1, (), (), (), (), (), (), (), (), (), (), (), (), (), x15, x16, IntKind.wrap .i64 (x17 + (1 : Int)), u15), ()))) .fail) .fail) .fail) (.done (.exit 0) E_slices_EqualFunc_iReciRec_iRec_iRec__0_1 ((u33), ())))
noncomputable abbrev V_slices_EqualFunc_iReciRec_iRec_iRec__0 := (LIILIBBee) × (LIILIBBee) × (Int) × (Int)
noncomputable abbrev A_slices_EqualFunc_iReciRec_iRec_iRec__0 := Nat × (Bool)
noncomputable def fl_slices_EqualFunc_iReciRec_iRec_iRec__0 : A_slices_EqualFunc_iReciRec_iRec_iRec__0 := (99, (false : Bool))
noncomputable def ss_slices_EqualFunc_iReciRec_iRec_iRec__0 (x1 : LIILIBBee) (x15 : LIILIBBee) (x16 : Int) (x17 : Int) : V_slices_EqualFunc_iReciRec_iRec_iRec__0 ⊕ A_slices_EqualFunc_iReciRec_iRec_iRec__0 := (cond (decide (x17 < x16)) (cond (decide (0 ≤ x17 ∧ x17 < ((x15.length : Nat) : Int))) (cond (decide (0 ≤ x17 ∧ x17 < ((x1.length : Nat) : Int))) (cond (q_isameRec ((x15.getD x17.toNat ((0 : Int), ((0 : Int), []))).1) (((x15.getD x17.toNat ((0 : Int), ((0 : Int), []))).2).1) (((x15.getD x17.toNat ((0 : Int), ((0 : Int), []))).2).2) ((x1.getD x17.toNat ((0 : Int), ((0 : Int), []))).1) (((x1.getD x17.toNat ((0 : Int), ((0 : Int), []))).2).1) (((x1.getD x17.toNat ((0 : Int), ((0 : Int), []))).2).2)) (cond (!(k1_slices_EqualFunc_iReciRec_iRec_iRec_ x1 x15 x17)) (.inr (0, false)) (.inl (x1, x15, x16, IntKind.wrap .i64 (x17 + (1 : Int))))) (.inr fl_slices_EqualFunc_iReciRec_iRec_iRec__0)) (.inr fl_slices_EqualFunc_iReciRec_iRec_iRec__0)) (.inr fl_slices_EqualFunc_iReciRec_iRec_iRec__0)) (.inr (1, (false : Bool))))
noncomputable def it_slices_EqualFunc_iReciRec_iRec_iRec__0 (x1 : LIILIBBee) (x15 : LIILIBBee) (x16 : Int) (x17 : Int) : A_slices_EqualFunc_iReciRec_iRec_iRec__0 := itX (fun v : V_slices_EqualFunc_iReciRec_iRec_iRec__0 => ss_slices_EqualFunc_iReciRec_iRec_iRec__0 v.1 v.2.1 v.2.2.1 v.2.2.2) fl_slices_EqualFunc_iReciRec_iRec_iRec__0 (x1, x15, x16, x17)
noncomputable def ct_slices_EqualFunc_iReciRec_iRec_iRec__0 (a : A_slices_EqualFunc_iReciRec_iRec_iRec__0) : CT := (.br (a.1 == 0) (.done .ret E_slices_EqualFunc_iReciRec_iRec_iRec__0_0 (((), (), (), (), (), (), a.2, u26), ())) (.br (a.1 == 1) (.done (.exit 0) E_slices_EqualFunc_iReciRec_iRec_iRec__0_1 ((u33), ())) .fail))
noncomputable def T_slices_EqualFunc_iReciRec_iRec_iRec__0 (x1 : LIILIBBee) (x15 : LIILIBBee) (x16 : Int) (x17 : Int) : CT := ct_slices_EqualFunc_iReciRec_iRec_iRec__0 (it_slices_EqualFunc_iReciRec_iRec_iRec__0 x1 x15 x16 x17)
noncomputable abbrev sp_slices_EqualFunc_iReciRec_iRec_iRec__0 : S_slices_EqualFunc_iReciRec_iRec_iRec__0.den → RT S_slices_EqualFunc_iReciRec_iRec_iRec__0.den := fun d => st_slices_EqualFunc_iReciRec_iRec_iRec__0 d.1.2.1 d.1.2.2.2.2.2.2.2.2.2.2.2.2.2.2.2.1 d.1.2.2.2.2.2.2.2.2.2.2.2.2.2.2.2.2.1 d.1.2.2.2.2.2.2.2.2.2.2.2.2.2.2.2.2.2.1
noncomputable abbrev pk_slices_EqualFunc_iReciRec_iRec_iRec__0 (x1 : LIILIBBee) (x15 : LIILIBBee) (x16 : Int) (x17 : Int) : S_slices_EqualFunc_iReciRec_iRec_iRec__0.den := (((), x1, (), (), (), (), (), (), (), (), (), (), (), (), (), x15, x16, x17, u15), ())
noncomputable def body_slices_EqualFunc_iReciRec_iRec_iRec__0 : Code := ((loopsIn 0 (bodyOf Try.f103)).getD 0 (0, .skip)).2
theorem R_slices_EqualFunc_iReciRec_iRec_iRec__0 (x1 : LIILIBBee) (x15 : LIILIBBee) (x16 : Int) (x17 : Int) : (T_slices_EqualFunc_iReciRec_iRec_iRec__0 x1 x15 x16 x17).val (D := S_slices_EqualFunc_iReciRec_iRec_iRec__0.den) = .fail ∨ Runs sp_slices_EqualFunc_iReciRec_iRec_iRec__0 (pk_slices_EqualFunc_iReciRec_iRec_iRec__0 x1 x15 x16 x17) (T_slices_EqualFunc_iReciRec_iRec_iRec__0 x1 x15 x16 x17).val := Runs.ofIt (step := sp_slices_EqualFunc_iReciRec_iRec_iRec__0) (fun v : V_slices_EqualFunc_iReciRec_iRec_iRec__0 => pk_slices_EqualFunc_iReciRec_iRec_iRec__0 v.1 v.2.1 v.2.2.1 v.2.2.2) (ct := ct_slices_EqualFunc_iReciRec_iRec_iRec__0) rfl (fun v => ((relB (relB (relB (relB (relB rfl rfl) rfl) rfl) rfl) rfl) : (st_slices_EqualFunc_iReciRec_iRec_iRec__0 v.1 v.2.1 v.2.2.1 v.2.2.2).val = relS (fun v : V_slices_EqualFunc_iReciRec_iRec_iRec__0 => pk_slices_EqualFunc_iReciRec_iRec_iRec__0 v.1 v.2.1 v.2.2.1 v.2.2.2) ct_slices_EqualFunc_iReciRec_iRec_iRec__0 (ss_slices_EqualFunc_iReciRec_iRec_iRec__0 v.1 v.2.1 v.2.2.1 v.2.2.2))) (fun a => ((cendB (cendD (by simp)) (cendB (cendD (by simp)) cendF)) : CEnd _ (ct_slices_EqualFunc_iReciRec_iRec_iRec__0 a))) (x1, x15, x16, x17)
noncomputable def ox_slices_EqualFunc_iReciRec_iRec_iRec__0 (x1 : LIILIBBee) (x15 : LIILIBBee) (x16 : Int) (x17 : Int) : Option (Ex × St) := (cond (decide (x17 < x16)) (cond (decide (0 ≤ x17 ∧ x17 < ((x15.length : Nat) : Int))) (cond (decide (0 ≤ x17 ∧ x17 < ((x1.length : Nat) : Int))) (cond (q_isameRec ((x15.getD x17.toNat ((0 : Int), ((0 : Int), []))).1) (((x15.getD x17.toNat ((0 : Int), ((0 : Int), []))).2).1) (((x15.getD x17.toNat ((0 : Int), ((0 : Int), []))).2).2) ((x1.getD x17.toNat ((0 : Int), ((0 : Int), []))).1) (((x1.getD x17.toNat ((0 : Int), ((0 : Int), []))).2).1) (((x1.getD x17.toNat ((0 : Int), ((0 : Int), []))).2).2)) (cond (!(k1_slices_EqualFunc_iReciRec_iRec_iRec_ x1 x15 x17)) (some (.ret, (⟨(.junk :: .junk :: .junk :: .junk :: .junk :: .junk :: (.t true .bool false) :: jA25), [], 0, []⟩ : St))) (some (.normal, (⟨(.junk :: (.t false t_spipispiptt x1) :: (.fn 104 []) :: .junk :: .junk :: .junk :: .junk :: .junk :: .junk :: .junk :: .junk :: .junk :: .junk :: .junk :: .junk :: (.t false t_spipispiptt x15) :: (.t true (.int .i64) x16) :: (.t true (.int .i64) (IntKind.wrap .i64 (x17 + (1 : Int)))) :: jA14), [], 0, []⟩ : St)))) none) none) none) (some ((.exit 0), (⟨(.junk :: jA31), [], 0, []⟩ : St))))
theorem rdA_slices_EqualFunc_iReciRec_iRec_iRec__0 : ∀ d, execC Try.prog tt S69 QF69 (fun _ _ => none) 0 body_slices_EqualFunc_iReciRec_iRec_iRec__0 (S_slices_EqualFunc_iReciRec_iRec_iRec__0.st d 0 []) (fun e s' => some (e, S_slices_EqualFunc_iReciRec_iRec_iRec__0.cutE (kepts [6] [(0, [])]) e s')) = ox_slices_EqualFunc_iReciRec_iRec_iRec__0 d.1.2.1 d.1.2.2.2.2.2.2.2.2.2.2.2.2.2.2.2.1 d.1.2.2.2.2.2.2.2.2.2.2.2.2.2.2.2.2.1 d.1.2.2.2.2.2.2.2.2.2.2.2.2.2.2.2.2.2.1 := by
  intro d
  kernel_rfl
theorem rdB_slices_EqualFunc_iReciRec_iRec_iRec__0 : ∀ d : S_slices_EqualFunc_iReciRec_iRec_iRec__0.den, ox_slices_EqualFunc_iReciRec_iRec_iRec__0 d.1.2.1 d.1.2.2.2.2.2.2.2.2.2.2.2.2.2.2.2.1 d.1.2.2.2.2.2.2.2.2.2.2.2.2.2.2.2.2.1 d.1.2.2.2.2.2.2.2.2.2.2.2.2.2.2.2.2.2.1 = (sp_slices_EqualFunc_iReciRec_iRec_iRec__0 d).opt 0 [] := by
  intro d
  kernel_rfl
theorem rd_slices_EqualFunc_iReciRec_iRec_iRec__0 : ∀ d, execC Try.prog tt S69 QF69 (fun _ _ => none) 0 body_slices_EqualFunc_iReciRec_iRec_iRec__0 (S_slices_EqualFunc_iReciRec_iRec_iRec__0.st d 0 []) (fun e s' => some (e, S_slices_EqualFunc_iReciRec_iRec_iRec__0.cutE (kepts [6] [(0, [])]) e s')) = (sp_slices_EqualFunc_iReciRec_iRec_iRec__0 d).opt 0 [] := fun d => (rdA_slices_EqualFunc_iReciRec_iRec_iRec__0 d).trans (rdB_slices_EqualFunc_iReciRec_iRec_iRec__0 d)
noncomputable abbrev say_slices_EqualFunc_iReciRec_iRec_iRec__0 : St → Option Tree := S_slices_EqualFunc_iReciRec_iRec_iRec__0.say 0 [] [] (fun d => T_slices_EqualFunc_iReciRec_iRec_iRec__0 d.1.2.1 d.1.2.2.2.2.2.2.2.2.2.2.2.2.2.2.2.1 d.1.2.2.2.2.2.2.2.2.2.2.2.2.2.2.2.2.1 d.1.2.2.2.2.2.2.2.2.2.2.2.2.2.2.2.2.2.1)
theorem lw_slices_EqualFunc_iReciRec_iRec_iRec__0 : LoopWp Try.prog say_slices_EqualFunc_iReciRec_iRec_iRec__0 body_slices_EqualFunc_iReciRec_iRec_iRec__0 := SS.wp G69 (fun _ _ => none) (by rw [show loopsIn 0 body_slices_EqualFunc_iReciRec_iRec_iRec__0 = [] by kernel_rfl]; simp) S_slices_EqualFunc_iReciRec_iRec_iRec__0 0 [] (kepts [6] [(0, [])]) [] sp_slices_EqualFunc_iReciRec_iRec_iRec__0 rd_slices_EqualFunc_iReciRec_iRec_iRec__0 _ (fun d => R_slices_EqualFunc_iReciRec_iRec_iRec__0 d.1.2.1 d.1.2.2.2.2.2.2.2.2.2.2.2.2.2.2.2.1 d.1.2.2.2.2.2.2.2.2.2.2.2.2.2.2.2.2.1 d.1.2.2.2.2.2.2.2.2.2.2.2.2.2.2.2.2.2.1)
noncomputable def slices_EqualFunc_iReciRec_iRec_iRec_ (x0 : LIILIBBee) (x1 : LIILIBBee) : Bool := (cond (((x0.length : Nat) : Int) != ((x1.length : Nat) : Int)) false (cond ((it_slices_EqualFunc_iReciRec_iRec_iRec__0 x1 x0 ((x0.length : Nat) : Int) (0 : Int)).1 == 0) ((it_slices_EqualFunc_iReciRec_iRec_iRec__0 x1 x0 ((x0.length : Nat) : Int) (0 : Int)).2) true))
noncomputable abbrev e_slices_EqualFunc_iReciRec_iRec_iRec_ (r : Bool) : AV × List AObj × List Nat := ((.t true .bool r), [], [])
noncomputable abbrev g_slices_EqualFunc_iReciRec_iRec_iRec_ : SM_slices_EqualFunc_iReciRec_iRec_iRec_.den → AV × List AObj × List Nat := fun d => e_slices_EqualFunc_iReciRec_iRec_iRec_ (slices_EqualFunc_iReciRec_iRec_iRec_ d.1.1 d.1.2.1)
noncomputable def q_slices_EqualFunc_iReciRec_iRec_iRec_ (x0 : LIILIBBee) (x1 : LIILIBBee) : Bool := cond (((x0.length : Nat) : Int) != ((x1.length : Nat) : Int)) true (cond ((it_slices_EqualFunc_iReciRec_iRec_iRec__0 x1 x0 ((x0.length : Nat) : Int) (0 : Int)).1 == 0) true ((it_slices_EqualFunc_iReciRec_iRec_iRec__0 x1 x0 ((x0.length : Nat) : Int) (0 : Int)).1 == 1))
noncomputable abbrev pre_slices_EqualFunc_iReciRec_iRec_iRec_ : SM_slices_EqualFunc_iReciRec_iRec_iRec_.den → Bool := fun d => q_slices_EqualFunc_iReciRec_iRec_iRec_ d.1.1 d.1.2.1
theorem runA_slices_EqualFunc_iReciRec_iRec_iRec_ (x0 : LIILIBBee) (x1 : LIILIBBee) (hp : q_slices_EqualFunc_iReciRec_iRec_iRec_ x0 x1 = true) : runM Try.prog tt S69 QF69 (fun b => match b with | 0 => say_slices_EqualFunc_iReciRec_iRec_iRec__0 | _ => fun _ => none) Try.f103 (shsMk SM_slices_EqualFunc_iReciRec_iRec_iRec_.sl (((x0, x1, (), ()), ()) : SM_slices_EqualFunc_iReciRec_iRec_iRec_.den).1) (ohsMk SM_slices_EqualFunc_iReciRec_iRec_iRec_.hp (((x0, x1, (), ()), ()) : SM_slices_EqualFunc_iReciRec_iRec_iRec_.den).2) = some (g_slices_EqualFunc_iReciRec_iRec_iRec_ ((x0, x1, (), ()), ())) := by
  unfold q_slices_EqualFunc_iReciRec_iRec_iRec_ at hp
  refine Eq.trans (b := (cond (((x0.length : Nat) : Int) != ((x1.length : Nat) : Int)) (some (e_slices_EqualFunc_iReciRec_iRec_iRec_ false)) (cond ((it_slices_EqualFunc_iReciRec_iRec_iRec__0 x1 x0 ((x0.length : Nat) : Int) (0 : Int)).1 == 0) (some (e_slices_EqualFunc_iReciRec_iRec_iRec_ ((it_slices_EqualFunc_iReciRec_iRec_iRec__0 x1 x0 ((x0.length : Nat) : Int) (0 : Int)).2))) (cond ((it_slices_EqualFunc_iReciRec_iRec_iRec__0 x1 x0 ((x0.length : Nat) : Int) (0 : Int)).1 == 1) (some (e_slices_EqualFunc_iReciRec_iRec_iRec_ true)) none)))) (by kernel_rfl) ?_
  exact (cndQ (F := fun r => some (e_slices_EqualFunc_iReciRec_iRec_iRec_ r)) hp (fun hp => rfl) (fun hp => (cndQ (F := fun r => some (e_slices_EqualFunc_iReciRec_iRec_iRec_ r)) hp (fun hp => rfl) (fun hp => (cndT hp (fun _h => rfl))))))
theorem run_slices_EqualFunc_iReciRec_iRec_iRec_ : ∀ d : SM_slices_EqualFunc_iReciRec_iRec_iRec_.den, pre_slices_EqualFunc_iReciRec_iRec_iRec_ d = true → runM Try.prog tt S69 QF69 (fun b => match b with | 0 => say_slices_EqualFunc_iReciRec_iRec_iRec__0 | _ => fun _ => none) Try.f103 (shsMk SM_slices_EqualFunc_iReciRec_iRec_iRec_.sl (d : SM_slices_EqualFunc_iReciRec_iRec_iRec_.den).1) (ohsMk SM_slices_EqualFunc_iReciRec_iRec_iRec_.hp (d : SM_slices_EqualFunc_iReciRec_iRec_iRec_.den).2) = some (g_slices_EqualFunc_iReciRec_iRec_iRec_ d) := fun d hp => runA_slices_EqualFunc_iReciRec_iRec_iRec_ d.1.1 d.1.2.1 hp
theorem c_slices_EqualFunc_iReciRec_iRec_iRec_ : MContract Try.prog 103 (winQ (msum SM_slices_EqualFunc_iReciRec_iRec_iRec_ pre_slices_EqualFunc_iReciRec_iRec_iRec_ g_slices_EqualFunc_iReciRec_iRec_iRec_)) := (MContract.of_data G69 (fn := Try.f103) (by kernel_rfl) (L := fun b => match b with | 0 => say_slices_EqualFunc_iReciRec_iRec_iRec__0 | _ => fun _ => none) (by rw [show loopsIn 0 (bodyOf Try.f103) = [(0, body_slices_EqualFunc_iReciRec_iRec_iRec__0)] by kernel_rfl]; intro p hp; simp only [List.mem_singleton] at hp; subst hp; exact lw_slices_EqualFunc_iReciRec_iRec_iRec__0) SM_slices_EqualFunc_iReciRec_iRec_iRec_ pre_slices_EqualFunc_iReciRec_iRec_iRec_ g_slices_EqualFunc_iReciRec_iRec_iRec_ run_slices_EqualFunc_iReciRec_iRec_iRec_).winQ (msum_quiet fun d => ⟨rfl, rfl⟩)
noncomputable def S70 : Tab := Tab.add S69 103 (winQ (msum SM_slices_EqualFunc_iReciRec_iRec_iRec_ pre_slices_EqualFunc_iReciRec_iRec_iRec_ g_slices_EqualFunc_iReciRec_iRec_iRec_))
noncomputable def QF70 : FuncId → Bool := qadd QF69 103
theorem G70 : Good Try.prog tt S70 QF70 := G69.addMQ c_slices_EqualFunc_iReciRec_iRec_iRec_ (winQ_local _) ⟨Try.f103, by kernel_rfl, by kernel_rfl, by kernel_rfl⟩ (winQ_quiet _)

/-! 55 loop.example/g00244/impl.ShardOk -/
noncomputable abbrev P_iShardOk : List PSh := [.agg [(.int .i64), t_spipispiptt, (.int .i64), t_sptt, t_spipispiptt]]
noncomputable def iShardOk (a0 : Int) (a1 : LIILIBBee) (a2 : Int) (a3 : LBBe) (a4 : LIILIBBee) : Bool := (cond (!(iisId a0)) false (cond (!(iinRange a2 (0 : Int) ((a1.length : Nat) : Int))) false (cond (decide ((IntKind.wrap .i64 (((a1.length : Nat) : Int) + ((a4.length : Nat) : Int))) > (300 : Int))) false (cond ((iReplayRecs a1).2.2) (cond (slices_Equal_iPair ((iReplayRecs a1).1) a3) (slices_EqualFunc_iReciRec_iRec_iRec_ ((iReplayRecs a1).2.1) a4) false) false))))
noncomputable abbrev e_iShardOk (r : Bool) : AV × List AObj := ((.t true .bool r), [])
noncomputable abbrev g_iShardOk : pshsDen P_iShardOk → AV × List AObj := fun d => e_iShardOk (iShardOk d.1.1 d.1.2.1 d.1.2.2.1 d.1.2.2.2.1 d.1.2.2.2.2.1)
noncomputable def q_iShardOk (a0 : Int) (a1 : LIILIBBee) (a2 : Int) (a3 : LBBe) (a4 : LIILIBBee) : Bool := cond (!(iisId a0)) true (cond (!(iinRange a2 (0 : Int) ((a1.length : Nat) : Int))) true (cond (decide ((IntKind.wrap .i64 (((a1.length : Nat) : Int) + ((a4.length : Nat) : Int))) > (300 : Int))) true ((q_iReplayRecs a1) && (cond ((iReplayRecs a1).2.2) ((q_slices_Equal_iPair ((iReplayRecs a1).1) a3) && (cond (slices_Equal_iPair ((iReplayRecs a1).1) a3) (q_slices_EqualFunc_iReciRec_iRec_iRec_ ((iReplayRecs a1).2.1) a4) true)) true))))
noncomputable abbrev pre_iShardOk : pshsDen P_iShardOk → Bool := fun d => q_iShardOk d.1.1 d.1.2.1 d.1.2.2.1 d.1.2.2.2.1 d.1.2.2.2.2.1
theorem runA_iShardOk (a0 : Int) (a1 : LIILIBBee) (a2 : Int) (a3 : LBBe) (a4 : LIILIBBee) (hp : q_iShardOk a0 a1 a2 a3 a4 = true) : runP true Try.prog tt S70 QF70 (fun _ _ => none) Try.f55 (argsMk P_iShardOk ((a0, (a1, (a2, (a3, (a4, ()))))), ())) = some (g_iShardOk ((a0, (a1, (a2, (a3, (a4, ()))))), ())) := by
  unfold q_iShardOk at hp
  refine Eq.trans (b := (cond (!(iisId a0)) (some (e_iShardOk false)) (cond (!(iinRange a2 (0 : Int) ((a1.length : Nat) : Int))) (some (e_iShardOk false)) (cond (decide ((IntKind.wrap .i64 (((a1.length : Nat) : Int) + ((a4.length : Nat) : Int))) > (300 : Int))) (some (e_iShardOk false)) (cond (q_iReplayRecs a1) (cond ((iReplayRecs a1).2.2) (cond (q_slices_Equal_iPair ((iReplayRecs a1).1) a3) (cond (slices_Equal_iPair ((iReplayRecs a1).1) a3) (cond (q_slices_EqualFunc_iReciRec_iRec_iRec_ ((iReplayRecs a1).2.1) a4) (some (e_iShardOk (slices_EqualFunc_iReciRec_iRec_iRec_ ((iReplayRecs a1).2.1) a4))) none) (some (e_iShardOk false))) none) (some (e_iShardOk false))) none))))) (by kernel_rfl) ?_
  exact (cndQ (F := fun r => some (e_iShardOk r)) hp (fun hp => rfl) (fun hp => (cndQ (F := fun r => some (e_iShardOk r)) hp (fun hp => rfl) (fun hp => (cndQ (F := fun r => some (e_iShardOk r)) hp (fun hp => rfl) (fun hp => (cndT (andL hp) (fun _h => (fun hp => (cndQ (F := fun r => some (e_iShardOk r)) hp (fun hp => (cndT (andL hp) (fun _h => (fun hp => (cndQ (F := fun r => some (e_iShardOk r)) hp (fun hp => (cndT hp (fun _h => rfl))) (fun hp => rfl))) (andR hp)))) (fun hp => rfl))) (andR hp)))))))))
theorem run_iShardOk : ∀ d, pre_iShardOk d = true → runP true Try.prog tt S70 QF70 (fun _ _ => none) Try.f55 (argsMk P_iShardOk d) = some (g_iShardOk d) := fun d hp => runA_iShardOk d.1.1 d.1.2.1 d.1.2.2.1 d.1.2.2.2.1 d.1.2.2.2.2.1 hp
theorem c_iShardOk : PContract Try.prog 55 (sumOf P_iShardOk pre_iShardOk g_iShardOk) := PContract.of_data true G70 (fn := Try.f55) (by kernel_rfl) (L := fun _ _ => none) (by rw [show loopsIn 0 (bodyOf Try.f55) = [] by kernel_rfl]; simp) P_iShardOk pre_iShardOk g_iShardOk run_iShardOk
noncomputable def S71 : Tab := Tab.add S70 55 (lift (sumOf P_iShardOk pre_iShardOk g_iShardOk))
noncomputable def QF71 : FuncId → Bool := qadd QF70 55
theorem G71 : Good Try.prog tt S71 QF71 := G70.addQ c_iShardOk ⟨Try.f55, by kernel_rfl, by kernel_rfl, by kernel_rfl⟩ (fun _ => rfl)

/-! 116 loop.example/g00244/laws.eqOp -/
noncomputable abbrev P_leqOp : List PSh := [.agg [(.int .i64), .str, .str], .agg [(.int .i64), .str, .str]]
noncomputable def leqOp (a0 : Int) (a1 : ByteArray) (a2 : ByteArray) (a3 : Int) (a4 : ByteArray) (a5 : ByteArray) : Bool := (cond (a0 != a3) false (cond (!(a1.toList == a4.toList)) false (cond (!(a2.toList == a5.toList)) false true)))
noncomputable abbrev e_leqOp (r : Bool) : AV × List AObj := ((.t true .bool r), [])
noncomputable abbrev g_leqOp : pshsDen P_leqOp → AV × List AObj := fun d => e_leqOp (leqOp d.1.1 d.1.2.1 d.1.2.2.1 d.2.1.1 d.2.1.2.1 d.2.1.2.2.1)
noncomputable abbrev pre_leqOp : pshsDen P_leqOp → Bool := fun d => true
theorem runA_leqOp (a0 : Int) (a1 : ByteArray) (a2 : ByteArray) (a3 : Int) (a4 : ByteArray) (a5 : ByteArray) : runP true Try.prog tt S71 QF71 (fun _ _ => none) Try.f116 (argsMk P_leqOp ((a0, (a1, (a2, ()))), ((a3, (a4, (a5, ()))), ()))) = some (g_leqOp ((a0, (a1, (a2, ()))), ((a3, (a4, (a5, ()))), ()))) := by
  refine Eq.trans (b := (cond (a0 != a3) (some (e_leqOp false)) (cond (!(a1.toList == a4.toList)) (some (e_leqOp false)) (cond (!(a2.toList == a5.toList)) (some (e_leqOp false)) (some (e_leqOp true)))))) (by kernel_rfl) ?_
  exact (cnd (F := fun r => some (e_leqOp r)) (fun _h => rfl) (fun _h => (cnd (F := fun r => some (e_leqOp r)) (fun _h => rfl) (fun _h => (cnd (F := fun r => some (e_leqOp r)) (fun _h => rfl) (fun _h => rfl))))))
theorem run_leqOp : ∀ d, pre_leqOp d = true → runP true Try.prog tt S71 QF71 (fun _ _ => none) Try.f116 (argsMk P_leqOp d) = some (g_leqOp d) := fun d hp => runA_leqOp d.1.1 d.1.2.1 d.1.2.2.1 d.2.1.1 d.2.1.2.1 d.2.1.2.2.1
theorem c_leqOp : PContract Try.prog 116 (sumOf P_leqOp pre_leqOp g_leqOp) := PContract.of_data true G71 (fn := Try.f116) (by kernel_rfl) (L := fun _ _ => none) (by rw [show loopsIn 0 (bodyOf Try.f116) = [] by kernel_rfl]; simp) P_leqOp pre_leqOp g_leqOp run_leqOp
noncomputable def S72 : Tab := Tab.add S71 116 (lift (sumOf P_leqOp pre_leqOp g_leqOp))
noncomputable def QF72 : FuncId → Bool := qadd QF71 116
theorem G72 : Good Try.prog tt S72 QF72 := G71.addQ c_leqOp ⟨Try.f116, by kernel_rfl, by kernel_rfl, by kernel_rfl⟩ (fun _ => rfl)

/-! 68 loop.example/g00244/laws.eqOpS -/

noncomputable def f_leqOpS_0 (x0 x1 : LIBBe) (i : Nat) : Bool := !(!(leqOp ((x0.getD i ((0 : Int), ((⟨#[]⟩ : ByteArray), (⟨#[]⟩ : ByteArray)))).1) (((x0.getD i ((0 : Int), ((⟨#[]⟩ : ByteArray), (⟨#[]⟩ : ByteArray)))).2).1) (((x0.getD i ((0 : Int), ((⟨#[]⟩ : ByteArray), (⟨#[]⟩ : ByteArray)))).2).2) ((x1.getD i ((0 : Int), ((⟨#[]⟩ : ByteArray), (⟨#[]⟩ : ByteArray)))).1) (((x1.getD i ((0 : Int), ((⟨#[]⟩ : ByteArray), (⟨#[]⟩ : ByteArray)))).2).1) (((x1.getD i ((0 : Int), ((⟨#[]⟩ : ByteArray), (⟨#[]⟩ : ByteArray)))).2).2)))
noncomputable abbrev P_leqOpS : List PSh := [.t t_spiptt, .t t_spiptt]
noncomputable abbrev S_leqOpS_0 : SS := ⟨(.t false t_spiptt :: .t false t_spiptt :: .junk :: .junk :: .junk :: .t true (.int .i64) :: jS21), []⟩
noncomputable abbrev E_leqOpS_0_0 : SS := ⟨(.junk :: .junk :: .junk :: .junk :: .t true .bool :: jS22), []⟩
noncomputable abbrev E_leqOpS_0_1 : SS := ⟨(.junk :: jS26), []⟩
noncomputable def st_leqOpS_0 (x0 : LIBBe) (x1 : LIBBe) (x5 : Int) : RT S_leqOpS_0.den := (.br (decide (x5 < ((x0.length : Nat) : Int))) (.br (decide (0 ≤ x5 ∧ x5 < ((x0.length : Nat) : Int))) (.br (decide (0 ≤ x5 ∧ x5 < ((x1.length : Nat) : Int))) (.br (!(leqOp ((x0.getD x5.toNat ((0 : Int), ((⟨#[]⟩ : ByteArray), (⟨#[]⟩ : ByteArray)))).1) (((x0.getD x5.toNat ((0 : Int), ((⟨#[]⟩ : ByteArray), (⟨#[]⟩ : ByteArray)))).2).1) (((x0.getD x5.toNat ((0 : Int), ((⟨#[]⟩ : ByteArray), (⟨#[]⟩ : ByteArray)))).2).2) ((x1.getD x5.toNat ((0 : Int), ((⟨#[]⟩ : ByteArray), (⟨#[]⟩ : ByteArray)))).1) (((x1.getD x5.toNat ((0 : Int), ((⟨#[]⟩ : ByteArray), (⟨#[]⟩ : ByteArray)))).2).1) (((x1.getD x5.toNat ((0 : Int), ((⟨#[]⟩ : ByteArray), (⟨#[]⟩ : ByteArray)))).2).2))) (.done .ret E_leqOpS_0_0 (((), (), (), (), false, u23), ())) (.next ((x0, x1, (), (), (), IntKind.wrap .i64 (x5 + (1 : Int)), u22), ()))) .fail) .fail) (.done (.exit 0) E_leqOpS_0_1 ((u28), ())))
noncomputable def T_leqOpS_0 (x0 : LIBBe) (x1 : LIBBe) (x5 : Int) : CT := (.br (decide (0 ≤ x5) && (decide (x0.length = x1.length) && okL x0)) (.br (allF (f_leqOpS_0 x0 x1) (x0.length - x5.toNat) x5.toNat) (.done (.exit 0) E_leqOpS_0_1 ((u28), ())) (.done .ret E_leqOpS_0_0 (((), (), (), (), false, u23), ()))) .fail)
noncomputable abbrev sp_leqOpS_0 : S_leqOpS_0.den → RT S_leqOpS_0.den := fun d => st_leqOpS_0 d.1.1 d.1.2.1 d.1.2.2.2.2.2.1
noncomputable abbrev pk_leqOpS_0 (x0 : LIBBe) (x1 : LIBBe) (x5 : Int) : S_leqOpS_0.den := ((x0, x1, (), (), (), x5, u22), ())
noncomputable def body_leqOpS_0 : Code := ((loopsIn 0 (bodyOf Try.f68)).getD 0 (0, .skip)).2
theorem R_leqOpS_0 (x0 : LIBBe) (x1 : LIBBe) (x5 : Int) : (T_leqOpS_0 x0 x1 x5).val (D := S_leqOpS_0.den) = .fail ∨ Runs sp_leqOpS_0 (pk_leqOpS_0 x0 x1 x5) (T_leqOpS_0 x0 x1 x5).val := by
  cases hc : (decide (0 ≤ x5) && (decide (x0.length = x1.length) && okL x0)) with
  | false => left; simp only [T_leqOpS_0, CT.val, hc, cond_false]
  | true =>
    right
    simp only [T_leqOpS_0, CT.val, hc, cond_true]
    simp only [Bool.and_eq_true, decide_eq_true_eq] at hc
    obtain ⟨i, rfl⟩ := Int.eq_ofNat_of_zero_le hc.1
    have hs := okL_le hc.2.2
    simp only [Int.toNat_natCast]
    refine Runs.scan (fun j => pk_leqOpS_0 x0 x1 (j : Int)) (x0.length) (f_leqOpS_0 x0 x1) (fun i hi => ?_) (fun i hi => ?_) ⟨_, _, _, rfl, by simp⟩ ⟨_, _, _, rfl, by simp⟩ _ _ rfl
    · 
      have h0a : decide ((i : Int) < ((x0.length : Nat) : Int)) = true := decide_eq_true (by omega)
      have h0b : decide (0 ≤ (i : Int) ∧ (i : Int) < ((x0.length : Nat) : Int)) = true := decide_eq_true (by omega)
      simp only [sp_leqOpS_0, st_leqOpS_0, RT.val, h0a, h0b, cond_true, wrapS i (by omega), Int.toNat_natCast]
      have h9 : decide (0 ≤ (i : Int) ∧ (i : Int) < ((x1.length : Nat) : Int)) = true := decide_eq_true (by omega)
      simp only [h9, cond_true]
      simp only [f_leqOpS_0]
      generalize (!(leqOp ((x0.getD i ((0 : Int), ((⟨#[]⟩ : ByteArray), (⟨#[]⟩ : ByteArray)))).1) (((x0.getD i ((0 : Int), ((⟨#[]⟩ : ByteArray), (⟨#[]⟩ : ByteArray)))).2).1) (((x0.getD i ((0 : Int), ((⟨#[]⟩ : ByteArray), (⟨#[]⟩ : ByteArray)))).2).2) ((x1.getD i ((0 : Int), ((⟨#[]⟩ : ByteArray), (⟨#[]⟩ : ByteArray)))).1) (((x1.getD i ((0 : Int), ((⟨#[]⟩ : ByteArray), (⟨#[]⟩ : ByteArray)))).2).1) (((x1.getD i ((0 : Int), ((⟨#[]⟩ : ByteArray), (⟨#[]⟩ : ByteArray)))).2).2))) = c
      cases c <;> rfl
    · have h1 : decide ((i : Int) < ((x0.length : Nat) : Int)) = false := decide_eq_false (by omega)
      simp only [sp_leqOpS_0, st_leqOpS_0, RT.val, h1, cond_false]
theorem rd_leqOpS_0 : ∀ d, execC Try.prog tt S72 QF72 (fun _ _ => none) 0 body_leqOpS_0 (S_leqOpS_0.st d 0 []) (fun e s' => some (e, S_leqOpS_0.cutE (kepts [4] [(0, [])]) e s')) = (sp_leqOpS_0 d).opt 0 [] := by
  intro d
  kernel_rfl
noncomputable abbrev say_leqOpS_0 : St → Option Tree := S_leqOpS_0.say 0 [] [] (fun d => T_leqOpS_0 d.1.1 d.1.2.1 d.1.2.2.2.2.2.1)
theorem lw_leqOpS_0 : LoopWp Try.prog say_leqOpS_0 body_leqOpS_0 := SS.wp G72 (fun _ _ => none) (by rw [show loopsIn 0 body_leqOpS_0 = [] by kernel_rfl]; simp) S_leqOpS_0 0 [] (kepts [4] [(0, [])]) [] sp_leqOpS_0 rd_leqOpS_0 _ (fun d => R_leqOpS_0 d.1.1 d.1.2.1 d.1.2.2.2.2.2.1)
noncomputable def leqOpS (a0 : LIBBe) (a1 : LIBBe) : Bool := (cond (((a0.length : Nat) : Int) != ((a1.length : Nat) : Int)) false (cond (allF (f_leqOpS_0 a0 a1) (a0.length - (0 : Int).toNat) (0 : Int).toNat) true false))
noncomputable abbrev e_leqOpS (r : Bool) : AV × List AObj := ((.t true .bool r), [])
noncomputable abbrev g_leqOpS : pshsDen P_leqOpS → AV × List AObj := fun d => e_leqOpS (leqOpS d.1 d.2.1)
noncomputable def q_leqOpS (a0 : LIBBe) (a1 : LIBBe) : Bool := okL a0
noncomputable abbrev pre_leqOpS : pshsDen P_leqOpS → Bool := fun d => q_leqOpS d.1 d.2.1
theorem runA_leqOpS (a0 : LIBBe) (a1 : LIBBe) (hp : q_leqOpS a0 a1 = true) : runP true Try.prog tt S72 QF72 (fun b => match b with | 0 => say_leqOpS_0 | _ => fun _ => none) Try.f68 (argsMk P_leqOpS (a0, (a1, ()))) = some (g_leqOpS (a0, (a1, ()))) := by
  unfold q_leqOpS at hp
  refine Eq.trans (b := (cond (((a0.length : Nat) : Int) != ((a1.length : Nat) : Int)) (some (e_leqOpS false)) (cond (decide (0 ≤ (0 : Int)) && (decide (a0.length = a1.length) && okL a0)) (cond (allF (f_leqOpS_0 a0 a1) (a0.length - (0 : Int).toNat) (0 : Int).toNat) (some (e_leqOpS true)) (some (e_leqOpS false))) none))) (by kernel_rfl) ?_
  exact (cnd (F := fun r => some (e_leqOpS r)) (fun _h => rfl) (fun _h => (cndT (by simp only [okL, Bool.and_eq_true, decide_eq_true_eq] at hp ⊢; simp at _h; exact ⟨Int.le_refl 0, by omega, hp⟩) (fun _h => (cnd (F := fun r => some (e_leqOpS r)) (fun _h => rfl) (fun _h => rfl))))))
theorem run_leqOpS : ∀ d, pre_leqOpS d = true → runP true Try.prog tt S72 QF72 (fun b => match b with | 0 => say_leqOpS_0 | _ => fun _ => none) Try.f68 (argsMk P_leqOpS d) = some (g_leqOpS d) := fun d hp => runA_leqOpS d.1 d.2.1 hp
theorem c_leqOpS : PContract Try.prog 68 (sumOf P_leqOpS pre_leqOpS g_leqOpS) := PContract.of_data true G72 (fn := Try.f68) (by kernel_rfl) (L := fun b => match b with | 0 => say_leqOpS_0 | _ => fun _ => none) (by rw [show loopsIn 0 (bodyOf Try.f68) = [(0, body_leqOpS_0)] by kernel_rfl]; intro p hp; simp only [List.mem_singleton] at hp; subst hp; exact lw_leqOpS_0) P_leqOpS pre_leqOpS g_leqOpS run_leqOpS
noncomputable def S73 : Tab := Tab.add S72 68 (lift (sumOf P_leqOpS pre_leqOpS g_leqOpS))
noncomputable def QF73 : FuncId → Bool := qadd QF72 68
theorem G73 : Good Try.prog tt S73 QF73 := G72.addQ c_leqOpS ⟨Try.f68, by kernel_rfl, by kernel_rfl, by kernel_rfl⟩ (fun _ => rfl)

/-! 20 loop.example/g00244/laws.eqRec -/
noncomputable abbrev P_leqRec : List PSh := [.agg [(.int .i64), (.int .i64), t_spiptt], .agg [(.int .i64), (.int .i64), t_spiptt]]
noncomputable def leqRec (a0 : Int) (a1 : Int) (a2 : LIBBe) (a3 : Int) (a4 : Int) (a5 : LIBBe) : Bool := (cond (a0 != a3) false (cond (a1 != a4) false (cond (!(leqOpS a2 a5)) false true)))
noncomputable abbrev e_leqRec (r : Bool) : AV × List AObj := ((.t true .bool r), [])
noncomputable abbrev g_leqRec : pshsDen P_leqRec → AV × List AObj := fun d => e_leqRec (leqRec d.1.1 d.1.2.1 d.1.2.2.1 d.2.1.1 d.2.1.2.1 d.2.1.2.2.1)
noncomputable def q_leqRec (a0 : Int) (a1 : Int) (a2 : LIBBe) (a3 : Int) (a4 : Int) (a5 : LIBBe) : Bool := okL a2
noncomputable abbrev pre_leqRec : pshsDen P_leqRec → Bool := fun d => q_leqRec d.1.1 d.1.2.1 d.1.2.2.1 d.2.1.1 d.2.1.2.1 d.2.1.2.2.1
theorem runA_leqRec (a0 : Int) (a1 : Int) (a2 : LIBBe) (a3 : Int) (a4 : Int) (a5 : LIBBe) (hp : q_leqRec a0 a1 a2 a3 a4 a5 = true) : runP true Try.prog tt S73 QF73 (fun _ _ => none) Try.f20 (argsMk P_leqRec ((a0, (a1, (a2, ()))), ((a3, (a4, (a5, ()))), ()))) = some (g_leqRec ((a0, (a1, (a2, ()))), ((a3, (a4, (a5, ()))), ()))) := by
  unfold q_leqRec at hp
  refine Eq.trans (b := (cond (a0 != a3) (some (e_leqRec false)) (cond (a1 != a4) (some (e_leqRec false)) (cond (q_leqOpS a2 a5) (cond (!(leqOpS a2 a5)) (some (e_leqRec false)) (some (e_leqRec true))) none)))) (by kernel_rfl) ?_
  exact (cnd (F := fun r => some (e_leqRec r)) (fun _h => rfl) (fun _h => (cnd (F := fun r => some (e_leqRec r)) (fun _h => rfl) (fun _h => (cndT (by first | rfl | decide | exact hp | (simp only [Bool.and_eq_true] at hp; simp only [hp]; done) | (simp [*]; done) | (simp [okL] at hp; simp [okL, MAXB]; omega) | (simp_all; done) | (simp at *; omega)) (fun _h => (cnd (F := fun r => some (e_leqRec r)) (fun _h => rfl) (fun _h => rfl))))))))
theorem run_leqRec : ∀ d, pre_leqRec d = true → runP true Try.prog tt S73 QF73 (fun _ _ => none) Try.f20 (argsMk P_leqRec d) = some (g_leqRec d) := fun d hp => runA_leqRec d.1.1 d.1.2.1 d.1.2.2.1 d.2.1.1 d.2.1.2.1 d.2.1.2.2.1 hp
theorem c_leqRec : PContract Try.prog 20 (sumOf P_leqRec pre_leqRec g_leqRec) := PContract.of_data true G73 (fn := Try.f20) (by kernel_rfl) (L := fun _ _ => none) (by rw [show loopsIn 0 (bodyOf Try.f20) = [] by kernel_rfl]; simp) P_leqRec pre_leqRec g_leqRec run_leqRec
noncomputable def S74 : Tab := Tab.add S73 20 (lift (sumOf P_leqRec pre_leqRec g_leqRec))
noncomputable def QF74 : FuncId → Bool := qadd QF73 20
theorem G74 : Good Try.prog tt S74 QF74 := G73.addQ c_leqRec ⟨Try.f20, by kernel_rfl, by kernel_rfl, by kernel_rfl⟩ (fun _ => rfl)

/-! 40 loop.example/g00244/laws.eqRecS -/
noncomputable abbrev P_leqRecS : List PSh := [.t t_spipispiptt, .t t_spipispiptt]
noncomputable abbrev S_leqRecS_0 : SS := ⟨(.t false t_spipispiptt :: .t false t_spipispiptt :: .junk :: .junk :: .junk :: .t true (.int .i64) :: jS21), []⟩
noncomputable abbrev E_leqRecS_0_0 : SS := ⟨(.junk :: .junk :: .junk :: .junk :: .t true .bool :: jS22), []⟩
noncomputable abbrev E_leqRecS_0_1 : SS := ⟨(.junk :: jS26), []⟩
noncomputable def st_leqRecS_0 (x0 : LIILIBBee) (x1 : LIILIBBee) (x5 : Int) : RT S_leqRecS_0.den := (.br (decide (x5 < ((x0.length : Nat) : Int))) (.br (decide (0 ≤ x5 ∧ x5 < ((x0.length : Nat) : Int))) (.br (decide (0 ≤ x5 ∧ x5 < ((x1.length : Nat) : Int))) (.br (q_leqRec ((x0.getD x5.toNat ((0 : Int), ((0 : Int), []))).1) (((x0.getD x5.toNat ((0 : Int), ((0 : Int), []))).2).1) (((x0.getD x5.toNat ((0 : Int), ((0 : Int), []))).2).2) ((x1.getD x5.toNat ((0 : Int), ((0 : Int), []))).1) (((x1.getD x5.toNat ((0 : Int), ((0 : Int), []))).2).1) (((x1.getD x5.toNat ((0 : Int), ((0 : Int), []))).2).2)) (.br (!(leqRec ((x0.getD x5.toNat ((0 : Int), ((0 : Int), []))).1) (((x0.getD x5.toNat ((0 : Int), ((0 : Int), []))).2).1) (((x0.getD x5.toNat ((0 : Int), ((0 : Int), []))).2).2) ((x1.getD x5.toNat ((0 : Int), ((0 : Int), []))).1) (((x1.getD x5.toNat ((0 : Int), ((0 : Int), []))).2).1) (((x1.getD x5.toNat ((0 : Int), ((0 : Int), []))).2).2))) (.done .ret E_leqRecS_0_0 (((), (), (), (), false, u23), ())) (.next ((x0, x1, (), (), (), IntKind.wrap .i64 (x5 + (1 : Int)), u22), ()))) .fail) .fail) .fail) (.done (.exit 0) E_leqRecS_0_1 ((u28), ())))
noncomputable abbrev V_leqRecS_0 := (LIILIBBee) × (LIILIBBee) × (Int)
noncomputable abbrev A_leqRecS_0 := Nat × (Bool)
noncomputable def fl_leqRecS_0 : A_leqRecS_0 := (99, (false : Bool))
noncomputable def ss_leqRecS_0 (x0 : LIILIBBee) (x1 : LIILIBBee) (x5 : Int) : V_leqRecS_0 ⊕ A_leqRecS_0 := (cond (decide (x5 < ((x0.length : Nat) : Int))) (cond (decide (0 ≤ x5 ∧ x5 < ((x0.length : Nat) : Int))) (cond (decide (0 ≤ x5 ∧ x5 < ((x1.length : Nat) : Int))) (cond (q_leqRec ((x0.getD x5.toNat ((0 : Int), ((0 : Int), []))).1) (((x0.getD x5.toNat ((0 : Int), ((0 : Int), []))).2).1) (((x0.getD x5.toNat ((0 : Int), ((0 : Int), []))).2).2) ((x1.getD x5.toNat ((0 : Int), ((0 : Int), []))).1) (((x1.getD x5.toNat ((0 : Int), ((0 : Int), []))).2).1) (((x1.getD x5.toNat ((0 : Int), ((0 : Int), []))).2).2)) (cond (!(leqRec ((x0.getD x5.toNat ((0 : Int), ((0 : Int), []))).1) (((x0.getD x5.toNat ((0 : Int), ((0 : Int), []))).2).1) (((x0.getD x5.toNat ((0 : Int), ((0 : Int), []))).2).2) ((x1.getD x5.toNat ((0 : Int), ((0 : Int), []))).1) (((x1.getD x5.toNat ((0 : Int), ((0 : Int), []))).2).1) (((x1.getD x5.toNat ((0 : Int), ((0 : Int), []))).2).2))) (.inr (0, false)) (.inl (x0, x1, IntKind.wrap .i64 (x5 + (1 : Int))))) (.inr fl_leqRecS_0)) (.inr fl_leqRecS_0)) (.inr fl_leqRecS_0)) (.inr (1, (false : Bool))))
noncomputable def it_leqRecS_0 (x0 : LIILIBBee) (x1 : LIILIBBee) (x5 : Int) : A_leqRecS_0 := itX (fun v : V_leqRecS_0 => ss_leqRecS_0 v.1 v.2.1 v.2.2) fl_leqRecS_0 (x0, x1, x5)
noncomputable def ct_leqRecS_0 (a : A_leqRecS_0) : CT := (.br (a.1 == 0) (.done .ret E_leqRecS_0_0 (((), (), (), (), a.2, u23), ())) (.br (a.1 == 1) (.done (.exit 0) E_leqRecS_0_1 ((u28), ())) .fail))
noncomputable def T_leqRecS_0 (x0 : LIILIBBee) (x1 : LIILIBBee) (x5 : Int) : CT := ct_leqRecS_0 (it_leqRecS_0 x0 x1 x5)
noncomputable abbrev sp_leqRecS_0 : S_leqRecS_0.den → RT S_leqRecS_0.den := fun d => st_leqRecS_0 d.1.1 d.1.2.1 d.1.2.2.2.2.2.1
noncomputable abbrev pk_leqRecS_0 (x0 : LIILIBBee) (x1 : LIILIBBee) (x5 : Int) : S_leqRecS_0.den := ((x0, x1, (), (), (), x5, u22), ())
noncomputable def body_leqRecS_0 : Code := ((loopsIn 0 (bodyOf Try.f40)).getD 0 (0, .skip)).2
theorem R_leqRecS_0 (x0 : LIILIBBee) (x1 : LIILIBBee) (x5 : Int) : (T_leqRecS_0 x0 x1 x5).val (D := S_leqRecS_0.den) = .fail ∨ Runs sp_leqRecS_0 (pk_leqRecS_0 x0 x1 x5) (T_leqRecS_0 x0 x1 x5).val := Runs.ofIt (step := sp_leqRecS_0) (fun v : V_leqRecS_0 => pk_leqRecS_0 v.1 v.2.1 v.2.2) (ct := ct_leqRecS_0) rfl (fun v => ((relB (relB (relB (relB (relB rfl rfl) rfl) rfl) rfl) rfl) : (st_leqRecS_0 v.1 v.2.1 v.2.2).val = relS (fun v : V_leqRecS_0 => pk_leqRecS_0 v.1 v.2.1 v.2.2) ct_leqRecS_0 (ss_leqRecS_0 v.1 v.2.1 v.2.2))) (fun a => ((cendB (cendD (by simp)) (cendB (cendD (by simp)) cendF)) : CEnd _ (ct_leqRecS_0 a))) (x0, x1, x5)
theorem rd_leqRecS_0 : ∀ d, execC Try.prog tt S74 QF74 (fun _ _ => none) 0 body_leqRecS_0 (S_leqRecS_0.st d 0 []) (fun e s' => some (e, S_leqRecS_0.cutE (kepts [4] [(0, [])]) e s')) = (sp_leqRecS_0 d).opt 0 [] := by
  intro d
  kernel_rfl
noncomputable abbrev say_leqRecS_0 : St → Option Tree := S_leqRecS_0.say 0 [] [] (fun d => T_leqRecS_0 d.1.1 d.1.2.1 d.1.2.2.2.2.2.1)
theorem lw_leqRecS_0 : LoopWp Try.prog say_leqRecS_0 body_leqRecS_0 := SS.wp G74 (fun _ _ => none) (by rw [show loopsIn 0 body_leqRecS_0 = [] by kernel_rfl]; simp) S_leqRecS_0 0 [] (kepts [4] [(0, [])]) [] sp_leqRecS_0 rd_leqRecS_0 _ (fun d => R_leqRecS_0 d.1.1 d.1.2.1 d.1.2.2.2.2.2.1)
noncomputable def leqRecS (a0 : LIILIBBee) (a1 : LIILIBBee) : Bool := (cond (((a0.length : Nat) : Int) != ((a1.length : Nat) : Int)) false (cond ((it_leqRecS_0 a0 a1 (0 : Int)).1 == 0) ((it_leqRecS_0 a0 a1 (0 : Int)).2) true))
noncomputable abbrev e_leqRecS (r : Bool) : AV × List AObj := ((.t true .bool r), [])
noncomputable abbrev g_leqRecS : pshsDen P_leqRecS → AV × List AObj := fun d => e_leqRecS (leqRecS d.1 d.2.1)
noncomputable def q_leqRecS (a0 : LIILIBBee) (a1 : LIILIBBee) : Bool := cond (((a0.length : Nat) : Int) != ((a1.length : Nat) : Int)) true (cond ((it_leqRecS_0 a0 a1 (0 : Int)).1 == 0) true ((it_leqRecS_0 a0 a1 (0 : Int)).1 == 1))
noncomputable abbrev pre_leqRecS : pshsDen P_leqRecS → Bool := fun d => q_leqRecS d.1 d.2.1
theorem runA_leqRecS (a0 : LIILIBBee) (a1 : LIILIBBee) (hp : q_leqRecS a0 a1 = true) : runP true Try.prog tt S74 QF74 (fun b => match b with | 0 => say_leqRecS_0 | _ => fun _ => none) Try.f40 (argsMk P_leqRecS (a0, (a1, ()))) = some (g_leqRecS (a0, (a1, ()))) := by
  unfold q_leqRecS at hp
  refine Eq.trans (b := (cond (((a0.length : Nat) : Int) != ((a1.length : Nat) : Int)) (some (e_leqRecS false)) (cond ((it_leqRecS_0 a0 a1 (0 : Int)).1 == 0) (some (e_leqRecS ((it_leqRecS_0 a0 a1 (0 : Int)).2))) (cond ((it_leqRecS_0 a0 a1 (0 : Int)).1 == 1) (some (e_leqRecS true)) none)))) (by kernel_rfl) ?_
  exact (cndQ (F := fun r => some (e_leqRecS r)) hp (fun hp => rfl) (fun hp => (cndQ (F := fun r => some (e_leqRecS r)) hp (fun hp => rfl) (fun hp => (cndT hp (fun _h => rfl))))))
theorem run_leqRecS : ∀ d, pre_leqRecS d = true → runP true Try.prog tt S74 QF74 (fun b => match b with | 0 => say_leqRecS_0 | _ => fun _ => none) Try.f40 (argsMk P_leqRecS d) = some (g_leqRecS d) := fun d hp => runA_leqRecS d.1 d.2.1 hp
theorem c_leqRecS : PContract Try.prog 40 (sumOf P_leqRecS pre_leqRecS g_leqRecS) := PContract.of_data true G74 (fn := Try.f40) (by kernel_rfl) (L := fun b => match b with | 0 => say_leqRecS_0 | _ => fun _ => none) (by rw [show loopsIn 0 (bodyOf Try.f40) = [(0, body_leqRecS_0)] by kernel_rfl]; intro p hp; simp only [List.mem_singleton] at hp; subst hp; exact lw_leqRecS_0) P_leqRecS pre_leqRecS g_leqRecS run_leqRecS
noncomputable def S75 : Tab := Tab.add S74 40 (lift (sumOf P_leqRecS pre_leqRecS g_leqRecS))
noncomputable def QF75 : FuncId → Bool := qadd QF74 40
theorem G75 : Good Try.prog tt S75 QF75 := G74.addQ c_leqRecS ⟨Try.f40, by kernel_rfl, by kernel_rfl, by kernel_rfl⟩ (fun _ => rfl)

/-! 89 loop.example/g00244/laws.eqPair -/
noncomputable abbrev P_leqPair : List PSh := [.agg [.str, .str], .agg [.str, .str]]
noncomputable def leqPair (a0 : ByteArray) (a1 : ByteArray) (a2 : ByteArray) (a3 : ByteArray) : Bool := (cond (!(a0.toList == a2.toList)) false (cond (!(a1.toList == a3.toList)) false true))
noncomputable abbrev e_leqPair (r : Bool) : AV × List AObj := ((.t true .bool r), [])
noncomputable abbrev g_leqPair : pshsDen P_leqPair → AV × List AObj := fun d => e_leqPair (leqPair d.1.1 d.1.2.1 d.2.1.1 d.2.1.2.1)
noncomputable abbrev pre_leqPair : pshsDen P_leqPair → Bool := fun d => true
theorem runA_leqPair (a0 : ByteArray) (a1 : ByteArray) (a2 : ByteArray) (a3 : ByteArray) : runP true Try.prog tt S75 QF75 (fun _ _ => none) Try.f89 (argsMk P_leqPair ((a0, (a1, ())), ((a2, (a3, ())), ()))) = some (g_leqPair ((a0, (a1, ())), ((a2, (a3, ())), ()))) := by
  refine Eq.trans (b := (cond (!(a0.toList == a2.toList)) (some (e_leqPair false)) (cond (!(a1.toList == a3.toList)) (some (e_leqPair false)) (some (e_leqPair true))))) (by kernel_rfl) ?_
  exact (cnd (F := fun r => some (e_leqPair r)) (fun _h => rfl) (fun _h => (cnd (F := fun r => some (e_leqPair r)) (fun _h => rfl) (fun _h => rfl))))
theorem run_leqPair : ∀ d, pre_leqPair d = true → runP true Try.prog tt S75 QF75 (fun _ _ => none) Try.f89 (argsMk P_leqPair d) = some (g_leqPair d) := fun d hp => runA_leqPair d.1.1 d.1.2.1 d.2.1.1 d.2.1.2.1
theorem c_leqPair : PContract Try.prog 89 (sumOf P_leqPair pre_leqPair g_leqPair) := PContract.of_data true G75 (fn := Try.f89) (by kernel_rfl) (L := fun _ _ => none) (by rw [show loopsIn 0 (bodyOf Try.f89) = [] by kernel_rfl]; simp) P_leqPair pre_leqPair g_leqPair run_leqPair
noncomputable def S76 : Tab := Tab.add S75 89 (lift (sumOf P_leqPair pre_leqPair g_leqPair))
noncomputable def QF76 : FuncId → Bool := qadd QF75 89
theorem G76 : Good Try.prog tt S76 QF76 := G75.addQ c_leqPair ⟨Try.f89, by kernel_rfl, by kernel_rfl, by kernel_rfl⟩ (fun _ => rfl)

/-! 47 loop.example/g00244/laws.eqPairS -/

noncomputable def f_leqPairS_0 (x0 x1 : LBBe) (i : Nat) : Bool := !(!(leqPair ((x0.getD i ((⟨#[]⟩ : ByteArray), (⟨#[]⟩ : ByteArray))).1) ((x0.getD i ((⟨#[]⟩ : ByteArray), (⟨#[]⟩ : ByteArray))).2) ((x1.getD i ((⟨#[]⟩ : ByteArray), (⟨#[]⟩ : ByteArray))).1) ((x1.getD i ((⟨#[]⟩ : ByteArray), (⟨#[]⟩ : ByteArray))).2)))
noncomputable abbrev P_leqPairS : List PSh := [.t t_sptt, .t t_sptt]
noncomputable abbrev S_leqPairS_0 : SS := ⟨(.t false t_sptt :: .t false t_sptt :: .junk :: .junk :: .junk :: .t true (.int .i64) :: jS21), []⟩
noncomputable abbrev E_leqPairS_0_0 : SS := ⟨(.junk :: .junk :: .junk :: .junk :: .t true .bool :: jS22), []⟩
noncomputable abbrev E_leqPairS_0_1 : SS := ⟨(.junk :: jS26), []⟩
noncomputable def st_leqPairS_0 (x0 : LBBe) (x1 : LBBe) (x5 : Int) : RT S_leqPairS_0.den := (.br (decide (x5 < ((x0.length : Nat) : Int))) (.br (decide (0 ≤ x5 ∧ x5 < ((x0.length : Nat) : Int))) (.br (decide (0 ≤ x5 ∧ x5 < ((x1.length : Nat) : Int))) (.br (!(leqPair ((x0.getD x5.toNat ((⟨#[]⟩ : ByteArray), (⟨#[]⟩ : ByteArray))).1) ((x0.getD x5.toNat ((⟨#[]⟩ : ByteArray), (⟨#[]⟩ : ByteArray))).2) ((x1.getD x5.toNat ((⟨#[]⟩ : ByteArray), (⟨#[]⟩ : ByteArray))).1) ((x1.getD x5.toNat ((⟨#[]⟩ : ByteArray), (⟨#[]⟩ : ByteArray))).2))) (.done .ret E_leqPairS_0_0 (((), (), (), (), false, u23), ())) (.next ((x0, x1, (), (), (), IntKind.wrap .i64 (x5 + (1 : Int)), u22), ()))) .fail) .fail) (.done (.exit 0) E_leqPairS_0_1 ((u28), ())))
noncomputable def T_leqPairS_0 (x0 : LBBe) (x1 : LBBe) (x5 : Int) : CT := (.br (decide (0 ≤ x5) && (decide (x0.length = x1.length) && okL x0)) (.br (allF (f_leqPairS_0 x0 x1) (x0.length - x5.toNat) x5.toNat) (.done (.exit 0) E_leqPairS_0_1 ((u28), ())) (.done .ret E_leqPairS_0_0 (((), (), (), (), false, u23), ()))) .fail)
noncomputable abbrev sp_leqPairS_0 : S_leqPairS_0.den → RT S_leqPairS_0.den := fun d => st_leqPairS_0 d.1.1 d.1.2.1 d.1.2.2.2.2.2.1
noncomputable abbrev pk_leqPairS_0 (x0 : LBBe) (x1 : LBBe) (x5 : Int) : S_leqPairS_0.den := ((x0, x1, (), (), (), x5, u22), ())
noncomputable def body_leqPairS_0 : Code := ((loopsIn 0 (bodyOf Try.f47)).getD 0 (0, .skip)).2
theorem R_leqPairS_0 (x0 : LBBe) (x1 : LBBe) (x5 : Int) : (T_leqPairS_0 x0 x1 x5).val (D := S_leqPairS_0.den) = .fail ∨ Runs sp_leqPairS_0 (pk_leqPairS_0 x0 x1 x5) (T_leqPairS_0 x0 x1 x5).val := by
  cases hc : (decide (0 ≤ x5) && (decide (x0.length = x1.length) && okL x0)) with
  | false => left; simp only [T_leqPairS_0, CT.val, hc, cond_false]
  | true =>
    right
    simp only [T_leqPairS_0, CT.val, hc, cond_true]
    simp only [Bool.and_eq_true, decide_eq_true_eq] at hc
    obtain ⟨i, rfl⟩ := Int.eq_ofNat_of_zero_le hc.1
    have hs := okL_le hc.2.2
    simp only [Int.toNat_natCast]
    refine Runs.scan (fun j => pk_leqPairS_0 x0 x1 (j : Int)) (x0.length) (f_leqPairS_0 x0 x1) (fun i hi => ?_) (fun i hi => ?_) ⟨_, _, _, rfl, by simp⟩ ⟨_, _, _, rfl, by simp⟩ _ _ rfl
    · 
      have h0a : decide ((i : Int) < ((x0.length : Nat) : Int)) = true := decide_eq_true (by omega)
      have h0b : decide (0 ≤ (i : Int) ∧ (i : Int) < ((x0.length : Nat) : Int)) = true := decide_eq_true (by omega)
      simp only [sp_leqPairS_0, st_leqPairS_0, RT.val, h0a, h0b, cond_true, wrapS i (by omega), Int.toNat_natCast]
      have h9 : decide (0 ≤ (i : Int) ∧ (i : Int) < ((x1.length : Nat) : Int)) = true := decide_eq_true (by omega)
      simp only [h9, cond_true]
      simp only [f_leqPairS_0]
      generalize (!(leqPair ((x0.getD i ((⟨#[]⟩ : ByteArray), (⟨#[]⟩ : ByteArray))).1) ((x0.getD i ((⟨#[]⟩ : ByteArray), (⟨#[]⟩ : ByteArray))).2) ((x1.getD i ((⟨#[]⟩ : ByteArray), (⟨#[]⟩ : ByteArray))).1) ((x1.getD i ((⟨#[]⟩ : ByteArray), (⟨#[]⟩ : ByteArray))).2))) = c
      cases c <;> rfl
    · have h1 : decide ((i : Int) < ((x0.length : Nat) : Int)) = false := decide_eq_false (by omega)
      simp only [sp_leqPairS_0, st_leqPairS_0, RT.val, h1, cond_false]
theorem rd_leqPairS_0 : ∀ d, execC Try.prog tt S76 QF76 (fun _ _ => none) 0 body_leqPairS_0 (S_leqPairS_0.st d 0 []) (fun e s' => some (e, S_leqPairS_0.cutE (kepts [4] [(0, [])]) e s')) = (sp_leqPairS_0 d).opt 0 [] := by
  intro d
  kernel_rfl
noncomputable abbrev say_leqPairS_0 : St → Option Tree := S_leqPairS_0.say 0 [] [] (fun d => T_leqPairS_0 d.1.1 d.1.2.1 d.1.2.2.2.2.2.1)
theorem lw_leqPairS_0 : LoopWp Try.prog say_leqPairS_0 body_leqPairS_0 := SS.wp G76 (fun _ _ => none) (by rw [show loopsIn 0 body_leqPairS_0 = [] by kernel_rfl]; simp) S_leqPairS_0 0 [] (kepts [4] [(0, [])]) [] sp_leqPairS_0 rd_leqPairS_0 _ (fun d => R_leqPairS_0 d.1.1 d.1.2.1 d.1.2.2.2.2.2.1)
noncomputable def leqPairS (a0 : LBBe) (a1 : LBBe) : Bool := (cond (((a0.length : Nat) : Int) != ((a1.length : Nat) : Int)) false (cond (allF (f_leqPairS_0 a0 a1) (a0.length - (0 : Int).toNat) (0 : Int).toNat) true false))
noncomputable abbrev e_leqPairS (r : Bool) : AV × List AObj := ((.t true .bool r), [])
noncomputable abbrev g_leqPairS : pshsDen P_leqPairS → AV × List AObj := fun d => e_leqPairS (leqPairS d.1 d.2.1)
noncomputable def q_leqPairS (a0 : LBBe) (a1 : LBBe) : Bool := okL a0
noncomputable abbrev pre_leqPairS : pshsDen P_leqPairS → Bool := fun d => q_leqPairS d.1 d.2.1
theorem runA_leqPairS (a0 : LBBe) (a1 : LBBe) (hp : q_leqPairS a0 a1 = true) : runP true Try.prog tt S76 QF76 (fun b => match b with | 0 => say_leqPairS_0 | _ => fun _ => none) Try.f47 (argsMk P_leqPairS (a0, (a1, ()))) = some (g_leqPairS (a0, (a1, ()))) := by
  unfold q_leqPairS at hp
  refine Eq.trans (b := (cond (((a0.length : Nat) : Int) != ((a1.length : Nat) : Int)) (some (e_leqPairS false)) (cond (decide (0 ≤ (0 : Int)) && (decide (a0.length = a1.length) && okL a0)) (cond (allF (f_leqPairS_0 a0 a1) (a0.length - (0 : Int).toNat) (0 : Int).toNat) (some (e_leqPairS true)) (some (e_leqPairS false))) none))) (by kernel_rfl) ?_
  exact (cnd (F := fun r => some (e_leqPairS r)) (fun _h => rfl) (fun _h => (cndT (by simp only [okL, Bool.and_eq_true, decide_eq_true_eq] at hp ⊢; simp at _h; exact ⟨Int.le_refl 0, by omega, hp⟩) (fun _h => (cnd (F := fun r => some (e_leqPairS r)) (fun _h => rfl) (fun _h => rfl))))))
theorem run_leqPairS : ∀ d, pre_leqPairS d = true → runP true Try.prog tt S76 QF76 (fun b => match b with | 0 => say_leqPairS_0 | _ => fun _ => none) Try.f47 (argsMk P_leqPairS d) = some (g_leqPairS d) := fun d hp => runA_leqPairS d.1 d.2.1 hp
theorem c_leqPairS : PContract Try.prog 47 (sumOf P_leqPairS pre_leqPairS g_leqPairS) := PContract.of_data true G76 (fn := Try.f47) (by kernel_rfl) (L := fun b => match b with | 0 => say_leqPairS_0 | _ => fun _ => none) (by rw [show loopsIn 0 (bodyOf Try.f47) = [(0, body_leqPairS_0)] by kernel_rfl]; intro p hp; simp only [List.mem_singleton] at hp; subst hp; exact lw_leqPairS_0) P_leqPairS pre_leqPairS g_leqPairS run_leqPairS
noncomputable def S77 : Tab := Tab.add S76 47 (lift (sumOf P_leqPairS pre_leqPairS g_leqPairS))
noncomputable def QF77 : FuncId → Bool := qadd QF76 47
theorem G77 : Good Try.prog tt S77 QF77 := G76.addQ c_leqPairS ⟨Try.f47, by kernel_rfl, by kernel_rfl, by kernel_rfl⟩ (fun _ => rfl)

/-! 56 loop.example/g00244/laws.eqShard -/
noncomputable abbrev P_leqShard : List PSh := [.agg [(.int .i64), t_spipispiptt, (.int .i64), t_sptt, t_spipispiptt], .agg [(.int .i64), t_spipispiptt, (.int .i64), t_sptt, t_spipispiptt]]
noncomputable def leqShard (a0 : Int) (a1 : LIILIBBee) (a2 : Int) (a3 : LBBe) (a4 : LIILIBBee) (a5 : Int) (a6 : LIILIBBee) (a7 : Int) (a8 : LBBe) (a9 : LIILIBBee) : Bool := (cond (a0 != a5) false (cond (!(leqRecS a1 a6)) false (cond (a2 != a7) false (cond (!(leqPairS a3 a8)) false (cond (!(leqRecS a4 a9)) false true)))))
noncomputable abbrev e_leqShard (r : Bool) : AV × List AObj := ((.t true .bool r), [])
noncomputable abbrev g_leqShard : pshsDen P_leqShard → AV × List AObj := fun d => e_leqShard (leqShard d.1.1 d.1.2.1 d.1.2.2.1 d.1.2.2.2.1 d.1.2.2.2.2.1 d.2.1.1 d.2.1.2.1 d.2.1.2.2.1 d.2.1.2.2.2.1 d.2.1.2.2.2.2.1)
noncomputable def q_leqShard (a0 : Int) (a1 : LIILIBBee) (a2 : Int) (a3 : LBBe) (a4 : LIILIBBee) (a5 : Int) (a6 : LIILIBBee) (a7 : Int) (a8 : LBBe) (a9 : LIILIBBee) : Bool := cond (a0 != a5) true ((q_leqRecS a1 a6) && (cond (!(leqRecS a1 a6)) true (cond (a2 != a7) true ((q_leqPairS a3 a8) && (cond (!(leqPairS a3 a8)) true (q_leqRecS a4 a9))))))
noncomputable abbrev pre_leqShard : pshsDen P_leqShard → Bool := fun d => q_leqShard d.1.1 d.1.2.1 d.1.2.2.1 d.1.2.2.2.1 d.1.2.2.2.2.1 d.2.1.1 d.2.1.2.1 d.2.1.2.2.1 d.2.1.2.2.2.1 d.2.1.2.2.2.2.1
theorem runA_leqShard (a0 : Int) (a1 : LIILIBBee) (a2 : Int) (a3 : LBBe) (a4 : LIILIBBee) (a5 : Int) (a6 : LIILIBBee) (a7 : Int) (a8 : LBBe) (a9 : LIILIBBee) (hp : q_leqShard a0 a1 a2 a3 a4 a5 a6 a7 a8 a9 = true) : runP true Try.prog tt S77 QF77 (fun _ _ => none) Try.f56 (argsMk P_leqShard ((a0, (a1, (a2, (a3, (a4, ()))))), ((a5, (a6, (a7, (a8, (a9, ()))))), ()))) = some (g_leqShard ((a0, (a1, (a2, (a3, (a4, ()))))), ((a5, (a6, (a7, (a8, (a9, ()))))), ()))) := by
  unfold q_leqShard at hp
  refine Eq.trans (b := (cond (a0 != a5) (some (e_leqShard false)) (cond (q_leqRecS a1 a6) (cond (!(leqRecS a1 a6)) (some (e_leqShard false)) (cond (a2 != a7) (some (e_leqShard false)) (cond (q_leqPairS a3 a8) (cond (!(leqPairS a3 a8)) (some (e_leqShard false)) (cond (q_leqRecS a4 a9) (cond (!(leqRecS a4 a9)) (some (e_leqShard false)) (some (e_leqShard true))) none)) none))) none))) (by kernel_rfl) ?_
  exact (cndQ (F := fun r => some (e_leqShard r)) hp (fun hp => rfl) (fun hp => (cndT (andL hp) (fun _h => (fun hp => (cndQ (F := fun r => some (e_leqShard r)) hp (fun hp => rfl) (fun hp => (cndQ (F := fun r => some (e_leqShard r)) hp (fun hp => rfl) (fun hp => (cndT (andL hp) (fun _h => (fun hp => (cndQ (F := fun r => some (e_leqShard r)) hp (fun hp => rfl) (fun hp => (cndT hp (fun _h => (cnd (F := fun r => some (e_leqShard r)) (fun _h => rfl) (fun _h => rfl))))))) (andR hp)))))))) (andR hp)))))
theorem run_leqShard : ∀ d, pre_leqShard d = true → runP true Try.prog tt S77 QF77 (fun _ _ => none) Try.f56 (argsMk P_leqShard d) = some (g_leqShard d) := fun d hp => runA_leqShard d.1.1 d.1.2.1 d.1.2.2.1 d.1.2.2.2.1 d.1.2.2.2.2.1 d.2.1.1 d.2.1.2.1 d.2.1.2.2.1 d.2.1.2.2.2.1 d.2.1.2.2.2.2.1 hp
theorem c_leqShard : PContract Try.prog 56 (sumOf P_leqShard pre_leqShard g_leqShard) := PContract.of_data true G77 (fn := Try.f56) (by kernel_rfl) (L := fun _ _ => none) (by rw [show loopsIn 0 (bodyOf Try.f56) = [] by kernel_rfl]; simp) P_leqShard pre_leqShard g_leqShard run_leqShard
noncomputable def S78 : Tab := Tab.add S77 56 (lift (sumOf P_leqShard pre_leqShard g_leqShard))
noncomputable def QF78 : FuncId → Bool := qadd QF77 56
theorem G78 : Good Try.prog tt S78 QF78 := G77.addQ c_leqShard ⟨Try.f56, by kernel_rfl, by kernel_rfl, by kernel_rfl⟩ (fun _ => rfl)

/-! 12 loop.example/g00244/laws.FnExactShardOk -/
noncomputable abbrev t_pipspipispipttpipspttspipispiptt : Ty := .pair (.int .i64) (.pair (.sl (.pair (.int .i64) (.pair (.int .i64) (.sl (.pair (.int .i64) (.pair .str .str)))))) (.pair (.int .i64) (.pair (.sl (.pair .str .str)) (.sl (.pair (.int .i64) (.pair (.int .i64) (.sl (.pair (.int .i64) (.pair .str .str)))))))))
noncomputable abbrev P_lFnExactShardOk : List PSh := [.agg [(.int .i64), t_spipispiptt, (.int .i64), t_sptt, t_spipispiptt]]
noncomputable def k1_lFnExactShardOk (a0 : Int) (a1 : LIILIBBee) (a2 : Int) (a3 : LBBe) (a4 : LIILIBBee) := sShardOk ((ltoShard a0 a1 a2 a3 a4).1) ((ltoShard a0 a1 a2 a3 a4).2.1) ((ltoShard a0 a1 a2 a3 a4).2.2.1) ((ltoShard a0 a1 a2 a3 a4).2.2.2.1) ((ltoShard a0 a1 a2 a3 a4).2.2.2.2)
noncomputable def k2_lFnExactShardOk (a0 : Int) (a1 : LIILIBBee) (a2 : Int) (a3 : LBBe) (a4 : LIILIBBee) := iShardOk ((ltoShard a0 a1 a2 a3 a4).1) ((ltoShard a0 a1 a2 a3 a4).2.1) ((ltoShard a0 a1 a2 a3 a4).2.2.1) ((ltoShard a0 a1 a2 a3 a4).2.2.2.1) ((ltoShard a0 a1 a2 a3 a4).2.2.2.2)
noncomputable def k3_lFnExactShardOk (a0 : Int) (a1 : LIILIBBee) (a2 : Int) (a3 : LBBe) (a4 : LIILIBBee) := leqShard ((ltoShard a0 a1 a2 a3 a4).1) ((ltoShard a0 a1 a2 a3 a4).2.1) ((ltoShard a0 a1 a2 a3 a4).2.2.1) ((ltoShard a0 a1 a2 a3 a4).2.2.2.1) ((ltoShard a0 a1 a2 a3 a4).2.2.2.2) ((ltoShard a0 a1 a2 a3 a4).1) ((ltoShard a0 a1 a2 a3 a4).2.1) ((ltoShard a0 a1 a2 a3 a4).2.2.1) ((ltoShard a0 a1 a2 a3 a4).2.2.2.1) ((ltoShard a0 a1 a2 a3 a4).2.2.2.2)
noncomputable def lFnExactShardOk (a0 : Int) (a1 : LIILIBBee) (a2 : Int) (a3 : LBBe) (a4 : LIILIBBee) : Bool := (cond (decide ((lszShard a0 a1 a2 a3 a4 (1048576 : Int)) < (0 : Int))) true (cond (!((k2_lFnExactShardOk a0 a1 a2 a3 a4) == (k1_lFnExactShardOk a0 a1 a2 a3 a4))) false (cond (!(k3_lFnExactShardOk a0 a1 a2 a3 a4)) false true)))
noncomputable abbrev e_lFnExactShardOk (r : Bool) : AV × List AObj := ((.t true .bool r), [])
noncomputable abbrev g_lFnExactShardOk : pshsDen P_lFnExactShardOk → AV × List AObj := fun d => e_lFnExactShardOk (lFnExactShardOk d.1.1 d.1.2.1 d.1.2.2.1 d.1.2.2.2.1 d.1.2.2.2.2.1)
noncomputable def q_lFnExactShardOk (a0 : Int) (a1 : LIILIBBee) (a2 : Int) (a3 : LBBe) (a4 : LIILIBBee) : Bool := (q_lszShard a0 a1 a2 a3 a4 (1048576 : Int)) && (cond (decide ((lszShard a0 a1 a2 a3 a4 (1048576 : Int)) < (0 : Int))) true ((q_ltoShard a0 a1 a2 a3 a4) && ((q_sShardOk ((ltoShard a0 a1 a2 a3 a4).1) ((ltoShard a0 a1 a2 a3 a4).2.1) ((ltoShard a0 a1 a2 a3 a4).2.2.1) ((ltoShard a0 a1 a2 a3 a4).2.2.2.1) ((ltoShard a0 a1 a2 a3 a4).2.2.2.2)) && ((q_ltoShard a0 a1 a2 a3 a4) && ((q_iShardOk ((ltoShard a0 a1 a2 a3 a4).1) ((ltoShard a0 a1 a2 a3 a4).2.1) ((ltoShard a0 a1 a2 a3 a4).2.2.1) ((ltoShard a0 a1 a2 a3 a4).2.2.2.1) ((ltoShard a0 a1 a2 a3 a4).2.2.2.2)) && (cond (!((k2_lFnExactShardOk a0 a1 a2 a3 a4) == (k1_lFnExactShardOk a0 a1 a2 a3 a4))) true ((q_ltoShard a0 a1 a2 a3 a4) && (q_leqShard ((ltoShard a0 a1 a2 a3 a4).1) ((ltoShard a0 a1 a2 a3 a4).2.1) ((ltoShard a0 a1 a2 a3 a4).2.2.1) ((ltoShard a0 a1 a2 a3 a4).2.2.2.1) ((ltoShard a0 a1 a2 a3 a4).2.2.2.2) ((ltoShard a0 a1 a2 a3 a4).1) ((ltoShard a0 a1 a2 a3 a4).2.1) ((ltoShard a0 a1 a2 a3 a4).2.2.1) ((ltoShard a0 a1 a2 a3 a4).2.2.2.1) ((ltoShard a0 a1 a2 a3 a4).2.2.2.2)))))))))
noncomputable abbrev pre_lFnExactShardOk : pshsDen P_lFnExactShardOk → Bool := fun d => q_lFnExactShardOk d.1.1 d.1.2.1 d.1.2.2.1 d.1.2.2.2.1 d.1.2.2.2.2.1
theorem runA_lFnExactShardOk (a0 : Int) (a1 : LIILIBBee) (a2 : Int) (a3 : LBBe) (a4 : LIILIBBee) (hp : q_lFnExactShardOk a0 a1 a2 a3 a4 = true) : runP true Try.prog tt S78 QF78 (fun _ _ => none) Try.f12 (argsMk P_lFnExactShardOk ((a0, (a1, (a2, (a3, (a4, ()))))), ())) = some (g_lFnExactShardOk ((a0, (a1, (a2, (a3, (a4, ()))))), ())) := by
  unfold q_lFnExactShardOk at hp
  refine Eq.trans (b := (cond (q_lszShard a0 a1 a2 a3 a4 (1048576 : Int)) (cond (decide ((lszShard a0 a1 a2 a3 a4 (1048576 : Int)) < (0 : Int))) (some (e_lFnExactShardOk true)) (cond (q_ltoShard a0 a1 a2 a3 a4) (cond (q_sShardOk ((ltoShard a0 a1 a2 a3 a4).1) ((ltoShard a0 a1 a2 a3 a4).2.1) ((ltoShard a0 a1 a2 a3 a4).2.2.1) ((ltoShard a0 a1 a2 a3 a4).2.2.2.1) ((ltoShard a0 a1 a2 a3 a4).2.2.2.2)) (cond (q_ltoShard a0 a1 a2 a3 a4) (cond (q_iShardOk ((ltoShard a0 a1 a2 a3 a4).1) ((ltoShard a0 a1 a2 a3 a4).2.1) ((ltoShard a0 a1 a2 a3 a4).2.2.1) ((ltoShard a0 a1 a2 a3 a4).2.2.2.1) ((ltoShard a0 a1 a2 a3 a4).2.2.2.2)) (cond (!((k2_lFnExactShardOk a0 a1 a2 a3 a4) == (k1_lFnExactShardOk a0 a1 a2 a3 a4))) (some (e_lFnExactShardOk false)) (cond (q_ltoShard a0 a1 a2 a3 a4) (cond (q_leqShard ((ltoShard a0 a1 a2 a3 a4).1) ((ltoShard a0 a1 a2 a3 a4).2.1) ((ltoShard a0 a1 a2 a3 a4).2.2.1) ((ltoShard a0 a1 a2 a3 a4).2.2.2.1) ((ltoShard a0 a1 a2 a3 a4).2.2.2.2) ((ltoShard a0 a1 a2 a3 a4).1) ((ltoShard a0 a1 a2 a3 a4).2.1) ((ltoShard a0 a1 a2 a3 a4).2.2.1) ((ltoShard a0 a1 a2 a3 a4).2.2.2.1) ((ltoShard a0 a1 a2 a3 a4).2.2.2.2)) (cond (!(k3_lFnExactShardOk a0 a1 a2 a3 a4)) (some (e_lFnExactShardOk false)) (some (e_lFnExactShardOk true))) none) none)) none) none) none) none)) none)) (by kernel_rfl) ?_
  exact (cndT (andL hp) (fun _h => (fun hp => (cndQ (F := fun r => some (e_lFnExactShardOk r)) hp (fun hp => rfl) (fun hp => (cndT (andL hp) (fun _h => (fun hp => (cndT (andL hp) (fun _h => (fun hp => (cndT (andL hp) (fun _h => (fun hp => (cndT (andL hp) (fun _h => (fun hp => (cndQ (F := fun r => some (e_lFnExactShardOk r)) hp (fun hp => rfl) (fun hp => (cndT (andL hp) (fun _h => (fun hp => (cndT hp (fun _h => (cnd (F := fun r => some (e_lFnExactShardOk r)) (fun _h => rfl) (fun _h => rfl))))) (andR hp)))))) (andR hp)))) (andR hp)))) (andR hp)))) (andR hp)))))) (andR hp)))
theorem run_lFnExactShardOk : ∀ d, pre_lFnExactShardOk d = true → runP true Try.prog tt S78 QF78 (fun _ _ => none) Try.f12 (argsMk P_lFnExactShardOk d) = some (g_lFnExactShardOk d) := fun d hp => runA_lFnExactShardOk d.1.1 d.1.2.1 d.1.2.2.1 d.1.2.2.2.1 d.1.2.2.2.2.1 hp
theorem c_lFnExactShardOk : PContract Try.prog 12 (sumOf P_lFnExactShardOk pre_lFnExactShardOk g_lFnExactShardOk) := PContract.of_data true G78 (fn := Try.f12) (by kernel_rfl) (L := fun _ _ => none) (by rw [show loopsIn 0 (bodyOf Try.f12) = [] by kernel_rfl]; simp) P_lFnExactShardOk pre_lFnExactShardOk g_lFnExactShardOk run_lFnExactShardOk
noncomputable def S79 : Tab := Tab.add S78 12 (lift (sumOf P_lFnExactShardOk pre_lFnExactShardOk g_lFnExactShardOk))
noncomputable def QF79 : FuncId → Bool := qadd QF78 12
theorem G79 : Good Try.prog tt S79 QF79 := G78.addQ c_lFnExactShardOk ⟨Try.f12, by kernel_rfl, by kernel_rfl, by kernel_rfl⟩ (fun _ => rfl)
noncomputable abbrev RecD := (Int) × (Int) × LIBBe
noncomputable abbrev ShardD := (Int) × (List RecD) × (Int) × (LBBe) × List RecD
noncomputable def bigOpS (l : LIBBe) : Prop := bigOps l = true
noncomputable def bigRec (x : RecD) : Prop := bigOpS x.2.2
noncomputable def bigRecS (l : List RecD) : Prop := l.length ≤ 9223372036854775807 ∧ ∀ x ∈ l, bigRec x
noncomputable abbrev PairD := ByteArray × ByteArray
noncomputable def bigPairS (l : List PairD) : Prop := l.length ≤ 9223372036854775807 ∧ ∀ p ∈ l, bigS p.1 = true ∧ bigS p.2 = true
noncomputable def bigShard (x : ShardD) : Prop := bigRecS x.2.1 ∧ bigPairS x.2.2.2.1 ∧ bigRecS x.2.2.2.2
noncomputable def okOpS (l : LIBBe) : Prop := okOps l = true
noncomputable def okRec (x : RecD) : Prop := okOpS x.2.2
noncomputable def okRecS (l : List RecD) : Prop := l.length ≤ 1048576 ∧ ∀ x ∈ l, okRec x
noncomputable def okPairS (l : List PairD) : Prop := l.length ≤ 1048576 ∧ ∀ p ∈ l, okS p.1 = true ∧ okS p.2 = true
noncomputable def okShard (x : ShardD) : Prop := okRecS x.2.1 ∧ okPairS x.2.2.2.1 ∧ okRecS x.2.2.2.2
noncomputable def dRec : RecD := ((0 : Int), ((0 : Int), ([] : LIBBe)))
theorem getD_mem {α : Type} {l : List α} {i : Nat} (h : i < l.length) (d : α) : l.getD i d ∈ l := by
  simp [List.getD_eq_getElem?_getD, h]
theorem take_succ_getD {α : Type} {l : List α} {i : Nat} (hi : i < l.length) (d : α) : l.take (i + 1) = l.take i ++ [l.getD i d] := by
  rw [List.take_add_one, List.getElem?_eq_getElem hi]; simp [List.getD_eq_getElem?_getD, hi]
theorem itX_sz {V A α : Type} {ss : V → V ⊕ A} {fa : A} (pk : Int → Nat → V) (l : List α) (d : α) (sz : α → Int → Int) (Q : α → Prop) (bad : A) (good : Int → A) (M : Int) (hn : l.length < 4611686018427387904) {b : Int} (h0 : 0 ≤ b) (h1 : b ≤ M)
    (hstep : ∀ i c, i < l.length → 0 ≤ c → c ≤ M → ss (pk c i) = cond (decide (sz (l.getD i d) c < 0)) (.inr bad) (.inl (pk (sz (l.getD i d) c) (i + 1))))
    (hQ : ∀ x ∈ l, ∀ c, 0 ≤ c → c ≤ M → 0 ≤ sz x c → sz x c ≤ c ∧ Q x) (hlast : ∀ c, ss (pk c l.length) = .inr (good c)) :
    itX ss fa (pk b 0) = bad ∨ ∃ c, itX ss fa (pk b 0) = good c ∧ 0 ≤ c ∧ c ≤ b ∧ ∀ x ∈ l, Q x := by
  rw [itX_eq]
  have key : ∀ k N i c, i + k = l.length → k < N → 0 ≤ c → c ≤ b → (∀ x ∈ l.take i, Q x) → itN ss fa N (pk c i) = bad ∨ ∃ c', itN ss fa N (pk c i) = good c' ∧ 0 ≤ c' ∧ c' ≤ b ∧ ∀ x ∈ l, Q x := by
    intro k
    induction k with
    | zero =>
      intro N i c hi hN c0 c1 hq
      obtain ⟨N, rfl⟩ : ∃ M, N = M + 1 := ⟨N - 1, by omega⟩
      obtain rfl : i = l.length := by omega
      rw [itN_one, hlast c]
      rw [List.take_length] at hq
      exact .inr ⟨c, rfl, c0, c1, hq⟩
    | succ k ih =>
      intro N i c hi hN c0 c1 hq
      obtain ⟨N, rfl⟩ : ∃ M, N = M + 1 := ⟨N - 1, by omega⟩
      have hlt : i < l.length := by omega
      rw [itN_one, hstep i c hlt c0 (by omega)]
      by_cases hneg : sz (l.getD i d) c < 0
      · rw [decide_eq_true hneg]; exact .inl rfl
      · rw [decide_eq_false hneg]
        obtain ⟨q1, q2⟩ := hQ _ (getD_mem hlt d) c c0 (by omega) (by omega)
        refine ih N (i + 1) _ (by omega) (by omega) (by omega) (by omega) (fun x hx => ?_)
        rw [take_succ_getD hlt d] at hx
        rcases List.mem_append.1 hx with hx | hx
        · exact hq x hx
        · simp only [List.mem_singleton] at hx; rw [hx]; exact q2
  exact key l.length _ 0 b (by omega) hn h0 (Int.le_refl _) (by simp)
theorem szOp_spec (k : Int) (s v : ByteArray) (b : Int) (h0 : 0 ≤ b) (h1 : b ≤ 1048576) (hs : bigS s = true) (hv : bigS v = true) (h : 0 ≤ lszOp k s v b) : lszOp k s v b ≤ b ∧ okS s = true ∧ okS v = true := by
  simp only [bigS, decide_eq_true_eq] at hs hv
  have e1 := wrap64 (n := b - ((s.size : Nat) : Int)) (by omega) (by omega)
  simp only [lszOp, e1] at h ⊢
  cases hd : decide (b - ((s.size : Nat) : Int) < 0) with
  | true => rw [hd] at h; simp at h
  | false =>
    rw [hd] at h
    have := of_decide_eq_false hd
    have e2 := wrap64 (n := b - ((s.size : Nat) : Int) - ((v.size : Nat) : Int)) (by omega) (by omega)
    simp only [cond_false, e2] at h ⊢
    cases hd2 : decide (b - ((s.size : Nat) : Int) - ((v.size : Nat) : Int) < 0) with
    | true => rw [hd2] at h; simp at h
    | false =>
      have := of_decide_eq_false hd2
      simp only [cond_false, okS, decide_eq_true_eq]
      omega
theorem szOpS_spec (l : LIBBe) (b : Int) (h0 : 0 ≤ b) (h1 : b ≤ 1048576) (hb : bigOps l = true) (h : 0 ≤ lszOpS l b) : lszOpS l b ≤ b ∧ okOps l = true := by
  have hl : l.length ≤ 9223372036854775807 := by simp only [bigOps, Bool.and_eq_true, decide_eq_true_eq] at hb; exact hb.1
  have e1 := wrap64 (n := b - ((l.length : Nat) : Int)) (by omega) (by omega)
  simp only [lszOpS, e1, Int.toNat_zero, Nat.sub_zero] at h ⊢
  cases hd : decide (b - ((l.length : Nat) : Int) < 0) with
  | true => rw [hd] at h; simp at h
  | false =>
    rw [hd] at h
    have := of_decide_eq_false hd
    simp only [cond_false] at h ⊢
    cases hi : isInl (szN (f_lszOpS_0 l) l.length 0 (b - ((l.length : Nat) : Int))) with
    | false => rw [hi] at h; simp at h
    | true =>
      obtain ⟨r1, r2, r3⟩ := szN_all (M := 1048576) (Q := fun i => okS (l.getD i dOp).2.1 = true ∧ okS (l.getD i dOp).2.2 = true) l.length 0 (b - ((l.length : Nat) : Int)) (fun j b' _ hj q0 q1 hf => by
        obtain ⟨p1, p2⟩ := bigOps_at hb j (by omega)
        obtain ⟨s1, s2, s3⟩ := szOp_spec _ _ _ b' q0 q1 p1 p2 hf
        exact ⟨⟨s2, s3⟩, s1⟩) (by omega) (by omega) hi
      simp only [cond_true]
      exact ⟨by omega, okOps_of (by omega) (fun i hi => r1 i (Nat.zero_le _) (by omega))⟩
theorem szOpSI {l : LIBBe} {b : Int} (hb : bigOpS l) (h0 : 0 ≤ b) (h1 : b ≤ 1048576) : q_lszOpS l b = true ∧ (0 ≤ lszOpS l b → lszOpS l b ≤ b ∧ okOpS l) := ⟨decide_eq_true ⟨h0, h1, bigOps_len hb⟩, fun h => szOpS_spec l b h0 h1 hb h⟩
theorem szRec_el {x : RecD} {b : Int} (hx : bigRec x) (h0 : 0 ≤ b) (h1 : b ≤ 1048576) : q_lszRec x.1 x.2.1 x.2.2 b = true ∧ (0 ≤ lszRec x.1 x.2.1 x.2.2 b → lszRec x.1 x.2.1 x.2.2 b ≤ b ∧ okRec x) := by
  obtain ⟨a1, a2⟩ := szOpSI hx h0 h1
  refine ⟨a1, fun h => ?_⟩
  simp only [lszRec] at h ⊢
  by_cases hd : lszOpS x.2.2 b < 0
  · rw [decide_eq_true hd] at h; simp at h
  · rw [decide_eq_false hd]; exact a2 (by omega)
theorem szRecSI {l : List RecD} {b : Int} (hb : bigRecS l) (h0 : 0 ≤ b) (h1 : b ≤ 1048576) : q_lszRecS l b = true ∧ (0 ≤ lszRecS l b → lszRecS l b ≤ b ∧ okRecS l) := by
  obtain ⟨h2, h3⟩ := hb
  have hdj : (((0 : Int), ((0 : Int), ([] : LIBBe))) : RecD) = dRec := rfl
  have e1 := wrap64 (n := b - ((l.length : Nat) : Int)) (by omega) (by omega)
  simp only [q_lszRecS, lszRecS, e1]
  by_cases hd : b - ((l.length : Nat) : Int) < 0
  · rw [decide_eq_true hd]; simp
  rw [decide_eq_false hd]
  simp only [cond_false]
  have key : it_lszRecS_0 l (b - ((l.length : Nat) : Int)) 0 = (0, -1, 0) ∨ ∃ c, it_lszRecS_0 l (b - ((l.length : Nat) : Int)) 0 = (1, 0, c) ∧ 0 ≤ c ∧ c ≤ b - ((l.length : Nat) : Int) ∧ ∀ x ∈ l, okRec x := by
    refine itX_sz (fun c i => (l, c, (i : Int))) l dRec (fun x c => lszRec x.1 x.2.1 x.2.2 c) okRec (0, -1, 0) (fun c => (1, 0, c)) b (by omega) (by omega) (by omega) (fun i c hi c0 c1 => ?_) (fun x hx c c0 c1 h => (szRec_el (h3 x hx) c0 (by omega)).2 h) (fun c => ?_)
    · have q1 := (szRec_el (h3 _ (getD_mem hi dRec)) c0 (by omega)).1
      have e1 : decide ((i : Int) < ((l.length : Nat) : Int)) = true := decide_eq_true (by omega)
      have e2 : decide (0 ≤ (i : Int) ∧ (i : Int) < ((l.length : Nat) : Int)) = true := decide_eq_true (by omega)
      simp only [ss_lszRecS_0, hdj, e1, e2, cond_true, Int.toNat_natCast, q1, wrapU i (by omega)]
    · have e1 : decide ((l.length : Int) < ((l.length : Nat) : Int)) = false := decide_eq_false (by omega)
      simp only [ss_lszRecS_0, e1, cond_false]
  rcases key with h | ⟨c, h, c0, c1, hj⟩
  · rw [h]; exact ⟨rfl, fun h => by simp at h⟩
  · rw [h]; exact ⟨rfl, fun _ => ⟨by show c ≤ b; omega, by omega, hj⟩⟩
noncomputable def dPair : PairD := ((⟨#[]⟩ : ByteArray), (⟨#[]⟩ : ByteArray))
theorem szPair_spec (s v : ByteArray) (b : Int) (h0 : 0 ≤ b) (h1 : b ≤ 1048576) (hs : bigS s = true) (hv : bigS v = true) (h : 0 ≤ lszPair s v b) : lszPair s v b ≤ b ∧ okS s = true ∧ okS v = true := by
  simp only [bigS, decide_eq_true_eq] at hs hv
  have e1 := wrap64 (n := b - ((s.size : Nat) : Int)) (by omega) (by omega)
  simp only [lszPair, e1] at h ⊢
  cases hd : decide (b - ((s.size : Nat) : Int) < 0) with
  | true => rw [hd] at h; simp at h
  | false =>
    rw [hd] at h
    have := of_decide_eq_false hd
    have e2 := wrap64 (n := b - ((s.size : Nat) : Int) - ((v.size : Nat) : Int)) (by omega) (by omega)
    simp only [cond_false, e2] at h ⊢
    cases hd2 : decide (b - ((s.size : Nat) : Int) - ((v.size : Nat) : Int) < 0) with
    | true => rw [hd2] at h; simp at h
    | false =>
      have := of_decide_eq_false hd2
      simp only [cond_false, okS, decide_eq_true_eq]
      omega
theorem szPairSI {l : List PairD} {b : Int} (hb : bigPairS l) (h0 : 0 ≤ b) (h1 : b ≤ 1048576) : q_lszPairS l b = true ∧ (0 ≤ lszPairS l b → lszPairS l b ≤ b ∧ okPairS l) := by
  obtain ⟨hl, hp⟩ := hb
  refine ⟨decide_eq_true ⟨h0, h1, hl⟩, fun h => ?_⟩
  have e1 := wrap64 (n := b - ((l.length : Nat) : Int)) (by omega) (by omega)
  simp only [lszPairS, e1, Int.toNat_zero, Nat.sub_zero] at h ⊢
  cases hd : decide (b - ((l.length : Nat) : Int) < 0) with
  | true => rw [hd] at h; simp at h
  | false =>
    rw [hd] at h
    have := of_decide_eq_false hd
    simp only [cond_false] at h ⊢
    cases hi : isInl (szN (f_lszPairS_0 l) l.length 0 (b - ((l.length : Nat) : Int))) with
    | false => rw [hi] at h; simp at h
    | true =>
      obtain ⟨r1, r2, r3⟩ := szN_all (M := 1048576) (Q := fun i => okS (l.getD i dPair).1 = true ∧ okS (l.getD i dPair).2 = true) l.length 0 (b - ((l.length : Nat) : Int)) (fun j b' _ hj q0 q1 hf => by
        obtain ⟨p1, p2⟩ := hp _ (getD_mem (show j < l.length by omega) dPair)
        obtain ⟨s1, s2, s3⟩ := szPair_spec _ _ b' q0 q1 p1 p2 hf
        exact ⟨⟨s2, s3⟩, s1⟩) (by omega) (by omega) hi
      simp only [cond_true]
      refine ⟨by omega, by omega, fun p hm => ?_⟩
      obtain ⟨i, hi, e⟩ := List.getElem_of_mem hm
      have := r1 i (Nat.zero_le _) (by omega)
      rw [List.getD_eq_getElem?_getD, List.getElem?_eq_getElem hi, Option.getD_some, e] at this
      exact this
theorem szShard_el {x : ShardD} {b : Int} (hx : bigShard x) (h0 : 0 ≤ b) (h1 : b ≤ 1048576) : q_lszShard x.1 x.2.1 x.2.2.1 x.2.2.2.1 x.2.2.2.2 b = true ∧ (0 ≤ lszShard x.1 x.2.1 x.2.2.1 x.2.2.2.1 x.2.2.2.2 b → lszShard x.1 x.2.1 x.2.2.1 x.2.2.2.1 x.2.2.2.2 b ≤ b ∧ okShard x) := by
  simp only [q_lszShard, lszShard]
  obtain ⟨q0, a0⟩ := szRecSI (b := b) (hx.1) (by omega) (by omega)
  generalize hc0 : lszRecS x.2.1 b = c0 at *
  by_cases hd0 : c0 < 0
  · simp only [q0, decide_eq_true hd0, cond_true, Bool.true_and]
    exact ⟨trivial, fun h => by simp at h⟩
  obtain ⟨m0, k0⟩ := a0 (by omega)
  simp only [q0, decide_eq_false hd0, cond_false, Bool.true_and]
  obtain ⟨q1, a1⟩ := szPairSI (b := c0) (hx.2.1) (by omega) (by omega)
  generalize hc1 : lszPairS x.2.2.2.1 c0 = c1 at *
  by_cases hd1 : c1 < 0
  · simp only [q1, decide_eq_true hd1, cond_true, Bool.true_and]
    exact ⟨trivial, fun h => by simp at h⟩
  obtain ⟨m1, k1⟩ := a1 (by omega)
  simp only [q1, decide_eq_false hd1, cond_false, Bool.true_and]
  obtain ⟨q2, a2⟩ := szRecSI (b := c1) (hx.2.2) (by omega) (by omega)
  generalize hc2 : lszRecS x.2.2.2.2 c1 = c2 at *
  by_cases hd2 : c2 < 0
  · rw [decide_eq_true hd2]
    exact ⟨q2, fun h => by simp at h⟩
  obtain ⟨m2, k2⟩ := a2 (by omega)
  rw [decide_eq_false hd2]
  exact ⟨q2, fun _ => ⟨by simp only [cond_false]; omega, k0, k1, k2⟩⟩
theorem itX_map {V A α β : Type} {ss : V → V ⊕ A} {fa : A} (pk : Nat → List β → V) (l : List α) (d : α) (e : β) (f : α → β) (last : List β → A) (hn : l.length < 4611686018427387904)
    (h : ∀ i r, i < l.length → r.length = l.length → ss (pk i r) = .inl (pk (i + 1) (r.set i (f (l.getD i d))))) (hl : ∀ r, r.length = l.length → ss (pk l.length r) = .inr (last r)) : itX ss fa (pk 0 (List.replicate l.length e)) = last (l.map f) := by
  rw [itX_eq]
  have key : ∀ k N i r, i + k = l.length → k < N → r.length = l.length → r.take i = (l.map f).take i → itN ss fa N (pk i r) = last (l.map f) := by
    intro k
    induction k with
    | zero =>
      intro N i r hi hN hr ht
      obtain ⟨M, rfl⟩ : ∃ M, N = M + 1 := ⟨N - 1, by omega⟩
      obtain rfl : i = l.length := by omega
      rw [itN_one, hl r hr]
      have e1 : r.take l.length = r := List.take_of_length_le (by omega)
      have e2 : (l.map f).take l.length = l.map f := List.take_of_length_le (by simp)
      rw [e1, e2] at ht
      rw [ht]
    | succ k ih =>
      intro N i r hi hN hr ht
      obtain ⟨M, rfl⟩ : ∃ M, N = M + 1 := ⟨N - 1, by omega⟩
      rw [itN_one, h i r (by omega) hr]
      refine ih M (i + 1) _ (by omega) (by omega) (by rw [List.length_set]; exact hr) ?_
      have hlt : i < l.length := by omega
      rw [List.take_add_one, List.take_add_one, List.take_set_of_le (Nat.le_refl _), ht]
      congr 1
      simp [List.getElem?_set, hr, hlt, List.getD_eq_getElem?_getD]
  exact key l.length _ 0 _ (by omega) hn (by simp) (by simp)
theorem toOpS_same (l : LIBBe) : ltoOpS l = l := by
  have e := mapN (fun o : Int × ByteArray × ByteArray => (ltoOp o.1 o.2.1 o.2.2)) dOp l l.length 0 (List.replicate l.length dOp) (by simp) (by simp)
  simp only [List.take_zero, List.nil_append, List.drop_zero] at e
  have e2 : l.map (fun o : Int × ByteArray × ByteArray => (ltoOp o.1 o.2.1 o.2.2)) = l := by
    rw [show (fun o : Int × ByteArray × ByteArray => (ltoOp o.1 o.2.1 o.2.2)) = id from funext fun _ => rfl, List.map_id]
  rw [e2] at e
  exact e
theorem toOpSI {l : LIBBe} (h : okOpS l) : q_ltoOpS l = true ∧ ltoOpS l = l := ⟨okOps_okL h, toOpS_same l⟩
theorem toRecSI {l : List RecD} (h : okRecS l) : q_ltoRecS l = true ∧ ltoRecS l = l := by
  obtain ⟨hl, h3⟩ := h
  have hdj : (((0 : Int), ((0 : Int), ([] : LIBBe))) : RecD) = dRec := rfl
  have key : it_ltoRecS_0 l 0 (List.replicate l.length dRec) = (0, l.map fun x => x) := by
    refine itX_map (fun i r => (l, (i : Int), r)) l dRec dRec (fun x => x) (fun r => (0, r)) (by omega) (fun i r hi hr => ?_) (fun r hr => ?_)
    · have e1 : decide ((i : Int) < ((l.length : Nat) : Int)) = true := decide_eq_true (by omega)
      have e2 : decide (0 ≤ (i : Int) ∧ (i : Int) < ((l.length : Nat) : Int)) = true := decide_eq_true (by omega)
      have e3 : decide (0 ≤ (i : Int) ∧ (i : Int) < ((r.length : Nat) : Int)) = true := decide_eq_true (by omega)
      have ho := h3 _ (getD_mem hi dRec)
      have o2 := ho
      obtain ⟨qE2, toE2⟩ := toOpSI o2
      have q1 : q_ltoRec (l.getD i dRec).1 (l.getD i dRec).2.1 (l.getD i dRec).2.2 = true := by
        exact qE2
      simp only [ss_ltoRecS_0, hdj, e1, e2, e3, cond_true, Int.toNat_natCast, q1, wrapU i (by omega), ltoRec, toE2]
    · have e1 : decide ((l.length : Int) < ((l.length : Nat) : Int)) = false := decide_eq_false (by omega)
      simp only [ss_ltoRecS_0, e1, cond_false]
  rw [List.map_id'] at key
  simp only [q_ltoRecS, ltoRecS, hdj, Int.toNat_natCast, key]
  refine ⟨?_, trivial⟩
  rw [Bool.and_eq_true]
  exact ⟨decide_eq_true ⟨by omega, trivial, by simp only [MAXB]; omega, by omega⟩, rfl⟩
theorem toPairSI {l : List PairD} (h : okPairS l) : q_ltoPairS l = true ∧ ltoPairS l = l := by
  refine ⟨decide_eq_true h.1, ?_⟩
  have e := mapN (fun o : PairD => (ltoPair o.1 o.2)) dPair l l.length 0 (List.replicate l.length dPair) (by simp) (by simp)
  simp only [List.take_zero, List.nil_append, List.drop_zero] at e
  have e2 : l.map (fun o : PairD => (ltoPair o.1 o.2)) = l := by
    rw [show (fun o : PairD => (ltoPair o.1 o.2)) = id from funext fun _ => rfl, List.map_id]
  rw [e2] at e
  exact e
theorem toShard_el {x : ShardD} (h : okShard x) : q_ltoShard x.1 x.2.1 x.2.2.1 x.2.2.2.1 x.2.2.2.2 = true ∧ ltoShard x.1 x.2.1 x.2.2.1 x.2.2.2.1 x.2.2.2.2 = x := by
  obtain ⟨o1, o3, o4⟩ := h
  obtain ⟨qE1, toE1⟩ := toRecSI o1
  obtain ⟨qE3, toE3⟩ := toPairSI o3
  obtain ⟨qE4, toE4⟩ := toRecSI o4
  simp only [q_ltoShard, ltoShard, qE1, qE3, qE4, toE1, toE3, toE4, Bool.and_self]
  exact ⟨trivial, trivial⟩
/-- The first answer of places in order. -/
noncomputable def scanA {A : Type} (f : Nat → Option A) (last : A) : Nat → Nat → A
  | 0, _ => last
  | k + 1, i => match f i with
    | some a => a
    | none => scanA f last k (i + 1)
theorem itX_scan {V A : Type} {ss : V → V ⊕ A} {fa : A} (pk : Nat → V) (n : Nat) (f : Nat → Option A) (last : A) (hn : n < 4611686018427387904)
    (h : ∀ i, i < n → ss (pk i) = (match f i with | some a => .inr a | none => .inl (pk (i + 1)))) (hl : ss (pk n) = .inr last) : itX ss fa (pk 0) = scanA f last n 0 := by
  rw [itX_eq]
  have key : ∀ k N i, i + k = n → k < N → itN ss fa N (pk i) = scanA f last k i := by
    intro k
    induction k with
    | zero =>
      intro N i hi hN
      obtain ⟨M, rfl⟩ : ∃ M, N = M + 1 := ⟨N - 1, by omega⟩
      obtain rfl : i = n := by omega
      rw [itN_one, hl]; rfl
    | succ k ih =>
      intro N i hi hN
      obtain ⟨M, rfl⟩ : ∃ M, N = M + 1 := ⟨N - 1, by omega⟩
      rw [itN_one, h i (by omega)]
      simp only [scanA]
      cases hf : f i with
      | some a => rfl
      | none => exact ih M (i + 1) (by omega) (by omega)
  exact key n _ 0 (by omega) hn
theorem eqOp_same (k : Int) (s v : ByteArray) : leqOp k s v k s v = true := by simp [leqOp]
theorem eqOpS_same (l : LIBBe) : leqOpS l l = true := by
  have e : allF (f_leqOpS_0 l l) (l.length - (0 : Int).toNat) (0 : Int).toNat = true := allF_same _ _ (fun j _ _ => by simp [f_leqOpS_0, eqOp_same])
  simp only [leqOpS, e, cond_true]
  simp
theorem eqOpSI {l : LIBBe} (h : okOpS l) : q_leqOpS l l = true ∧ leqOpS l l = true := ⟨okOps_okL h, eqOpS_same l⟩
theorem scanA_cases {A : Type} (f : Nat → Option A) (last : A) : ∀ k i, (∃ j a, i ≤ j ∧ j < i + k ∧ f j = some a ∧ (∀ m, i ≤ m → m < j → f m = none) ∧ scanA f last k i = a) ∨ ((∀ j, i ≤ j → j < i + k → f j = none) ∧ scanA f last k i = last) := by
  intro k
  induction k with
  | zero => intro i; exact .inr ⟨fun j h1 h2 => by omega, rfl⟩
  | succ k ih =>
    intro i
    simp only [scanA]
    cases hf : f i with
    | some a => exact .inl ⟨i, a, Nat.le_refl _, by omega, hf, fun m h1 h2 => by omega, rfl⟩
    | none =>
      rcases ih (i + 1) with ⟨j, a, h1, h2, h3, h4, h5⟩ | ⟨h1, h2⟩
      · refine .inl ⟨j, a, by omega, by omega, h3, fun m m1 m2 => ?_, h5⟩
        by_cases hm : m = i
        · rw [hm]; exact hf
        · exact h4 m (by omega) m2
      · refine .inr ⟨fun j j1 j2 => ?_, h2⟩
        by_cases hj : j = i
        · rw [hj]; exact hf
        · exact h1 j (by omega) (by omega)
theorem eqRecSI {l : List RecD} (h : okRecS l) : q_leqRecS l l = true ∧ leqRecS l l = true := by
  obtain ⟨hl, h3⟩ := h
  have hdj : (((0 : Int), ((0 : Int), ([] : LIBBe))) : RecD) = dRec := rfl
  have e0 : ∀ x : Int, (x != x) = false := fun x => by simp
  have e9 : ∀ x : Bool, (x == x) = true := fun x => by simp
  have key : it_leqRecS_0 l l 0 = scanA (fun _ => none) (1, false) l.length 0 := by
    refine itX_scan (fun i => (l, l, (i : Int))) l.length _ _ (by omega) (fun i hi => ?_) ?_
    · have e1 : decide ((i : Int) < ((l.length : Nat) : Int)) = true := decide_eq_true (by omega)
      have e2 : decide (0 ≤ (i : Int) ∧ (i : Int) < ((l.length : Nat) : Int)) = true := decide_eq_true (by omega)
      have ho := h3 _ (getD_mem hi dRec)
      have o2 := ho
      obtain ⟨qE2, toE2⟩ := eqOpSI o2
      have q1 : q_leqRec (l.getD i dRec).1 (l.getD i dRec).2.1 (l.getD i dRec).2.2 (l.getD i dRec).1 (l.getD i dRec).2.1 (l.getD i dRec).2.2 = true := by
        first | exact qE2 | (simp only [q_leqRec, e0, cond_false]; exact qE2)
      have q2 : leqRec (l.getD i dRec).1 (l.getD i dRec).2.1 (l.getD i dRec).2.2 (l.getD i dRec).1 (l.getD i dRec).2.1 (l.getD i dRec).2.2 = true := by
        simp only [leqRec, e0, e9, toE2, cond_false, Bool.not_true]
      simp only [ss_leqRecS_0, hdj, e1, e2, cond_true, cond_false, Bool.not_true, Int.toNat_natCast, q1, q2, wrapU i (by omega)]
    · have e1 : decide ((l.length : Int) < ((l.length : Nat) : Int)) = false := decide_eq_false (by omega)
      simp only [ss_leqRecS_0, e1, cond_false]
  have k2 : scanA (fun _ => none) ((1, false) : A_leqRecS_0) l.length 0 = (1, false) := by
    rcases scanA_cases (fun _ => none) ((1, false) : A_leqRecS_0) l.length 0 with ⟨j, a, _, _, h3, _⟩ | ⟨_, h⟩
    · cases h3
    · exact h
  rw [k2] at key
  simp only [q_leqRecS, leqRecS, key, e0, cond_false]
  exact ⟨rfl, rfl⟩
theorem eqPairSI {l : List PairD} (h : okPairS l) : q_leqPairS l l = true ∧ leqPairS l l = true := by
  refine ⟨decide_eq_true h.1, ?_⟩
  have e : allF (f_leqPairS_0 l l) (l.length - (0 : Int).toNat) (0 : Int).toNat = true := allF_same _ _ (fun j _ _ => by simp [f_leqPairS_0, leqPair])
  simp only [leqPairS, e, cond_true]
  simp
theorem eqShard_el {x : ShardD} (h : okShard x) : q_leqShard x.1 x.2.1 x.2.2.1 x.2.2.2.1 x.2.2.2.2 x.1 x.2.1 x.2.2.1 x.2.2.2.1 x.2.2.2.2 = true ∧ leqShard x.1 x.2.1 x.2.2.1 x.2.2.2.1 x.2.2.2.2 x.1 x.2.1 x.2.2.1 x.2.2.2.1 x.2.2.2.2 = true := by
  obtain ⟨o1, o3, o4⟩ := h
  obtain ⟨qE1, toE1⟩ := eqRecSI o1
  obtain ⟨qE3, toE3⟩ := eqPairSI o3
  obtain ⟨qE4, toE4⟩ := eqRecSI o4
  have e0 : ∀ x : Int, (x != x) = false := fun x => by simp
  simp only [q_leqShard, leqShard, e0, qE1, toE1, qE3, toE3, qE4, toE4, cond_false, Bool.not_true, Bool.and_self]
  exact ⟨trivial, trivial⟩
noncomputable def keyAny (k : ByteArray) (ops : LIBBe) : Bool := ops.any fun x => k.toList == x.2.1.toList
noncomputable def keysAny (l ops : LIBBe) : Bool := l.any fun o => keyAny o.2.1 ops
/-- Has one that is held a key of orders? -/
noncomputable def lockedL (held : List RecD) (ops : LIBBe) : Bool := held.any fun r => keysAny r.2.2 ops
/-- Does an order say must, and is it not so? -/
noncomputable def misses (m : LBBe) (o : Int × ByteArray × ByteArray) : Bool := cond (o.1 != 3) false (cond (!((sGetKey m o.2.1).2 == (!(o.2.2.toList == (⟨#[]⟩ : ByteArray).toList)))) true (!((sGetKey m o.2.1).1.toList == o.2.2.toList)))
noncomputable def meetsL (m : LBBe) (ops : LIBBe) : Bool := !(ops.any (misses m))
noncomputable def isTx (t : Int) (r : RecD) : Bool := r.2.1 == t
noncomputable def isK (k : ByteArray) (p : ByteArray × ByteArray) : Bool := p.1.toList == k.toList
noncomputable def dP : ByteArray × ByteArray := ((⟨#[]⟩ : ByteArray), (⟨#[]⟩ : ByteArray))
noncomputable def overK (k : ByteArray) (p : ByteArray × ByteArray) : Bool := !(Op.bytesLess p.1.toList k.toList || p.1.toList == k.toList)
noncomputable def putL (l : LBBe) (k v : ByteArray) : LBBe :=
  cond (decide (l.findIdx (isK k) < l.length)) (l.set (l.findIdx (isK k)) ((l.getD (l.findIdx (isK k)) dP).1, v)) (l.take (l.findIdx (overK k)) ++ ((k, v) :: l.drop (l.findIdx (overK k))))
noncomputable def delL (l : LBBe) (k : ByteArray) : LBBe := l.filter fun p => !isK k p
noncomputable def appL (l : LBBe) (o : Int × ByteArray × ByteArray) : LBBe := cond (o.1 == 1) (putL l o.2.1 o.2.2) (cond (o.1 == 2) (delL l o.2.1) l)
/-- One record more; none where it does not fit. -/
noncomputable def stepL (kn : Bool) (m : List PairD) (held : List RecD) (r : RecD) : Option (List PairD × List RecD) :=
  cond (!(sRecOk r.1 r.2.1 r.2.2)) none (cond (r.1 == 1)
    (cond kn none (cond (lockedL held r.2.2) none (cond (!(meetsL m r.2.2)) none (some (m, held ++ [((1 : Int), (r.2.1, r.2.2))])))))
    (cond (!(held.any (isTx r.2.1))) (cond (r.1 == 3) (cond kn none (some (m, held))) none)
      (cond (r.1 == 2) (cond (decide (((((held.getD (held.findIdx (isTx r.2.1)) dRec).2.2.foldl appL m).length : Nat) : Int) ≤ 60)) (some ((held.getD (held.findIdx (isTx r.2.1)) dRec).2.2.foldl appL m, held.eraseIdx (held.findIdx (isTx r.2.1)))) none)
        (cond (decide (((m.length : Nat) : Int) ≤ 60)) (some (m, held.eraseIdx (held.findIdx (isTx r.2.1)))) none))))
/-- What the first i records make. -/
noncomputable def repL (l : List RecD) : Nat → Option (List PairD × List RecD)
  | 0 => some ([], [])
  | i + 1 => (repL l i).bind fun s => stepL ((l.take i).any (isTx (l.getD i dRec).2.1)) s.1 s.2 (l.getD i dRec)
noncomputable def repOut (l : List RecD) : List PairD × List RecD × Bool := match repL l l.length with
  | none => ([], [], false)
  | some s => (s.1, s.2, true)
/-- No two of a transaction. -/
noncomputable def oneTx (l : List RecD) : Prop := (l.map (·.2.1)).Nodup
noncomputable abbrev RepOk (l : List RecD) (i : Nat) (m : List PairD) (held : List RecD) : Prop := oneTx held ∧ (∀ x ∈ held, okOps x.2.2 = true ∧ (l.take i).any (isTx x.2.1) = true) ∧ held.length ≤ i ∧ m.length ≤ 60
theorem any_mono {l : List RecD} {i : Nat} {t : Int} (h : (l.take i).any (isTx t) = true) : (l.take (i + 1)).any (isTx t) = true := by
  obtain ⟨x, hx, hp⟩ := List.any_eq_true.1 h
  exact List.any_eq_true.2 ⟨x, List.mem_of_mem_take (i := i) (by rw [List.take_take, Nat.min_eq_left (by omega)]; exact hx), hp⟩
theorem RepOk.hone {l : List RecD} {i : Nat} {m : List PairD} {held : List RecD} (h : RepOk l i m held) : oneTx held := h.1
theorem RepOk.hmem {l : List RecD} {i : Nat} {m : List PairD} {held : List RecD} (h : RepOk l i m held) : ∀ x ∈ held, okOps x.2.2 = true ∧ (l.take i).any (isTx x.2.1) = true := h.2.1
theorem RepOk.hlen {l : List RecD} {i : Nat} {m : List PairD} {held : List RecD} (h : RepOk l i m held) : held.length ≤ i := h.2.2.1
theorem RepOk.hml {l : List RecD} {i : Nat} {m : List PairD} {held : List RecD} (h : RepOk l i m held) : m.length ≤ 60 := h.2.2.2
theorem step_ok {l : List RecD} {i : Nat} {m m' : List PairD} {held h' : List RecD} (hi : i < l.length) (hr : ∀ x ∈ l, okOps x.2.2 = true) (I : RepOk l i m held) (h : stepL ((l.take i).any (isTx (l.getD i dRec).2.1)) m held (l.getD i dRec) = some (m', h')) : RepOk l (i + 1) m' h' := by
  have hx : (l.take (i + 1)).any (isTx (l.getD i dRec).2.1) = true := by
    refine List.any_eq_true.2 ⟨l.getD i dRec, ?_, by simp [isTx]⟩
    rw [take_succ_getD hi dRec]; simp
  have sub : ∀ k, RepOk l (i + 1) m (held.eraseIdx k) := fun k => by
    have hsub : (held.eraseIdx k).Sublist held := List.eraseIdx_sublist _ _
    exact ⟨List.Nodup.sublist (hsub.map _) I.hone, fun x hx => ⟨(I.hmem x (hsub.subset hx)).1, any_mono (I.hmem x (hsub.subset hx)).2⟩, by have := hsub.length_le; have := I.hlen; omega, I.hml⟩
  simp only [stepL] at h
  cases hok : sRecOk (l.getD i dRec).1 (l.getD i dRec).2.1 (l.getD i dRec).2.2 with
  | false => rw [hok] at h; simp at h
  | true =>
    simp only [hok, Bool.not_true, cond_false] at h
    cases hk : ((l.getD i dRec).1 == 1) with
    | true =>
      simp only [hk, cond_true] at h
      cases hkn : (l.take i).any (isTx (l.getD i dRec).2.1) with
      | true => rw [hkn] at h; simp at h
      | false =>
        rw [hkn] at h
        cases hlk : lockedL held (l.getD i dRec).2.2 with
        | true => rw [hlk] at h; simp at h
        | false =>
          rw [hlk] at h
          cases hmt : meetsL m (l.getD i dRec).2.2 with
          | false => rw [hmt] at h; simp at h
          | true =>
            rw [hmt] at h
            simp only [Bool.not_true, cond_false, Option.some.injEq, Prod.mk.injEq] at h
            obtain ⟨rfl, rfl⟩ := h
            refine ⟨?_, fun x hm => ?_, by rw [List.length_append]; have := I.hlen; simp; omega, I.hml⟩
            · simp only [oneTx, List.map_append, List.map_cons, List.map_nil]
              rw [List.nodup_append]
              refine ⟨I.hone, by simp, fun a ha b hb => ?_⟩
              simp only [List.mem_singleton] at hb
              subst hb
              intro e
              obtain ⟨x, hx1, hx2⟩ := List.mem_map.1 ha
              have := (I.hmem x hx1).2
              rw [show x.2.1 = (l.getD i dRec).2.1 from hx2.trans e, hkn] at this
              cases this
            · rcases List.mem_append.1 hm with hm | hm
              · exact ⟨(I.hmem x hm).1, any_mono (I.hmem x hm).2⟩
              · simp only [List.mem_singleton] at hm
                subst hm
                have hq := hr _ (getD_mem hi dRec)
                exact ⟨hq, hx⟩
    | false =>
      simp only [hk, cond_false] at h
      cases ha : held.any (isTx (l.getD i dRec).2.1) with
      | false =>
        simp only [ha, Bool.not_false, cond_true] at h
        cases h3 : ((l.getD i dRec).1 == 3) with
        | false => rw [h3] at h; simp at h
        | true =>
          rw [h3] at h
          cases hkn : (l.take i).any (isTx (l.getD i dRec).2.1) with
          | true => rw [hkn] at h; simp at h
          | false =>
            rw [hkn] at h
            simp only [cond_true, cond_false, Option.some.injEq, Prod.mk.injEq] at h
            obtain ⟨rfl, rfl⟩ := h
            exact ⟨I.hone, fun x hx => ⟨(I.hmem x hx).1, any_mono (I.hmem x hx).2⟩, by have := I.hlen; omega, I.hml⟩
      | true =>
        simp only [ha, Bool.not_true, cond_false] at h
        cases h2 : ((l.getD i dRec).1 == 2) with
        | true =>
          simp only [h2, cond_true] at h
          by_cases hc : ((((held.getD (held.findIdx (isTx (l.getD i dRec).2.1)) dRec).2.2.foldl appL m).length : Nat) : Int) ≤ 60
          · rw [decide_eq_true hc] at h
            simp only [cond_true, Option.some.injEq, Prod.mk.injEq] at h
            obtain ⟨rfl, rfl⟩ := h
            have := sub (held.findIdx (isTx (l.getD i dRec).2.1))
            exact ⟨this.hone, this.hmem, this.hlen, by omega⟩
          · rw [decide_eq_false hc] at h; simp at h
        | false =>
          simp only [h2, cond_false] at h
          by_cases hc : ((m.length : Nat) : Int) ≤ 60
          · rw [decide_eq_true hc] at h
            simp only [cond_true, Option.some.injEq, Prod.mk.injEq] at h
            obtain ⟨rfl, rfl⟩ := h
            exact sub _
          · rw [decide_eq_false hc] at h; simp at h
theorem rep_ok {l : List RecD} (hr : ∀ x ∈ l, okOps x.2.2 = true) : ∀ i, i ≤ l.length → ∀ m held, repL l i = some (m, held) → RepOk l i m held := by
  intro i
  induction i with
  | zero =>
    intro _ m held h
    simp only [repL, Option.some.injEq, Prod.mk.injEq] at h
    obtain ⟨rfl, rfl⟩ := h
    exact ⟨by simp [oneTx], fun x hx => by simp at hx, by simp, by simp⟩
  | succ i ih =>
    intro hi m held h
    simp only [repL] at h
    cases hp : repL l i with
    | none => rw [hp] at h; cases h
    | some s =>
      rw [hp] at h
      exact step_ok (by omega) hr (ih (by omega) s.1 s.2 (by rw [hp])) h
theorem itX_find {V A α : Type} {ss : V → V ⊕ A} {fa : A} (pk : Nat → V) (l : List α) (d : α) (p : α → Bool) (good : Nat → A) (last : A) (hn : l.length < 4611686018427387904)
    (h : ∀ i, i < l.length → ss (pk i) = cond (p (l.getD i d)) (.inr (good i)) (.inl (pk (i + 1)))) (hl : ss (pk l.length) = .inr last) :
    itX ss fa (pk 0) = cond (decide (l.findIdx p < l.length)) (good (l.findIdx p)) last := by
  rw [itX_scan pk l.length (fun i => cond (p (l.getD i d)) (some (good i)) none) last hn (fun i hi => by rw [h i hi]; cases p (l.getD i d) <;> rfl) hl]
  rcases scanA_cases (fun i => cond (p (l.getD i d)) (some (good i)) none) last l.length 0 with ⟨j, a, h1, h2, h3, h4, h5⟩ | ⟨h1, h2⟩
  · have hj : j < l.length := by omega
    have hg : l.getD j d = l[j] := by simp [List.getD_eq_getElem?_getD, hj]
    have hp : p l[j] = true := by
      cases hc : p (l.getD j d) with
      | true => rw [hg] at hc; exact hc
      | false => simp only [hc, cond_false] at h3; cases h3
    have hf : l.findIdx p = j := by
      rw [List.findIdx_eq hj]
      refine ⟨hp, fun m hm => ?_⟩
      have := h4 m (by omega) hm
      have hgm : l.getD m d = l[m] := by simp [List.getD_eq_getElem?_getD, Nat.lt_trans hm hj]
      rw [← hgm]
      cases hc : p (l.getD m d) with
      | false => rfl
      | true => simp only [hc, cond_true] at this; cases this
    rw [h5, hf, decide_eq_true hj]
    rw [hg, hp] at h3
    exact (Option.some.inj h3).symm
  · have hf : ¬ l.findIdx p < l.length := by
      intro hlt
      have hp := List.findIdx_getElem (w := hlt)
      have := h1 (l.findIdx p) (by omega) (by omega)
      have hg : l.getD (l.findIdx p) d = l[l.findIdx p] := by simp [List.getD_eq_getElem?_getD, hlt]
      rw [hg, hp] at this
      cases this
    rw [h2, decide_eq_false hf]; rfl
theorem getD_dR (l : List RecD) (i : Nat) : l.getD i ((0 : Int), ((0 : Int), [])) = l.getD i dRec := rfl
theorem l8At_spec (l : List RecD) (t : Int) (hl : l.length ≤ 1099511627776) : q_sl8At l t = true ∧ sl8At l t = cond (decide (l.findIdx (isTx t) < l.length)) ((l.findIdx (isTx t) : Nat) : Int) (-1) := by
  have e : it_sl8At_0 l t 0 = cond (decide (l.findIdx (isTx t) < l.length)) (0, ((l.findIdx (isTx t) : Nat) : Int)) (1, 0) := by
    refine itX_find (ss := fun v : V_sl8At_0 => ss_sl8At_0 v.1 v.2.1 v.2.2) (fa := fl_sl8At_0) (fun i => ((l, t, (i : Int)) : V_sl8At_0)) l dRec (isTx t) (fun i => ((0, (i : Int)) : A_sl8At_0)) _ (by omega) (fun i hi => ?_) ?_
    · have h1 : decide ((i : Int) < ((l.length : Nat) : Int)) = true := decide_eq_true (by omega)
      have h2 : decide (0 ≤ (i : Int) ∧ (i : Int) < ((l.length : Nat) : Int)) = true := decide_eq_true (by omega)
      simp only [ss_sl8At_0, h1, h2, cond_true, Int.toNat_natCast, wrapU i (by omega), getD_dR, isTx]
    · have h1 : decide (((l.length : Nat) : Int) < ((l.length : Nat) : Int)) = false := decide_eq_false (by omega)
      simp only [ss_sl8At_0, h1, cond_false]
  simp only [q_sl8At, sl8At, e]
  cases decide (l.findIdx (isTx t) < l.length) <;> exact ⟨rfl, rfl⟩
theorem l8At_neg (l : List RecD) (t : Int) (hl : l.length ≤ 1099511627776) : decide (sl8At l t < 0) = !(l.any (isTx t)) := by
  rw [(l8At_spec l t hl).2]
  cases ha : l.any (isTx t) with
  | true =>
    rw [decide_eq_true (List.findIdx_lt_length.2 (List.any_eq_true.1 ha))]
    exact decide_eq_false (by simp only [cond_true]; omega)
  | false =>
    have : ¬ l.findIdx (isTx t) < l.length := by
      intro hc
      obtain ⟨x, hx, hp⟩ := List.findIdx_lt_length.1 hc
      rw [List.any_eq_true.2 ⟨x, hx, hp⟩] at ha
      cases ha
    rw [decide_eq_false this]
    rfl
theorem l7Has_spec {l : List Int} (hl : l.length ≤ 1048576) (x : Int) : q_sl7Has l x = true ∧ sl7Has l x = decide (x ∈ l) := by
  have key : it_sl7Has_0 l x 0 = (0, true) ∧ x ∈ l ∨ it_sl7Has_0 l x 0 = (1, false) ∧ x ∉ l := by
    refine itX_inv (fun v : V_sl7Has_0 => ∃ i : Nat, v = (l, x, (i : Int)) ∧ i ≤ l.length ∧ x ∉ l.take i) (fun a : A_sl7Has_0 => a = (0, true) ∧ x ∈ l ∨ a = (1, false) ∧ x ∉ l) (fun v => l.length - v.2.2.toNat) ?_ ⟨0, rfl, Nat.zero_le _, by simp⟩ (by simp; omega)
    rintro v ⟨i, rfl, hi, hx⟩
    by_cases hlt : i < l.length
    · have e1 : decide ((i : Int) < ((l.length : Nat) : Int)) = true := decide_eq_true (by omega)
      have e2 : decide (0 ≤ (i : Int) ∧ (i : Int) < ((l.length : Nat) : Int)) = true := decide_eq_true (by omega)
      simp only [ss_sl7Has_0, e1, e2, cond_true, Int.toNat_natCast, wrapU i (by omega)]
      cases hc : (l.getD i 0 == x) with
      | true => exact .inr ⟨_, rfl, .inl ⟨rfl, by have := getD_mem hlt 0; simp only [beq_iff_eq] at hc; rw [hc] at this; exact this⟩⟩
      | false =>
        refine .inl ⟨_, rfl, ⟨i + 1, rfl, by omega, ?_⟩, by simp only [Int.toNat_natCast]; omega⟩
        rw [take_succ_getD hlt 0]
        simp only [beq_eq_false_iff_ne] at hc
        simp only [List.mem_append, List.mem_singleton, not_or]
        exact ⟨hx, fun h => hc h.symm⟩
    · obtain rfl : i = l.length := by omega
      have e1 : decide ((l.length : Int) < ((l.length : Nat) : Int)) = false := decide_eq_false (by omega)
      simp only [ss_sl7Has_0, e1, cond_false]
      rw [List.take_length] at hx
      exact .inr ⟨_, rfl, .inr ⟨rfl, hx⟩⟩
  simp only [q_sl7Has, sl7Has]
  rcases key with ⟨h1, h2⟩ | ⟨h1, h2⟩
  · rw [h1, decide_eq_true h2]; exact ⟨rfl, rfl⟩
  · rw [h1, decide_eq_false h2]; exact ⟨rfl, rfl⟩
theorem itX_any {V A α : Type} {ss : V → V ⊕ A} {fa : A} (pk : Nat → V) (l : List α) (d : α) (p : α → Bool) (good last : A) (hn : l.length < 4611686018427387904)
    (h : ∀ i, i < l.length → ss (pk i) = cond (p (l.getD i d)) (.inr good) (.inl (pk (i + 1)))) (hl : ss (pk l.length) = .inr last) : itX ss fa (pk 0) = cond (l.any p) good last := by
  rw [itX_find pk l d p (fun _ => good) last hn h hl]
  cases ha : l.any p with
  | true => rw [decide_eq_true (List.findIdx_lt_length.2 (List.any_eq_true.1 ha))]
  | false =>
    rw [decide_eq_false]
    intro hc
    obtain ⟨x, hx, hp⟩ := List.findIdx_lt_length.1 hc
    rw [List.any_eq_true.2 ⟨x, hx, hp⟩] at ha
    cases ha
theorem getD_dO (l : LIBBe) (i : Nat) : l.getD i ((0 : Int), ((⟨#[]⟩ : ByteArray), (⟨#[]⟩ : ByteArray))) = l.getD i dOp := rfl
theorem locked_in (held : List RecD) (ops : LIBBe) (i k : Nat) (hi : i < held.length) (hk : k < (held.getD i dRec).2.2.length) (ho : ops.length ≤ 1048576) :
    it_sl8Locked_2 held ops (i : Int) (k : Int) 0 = cond (keyAny ((held.getD i dRec).2.2.getD k dOp).2.1 ops) (0, true, [], [], 0, 0) (1, false, held, ops, (i : Int), (k : Int)) := by
  refine itX_any (ss := fun v : V_sl8Locked_2 => ss_sl8Locked_2 v.1 v.2.1 v.2.2.1 v.2.2.2.1 v.2.2.2.2) (fa := fl_sl8Locked_2) (fun m => ((held, ops, (i : Int), (k : Int), (m : Int)) : V_sl8Locked_2)) ops dOp (fun x => ((held.getD i dRec).2.2.getD k dOp).2.1.toList == x.2.1.toList) _ _ (by omega) (fun m hm => ?_) ?_
  · have h1 : decide ((m : Int) < ((ops.length : Nat) : Int)) = true := decide_eq_true (by omega)
    have h2 : decide (0 ≤ (i : Int) ∧ (i : Int) < ((held.length : Nat) : Int)) = true := decide_eq_true (by omega)
    have h3 : decide (0 ≤ (k : Int) ∧ (k : Int) < (((held.getD (i : Int).toNat ((0 : Int), ((0 : Int), []))).2.2.length : Nat) : Int)) = true := decide_eq_true (show 0 ≤ (k : Int) ∧ (k : Int) < (((held.getD i dRec).2.2.length : Nat) : Int) by omega)
    have h4 : decide (0 ≤ (m : Int) ∧ (m : Int) < ((ops.length : Nat) : Int)) = true := decide_eq_true (by omega)
    show ss_sl8Locked_2 held ops (i : Int) (k : Int) (m : Int) = _
    simp only [ss_sl8Locked_2, h1, h2, h3, h4, cond_true]
    simp only [getD_dR, getD_dO, Int.toNat_natCast, wrapU m (by omega)]
  · have h1 : decide (((ops.length : Nat) : Int) < ((ops.length : Nat) : Int)) = false := decide_eq_false (by omega)
    simp only [ss_sl8Locked_2, h1, cond_false]
theorem locked_mid (held : List RecD) (ops : LIBBe) (i : Nat) (hi : i < held.length) (hk : (held.getD i dRec).2.2.length ≤ 1048576) (ho : ops.length ≤ 1048576) :
    it_sl8Locked_1 held ops (i : Int) 0 = cond (keysAny (held.getD i dRec).2.2 ops) (0, true, [], [], 0) (1, false, held, ops, (i : Int)) := by
  have h2 : decide (0 ≤ (i : Int) ∧ (i : Int) < ((held.length : Nat) : Int)) = true := decide_eq_true (by omega)
  refine itX_any (ss := fun v : V_sl8Locked_1 => ss_sl8Locked_1 v.1 v.2.1 v.2.2.1 v.2.2.2) (fa := fl_sl8Locked_1) (fun k => ((held, ops, (i : Int), (k : Int)) : V_sl8Locked_1)) (held.getD i dRec).2.2 dOp (fun o => keyAny o.2.1 ops) _ _ (by omega) (fun k hk2 => ?_) ?_
  · have h1 : decide ((k : Int) < (((held.getD (i : Int).toNat ((0 : Int), ((0 : Int), []))).2.2.length : Nat) : Int)) = true := decide_eq_true (show (k : Int) < (((held.getD i dRec).2.2.length : Nat) : Int) by omega)
    show ss_sl8Locked_1 held ops (i : Int) (k : Int) = _
    simp only [ss_sl8Locked_1, h1, h2, cond_true, locked_in held ops i k hi hk2 ho]
    cases keyAny ((held.getD i dRec).2.2.getD k dOp).2.1 ops
    · simp only [cond_false, wrapU k (by omega)]; rfl
    · rfl
  · have h1 : decide ((((held.getD i dRec).2.2.length : Nat) : Int) < (((held.getD (i : Int).toNat ((0 : Int), ((0 : Int), []))).2.2.length : Nat) : Int)) = false := decide_eq_false (show ¬ (((held.getD i dRec).2.2.length : Nat) : Int) < (((held.getD i dRec).2.2.length : Nat) : Int) by omega)
    show ss_sl8Locked_1 held ops (i : Int) (((held.getD i dRec).2.2.length : Nat) : Int) = _
    simp only [ss_sl8Locked_1, h1, h2, cond_true, cond_false]
theorem locked_spec (held : List RecD) (ops : LIBBe) (hl : held.length ≤ 1099511627776) (hh : ∀ r ∈ held, r.2.2.length ≤ 1048576) (ho : ops.length ≤ 1048576) : q_sl8Locked held ops = true ∧ sl8Locked held ops = lockedL held ops := by
  have e : it_sl8Locked_0 held ops 0 = cond (lockedL held ops) (0, true) (1, false) := by
    refine itX_any (ss := fun v : V_sl8Locked_0 => ss_sl8Locked_0 v.1 v.2.1 v.2.2) (fa := fl_sl8Locked_0) (fun i => ((held, ops, (i : Int)) : V_sl8Locked_0)) held dRec (fun r => keysAny r.2.2 ops) _ _ (by omega) (fun i hi => ?_) ?_
    · have h1 : decide ((i : Int) < ((held.length : Nat) : Int)) = true := decide_eq_true (by omega)
      simp only [ss_sl8Locked_0, h1, cond_true, locked_mid held ops i hi (hh _ (getD_mem hi dRec)) ho]
      cases keysAny (held.getD i dRec).2.2 ops
      · simp only [cond_false, wrapU i (by omega)]; rfl
      · rfl
    · have h1 : decide (((held.length : Nat) : Int) < ((held.length : Nat) : Int)) = false := decide_eq_false (by omega)
      simp only [ss_sl8Locked_0, h1, cond_false]
  simp only [q_sl8Locked, sl8Locked, e]
  cases lockedL held ops <;> exact ⟨rfl, rfl⟩
noncomputable def getL (l : LBBe) (k : ByteArray) : Option ByteArray := (l.find? (isK k)).map (·.2)
theorem getD_dP (l : LBBe) (i : Nat) : l.getD i ((⟨#[]⟩ : ByteArray), (⟨#[]⟩ : ByteArray)) = l.getD i dP := rfl
theorem find_idx {α : Type} (p : α → Bool) (d : α) : ∀ l : List α, l.find? p = cond (decide (l.findIdx p < l.length)) (some (l.getD (l.findIdx p) d)) none
  | [] => by simp
  | x :: l => by
    have ih := find_idx p d l
    cases h : p x with
    | true => simp [List.find?_cons, List.findIdx_cons, h]
    | false =>
      simp only [List.find?_cons, List.findIdx_cons, h, List.length_cons, cond_false, List.getD_cons_succ]
      rw [ih]
      by_cases hl : l.findIdx p < l.length
      · rw [decide_eq_true hl, decide_eq_true (show l.findIdx p + 1 < l.length + 1 by omega)]
      · rw [decide_eq_false hl, decide_eq_false (show ¬ l.findIdx p + 1 < l.length + 1 by omega)]
theorem sGetKey_spec (l : LBBe) (k : ByteArray) (hl : l.length ≤ 1099511627776) : q_sGetKey l k = true ∧ sGetKey l k = (match getL l k with | some v => (v, true) | none => ((⟨#[]⟩ : ByteArray), false)) := by
  have e : it_sGetKey_0 l k 0 = cond (decide (l.findIdx (isK k) < l.length)) (0, (l.getD (l.findIdx (isK k)) dP).2, true) (1, (⟨#[]⟩ : ByteArray), false) := by
    refine itX_find (ss := fun v : V_sGetKey_0 => ss_sGetKey_0 v.1 v.2.1 v.2.2) (fa := fl_sGetKey_0) (fun i => ((l, k, (i : Int)) : V_sGetKey_0)) l dP (isK k) (fun i => ((0, (l.getD i dP).2, true) : A_sGetKey_0)) _ (by omega) (fun i hi => ?_) ?_
    · have h1 : decide ((i : Int) < ((l.length : Nat) : Int)) = true := decide_eq_true (by omega)
      have h2 : decide (0 ≤ (i : Int) ∧ (i : Int) < ((l.length : Nat) : Int)) = true := decide_eq_true (by omega)
      simp only [ss_sGetKey_0, h1, h2, cond_true, Int.toNat_natCast, wrapU i (by omega), getD_dP, isK]
    · have h1 : decide (((l.length : Nat) : Int) < ((l.length : Nat) : Int)) = false := decide_eq_false (by omega)
      simp only [ss_sGetKey_0, h1, cond_false]
  simp only [q_sGetKey, sGetKey, e, getL, find_idx (isK k) dP l]
  cases decide (l.findIdx (isK k) < l.length) <;> exact ⟨rfl, rfl⟩
theorem sMeets_spec (m : LBBe) (ops : LIBBe) (hm : m.length ≤ 1099511627776) (ho : ops.length ≤ 1048576) : q_sMeets m ops = true ∧ sMeets m ops = meetsL m ops := by
  have e : it_sMeets_0 m ops 0 = cond (ops.any (misses m)) (0, false) (1, false) := by
    refine itX_any (ss := fun v : V_sMeets_0 => ss_sMeets_0 v.1 v.2.1 v.2.2) (fa := fl_sMeets_0) (fun i => ((m, ops, (i : Int)) : V_sMeets_0)) ops dOp (misses m) _ _ (by omega) (fun i hi => ?_) ?_
    · have h1 : decide ((i : Int) < ((ops.length : Nat) : Int)) = true := decide_eq_true (by omega)
      have h2 : decide (0 ≤ (i : Int) ∧ (i : Int) < ((ops.length : Nat) : Int)) = true := decide_eq_true (by omega)
      simp only [ss_sMeets_0, k1_sMeets, getD_dO, Int.toNat_natCast, h1, h2, cond_true, wrapU i (by omega), (sGetKey_spec m _ hm).1, misses]
      generalize ((ops.getD i dOp).1 != 3) = a
      generalize (!((sGetKey m (ops.getD i dOp).2.1).2 == (!((ops.getD i dOp).2.2.toList == (⟨#[]⟩ : ByteArray).toList)))) = b
      generalize (!((sGetKey m (ops.getD i dOp).2.1).1.toList == (ops.getD i dOp).2.2.toList)) = c
      cases a <;> cases b <;> cases c <;> rfl
    · have h1 : decide (((ops.length : Nat) : Int) < ((ops.length : Nat) : Int)) = false := decide_eq_false (by omega)
      simp only [ss_sMeets_0, h1, cond_false]
  simp only [q_sMeets, sMeets, e, meetsL]
  cases ops.any (misses m) <;> exact ⟨rfl, rfl⟩
theorem drop_take_all {α : Type} (l : List α) (k : Nat) : (l.drop k).take (l.length - k) = l.drop k := List.take_of_length_le (by simp)
theorem itX_fold {V A α β : Type} {ss : V → V ⊕ A} {fa : A} (pk : Nat → β → V) (l : List α) (d : α) (f : β → α → β) (last : β → A) (ok : Nat → β → Prop) (hn : l.length < 4611686018427387904)
    (h : ∀ i b, i < l.length → ok i b → ss (pk i b) = .inl (pk (i + 1) (f b (l.getD i d))) ∧ ok (i + 1) (f b (l.getD i d))) (hl : ∀ b, ok l.length b → ss (pk l.length b) = .inr (last b)) {b : β} (h0 : ok 0 b) : itX ss fa (pk 0 b) = last (l.foldl f b) := by
  rw [itX_eq]
  have key : ∀ k N i b, i + k = l.length → k < N → ok i b → itN ss fa N (pk i b) = last ((l.drop i).foldl f b) := by
    intro k
    induction k with
    | zero =>
      intro N i b hi hN ho
      obtain ⟨M, rfl⟩ : ∃ M, N = M + 1 := ⟨N - 1, by omega⟩
      obtain rfl : i = l.length := by omega
      rw [itN_one, hl b ho, List.drop_length]; rfl
    | succ k ih =>
      intro N i b hi hN ho
      obtain ⟨M, rfl⟩ : ∃ M, N = M + 1 := ⟨N - 1, by omega⟩
      have hlt : i < l.length := by omega
      obtain ⟨h1, h2⟩ := h i b hlt ho
      rw [itN_one, h1]
      simp only
      rw [ih M (i + 1) _ (by omega) (by omega) h2, List.drop_eq_getElem_cons hlt, List.foldl_cons]
      simp [List.getD_eq_getElem?_getD, hlt]
  have := key l.length _ 0 b (by omega) hn h0
  simpa using this
theorem delL_len (l : LBBe) (k : ByteArray) : (delL l k).length ≤ l.length := List.length_filter_le _ _
theorem findIdx_le' {α : Type} (p : α → Bool) (l : List α) : l.findIdx p ≤ l.length := List.findIdx_le_length
theorem putL_len (l : LBBe) (k v : ByteArray) : (putL l k v).length ≤ l.length + 1 := by
  simp only [putL]
  cases decide (l.findIdx (isK k) < l.length)
  · have := findIdx_le' (overK k) l
    simp only [cond_false, List.length_append, List.length_take, List.length_cons, List.length_drop]; omega
  · simp
theorem appL_len (l : LBBe) (o : Int × ByteArray × ByteArray) : (appL l o).length ≤ l.length + 1 := by
  simp only [appL]
  cases o.1 == 1
  · cases o.1 == 2
    · simp
    · have := delL_len l o.2.1; simp only [cond_true, cond_false]; omega
  · exact putL_len _ _ _
theorem sPutKey_spec (l : LBBe) (k v : ByteArray) (hl : l.length ≤ 1099511627776) : q_sPutKey l k v = true ∧ sPutKey l k v = putL l k v := by
  have hlt : ∀ i : Nat, i < l.length → decide ((i : Int) < ((l.length : Nat) : Int)) = true ∧ decide (0 ≤ (i : Int) ∧ (i : Int) < ((l.length : Nat) : Int)) = true := fun i hi => ⟨decide_eq_true (by omega), decide_eq_true (by omega)⟩
  have hge : decide (((l.length : Nat) : Int) < ((l.length : Nat) : Int)) = false := decide_eq_false (by omega)
  have e0 : it_sPutKey_0 l k v 0 l = cond (decide (l.findIdx (isK k) < l.length)) (0, l.set (l.findIdx (isK k)) ((l.getD (l.findIdx (isK k)) dP).1, v), ([] : LBBe), (⟨#[]⟩ : ByteArray), (⟨#[]⟩ : ByteArray)) (1, ([] : LBBe), l, k, v) := by
    refine itX_find (ss := fun v : V_sPutKey_0 => ss_sPutKey_0 v.1 v.2.1 v.2.2.1 v.2.2.2.1 v.2.2.2.2) (fa := fl_sPutKey_0) (fun i => ((l, k, v, (i : Int), l) : V_sPutKey_0)) l dP (isK k) (fun i => ((0, l.set i ((l.getD i dP).1, v), [], ⟨#[]⟩, ⟨#[]⟩) : A_sPutKey_0)) _ (by omega) (fun i hi => ?_) ?_
    · obtain ⟨h1, h2⟩ := hlt i hi
      simp only [ss_sPutKey_0, h1, h2, cond_true, Int.toNat_natCast, wrapU i (by omega), getD_dP]
      rfl
    · simp only [ss_sPutKey_0, hge, cond_false]
  have e1 : it_sPutKey_1 l k v 0 = (0, l, k, v, ((l.findIdx (overK k) : Nat) : Int)) := by
    have h := itX_find (ss := fun v : V_sPutKey_1 => ss_sPutKey_1 v.1 v.2.1 v.2.2.1 v.2.2.2) (fa := fl_sPutKey_1) (fun i => ((l, k, v, (i : Int)) : V_sPutKey_1)) l dP (overK k) (fun i => (0, l, k, v, (i : Int))) (0, l, k, v, ((l.length : Nat) : Int)) (by omega) (fun i hi => ?_) ?_
    · refine h.trans ?_
      by_cases hc : l.findIdx (overK k) < l.length
      · rw [decide_eq_true hc]; rfl
      · have := findIdx_le' (overK k) l
        have he : l.findIdx (overK k) = l.length := by omega
        rw [decide_eq_false hc, he]; rfl
    · obtain ⟨h1, h2⟩ := hlt i hi
      simp only [ss_sPutKey_1, h1, h2, cond_true, Int.toNat_natCast, wrapU i (by omega), getD_dP, overK]
      cases (Op.bytesLess (l.getD i dP).1.toList k.toList || (l.getD i dP).1.toList == k.toList) <;> rfl
    · simp only [ss_sPutKey_1, hge, cond_false]
  have hle := findIdx_le' (overK k) l
  simp only [q_sPutKey, sPutKey, k1_sPutKey, List.nil_append, e0]
  cases hc : decide (l.findIdx (isK k) < l.length) with
  | true =>
    simp only [cond_true, putL, hc]
    refine ⟨?_, rfl⟩
    have e : decide ((([] : LBBe).length + l.length) * 32 ≤ MAXB) = true := decide_eq_true (by simp [MAXB]; omega)
    rw [e]; rfl
  | false =>
    have f1 : ((1 : Nat) == 0) = false := rfl
    have f2 : ((1 : Nat) == 1) = true := rfl
    have f3 : ((0 : Nat) == 0) = true := rfl
    simp only [cond_false, f1, f2, f3, e1, putL, hc, Int.toNat_natCast, Bool.true_and, Int.toNat_zero, List.drop_zero, List.take_length]
    refine ⟨?_, by rw [List.append_assoc]; rfl⟩
    simp only [Bool.and_eq_true, decide_eq_true_eq, MAXB, List.length_nil, List.length_take, List.length_append, List.length_cons, List.length_drop]
    refine ⟨decide_eq_true (by omega), ?_, ?_, ?_, ?_, ?_⟩ <;> omega
theorem sDelKey_spec (l : LBBe) (k : ByteArray) (hl : l.length ≤ 1099511627776) : q_sDelKey l k = true ∧ sDelKey l k = delL l k := by
  have h : it_sDelKey_0 l k 0 [] = (0, delL l k) := by
    refine itX_of (fun v : V_sDelKey_0 => ∃ i : Nat, v = (l, k, (i : Int), (l.take i).filter (fun p => !isK k p)) ∧ i ≤ l.length) (fun v => (0, v.2.2.2 ++ (l.drop v.2.2.1.toNat).filter (fun p => !isK k p))) (fun v => l.length - v.2.2.1.toNat) (fun v hv => ?_) ⟨0, rfl, by omega⟩ (by simp; omega)
    obtain ⟨i, rfl, hi⟩ := hv
    by_cases hlt : i < l.length
    · left
      have h1 : decide ((i : Int) < ((l.length : Nat) : Int)) = true := decide_eq_true (by omega)
      have h2 : decide (0 ≤ (i : Int) ∧ (i : Int) < ((l.length : Nat) : Int)) = true := decide_eq_true (by omega)
      have hfl := List.length_filter_le (fun p => !isK k p) (l.take i)
      rw [List.length_take] at hfl
      have h3 : ∀ x : ByteArray × ByteArray, decide ((((l.take i).filter (fun p => !isK k p)).length + [x].length) * 32 ≤ MAXB) = true := fun x => decide_eq_true (by simp only [MAXB, List.length_singleton]; omega)
      have hd : l.drop i = l.getD i dP :: l.drop (i + 1) := by rw [List.drop_eq_getElem_cons hlt]; simp [List.getD_eq_getElem?_getD, hlt]
      have ht : l.take (i + 1) = l.take i ++ [l.getD i dP] := take_succ_getD hlt dP
      refine ⟨(l, k, ((i + 1 : Nat) : Int), (l.take (i + 1)).filter (fun p => !isK k p)), ?_, ⟨i + 1, rfl, by omega⟩, ?_, by simp only [Int.toNat_natCast]; omega⟩
      · simp only [ss_sDelKey_0, h1, h2, h3, cond_true, Int.toNat_natCast, wrapU i (by omega), getD_dP, ht, List.filter_append, List.filter_cons, List.filter_nil]
        show cond (!isK k (l.getD i dP)) _ _ = _
        cases isK k (l.getD i dP) <;> simp
      · simp only [Int.toNat_natCast, ht, hd, List.filter_append, List.filter_cons, List.filter_nil]
        cases isK k (l.getD i dP) <;> simp
    · right
      obtain rfl : i = l.length := by omega
      have h1 : decide (((l.length : Nat) : Int) < ((l.length : Nat) : Int)) = false := decide_eq_false (by omega)
      simp only [ss_sDelKey_0, h1, cond_false, Int.toNat_natCast, List.drop_length, List.filter_nil, List.append_nil]
  exact ⟨by simp only [q_sDelKey, h]; rfl, by simp only [sDelKey, h]⟩
theorem sApply_spec (m : LBBe) (l : LIBBe) (hm : m.length ≤ 1000000000) (hl : l.length ≤ 1000000000) : q_sApply m l = true ∧ sApply m l = l.foldl appL m := by
  have h : it_sApply_0 l 0 m = (0, l.foldl appL m) := by
    refine itX_fold (ss := fun v : V_sApply_0 => ss_sApply_0 v.1 v.2.1 v.2.2) (fa := fl_sApply_0) (fun i b => ((l, (i : Int), b) : V_sApply_0)) l dOp appL (fun b => ((0, b) : A_sApply_0)) (fun i b => b.length ≤ m.length + i) (by omega) (fun i b hi hb => ⟨?_, by have := appL_len b (l.getD i dOp); omega⟩) (fun b hb => ?_) (by simp)
    · have h1 : decide ((i : Int) < ((l.length : Nat) : Int)) = true := decide_eq_true (by omega)
      have h2 : decide (0 ≤ (i : Int) ∧ (i : Int) < ((l.length : Nat) : Int)) = true := decide_eq_true (by omega)
      have e : l.getD i ((0 : Int), ((⟨#[]⟩ : ByteArray), (⟨#[]⟩ : ByteArray))) = l.getD i dOp := rfl
      obtain ⟨p1, p2⟩ := sPutKey_spec b (l.getD i dOp).2.1 (l.getD i dOp).2.2 (by omega)
      obtain ⟨d1, d2⟩ := sDelKey_spec b (l.getD i dOp).2.1 (by omega)
      simp only [ss_sApply_0, h1, h2, cond_true, Int.toNat_natCast, wrapU i (by omega), e, k1_sApply, k2_sApply, p1, p2, d1, d2, appL]
      cases (l.getD i dOp).1 == 1 <;> cases (l.getD i dOp).1 == 2 <;> rfl
    · have h1 : decide (((l.length : Nat) : Int) < ((l.length : Nat) : Int)) = false := decide_eq_false (by omega)
      simp only [ss_sApply_0, h1, cond_false]
  have hq : decide ((([] : LBBe).length + m.length) * 32 ≤ MAXB) = true := decide_eq_true (by simp [MAXB]; omega)
  simp only [q_sApply, sApply, List.nil_append, h, hq]
  exact ⟨rfl, trivial⟩
theorem one_spec (r : RecD) (m : List PairD) (held : List RecD) (seen : List Int) (hr : okOps r.2.2 = true) (hm : m.length ≤ 1000) (hh : held.length ≤ 1048576) (ho : ∀ x ∈ held, okOps x.2.2 = true) (hs : seen.length ≤ 1048576) :
    q_sl8One_w1 r.1 r.2.1 r.2.2 m held seen = true ∧ (match stepL (decide (r.2.1 ∈ seen)) m held r with
      | none => (sl8One_w1 r.1 r.2.1 r.2.2 m held seen).1 = false
      | some (m', h') => ∃ s', sl8One_w1 r.1 r.2.1 r.2.2 m held seen = (true, m', h', s') ∧ (s' = seen ++ [r.2.1] ∨ s' = seen ∧ held.any (isTx r.2.1) = true)) := by
  have a1 := (l8At_spec held r.2.1 (by omega)).1
  have a2 := l8At_neg held r.2.1 (by omega)
  have hl := okOps_len hr
  obtain ⟨b1, b2⟩ := l7Has_spec hs r.2.1
  obtain ⟨c1, c2⟩ := locked_spec held r.2.2 (by omega) (fun x hx => okOps_len (ho x hx)) hl
  obtain ⟨d1, d2⟩ := sMeets_spec m r.2.2 (by omega) hl
  have f1 : decide ((held.length + [(r.1, (r.2.1, r.2.2))].length) * 40 ≤ MAXB) = true := decide_eq_true (by simp only [List.length_singleton, MAXB]; omega)
  have f2 : decide ((seen.length + [r.2.1].length) * 8 ≤ MAXB) = true := decide_eq_true (by simp only [List.length_singleton, MAXB]; omega)
  have f3 : q_sl8CopyRec r.1 r.2.1 r.2.2 = true := decide_eq_true (by simp only [List.length_nil, MAXB]; omega)
  have f4 : sl8CopyRec r.1 r.2.1 r.2.2 = (r.1, r.2.1, r.2.2) := rfl
  have g0 : q_sRecOk r.1 r.2.1 r.2.2 = true := hr
  simp only [q_sl8One_w1, sl8One_w1, stepL, a1, a2, b1, b2, c1, c2, d1, d2, f2, f3, f4, g0, Bool.true_and, Bool.and_true]
  cases hok : sRecOk r.1 r.2.1 r.2.2 with
  | false => exact ⟨rfl, rfl⟩
  | true =>
    simp only [Bool.not_true, cond_false]
    cases hk : (r.1 == 1) with
    | true =>
      have hk1 : r.1 = 1 := by simpa using hk
      simp only [cond_true]
      cases decide (r.2.1 ∈ seen) with
      | true => exact ⟨rfl, rfl⟩
      | false =>
        cases lockedL held r.2.2 with
        | true => exact ⟨rfl, rfl⟩
        | false =>
          cases meetsL m r.2.2 with
          | false => exact ⟨rfl, rfl⟩
          | true => exact ⟨f1, _, by rw [hk1]; rfl, .inl rfl⟩
    | false =>
      simp only [cond_false]
      cases ha : held.any (isTx r.2.1) with
      | false =>
        simp only [Bool.not_false, cond_true]
        cases (r.1 == 3) with
        | false => exact ⟨rfl, rfl⟩
        | true => cases decide (r.2.1 ∈ seen) with
          | true => exact ⟨rfl, rfl⟩
          | false => exact ⟨rfl, _, rfl, .inl rfl⟩
      | true =>
        have hlt := List.findIdx_lt_length.2 (List.any_eq_true.1 ha)
        have e1 : sl8At held r.2.1 = ((held.findIdx (isTx r.2.1) : Nat) : Int) := by rw [(l8At_spec held r.2.1 (by omega)).2, decide_eq_true hlt]; rfl
        generalize hi : held.findIdx (isTx r.2.1) = i at hlt e1 ⊢
        have e2 := wrapU i (by omega)
        have e3 := drop_take_all held (i + 1)
        have e4 : [] ++ held.take i ++ held.drop (i + 1) = held.eraseIdx i := by rw [List.nil_append, List.eraseIdx_eq_take_drop_succ]
        have q0 : decide (0 ≤ (i : Int) ∧ (i : Int) < ((held.length : Nat) : Int)) = true := decide_eq_true (by omega)
        have q1 : decide (0 ≤ (0 : Int) ∧ (0 : Int) ≤ (i : Int) ∧ (i : Int) ≤ ((held.length : Nat) : Int)) = true := decide_eq_true (by omega)
        have q2 : decide (0 ≤ ((i + 1 : Nat) : Int) ∧ ((i + 1 : Nat) : Int) ≤ ((held.length : Nat) : Int) ∧ ((held.length : Nat) : Int) ≤ ((held.length : Nat) : Int)) = true := decide_eq_true (by omega)
        have q3 : decide ((([] : List RecD).length + (held.take i).length) * 40 ≤ MAXB) = true := decide_eq_true (by simp only [List.length_nil, List.length_take, MAXB]; omega)
        have q4 : decide ((([] ++ held.take i).length + (held.drop (i + 1)).length) * 40 ≤ MAXB) = true := decide_eq_true (by simp only [List.nil_append, List.length_drop, List.length_take, MAXB]; omega)
        obtain ⟨s1, s2⟩ := sApply_spec m (held.getD i dRec).2.2 (by omega) (by have := okOps_len (ho _ (getD_mem hlt dRec)); omega)
        simp only [Bool.not_true, cond_false, e1, e2, Int.toNat_natCast, e3, e4, q0, q1, q2, q3, q4, getD_dR, s1, s2, Bool.true_and, Bool.and_true]
        cases (r.1 == 2) with
        | true =>
          simp only [cond_true]
          refine ⟨trivial, ?_⟩
          cases decide (((((held.getD i dRec).2.2.foldl appL m).length : Nat) : Int) ≤ 60) with
          | true => exact ⟨_, rfl, .inr ⟨rfl, trivial⟩⟩
          | false => rfl
        | false =>
          simp only [cond_false]
          refine ⟨trivial, ?_⟩
          cases decide (((m.length : Nat) : Int) ≤ 60) with
          | true => exact ⟨_, rfl, .inr ⟨rfl, trivial⟩⟩
          | false => rfl
theorem repL_none {l : List RecD} {i : Nat} (h : repL l i = none) : ∀ k, repL l (i + k) = none := by
  intro k
  induction k with
  | zero => exact h
  | succ k ih => rw [Nat.add_succ]; simp only [repL, ih, Option.bind_none]
theorem rep_stop {l : List RecD} {i : Nat} (hi : i < l.length) {m : List PairD} {held : List RecD} (hp : repL l i = some (m, held)) (hs : stepL ((l.take i).any (isTx (l.getD i dRec).2.1)) m held (l.getD i dRec) = none) : repL l l.length = none := by
  have h1 : repL l (i + 1) = none := by simp only [repL, hp, Option.bind_some]; exact hs
  have := repL_none h1 (l.length - (i + 1))
  rwa [show i + 1 + (l.length - (i + 1)) = l.length by omega] at this
theorem sReplay_spec (l : List RecD) (hl : l.length ≤ 1048576) (hr : ∀ x ∈ l, okOps x.2.2 = true) : q_sReplayRecs l = true ∧ sReplayRecs l = repOut l := by
  have key : ((k2_sReplayRecs l).1 = 0 ∧ (k2_sReplayRecs l).2.1 = false ∧ (k2_sReplayRecs l).2.2.1 = [] ∧ (k2_sReplayRecs l).2.2.2.1 = [] ∧ repL l l.length = none) ∨ ((k2_sReplayRecs l).1 = 1 ∧ repL l l.length = some ((k2_sReplayRecs l).2.2.2.2.1, (k2_sReplayRecs l).2.2.2.2.2.1)) := by
    refine itX_inv (ss := fun v : V_sReplayRecs_0 => ss_sReplayRecs_0 v.1 v.2.1 v.2.2.1 v.2.2.2.1 v.2.2.2.2) (fa := fl_sReplayRecs_0)
      (fun v => ∃ (i : Nat) (m : List PairD) (held : List RecD) (seen : List Int), v = (l, (i : Int), m, held, seen) ∧ i ≤ l.length ∧ repL l i = some (m, held) ∧ seen.length ≤ i ∧ ∀ t, t ∈ seen ↔ (l.take i).any (isTx t) = true)
      (fun a : A_sReplayRecs_0 => (a.1 = 0 ∧ a.2.1 = false ∧ a.2.2.1 = [] ∧ a.2.2.2.1 = [] ∧ repL l l.length = none) ∨ (a.1 = 1 ∧ repL l l.length = some (a.2.2.2.2.1, a.2.2.2.2.2.1))) (fun v => l.length - v.2.1.toNat) ?_ ⟨0, [], [], [], rfl, Nat.zero_le _, rfl, by simp, by simp⟩ (by simp; omega)
    rintro v ⟨i, m, held, seen, rfl, hi, hp, hs, hse⟩
    by_cases hlt : i < l.length
    · have e1 : decide ((i : Int) < ((l.length : Nat) : Int)) = true := decide_eq_true (by omega)
      have e2 : decide (0 ≤ (i : Int) ∧ (i : Int) < ((l.length : Nat) : Int)) = true := decide_eq_true (by omega)
      have I := rep_ok hr i hi m held hp
      have o := one_spec (l.getD i dRec) m held seen (hr _ (getD_mem hlt dRec)) (by have := I.hml; omega) (by have := I.hlen; omega) (fun x hx => (I.hmem x hx).1) (by omega)
      have hkn : decide ((l.getD i dRec).2.1 ∈ seen) = (l.take i).any (isTx (l.getD i dRec).2.1) := by
        cases hc : (l.take i).any (isTx (l.getD i dRec).2.1) with
        | true => exact decide_eq_true ((hse _).2 hc)
        | false => exact decide_eq_false (fun h => by rw [(hse _).1 h] at hc; cases hc)
      rw [hkn] at o
      obtain ⟨o1, o2⟩ := o
      simp only [ss_sReplayRecs_0, k1_sReplayRecs, e1, e2, cond_true, Int.toNat_natCast, getD_dR, o1, wrapU i (by omega)]
      cases hst : stepL ((l.take i).any (isTx (l.getD i dRec).2.1)) m held (l.getD i dRec) with
      | none =>
        rw [hst] at o2
        simp only [o2, Bool.not_false, cond_true]
        exact .inr ⟨_, rfl, .inl ⟨rfl, rfl, rfl, rfl, rep_stop hlt hp hst⟩⟩
      | some s =>
        obtain ⟨m', h'⟩ := s
        rw [hst] at o2
        obtain ⟨s', o3, o4⟩ := o2
        simp only [o3, Bool.not_true, cond_false]
        refine .inl ⟨_, rfl, ⟨i + 1, m', h', s', rfl, by omega, by simp only [repL, hp, Option.bind_some]; exact hst, ?_, fun t => ?_⟩, by simp only [Int.toNat_natCast]; omega⟩
        · rcases o4 with rfl | ⟨rfl, _⟩
          · rw [List.length_append]; simp; omega
          · omega
        · rw [take_succ_getD hlt dRec, List.any_append, Bool.or_eq_true]
          have hone : ([l.getD i dRec].any (isTx t) = true) ↔ (l.getD i dRec).2.1 = t := by simp [isTx]
          rw [hone]
          rcases o4 with rfl | ⟨rfl, hany⟩
          · rw [List.mem_append, hse t, List.mem_singleton]
            exact or_congr Iff.rfl eq_comm
          · rw [hse t]
            refine ⟨.inl, ?_⟩
            rintro (h | h)
            · exact h
            · subst h
              obtain ⟨x, hx1, hx2⟩ := List.any_eq_true.1 hany
              have := (I.hmem x hx1).2
              rw [show x.2.1 = (l.getD i dRec).2.1 from beq_iff_eq.1 hx2] at this
              exact this
    · obtain rfl : i = l.length := by omega
      have e1 : decide ((l.length : Int) < ((l.length : Nat) : Int)) = false := decide_eq_false (by omega)
      simp only [ss_sReplayRecs_0, e1, cond_false]
      exact .inr ⟨_, rfl, .inr ⟨rfl, hp⟩⟩
  simp only [q_sReplayRecs, sReplayRecs, repOut]
  rcases key with ⟨h1, h2, h3, h4, h5⟩ | ⟨h1, h2⟩
  · rw [h1, h2, h3, h4, h5]; exact ⟨rfl, rfl⟩
  · rw [h1, h2]; exact ⟨rfl, rfl⟩
theorem okRecS_ops {l : List RecD} (h : okRecS l) : ∀ x ∈ l, okOps x.2.2 = true := fun x hx => h.2 x hx
theorem keyAt_same (s : ByteArray) (i : Nat) : sKeyAt s i = iKeyAt s i := by
  have hb : 0 ≤ bt s (i : Int) ∧ bt s (i : Int) < 256 := by
    unfold bt
    split
    · have := UInt8.toNat_lt s[(i : Int).toNat]; omega
    · simp
  have e := wrap64 (n := bt s (i : Int)) (by omega) (by omega)
  simp only [sKeyAt, iKeyAt, sl1In, iisKeyByte, e]
  generalize bt s (i : Int) = c
  by_cases h1 : c ≥ 97 <;> by_cases h2 : c ≤ 122 <;> by_cases h3 : c ≥ 48 <;> by_cases h4 : c ≤ 57 <;> simp [h1, h2, h3, h4]
theorem keyOk_same (s : ByteArray) : sKeyOk s = iKeyOk s := by
  have e : allF (sKeyAt s) (s.size - (0 : Int).toNat) (0 : Int).toNat = allF (iKeyAt s) (s.size - (0 : Int).toNat) (0 : Int).toNat := allF_congr _ _ (fun j _ _ => keyAt_same s j)
  simp only [sKeyOk, iKeyOk, iisWord, iinRange, sl1In, e]
  cases allF (iKeyAt s) (s.size - (0 : Int).toNat) (0 : Int).toNat <;> cases decide (((s.size : Nat) : Int) ≥ 1) <;> cases decide (((s.size : Nat) : Int) ≤ 12) <;> rfl
theorem opOk_same (k : Int) (s v : ByteArray) : sl7Op k s v = iopOk k s v := by
  simp only [sl7Op, iopOk, keyOk_same, ba_beq, sl1In]
  cases iKeyOk s with
  | false =>
    by_cases h1 : k = 1 <;> by_cases h2 : k = 2 <;> by_cases h3 : k = 3 <;> by_cases h4 : v = ⟨#[]⟩ <;> by_cases h5 : k ≥ 1 <;> by_cases h6 : k ≤ 3 <;> simp [h1, h2, h3, h4, h5, h6] <;> omega
  | true =>
    by_cases h2 : k = 2
    · subst h2
      by_cases h4 : v = ⟨#[]⟩
      · subst h4; simp [ByteArray.size]
      · simp [h4]
    · by_cases h1 : k = 1
      · subst h1; simp
      · by_cases h3 : k = 3
        · subst h3; simp
        · by_cases h5 : k ≥ 1 <;> by_cases h6 : k ≤ 3 <;> simp [h1, h2, h3, h5, h6] <;> omega
theorem opAt_same (l : LIBBe) (i : Nat) : sOpAt l i = iOpAt l i := by
  simp only [sOpAt, iOpAt, opOk_same]
  rw [← bytesLess_ge, Bool.not_not]
theorem opsOk_same (l : LIBBe) : sOpsOk l = iOpsOk l := by
  have e : allF (sOpAt l) (l.length - (0 : Int).toNat) (0 : Int).toNat = allF (iOpAt l) (l.length - (0 : Int).toNat) (0 : Int).toNat := allF_congr _ _ (fun j _ _ => opAt_same l j)
  simp only [sOpsOk, iOpsOk, e]
  rfl
theorem recOk_same (k t : Int) (l : LIBBe) : sRecOk k t l = iRecOk k t l := by
  simp only [sRecOk, iRecOk, iisTx, opsOk_same]
  rw [show iinRange t 1 1000000 = sl1In t 1 1000000 from rfl]
  cases sl1In t 1 1000000 <;> simp
theorem recAt_spec (l : List RecD) (t : Int) (hl : l.length ≤ 1099511627776) : q_irecAt l t = true ∧ irecAt l t = cond (decide (l.reverse.findIdx (isTx t) < l.length)) (((l.length : Nat) : Int) - 1 - ((l.reverse.findIdx (isTx t) : Nat) : Int)) (-1) := by
  have e0 := wrap64 (n := ((l.length : Nat) : Int) - 1) (by omega) (by omega)
  have e : it_irecAt_0 l t (((l.length : Nat) : Int) - 1) = cond (decide (l.reverse.findIdx (isTx t) < l.reverse.length)) (0, ((l.length : Nat) : Int) - 1 - ((l.reverse.findIdx (isTx t) : Nat) : Int)) (1, 0) := by
    have := itX_find (ss := fun v : V_irecAt_0 => ss_irecAt_0 v.1 v.2.1 v.2.2) (fa := fl_irecAt_0) (fun i => ((l, t, ((l.length : Nat) : Int) - 1 - (i : Int)) : V_irecAt_0)) l.reverse dRec (isTx t) (fun i => ((0, ((l.length : Nat) : Int) - 1 - (i : Int)) : A_irecAt_0)) (1, 0) (by rw [List.length_reverse]; omega) (fun i hi => by
      rw [List.length_reverse] at hi
      have h1 : decide (((l.length : Nat) : Int) - 1 - (i : Int) ≥ 0) = true := decide_eq_true (by omega)
      have h2 : decide (0 ≤ ((l.length : Nat) : Int) - 1 - (i : Int) ∧ ((l.length : Nat) : Int) - 1 - (i : Int) < ((l.length : Nat) : Int)) = true := decide_eq_true (by omega)
      have h3 : (((l.length : Nat) : Int) - 1 - (i : Int)).toNat = l.length - 1 - i := by omega
      have h4 : l.reverse.getD i dRec = l.getD (l.length - 1 - i) dRec := by
        simp only [List.getD_eq_getElem?_getD]
        rw [List.getElem?_reverse hi]
      have h6 : ((l.length : Nat) : Int) - 1 - (i : Int) - 1 = ((l.length : Nat) : Int) - 1 - ((i + 1 : Nat) : Int) := by omega
      have h5 := wrap64 (n := ((l.length : Nat) : Int) - 1 - ((i + 1 : Nat) : Int)) (by omega) (by omega)
      simp only [ss_irecAt_0, h1, h2, cond_true, h3, h5, getD_dR, h4, isTx, h6]) (by
      rw [List.length_reverse]
      have h1 : decide (((l.length : Nat) : Int) - 1 - ((l.length : Nat) : Int) ≥ 0) = false := decide_eq_false (by omega)
      simp only [ss_irecAt_0, h1, cond_false])
    have e2 : it_irecAt_0 l t (((l.length : Nat) : Int) - 1) = itX (fun v : V_irecAt_0 => ss_irecAt_0 v.1 v.2.1 v.2.2) fl_irecAt_0 (l, t, ((l.length : Nat) : Int) - 1 - ((0 : Nat) : Int)) := by
      rw [show ((l.length : Nat) : Int) - 1 - ((0 : Nat) : Int) = ((l.length : Nat) : Int) - 1 by omega]; rfl
    exact e2.trans this
  rw [List.length_reverse] at e
  simp only [q_irecAt, irecAt, e0, e]
  cases decide (l.reverse.findIdx (isTx t) < l.length) <;> exact ⟨rfl, rfl⟩
theorem recAt_neg (l : List RecD) (t : Int) (hl : l.length ≤ 1099511627776) : decide (irecAt l t < 0) = !(l.any (isTx t)) ∧ decide (irecAt l t ≥ 0) = l.any (isTx t) := by
  rw [(recAt_spec l t hl).2]
  cases ha : l.any (isTx t) with
  | true =>
    have : l.reverse.findIdx (isTx t) < l.length := by
      rw [← List.length_reverse]
      refine List.findIdx_lt_length.2 ?_
      obtain ⟨x, hx, hp⟩ := List.any_eq_true.1 ha
      exact ⟨x, List.mem_reverse.2 hx, hp⟩
    rw [decide_eq_true this]
    exact ⟨decide_eq_false (by simp only [cond_true]; omega), decide_eq_true (by simp only [cond_true]; omega)⟩
  | false =>
    have : ¬ l.reverse.findIdx (isTx t) < l.length := by
      intro hc
      rw [← List.length_reverse] at hc
      obtain ⟨x, hx, hp⟩ := List.findIdx_lt_length.1 hc
      rw [List.any_eq_true.2 ⟨x, List.mem_reverse.1 hx, hp⟩] at ha
      cases ha
    rw [decide_eq_false this]
    exact ⟨rfl, rfl⟩
theorem toList_comm (a b : ByteArray) : (a.toList == b.toList) = (b.toList == a.toList) := by
  rw [ba_beq, ba_beq]; exact decide_eq_decide.2 eq_comm
theorem held_in (ops l : LIBBe) (held : List RecD) (n i k : Int) (m : Int) (o : Int × ByteArray × ByteArray) (ho : ops.length ≤ 1048576) :
    it_iisHeldKey_2 ops held n i l m k ops ((ops.length : Nat) : Int) 0 o.1 o.2.1 o.2.2 = cond (keyAny o.2.1 ops) (0, true, [], [], 0, 0, [], 0, 0) (1, false, ops, held, n, i, l, m, k) := by
  refine itX_any (ss := fun v : V_iisHeldKey_2 => ss_iisHeldKey_2 v.1 v.2.1 v.2.2.1 v.2.2.2.1 v.2.2.2.2.1 v.2.2.2.2.2.1 v.2.2.2.2.2.2.1 v.2.2.2.2.2.2.2.1 v.2.2.2.2.2.2.2.2.1 v.2.2.2.2.2.2.2.2.2 o.1 o.2.1 o.2.2) (fa := fl_iisHeldKey_2) (fun j => ((ops, held, n, i, l, m, k, ops, ((ops.length : Nat) : Int), (j : Int)) : V_iisHeldKey_2)) ops dOp (fun x => o.2.1.toList == x.2.1.toList) _ _ (by omega) (fun j hj => ?_) ?_
  · have h1 : decide ((j : Int) < ((ops.length : Nat) : Int)) = true := decide_eq_true (by omega)
    have h4 : decide (0 ≤ (j : Int) ∧ (j : Int) < ((ops.length : Nat) : Int)) = true := decide_eq_true (by omega)
    simp only [ss_iisHeldKey_2, getD_dO, Int.toNat_natCast, h1, h4, cond_true, wrapU j (by omega), toList_comm _ o.2.1]
  · have h1 : decide (((ops.length : Nat) : Int) < ((ops.length : Nat) : Int)) = false := decide_eq_false (by omega)
    simp only [ss_iisHeldKey_2, h1, cond_false]
theorem held_mid (ops l : LIBBe) (held : List RecD) (n i : Int) (hl : l.length ≤ 1048576) (ho : ops.length ≤ 1048576) :
    it_iisHeldKey_1 ops held n i l ((l.length : Nat) : Int) 0 = cond (keysAny l ops) (0, true, [], [], 0, 0) (1, false, ops, held, n, i) := by
  refine itX_any (ss := fun v : V_iisHeldKey_1 => ss_iisHeldKey_1 v.1 v.2.1 v.2.2.1 v.2.2.2.1 v.2.2.2.2.1 v.2.2.2.2.2.1 v.2.2.2.2.2.2) (fa := fl_iisHeldKey_1) (fun k => ((ops, held, n, i, l, ((l.length : Nat) : Int), (k : Int)) : V_iisHeldKey_1)) l dOp (fun o => keyAny o.2.1 ops) _ _ (by omega) (fun k hk => ?_) ?_
  · have h1 : decide ((k : Int) < ((l.length : Nat) : Int)) = true := decide_eq_true (by omega)
    have h2 : decide (0 ≤ (k : Int) ∧ (k : Int) < ((l.length : Nat) : Int)) = true := decide_eq_true (by omega)
    simp only [ss_iisHeldKey_1, k1_iisHeldKey, getD_dO, Int.toNat_natCast, h1, h2, cond_true, held_in ops l held n i (k : Int) ((l.length : Nat) : Int) (l.getD k dOp) ho]
    cases keyAny (l.getD k dOp).2.1 ops
    · simp only [cond_false, wrapU k (by omega)]; rfl
    · rfl
  · have h1 : decide (((l.length : Nat) : Int) < ((l.length : Nat) : Int)) = false := decide_eq_false (by omega)
    simp only [ss_iisHeldKey_1, h1, cond_false]
theorem heldKey_spec (held : List RecD) (ops : LIBBe) (hl : held.length ≤ 1099511627776) (hh : ∀ r ∈ held, r.2.2.length ≤ 1048576) (ho : ops.length ≤ 1048576) : q_iisHeldKey held ops = true ∧ iisHeldKey held ops = lockedL held ops := by
  have e : it_iisHeldKey_0 ops held ((held.length : Nat) : Int) 0 = cond (lockedL held ops) (0, true) (1, false) := by
    refine itX_any (ss := fun v : V_iisHeldKey_0 => ss_iisHeldKey_0 v.1 v.2.1 v.2.2.1 v.2.2.2) (fa := fl_iisHeldKey_0) (fun i => ((ops, held, ((held.length : Nat) : Int), (i : Int)) : V_iisHeldKey_0)) held dRec (fun r => keysAny r.2.2 ops) _ _ (by omega) (fun i hi => ?_) ?_
    · have h1 : decide ((i : Int) < ((held.length : Nat) : Int)) = true := decide_eq_true (by omega)
      have h2 : decide (0 ≤ (i : Int) ∧ (i : Int) < ((held.length : Nat) : Int)) = true := decide_eq_true (by omega)
      simp only [ss_iisHeldKey_0, k2_iisHeldKey, getD_dR, Int.toNat_natCast, h1, h2, cond_true, held_mid ops (held.getD i dRec).2.2 held ((held.length : Nat) : Int) (i : Int) (hh _ (getD_mem hi dRec)) ho]
      cases keysAny (held.getD i dRec).2.2 ops
      · simp only [cond_false, wrapU i (by omega)]; rfl
      · rfl
    · have h1 : decide (((held.length : Nat) : Int) < ((held.length : Nat) : Int)) = false := decide_eq_false (by omega)
      simp only [ss_iisHeldKey_0, h1, cond_false]
  simp only [q_iisHeldKey, iisHeldKey, e]
  cases lockedL held ops <;> exact ⟨rfl, rfl⟩
theorem pairAt_spec (l : LBBe) (k : ByteArray) (hl : l.length ≤ 1099511627776) : q_ipairAt l k = true ∧ ipairAt l k = cond (decide (l.findIdx (isK k) < l.length)) ((l.findIdx (isK k) : Nat) : Int) (-1) := by
  have e : it_slices_IndexFunc_iPair_ipairAt_1_0 l ((l.length : Nat) : Int) 0 k = cond (decide (l.findIdx (isK k) < l.length)) (0, ((l.findIdx (isK k) : Nat) : Int)) (1, 0) := by
    refine itX_find (ss := fun v : V_slices_IndexFunc_iPair_ipairAt_1_0 => ss_slices_IndexFunc_iPair_ipairAt_1_0 v.1 v.2.1 v.2.2 k) (fa := fl_slices_IndexFunc_iPair_ipairAt_1_0) (fun i => ((l, ((l.length : Nat) : Int), (i : Int)) : V_slices_IndexFunc_iPair_ipairAt_1_0)) l dP (isK k) (fun i => ((0, (i : Int)) : A_slices_IndexFunc_iPair_ipairAt_1_0)) _ (by omega) (fun i hi => ?_) ?_
    · have h1 : decide ((i : Int) < ((l.length : Nat) : Int)) = true := decide_eq_true (by omega)
      have h2 : decide (0 ≤ (i : Int) ∧ (i : Int) < ((l.length : Nat) : Int)) = true := decide_eq_true (by omega)
      simp only [ss_slices_IndexFunc_iPair_ipairAt_1_0, h1, h2, cond_true, Int.toNat_natCast, wrapU i (by omega), getD_dP, k1_slices_IndexFunc_iPair_ipairAt_1, ipairAt_1]
      rfl
    · have h1 : decide (((l.length : Nat) : Int) < ((l.length : Nat) : Int)) = false := decide_eq_false (by omega)
      simp only [ss_slices_IndexFunc_iPair_ipairAt_1_0, h1, cond_false]
  simp only [q_ipairAt, ipairAt, q_slices_IndexFunc_iPair_ipairAt_1, slices_IndexFunc_iPair_ipairAt_1, e]
  cases decide (l.findIdx (isK k) < l.length) <;> exact ⟨rfl, rfl⟩
theorem iGetKey_spec (l : LBBe) (k : ByteArray) (hl : l.length ≤ 1099511627776) : q_iGetKey l k = true ∧ iGetKey l k = (match getL l k with | some v => (v, true) | none => ((⟨#[]⟩ : ByteArray), false)) := by
  obtain ⟨p1, p2⟩ := pairAt_spec l k hl
  simp only [q_iGetKey, iGetKey, p1, p2, getL, find_idx (isK k) dP l, Bool.true_and]
  cases hc : decide (l.findIdx (isK k) < l.length) with
  | true =>
    have hlt := of_decide_eq_true hc
    have g1 : decide (((l.findIdx (isK k) : Nat) : Int) < 0) = false := decide_eq_false (by omega)
    have g2 : decide (0 ≤ ((l.findIdx (isK k) : Nat) : Int) ∧ ((l.findIdx (isK k) : Nat) : Int) < ((l.length : Nat) : Int)) = true := decide_eq_true (by omega)
    simp only [cond_true, g1, g2, cond_false, Int.toNat_natCast]
    exact ⟨trivial, rfl⟩
  | false => exact ⟨rfl, rfl⟩
theorem getKey_same (m : LBBe) (k : ByteArray) (hm : m.length ≤ 1099511627776) : iGetKey m k = sGetKey m k := by
  rw [(sGetKey_spec m k hm).2, (iGetKey_spec m k hm).2]
  all_goals (cases getL m k <;> rfl)
theorem iMeets_spec (m : LBBe) (ops : LIBBe) (hm : m.length ≤ 1099511627776) (ho : ops.length ≤ 1048576) : q_iMeets m ops = true ∧ iMeets m ops = meetsL m ops := by
  have e : it_iMeets_0 m ops ((ops.length : Nat) : Int) 0 = cond (ops.any (misses m)) (0, false) (1, false) := by
    refine itX_any (ss := fun v : V_iMeets_0 => ss_iMeets_0 v.1 v.2.1 v.2.2.1 v.2.2.2) (fa := fl_iMeets_0) (fun i => ((m, ops, ((ops.length : Nat) : Int), (i : Int)) : V_iMeets_0)) ops dOp (misses m) _ _ (by omega) (fun i hi => ?_) ?_
    · have h1 : decide ((i : Int) < ((ops.length : Nat) : Int)) = true := decide_eq_true (by omega)
      have h2 : decide (0 ≤ (i : Int) ∧ (i : Int) < ((ops.length : Nat) : Int)) = true := decide_eq_true (by omega)
      simp only [ss_iMeets_0, k1_iMeets, getD_dO, Int.toNat_natCast, h1, h2, cond_true, wrapU i (by omega), (iGetKey_spec m _ hm).1, getKey_same m _ hm, misses]
      generalize ((ops.getD i dOp).1 != 3) = a
      generalize (!((sGetKey m (ops.getD i dOp).2.1).2 == (!((ops.getD i dOp).2.2.toList == (⟨#[]⟩ : ByteArray).toList)))) = b
      generalize (!((sGetKey m (ops.getD i dOp).2.1).1.toList == (ops.getD i dOp).2.2.toList)) = c
      cases a <;> cases b <;> cases c <;> rfl
    · have h1 : decide (((ops.length : Nat) : Int) < ((ops.length : Nat) : Int)) = false := decide_eq_false (by omega)
      simp only [ss_iMeets_0, h1, cond_false]
  simp only [q_iMeets, iMeets, e, meetsL]
  cases ops.any (misses m) <;> exact ⟨rfl, rfl⟩
theorem oneTx_eq {l : List RecD} (h : oneTx l) {i j : Nat} (hi : i < l.length) (hj : j < l.length) (e : (l.getD i dRec).2.1 = (l.getD j dRec).2.1) : i = j := by
  have hg : ∀ k (hk : k < l.length), (l.getD k dRec).2.1 = (l.map (·.2.1))[k]'(by simpa using hk) := fun k hk => by simp [List.getD_eq_getElem?_getD, hk]
  rw [hg i hi, hg j hj] at e
  exact (List.getElem_inj h).1 e
/-- Where there is one alone, its place is found from both sides. -/
theorem at_same {l : List RecD} (h : oneTx l) (t : Int) (hl : l.length ≤ 1099511627776) (ha : l.any (isTx t) = true) : sl8At l t = ((l.findIdx (isTx t) : Nat) : Int) ∧ irecAt l t = ((l.findIdx (isTx t) : Nat) : Int) ∧ l.findIdx (isTx t) < l.length ∧ (l.getD (l.findIdx (isTx t)) dRec).2.1 = t := by
  have h1 := List.findIdx_lt_length.2 (List.any_eq_true.1 ha)
  have h2 : l.reverse.findIdx (isTx t) < l.length := by
    rw [← List.length_reverse]
    refine List.findIdx_lt_length.2 ?_
    obtain ⟨x, hx, hp⟩ := List.any_eq_true.1 ha
    exact ⟨x, List.mem_reverse.2 hx, hp⟩
  have p1 : isTx t (l.getD (l.findIdx (isTx t)) dRec) = true := by
    have := List.findIdx_getElem (w := h1)
    rw [List.getD_eq_getElem?_getD, List.getElem?_eq_getElem h1]; exact this
  have p2 : isTx t (l.getD (l.length - 1 - l.reverse.findIdx (isTx t)) dRec) = true := by
    have h3 : l.reverse.findIdx (isTx t) < l.reverse.length := by rw [List.length_reverse]; exact h2
    have := List.findIdx_getElem (w := h3)
    have e : l.reverse.getD (l.reverse.findIdx (isTx t)) dRec = l.getD (l.length - 1 - l.reverse.findIdx (isTx t)) dRec := by
      simp only [List.getD_eq_getElem?_getD]
      rw [List.getElem?_reverse h2]
    rw [← e, List.getD_eq_getElem?_getD, List.getElem?_eq_getElem h3]; exact this
  have p1' : (l.getD (l.findIdx (isTx t)) dRec).2.1 = t := beq_iff_eq.1 (show ((l.getD (l.findIdx (isTx t)) dRec).2.1 == t) = true from p1)
  have p2' : (l.getD (l.length - 1 - l.reverse.findIdx (isTx t)) dRec).2.1 = t := beq_iff_eq.1 (show ((l.getD (l.length - 1 - l.reverse.findIdx (isTx t)) dRec).2.1 == t) = true from p2)
  have hij := oneTx_eq h (i := l.findIdx (isTx t)) (j := l.length - 1 - l.reverse.findIdx (isTx t)) h1 (by omega) (by rw [p1', p2'])
  refine ⟨by rw [(l8At_spec l t hl).2, decide_eq_true h1]; rfl, ?_, h1, p1'⟩
  rw [(recAt_spec l t hl).2, decide_eq_true h2]
  simp only [cond_true]
  omega
theorem iputKey_spec (l : LBBe) (k v : ByteArray) (hl : l.length ≤ 1099511627776) : q_iputKey k v l = true ∧ iputKey k v l = putL l k v := by
  obtain ⟨p1, p2⟩ := pairAt_spec l k hl
  have e1 : it_iputKey_0 k v 0 l = (0, k, v, ((l.findIdx (overK k) : Nat) : Int), l) := by
    have h := itX_find (ss := fun u : V_iputKey_0 => ss_iputKey_0 u.1 u.2.1 u.2.2.1 u.2.2.2) (fa := fl_iputKey_0) (fun i => ((k, v, (i : Int), l) : V_iputKey_0)) l dP (overK k) (fun i => ((0, k, v, (i : Int), l) : A_iputKey_0)) (0, k, v, ((l.length : Nat) : Int), l) (by omega) (fun i hi => ?_) ?_
    · refine h.trans ?_
      by_cases hc : l.findIdx (overK k) < l.length
      · rw [decide_eq_true hc]; rfl
      · have := findIdx_le' (overK k) l
        have he : l.findIdx (overK k) = l.length := by omega
        rw [decide_eq_false hc, he]; rfl
    · have h1 : decide ((i : Int) < ((l.length : Nat) : Int)) = true := decide_eq_true (by omega)
      have h2 : decide (0 ≤ (i : Int) ∧ (i : Int) < ((l.length : Nat) : Int)) = true := decide_eq_true (by omega)
      simp only [ss_iputKey_0, h1, h2, cond_true, Int.toNat_natCast, wrapU i (by omega), getD_dP, overK]
      cases (Op.bytesLess (l.getD i dP).1.toList k.toList || (l.getD i dP).1.toList == k.toList) <;> rfl
    · have h1 : decide (((l.length : Nat) : Int) < ((l.length : Nat) : Int)) = false := decide_eq_false (by omega)
      simp only [ss_iputKey_0, h1, cond_false]
  have hle := findIdx_le' (overK k) l
  simp only [q_iputKey, iputKey, p1, p2, k1_iputKey, e1, q_insP, insP, putL, Int.toNat_natCast]
  cases hc : decide (l.findIdx (isK k) < l.length) with
  | true =>
    have hlt := of_decide_eq_true hc
    have g1 : decide (((l.findIdx (isK k) : Nat) : Int) ≥ 0) = true := decide_eq_true (by omega)
    have g2 : decide (0 ≤ ((l.findIdx (isK k) : Nat) : Int) ∧ ((l.findIdx (isK k) : Nat) : Int) < ((l.length : Nat) : Int)) = true := decide_eq_true (by omega)
    simp only [cond_true, g1, g2, Int.toNat_natCast, Bool.true_and]
    exact ⟨trivial, rfl⟩
  | false =>
    have g1 : decide ((-1 : Int) ≥ 0) = false := by decide
    have g2 : decide (0 ≤ ((l.findIdx (overK k) : Nat) : Int) ∧ ((l.findIdx (overK k) : Nat) : Int) ≤ ((l.length : Nat) : Int)) = true := decide_eq_true (by omega)
    have g3 : decide ((l.length + 1) * 32 ≤ 140737488355328) = true := decide_eq_true (by omega)
    simp only [cond_false, g1, g2, g3, Bool.true_and]
    exact ⟨rfl, rfl⟩
theorem filt1 {α : Type} {p : α → Bool} {x : α} (h : p x = false) : [x].filter p = [] := by simp [List.filter_cons, h]
theorem filt2 {α : Type} {p : α → Bool} {x : α} (h : p x = true) : [x].filter p = [x] := by simp [List.filter_cons, h]
theorem delFunc_loop (l : LBBe) (k : ByteArray) (hl : l.length ≤ 1099511627776) (j : Nat) (hj : j < l.length) (hpre : (l.take j).filter (fun p => !isK k p) = l.take j) (hat : isK k (l.getD j dP) = true) :
    ∃ r : LBBe, it_slices_DeleteFunc_iPair_0 ((j : Nat) : Int) (((j + 1 : Nat) : Int)) l k = (0, (((delL l k).length : Nat) : Int), r) ∧ r.length = l.length ∧ r.take (delL l k).length = delL l k := by
  refine itX_inv (fun v : V_slices_DeleteFunc_iPair_0 => ∃ (m : Nat) (r : LBBe), v = (((((l.take m).filter (fun p => !isK k p)).length : Nat) : Int), (m : Int), r) ∧ m ≤ l.length ∧ ((l.take m).filter (fun p => !isK k p)).length < m ∧ r.length = l.length ∧ r.take ((l.take m).filter (fun p => !isK k p)).length = (l.take m).filter (fun p => !isK k p) ∧ r.drop m = l.drop m)
    (fun a : A_slices_DeleteFunc_iPair_0 => ∃ r : LBBe, a = (0, (((delL l k).length : Nat) : Int), r) ∧ r.length = l.length ∧ r.take (delL l k).length = delL l k) (fun v => l.length - v.2.1.toNat) ?_ ⟨j + 1, l, ?_, by omega, ?_, rfl, ?_, rfl⟩ (by simp; omega)
  · rintro v ⟨m, r, rfl, hm, hlt2, hr, ht, hd⟩
    by_cases hlt : m < l.length
    · left
      have h1 : decide ((m : Int) < ((r.length : Nat) : Int)) = true := decide_eq_true (by omega)
      have h2 : decide (0 ≤ (m : Int) ∧ (m : Int) < ((r.length : Nat) : Int)) = true := decide_eq_true (by omega)
      have h3 : decide (0 ≤ ((((l.take m).filter (fun p => !isK k p)).length : Nat) : Int) ∧ ((((l.take m).filter (fun p => !isK k p)).length : Nat) : Int) < ((r.length : Nat) : Int)) = true := decide_eq_true (by omega)
      have hg : r.getD m dP = l.getD m dP := by
        have := congrArg (fun x : LBBe => x[0]?) hd
        simp only [List.getElem?_drop, Nat.add_zero] at this
        simp only [List.getD_eq_getElem?_getD, this]
      have htk : l.take (m + 1) = l.take m ++ [l.getD m dP] := take_succ_getD hlt dP
      have hdd : ∀ x : LBBe, x.drop m = l.drop m → x.drop (m + 1) = l.drop (m + 1) := fun x hx => by
        rw [← List.drop_drop, ← List.drop_drop, hx]
      cases hc : isK k (l.getD m dP) with
      | true =>
        have hf : (l.take (m + 1)).filter (fun p => !isK k p) = (l.take m).filter (fun p => !isK k p) := by rw [htk, List.filter_append, filt1 (by rw [hc]; rfl), List.append_nil]
        refine ⟨(((((l.take (m + 1)).filter (fun p => !isK k p)).length : Nat) : Int), ((m + 1 : Nat) : Int), r), ?_, ⟨m + 1, r, rfl, by omega, by rw [hf]; omega, hr, by rw [hf]; exact ht, hdd r hd⟩, by simp only [Int.toNat_natCast]; omega⟩
        have hk : k1_slices_DeleteFunc_iPair (m : Int) r k = true := by simp only [k1_slices_DeleteFunc_iPair, iDelKey_1, getD_dP, Int.toNat_natCast, hg]; exact hc
        simp only [ss_slices_DeleteFunc_iPair_0, h1, h2, hk, cond_true, Bool.not_true, cond_false, wrapU m (by omega), hf]
      | false =>
        have hf : (l.take (m + 1)).filter (fun p => !isK k p) = (l.take m).filter (fun p => !isK k p) ++ [l.getD m dP] := by rw [htk, List.filter_append, filt2 (by rw [hc]; rfl)]
        refine ⟨(((((l.take (m + 1)).filter (fun p => !isK k p)).length : Nat) : Int), ((m + 1 : Nat) : Int), r.set ((l.take m).filter (fun p => !isK k p)).length (l.getD m dP)), ?_, ⟨m + 1, _, rfl, by omega, by rw [hf]; simp; omega, by simp [hr], ?_, hdd _ ?_⟩, by simp only [Int.toNat_natCast]; omega⟩
        · have hk : k1_slices_DeleteFunc_iPair (m : Int) r k = false := by simp only [k1_slices_DeleteFunc_iPair, iDelKey_1, getD_dP, Int.toNat_natCast, hg]; exact hc
          have hfl : (((l.take m).filter (fun p => !isK k p)) ++ [l.getD m dP]).length = ((l.take m).filter (fun p => !isK k p)).length + 1 := by simp
          simp only [ss_slices_DeleteFunc_iPair_0, h1, h2, h3, hk, cond_true, Bool.not_false, wrapU m (by omega), wrapU ((l.take m).filter (fun p => !isK k p)).length (by omega), hf, hfl, Int.toNat_natCast, getD_dP, hg]
        · rw [hf, List.length_append, List.length_singleton, List.take_add_one, List.take_set_of_le (Nat.le_refl _), ht]
          congr 1
          simp [List.getElem?_set, show ((l.take m).filter (fun p => !isK k p)).length < r.length by omega]
        · rw [List.drop_set_of_lt hlt2]; exact hd
    · right
      obtain rfl : m = l.length := by omega
      have h1 : decide (((l.length : Nat) : Int) < ((r.length : Nat) : Int)) = false := decide_eq_false (by omega)
      rw [List.take_length] at ht
      refine ⟨(0, (((delL l k).length : Nat) : Int), r), ?_, r, rfl, hr, ht⟩
      simp only [ss_slices_DeleteFunc_iPair_0, h1, cond_false, List.take_length]
      rfl
  · rw [take_succ_getD hj dP, List.filter_append, hpre, filt1 (by rw [hat]; rfl), List.append_nil, List.length_take]; congr 2; omega
  · rw [take_succ_getD hj dP, List.filter_append, hpre, filt1 (by rw [hat]; rfl), List.append_nil, List.length_take]; omega
  · rw [take_succ_getD hj dP, List.filter_append, hpre, filt1 (by rw [hat]; rfl), List.append_nil, List.length_take, Nat.min_eq_left (by omega)]
theorem iDelKey_spec (l : LBBe) (k : ByteArray) (hl : l.length ≤ 1099511627776) : q_iDelKey l k = true ∧ iDelKey l k = delL l k := by
  have e : it_slices_IndexFunc_iPair_iDelKey_1_0 ((l.length : Nat) : Int) 0 l k = cond (decide (l.findIdx (isK k) < l.length)) (0, ((l.findIdx (isK k) : Nat) : Int)) (1, 0) := by
    refine itX_find (ss := fun v : V_slices_IndexFunc_iPair_iDelKey_1_0 => ss_slices_IndexFunc_iPair_iDelKey_1_0 v.1 v.2 l k) (fa := fl_slices_IndexFunc_iPair_iDelKey_1_0) (fun i => ((((l.length : Nat) : Int), (i : Int)) : V_slices_IndexFunc_iPair_iDelKey_1_0)) l dP (isK k) (fun i => ((0, (i : Int)) : A_slices_IndexFunc_iPair_iDelKey_1_0)) _ (by omega) (fun i hi => ?_) ?_
    · have h1 : decide ((i : Int) < ((l.length : Nat) : Int)) = true := decide_eq_true (by omega)
      have h2 : decide (0 ≤ (i : Int) ∧ (i : Int) < ((l.length : Nat) : Int)) = true := decide_eq_true (by omega)
      simp only [ss_slices_IndexFunc_iPair_iDelKey_1_0, h1, h2, cond_true, Int.toNat_natCast, wrapU i (by omega), getD_dP, k1_slices_IndexFunc_iPair_iDelKey_1, iDelKey_1]
      rfl
    · have h1 : decide (((l.length : Nat) : Int) < ((l.length : Nat) : Int)) = false := decide_eq_false (by omega)
      simp only [ss_slices_IndexFunc_iPair_iDelKey_1_0, h1, cond_false]
  have hq : q_slices_Clone_iPair l = true := decide_eq_true (by simp [MAXB]; omega)
  have hdf : q_slices_DeleteFunc_iPair l k = true ∧ (slices_DeleteFunc_iPair l k).1 = delL l k := by
    have hidx : q_slices_IndexFunc_iPair_iDelKey_1 l k = true ∧ slices_IndexFunc_iPair_iDelKey_1 l k = cond (decide (l.findIdx (isK k) < l.length)) ((l.findIdx (isK k) : Nat) : Int) (-1) := by
      simp only [q_slices_IndexFunc_iPair_iDelKey_1, slices_IndexFunc_iPair_iDelKey_1, e]
      cases decide (l.findIdx (isK k) < l.length) <;> exact ⟨rfl, rfl⟩
    simp only [q_slices_DeleteFunc_iPair, slices_DeleteFunc_iPair, k2_slices_DeleteFunc_iPair, hidx.1, hidx.2, Bool.true_and]
    cases hc : decide (l.findIdx (isK k) < l.length) with
    | false =>
      have hge := of_decide_eq_false hc
      simp only [cond_false, show ((-1 : Int) == -1) = true from rfl, cond_true]
      refine ⟨trivial, ?_⟩
      symm
      apply List.filter_eq_self.2
      intro p hp
      have := List.findIdx_eq_length.1 (show l.findIdx (isK k) = l.length by have := findIdx_le' (isK k) l; omega) p hp
      rw [this]; rfl
    | true =>
      have hlt := of_decide_eq_true hc
      have hat : isK k (l.getD (l.findIdx (isK k)) dP) = true := by
        have := List.findIdx_getElem (w := hlt)
        simpa [List.getD_eq_getElem?_getD, hlt] using this
      have hpre : (l.take (l.findIdx (isK k))).filter (fun p => !isK k p) = l.take (l.findIdx (isK k)) := by
        apply List.filter_eq_self.2
        intro p hp
        obtain ⟨i, hi, rfl⟩ := List.mem_iff_getElem.1 hp
        rw [List.length_take] at hi
        have := List.not_of_lt_findIdx (p := isK k) (xs := l) (i := i) (by omega)
        simpa using this
      obtain ⟨r, r1, r2, r3⟩ := delFunc_loop l k hl _ hlt hpre hat
      have hne : (((l.findIdx (isK k) : Nat) : Int) == -1) = false := by simp only [beq_eq_false_iff_ne]; omega
      have hdl := delL_len l k
      simp only [cond_true, hne, cond_false, wrapU _ (show l.findIdx (isK k) < 9223372036854775807 by omega), r1, Int.toNat_natCast]
      constructor
      · simp only [Bool.and_eq_true, decide_eq_true_eq, List.length_append, List.length_take, List.length_replicate, List.length_drop]
        refine ⟨rfl, ?_, ?_⟩ <;> omega
      · rw [r3, List.append_assoc, List.take_left']
        rfl
  simp only [q_iDelKey, iDelKey, slices_Clone_iPair, hq, hdf.1, hdf.2, Bool.and_self]
  exact ⟨trivial, trivial⟩
theorem iApply_spec (m : LBBe) (l : LIBBe) (hm : m.length ≤ 1000000000) (hl : l.length ≤ 1000000000) : q_iApply m l = true ∧ iApply m l = l.foldl appL m := by
  have h : it_iApply_0 l ((l.length : Nat) : Int) 0 m = (0, l.foldl appL m) := by
    refine itX_fold (ss := fun v : V_iApply_0 => ss_iApply_0 v.1 v.2.1 v.2.2.1 v.2.2.2) (fa := fl_iApply_0) (fun i b => ((l, ((l.length : Nat) : Int), (i : Int), b) : V_iApply_0)) l dOp appL (fun b => ((0, b) : A_iApply_0)) (fun i b => b.length ≤ m.length + i) (by omega) (fun i b hi hb => ⟨?_, by have := appL_len b (l.getD i dOp); omega⟩) (fun b hb => ?_) (by simp)
    · have h1 : decide ((i : Int) < ((l.length : Nat) : Int)) = true := decide_eq_true (by omega)
      have h2 : decide (0 ≤ (i : Int) ∧ (i : Int) < ((l.length : Nat) : Int)) = true := decide_eq_true (by omega)
      have e : l.getD i ((0 : Int), ((⟨#[]⟩ : ByteArray), (⟨#[]⟩ : ByteArray))) = l.getD i dOp := rfl
      obtain ⟨p1, p2⟩ := iputKey_spec b (l.getD i dOp).2.1 (l.getD i dOp).2.2 (by omega)
      obtain ⟨d1, d2⟩ := iDelKey_spec b (l.getD i dOp).2.1 (by omega)
      simp only [ss_iApply_0, h1, h2, cond_true, Int.toNat_natCast, wrapU i (by omega), e, k1_iApply, k2_iApply, p1, p2, d1, d2, appL]
      cases (l.getD i dOp).1 == 1 <;> cases (l.getD i dOp).1 == 2 <;> rfl
    · have h1 : decide (((l.length : Nat) : Int) < ((l.length : Nat) : Int)) = false := decide_eq_false (by omega)
      simp only [ss_iApply_0, h1, cond_false]
  have hq : q_slices_Clone_iPair m = true := decide_eq_true (by simp [MAXB]; omega)
  simp only [q_iApply, iApply, slices_Clone_iPair, h, hq]
  exact ⟨rfl, trivial⟩
theorem del_spec (h : List RecD) (k : Nat) (hk : k < h.length) (hl : h.length ≤ 1099511627776) : q_slices_Delete_iRec (k : Int) ((k + 1 : Nat) : Int) h = true ∧ slices_Delete_iRec (k : Int) ((k + 1 : Nat) : Int) h = h.eraseIdx k := by
  have e0 : ((k : Int) == ((k + 1 : Nat) : Int)) = false := beq_eq_false_iff_ne.2 (by omega)
  have e1 := drop_take_all h (k + 1)
  have e2 : (h.drop (k + 1)).length = h.length - (k + 1) := List.length_drop
  have e3 : (h.take k ++ h.drop (k + 1)).length = k + (h.drop (k + 1)).length := by rw [List.length_append, List.length_take]; omega
  simp only [q_slices_Delete_iRec, slices_Delete_iRec, Int.toNat_natCast, e0, cond_false, e1]
  have e4 : (h.take k ++ h.drop (k + 1) ++ h.drop (k + (h.drop (k + 1)).length)).take (k + (h.drop (k + 1)).length) = h.take k ++ h.drop (k + 1) := List.take_left' e3
  have e5 : (h.take k ++ h.drop (k + 1) ++ h.drop (k + (h.drop (k + 1)).length)).length = h.length := by
    simp only [List.length_append, List.length_take, List.length_drop]; omega
  refine ⟨?_, ?_⟩
  · rw [e5]
    simp only [Bool.and_eq_true, decide_eq_true_eq]
    refine ⟨by omega, by omega, by omega, by omega, by omega⟩
  · rw [e4, List.append_assoc, List.take_left' e3, List.eraseIdx_eq_take_drop_succ]
theorem add_spec (r : RecD) (ahead : List RecD) (m : List PairD) (held : List RecD) (hr : okOps r.2.2 = true) (hok : sRecOk r.1 r.2.1 r.2.2 = true) (hm : m.length ≤ 1000) (hh : held.length ≤ 1048576) (ha : ahead.length ≤ 1048576) (ho : ∀ x ∈ held, okOps x.2.2 = true) (h1 : oneTx held) :
    q_ireplay_add_w2 r.1 r.2.1 r.2.2 ahead m held = true ∧ (match stepL (ahead.any (isTx r.2.1)) m held r with
      | none => (ireplay_add_w2 r.1 r.2.1 r.2.2 ahead m held).1 = false
      | some (m', h') => ireplay_add_w2 r.1 r.2.1 r.2.2 ahead m held = (true, m', h')) := by
  have a1 := (recAt_spec held r.2.1 (by omega)).1
  have a2 := (recAt_neg held r.2.1 (by omega)).1
  have a3 := (recAt_spec ahead r.2.1 (by omega)).1
  have a4 := (recAt_neg ahead r.2.1 (by omega)).2
  have hl := okOps_len hr
  obtain ⟨c1, c2⟩ := heldKey_spec held r.2.2 (by omega) (fun x hx => okOps_len (ho x hx)) hl
  obtain ⟨d1, d2⟩ := iMeets_spec m r.2.2 (by omega) hl
  have f1 : decide ((held.length + [((1 : Int), (r.2.1, r.2.2))].length) * 40 ≤ MAXB) = true := decide_eq_true (by simp only [List.length_singleton, MAXB]; omega)
  have f3 : q_slices_Clone_iOp r.2.2 = true := decide_eq_true (by simp only [List.length_nil, MAXB]; omega)
  have f4 : slices_Clone_iOp r.2.2 = r.2.2 := rfl
  simp only [q_ireplay_add_w2, ireplay_add_w2, stepL, a1, a2, a3, a4, c1, c2, d1, d2, f1, f3, f4, hok, Bool.true_and, Bool.and_true, Bool.not_true, cond_false]
  cases hk : (r.1 == 1) with
  | true =>
    simp only [cond_true]
    cases ahead.any (isTx r.2.1) with
    | true => first | exact ⟨rfl, rfl⟩ | exact ⟨trivial, rfl⟩
    | false =>
      cases lockedL held r.2.2 with
      | true => first | exact ⟨rfl, rfl⟩ | exact ⟨trivial, rfl⟩
      | false =>
        cases meetsL m r.2.2 with
        | false => first | exact ⟨rfl, rfl⟩ | exact ⟨trivial, rfl⟩
        | true => first | exact ⟨rfl, rfl⟩ | exact ⟨trivial, rfl⟩
  | false =>
    simp only [cond_false]
    cases ha2 : held.any (isTx r.2.1) with
    | false =>
      simp only [Bool.not_false, cond_true]
      cases (r.1 == 3) with
      | false => first | exact ⟨rfl, rfl⟩ | exact ⟨trivial, rfl⟩
      | true => cases ahead.any (isTx r.2.1) with
        | true => first | exact ⟨rfl, rfl⟩ | exact ⟨trivial, rfl⟩
        | false => first | exact ⟨rfl, rfl⟩ | exact ⟨trivial, rfl⟩
    | true =>
      obtain ⟨_, e1, hlt, _⟩ := at_same h1 r.2.1 (by omega) ha2
      generalize hi : held.findIdx (isTx r.2.1) = i at hlt e1 ⊢
      have e2 := wrapU i (by omega)
      have q0 : decide (0 ≤ (i : Int) ∧ (i : Int) < ((held.length : Nat) : Int)) = true := decide_eq_true (by omega)
      obtain ⟨s1, s2⟩ := iApply_spec m (held.getD i dRec).2.2 (by omega) (by have := okOps_len (ho _ (getD_mem hlt dRec)); omega)
      obtain ⟨t1, t2⟩ := del_spec held i hlt (by omega)
      simp only [Bool.not_true, cond_false, e1, e2, Int.toNat_natCast, q0, getD_dR, s1, s2, t1, t2, Bool.true_and, Bool.and_true]
      cases (r.1 == 2) with
      | true =>
        simp only [cond_true]
        refine ⟨trivial, ?_⟩
        cases decide (((((held.getD i dRec).2.2.foldl appL m).length : Nat) : Int) ≤ 60) with
        | true => rfl
        | false => rfl
      | false =>
        simp only [cond_false]
        refine ⟨trivial, ?_⟩
        cases decide (((m.length : Nat) : Int) ≤ 60) with
        | true => rfl
        | false => rfl
theorem iReplay_spec (l : List RecD) (hl : l.length ≤ 1048576) (hr : ∀ x ∈ l, okOps x.2.2 = true) : q_iReplayRecs l = true ∧ iReplayRecs l = repOut l := by
  have key : ((k3_iReplayRecs l).1 = 0 ∧ (k3_iReplayRecs l).2.1 = false ∧ repL l l.length = none) ∨ ((k3_iReplayRecs l).1 = 1 ∧ repL l l.length = some ((k3_iReplayRecs l).2.2.1, (k3_iReplayRecs l).2.2.2)) := by
    refine itX_inv (ss := fun v : V_iReplayRecs_0 => ss_iReplayRecs_0 v.1 v.2.1 v.2.2.1 v.2.2.2.1 v.2.2.2.2.1 v.2.2.2.2.2) (fa := fl_iReplayRecs_0)
      (fun v => ∃ (i : Nat) (m : List PairD) (held : List RecD), v = (l, l, ((l.length : Nat) : Int), (i : Int), m, held) ∧ i ≤ l.length ∧ repL l i = some (m, held))
      (fun a : A_iReplayRecs_0 => (a.1 = 0 ∧ a.2.1 = false ∧ repL l l.length = none) ∨ (a.1 = 1 ∧ repL l l.length = some (a.2.2.1, a.2.2.2))) (fun v => l.length - v.2.2.2.1.toNat) ?_ ⟨0, [], [], rfl, Nat.zero_le _, rfl⟩ (by simp; omega)
    rintro v ⟨i, m, held, rfl, hi, hp⟩
    by_cases hlt : i < l.length
    · have e1 : decide ((i : Int) < ((l.length : Nat) : Int)) = true := decide_eq_true (by omega)
      have e2 : decide (0 ≤ (i : Int) ∧ (i : Int) < ((l.length : Nat) : Int)) = true := decide_eq_true (by omega)
      have e3 : decide (0 ≤ (0 : Int) ∧ (0 : Int) ≤ (i : Int) ∧ (i : Int) ≤ ((l.length : Nat) : Int)) = true := decide_eq_true (by omega)
      have I := rep_ok hr i hi m held hp
      have g0 : q_iRecOk (l.getD i dRec).1 (l.getD i dRec).2.1 (l.getD i dRec).2.2 = true := hr _ (getD_mem hlt dRec)
      simp only [ss_iReplayRecs_0, k1_iReplayRecs, k2_iReplayRecs, e1, e2, e3, cond_true, Int.toNat_natCast, Int.toNat_zero, List.drop_zero, getD_dR, g0, ← recOk_same, wrapU i (by omega)]
      cases hok : sRecOk (l.getD i dRec).1 (l.getD i dRec).2.1 (l.getD i dRec).2.2 with
      | false =>
        simp only [Bool.not_false, cond_true]
        exact .inr ⟨_, rfl, .inl ⟨rfl, rfl, rep_stop hlt hp (by simp only [stepL, hok, Bool.not_false, cond_true])⟩⟩
      | true =>
        obtain ⟨o1, o2⟩ := add_spec (l.getD i dRec) (l.take i) m held (hr _ (getD_mem hlt dRec)) hok (by have := I.hml; omega) (by have := I.hlen; omega) (by rw [List.length_take]; omega) (fun x hx => (I.hmem x hx).1) I.hone
        simp only [Bool.not_true, cond_false, o1, cond_true]
        cases hst : stepL ((l.take i).any (isTx (l.getD i dRec).2.1)) m held (l.getD i dRec) with
        | none =>
          rw [hst] at o2
          simp only [o2, Bool.not_false, cond_true]
          exact .inr ⟨_, rfl, .inl ⟨rfl, rfl, rep_stop hlt hp hst⟩⟩
        | some s =>
          obtain ⟨m', h'⟩ := s
          rw [hst] at o2
          simp only [o2, Bool.not_true, cond_false]
          exact .inl ⟨_, rfl, ⟨i + 1, m', h', rfl, by omega, by simp only [repL, hp, Option.bind_some]; exact hst⟩, by simp only [Int.toNat_natCast]; omega⟩
    · obtain rfl : i = l.length := by omega
      have e1 : decide ((l.length : Int) < ((l.length : Nat) : Int)) = false := decide_eq_false (by omega)
      simp only [ss_iReplayRecs_0, e1, cond_false]
      exact .inr ⟨_, rfl, .inr ⟨rfl, hp⟩⟩
  simp only [q_iReplayRecs, iReplayRecs, repOut]
  rcases key with ⟨h1, h2, h5⟩ | ⟨h1, h2⟩
  · rw [h1, h2, h5]; exact ⟨rfl, rfl⟩
  · rw [h1, h2]; exact ⟨rfl, rfl⟩
theorem repOut_ok {l : List RecD} (h : okRecS l) : (repOut l).1.length ≤ 60 ∧ (repOut l).2.1.length ≤ l.length ∧ ∀ x ∈ (repOut l).2.1, x.2.2.length ≤ 1048576 := by
  simp only [repOut]
  cases hp : repL l l.length with
  | none => exact ⟨by simp, by simp, fun x hx => by simp at hx⟩
  | some s =>
    have I := rep_ok (okRecS_ops h) l.length (Nat.le_refl _) s.1 s.2 (by rw [hp])
    exact ⟨I.hml, I.hlen, fun x hx => okOps_len (I.hmem x hx).1⟩
noncomputable def zipQ {α : Type} (q : α → α → Bool) (a b : List α) : Bool := (a.zip b).all fun p => q p.1 p.2
noncomputable def sameL {α : Type} (q : α → α → Bool) (a b : List α) : Bool := cond (((a.length : Nat) : Int) != ((b.length : Nat) : Int)) false (zipQ q a b)
noncomputable def qP (x y : ByteArray × ByteArray) : Bool := (x.1.toList == y.1.toList) && ((x.2.toList == y.2.toList) && true)
theorem zip_getD {α : Type} (a b : List α) (d : α) {i : Nat} (ha : i < a.length) (hb : i < b.length) : (a.zip b).getD i (d, d) = (a.getD i d, b.getD i d) := by
  have hz : i < (a.zip b).length := by rw [List.length_zip]; omega
  simp only [List.getD_eq_getElem?_getD, List.getElem?_eq_getElem hz, List.getElem?_eq_getElem ha, List.getElem?_eq_getElem hb, Option.getD_some, List.getElem_zip]
theorem itX_zip {V A α : Type} {ss : V → V ⊕ A} {fa : A} (pk : Nat → V) (a b : List α) (d : α) (q : α → α → Bool) (bad last : A) (hab : a.length = b.length) (hn : a.length < 4611686018427387904)
    (h : ∀ i, i < a.length → ss (pk i) = cond (q (a.getD i d) (b.getD i d)) (.inl (pk (i + 1))) (.inr bad)) (hl : ss (pk a.length) = .inr last) : itX ss fa (pk 0) = cond (zipQ q a b) last bad := by
  have hz : (a.zip b).length = a.length := by rw [List.length_zip]; omega
  rw [itX_any pk (a.zip b) (d, d) (fun p => !(q p.1 p.2)) bad last (by omega) (fun i hi => by
    rw [hz] at hi
    rw [h i hi, zip_getD a b d hi (by omega)]
    cases q (a.getD i d) (b.getD i d) <;> rfl) (by rw [hz]; exact hl)]
  have : (a.zip b).any (fun p => !(q p.1 p.2)) = !(zipQ q a b) := by
    simp only [zipQ, List.all_eq_not_any_not, Bool.not_not]
  rw [this]
  cases zipQ q a b <;> rfl
theorem eq_len {α : Type} {a b : List α} (h : a.length = b.length) : (((a.length : Nat) : Int) != ((b.length : Nat) : Int)) = false := by
  rw [h]; simp
theorem ne_len {α : Type} {a b : List α} (h : ¬ a.length = b.length) : (((a.length : Nat) : Int) != ((b.length : Nat) : Int)) = true := by
  simp only [bne_iff_ne, ne_eq]; omega
theorem samePairs_spec (a b : List PairD) (hl : a.length ≤ 1099511627776) : q_sl9SamePairs a b = true ∧ sl9SamePairs a b = sameL qP a b := by
  simp only [q_sl9SamePairs, sl9SamePairs, sameL]
  by_cases hab : a.length = b.length
  · have e : it_sl9SamePairs_0 a b 0 = cond (zipQ qP a b) (1, false) (0, false) := by
      refine itX_zip (ss := fun v : V_sl9SamePairs_0 => ss_sl9SamePairs_0 v.1 v.2.1 v.2.2) (fa := fl_sl9SamePairs_0) (fun i => ((a, b, (i : Int)) : V_sl9SamePairs_0)) a b dP qP _ _ hab (by omega) (fun i hi => ?_) ?_
      · have h1 : decide ((i : Int) < ((a.length : Nat) : Int)) = true := decide_eq_true (by omega)
        have h2 : decide (0 ≤ (i : Int) ∧ (i : Int) < ((a.length : Nat) : Int)) = true := decide_eq_true (by omega)
        have h3 : decide (0 ≤ (i : Int) ∧ (i : Int) < ((b.length : Nat) : Int)) = true := decide_eq_true (by omega)
        simp only [ss_sl9SamePairs_0, h1, h2, h3, cond_true, Int.toNat_natCast, wrapU i (by omega), getD_dP, qP]
        generalize ((a.getD i dP).1.toList == (b.getD i dP).1.toList && ((a.getD i dP).2.toList == (b.getD i dP).2.toList && true)) = z
        cases z <;> rfl
      · have h1 : decide (((a.length : Nat) : Int) < ((a.length : Nat) : Int)) = false := decide_eq_false (by omega)
        simp only [ss_sl9SamePairs_0, h1, cond_false]
    rw [eq_len hab, e]
    cases zipQ qP a b <;> exact ⟨rfl, rfl⟩
  · rw [ne_len hab]; exact ⟨rfl, rfl⟩
theorem equalPairs_spec (a b : List PairD) (hl : a.length ≤ 1099511627776) : q_slices_Equal_iPair a b = true ∧ slices_Equal_iPair a b = sameL qP a b := by
  simp only [q_slices_Equal_iPair, slices_Equal_iPair, sameL]
  by_cases hab : a.length = b.length
  · have e : it_slices_Equal_iPair_0 a b ((a.length : Nat) : Int) 0 = cond (zipQ qP a b) (1, false) (0, false) := by
      refine itX_zip (ss := fun v : V_slices_Equal_iPair_0 => ss_slices_Equal_iPair_0 v.1 v.2.1 v.2.2.1 v.2.2.2) (fa := fl_slices_Equal_iPair_0) (fun i => ((a, b, ((a.length : Nat) : Int), (i : Int)) : V_slices_Equal_iPair_0)) a b dP qP _ _ hab (by omega) (fun i hi => ?_) ?_
      · have h1 : decide ((i : Int) < ((a.length : Nat) : Int)) = true := decide_eq_true (by omega)
        have h2 : decide (0 ≤ (i : Int) ∧ (i : Int) < ((a.length : Nat) : Int)) = true := decide_eq_true (by omega)
        have h3 : decide (0 ≤ (i : Int) ∧ (i : Int) < ((b.length : Nat) : Int)) = true := decide_eq_true (by omega)
        simp only [ss_slices_Equal_iPair_0, h1, h2, h3, cond_true, Int.toNat_natCast, wrapU i (by omega), getD_dP, qP]
        generalize ((a.getD i dP).1.toList == (b.getD i dP).1.toList && ((a.getD i dP).2.toList == (b.getD i dP).2.toList && true)) = z
        cases z <;> rfl
      · have h1 : decide (((a.length : Nat) : Int) < ((a.length : Nat) : Int)) = false := decide_eq_false (by omega)
        simp only [ss_slices_Equal_iPair_0, h1, cond_false]
    rw [eq_len hab, e]
    cases zipQ qP a b <;> exact ⟨rfl, rfl⟩
  · rw [ne_len hab]; exact ⟨rfl, rfl⟩
noncomputable def qO (x y : Int × ByteArray × ByteArray) : Bool := (x.1 == y.1) && ((x.2.1.toList == y.2.1.toList) && ((x.2.2.toList == y.2.2.toList) && true))
noncomputable def qR (x y : RecD) : Bool := cond (x.1 != y.1) false (cond (x.2.1 != y.2.1) false (sameL qO x.2.2 y.2.2))
theorem sameOps_spec (a b : LIBBe) (hl : a.length ≤ 1099511627776) : q_sl9SameOps a b = true ∧ sl9SameOps a b = sameL qO a b := by
  simp only [q_sl9SameOps, sl9SameOps, sameL]
  by_cases hab : a.length = b.length
  · have e : it_sl9SameOps_0 a b 0 = cond (zipQ qO a b) (1, false) (0, false) := by
      refine itX_zip (ss := fun v : V_sl9SameOps_0 => ss_sl9SameOps_0 v.1 v.2.1 v.2.2) (fa := fl_sl9SameOps_0) (fun i => ((a, b, (i : Int)) : V_sl9SameOps_0)) a b dOp qO _ _ hab (by omega) (fun i hi => ?_) ?_
      · have h1 : decide ((i : Int) < ((a.length : Nat) : Int)) = true := decide_eq_true (by omega)
        have h2 : decide (0 ≤ (i : Int) ∧ (i : Int) < ((a.length : Nat) : Int)) = true := decide_eq_true (by omega)
        have h3 : decide (0 ≤ (i : Int) ∧ (i : Int) < ((b.length : Nat) : Int)) = true := decide_eq_true (by omega)
        simp only [ss_sl9SameOps_0, h1, h2, h3, cond_true, Int.toNat_natCast, wrapU i (by omega), getD_dO, qO]
        generalize ((a.getD i dOp).1 == (b.getD i dOp).1 && ((a.getD i dOp).2.1.toList == (b.getD i dOp).2.1.toList && ((a.getD i dOp).2.2.toList == (b.getD i dOp).2.2.toList && true))) = z
        cases z <;> rfl
      · have h1 : decide (((a.length : Nat) : Int) < ((a.length : Nat) : Int)) = false := decide_eq_false (by omega)
        simp only [ss_sl9SameOps_0, h1, cond_false]
    rw [eq_len hab, e]
    cases zipQ qO a b <;> exact ⟨rfl, rfl⟩
  · rw [ne_len hab]; exact ⟨rfl, rfl⟩
theorem sameRecs_spec (a b : List RecD) (hl : a.length ≤ 1099511627776) (ho : ∀ x ∈ a, x.2.2.length ≤ 1048576) : q_sl9SameRecs a b = true ∧ sl9SameRecs a b = sameL qR a b := by
  simp only [q_sl9SameRecs, sl9SameRecs, sameL]
  by_cases hab : a.length = b.length
  · have e : it_sl9SameRecs_0 a b 0 = cond (zipQ qR a b) (1, false) (0, false) := by
      refine itX_zip (ss := fun v : V_sl9SameRecs_0 => ss_sl9SameRecs_0 v.1 v.2.1 v.2.2) (fa := fl_sl9SameRecs_0) (fun i => ((a, b, (i : Int)) : V_sl9SameRecs_0)) a b dRec qR _ _ hab (by omega) (fun i hi => ?_) ?_
      · have h1 : decide ((i : Int) < ((a.length : Nat) : Int)) = true := decide_eq_true (by omega)
        have h2 : decide (0 ≤ (i : Int) ∧ (i : Int) < ((a.length : Nat) : Int)) = true := decide_eq_true (by omega)
        have h3 : decide (0 ≤ (i : Int) ∧ (i : Int) < ((b.length : Nat) : Int)) = true := decide_eq_true (by omega)
        obtain ⟨o1, o2⟩ := sameOps_spec (a.getD i dRec).2.2 (b.getD i dRec).2.2 (by have := ho _ (getD_mem hi dRec); omega)
        simp only [ss_sl9SameRecs_0, k1_sl9SameRecs, h1, h2, h3, cond_true, Int.toNat_natCast, wrapU i (by omega), getD_dR, o1, o2, qR]
        cases ((a.getD i dRec).1 != (b.getD i dRec).1) <;> cases ((a.getD i dRec).2.1 != (b.getD i dRec).2.1) <;> cases sameL qO (a.getD i dRec).2.2 (b.getD i dRec).2.2 <;> rfl
      · have h1 : decide (((a.length : Nat) : Int) < ((a.length : Nat) : Int)) = false := decide_eq_false (by omega)
        simp only [ss_sl9SameRecs_0, h1, cond_false]
    rw [eq_len hab, e]
    cases zipQ qR a b <;> exact ⟨rfl, rfl⟩
  · rw [ne_len hab]; exact ⟨rfl, rfl⟩
theorem equalOps_spec (a b : LIBBe) (hl : a.length ≤ 1099511627776) : q_slices_Equal_iOp a b = true ∧ slices_Equal_iOp a b = sameL qO a b := by
  simp only [q_slices_Equal_iOp, slices_Equal_iOp, sameL]
  by_cases hab : a.length = b.length
  · have e : it_slices_Equal_iOp_0 a b ((a.length : Nat) : Int) 0 = cond (zipQ qO a b) (1, false) (0, false) := by
      refine itX_zip (ss := fun v : V_slices_Equal_iOp_0 => ss_slices_Equal_iOp_0 v.1 v.2.1 v.2.2.1 v.2.2.2) (fa := fl_slices_Equal_iOp_0) (fun i => ((a, b, ((a.length : Nat) : Int), (i : Int)) : V_slices_Equal_iOp_0)) a b dOp qO _ _ hab (by omega) (fun i hi => ?_) ?_
      · have h1 : decide ((i : Int) < ((a.length : Nat) : Int)) = true := decide_eq_true (by omega)
        have h2 : decide (0 ≤ (i : Int) ∧ (i : Int) < ((a.length : Nat) : Int)) = true := decide_eq_true (by omega)
        have h3 : decide (0 ≤ (i : Int) ∧ (i : Int) < ((b.length : Nat) : Int)) = true := decide_eq_true (by omega)
        simp only [ss_slices_Equal_iOp_0, h1, h2, h3, cond_true, Int.toNat_natCast, wrapU i (by omega), getD_dO, qO]
        generalize ((a.getD i dOp).1 == (b.getD i dOp).1 && ((a.getD i dOp).2.1.toList == (b.getD i dOp).2.1.toList && ((a.getD i dOp).2.2.toList == (b.getD i dOp).2.2.toList && true))) = z
        cases z <;> rfl
      · have h1 : decide (((a.length : Nat) : Int) < ((a.length : Nat) : Int)) = false := decide_eq_false (by omega)
        simp only [ss_slices_Equal_iOp_0, h1, cond_false]
    rw [eq_len hab, e]
    cases zipQ qO a b <;> exact ⟨rfl, rfl⟩
  · rw [ne_len hab]; exact ⟨rfl, rfl⟩
theorem sameRec_qR (x y : RecD) (hl : x.2.2.length ≤ 1048576) : q_isameRec x.1 x.2.1 x.2.2 y.1 y.2.1 y.2.2 = true ∧ isameRec x.1 x.2.1 x.2.2 y.1 y.2.1 y.2.2 = qR x y := by
  obtain ⟨o1, o2⟩ := equalOps_spec x.2.2 y.2.2 (by omega)
  simp only [q_isameRec, isameRec, o1, o2, qR, bne]
  cases (x.1 == y.1) <;> cases (x.2.1 == y.2.1) <;> exact ⟨rfl, rfl⟩
theorem equalRecs_spec (a b : List RecD) (hl : a.length ≤ 1099511627776) (ho : ∀ x ∈ a, x.2.2.length ≤ 1048576) : q_slices_EqualFunc_iReciRec_iRec_iRec_ a b = true ∧ slices_EqualFunc_iReciRec_iRec_iRec_ a b = sameL qR a b := by
  simp only [q_slices_EqualFunc_iReciRec_iRec_iRec_, slices_EqualFunc_iReciRec_iRec_iRec_, sameL]
  by_cases hab : a.length = b.length
  · have e : it_slices_EqualFunc_iReciRec_iRec_iRec__0 b a ((a.length : Nat) : Int) 0 = cond (zipQ qR a b) (1, false) (0, false) := by
      refine itX_zip (ss := fun v : V_slices_EqualFunc_iReciRec_iRec_iRec__0 => ss_slices_EqualFunc_iReciRec_iRec_iRec__0 v.1 v.2.1 v.2.2.1 v.2.2.2) (fa := fl_slices_EqualFunc_iReciRec_iRec_iRec__0) (fun i => ((b, a, ((a.length : Nat) : Int), (i : Int)) : V_slices_EqualFunc_iReciRec_iRec_iRec__0)) a b dRec qR _ _ hab (by omega) (fun i hi => ?_) ?_
      · have h1 : decide ((i : Int) < ((a.length : Nat) : Int)) = true := decide_eq_true (by omega)
        have h2 : decide (0 ≤ (i : Int) ∧ (i : Int) < ((a.length : Nat) : Int)) = true := decide_eq_true (by omega)
        have h3 : decide (0 ≤ (i : Int) ∧ (i : Int) < ((b.length : Nat) : Int)) = true := decide_eq_true (by omega)
        obtain ⟨o1, o2⟩ := sameRec_qR (a.getD i dRec) (b.getD i dRec) (ho _ (getD_mem hi dRec))
        simp only [ss_slices_EqualFunc_iReciRec_iRec_iRec__0, k1_slices_EqualFunc_iReciRec_iRec_iRec_, h1, h2, h3, cond_true, Int.toNat_natCast, wrapU i (by omega), getD_dR, o1, o2]
        cases qR (a.getD i dRec) (b.getD i dRec) <;> rfl
      · have h1 : decide (((a.length : Nat) : Int) < ((a.length : Nat) : Int)) = false := decide_eq_false (by omega)
        simp only [ss_slices_EqualFunc_iReciRec_iRec_iRec__0, h1, cond_false]
    rw [eq_len hab, e]
    cases zipQ qR a b <;> exact ⟨rfl, rfl⟩
  · rw [ne_len hab]; exact ⟨rfl, rfl⟩
theorem shardOk_same {x : ShardD} (h : okShard x) : q_sShardOk x.1 x.2.1 x.2.2.1 x.2.2.2.1 x.2.2.2.2 = true ∧ q_iShardOk x.1 x.2.1 x.2.2.1 x.2.2.2.1 x.2.2.2.2 = true ∧ sShardOk x.1 x.2.1 x.2.2.1 x.2.2.2.1 x.2.2.2.2 = iShardOk x.1 x.2.1 x.2.2.1 x.2.2.2.1 x.2.2.2.2 := by
  obtain ⟨h1, h3, h4⟩ := h
  obtain ⟨s1, s2⟩ := sReplay_spec x.2.1 h1.1 (okRecS_ops h1)
  obtain ⟨i1, i2⟩ := iReplay_spec x.2.1 h1.1 (okRecS_ops h1)
  obtain ⟨r1, r2, r3⟩ := repOut_ok h1
  have hl1 := h1.1
  have hl4 := h4.1
  obtain ⟨a1, a2⟩ := samePairs_spec (repOut x.2.1).1 x.2.2.2.1 (by omega)
  obtain ⟨b1, b2⟩ := equalPairs_spec (repOut x.2.1).1 x.2.2.2.1 (by omega)
  obtain ⟨c1, c2⟩ := sameRecs_spec (repOut x.2.1).2.1 x.2.2.2.2 (by omega) r3
  obtain ⟨d1, d2⟩ := equalRecs_spec (repOut x.2.1).2.1 x.2.2.2.2 (by omega) r3
  have w1 := wrap64 (n := ((x.2.1.length : Nat) : Int) + ((x.2.2.2.2.length : Nat) : Int)) (by omega) (by omega)
  have w2 := wrap64 (n := ((x.2.1.length : Nat) : Int) + (((repOut x.2.1).2.1.length : Nat) : Int)) (by omega) (by omega)
  have n1 : ∀ z : Int, iisId z = sl1In z 0 7 := fun z => rfl
  have n2 : ∀ z p q : Int, iinRange z p q = sl1In z p q := fun z p q => rfl
  simp only [q_sShardOk, q_iShardOk, sShardOk, iShardOk, s1, s2, i1, i2, a1, a2, b1, b2, c1, c2, d1, d2, w1, w2, n1, n2, Bool.true_and]
  cases sl1In x.1 0 7 with
  | false => exact ⟨rfl, rfl, rfl⟩
  | true =>
    simp only [Bool.not_true, cond_false]
    cases sl1In x.2.2.1 0 ((x.2.1.length : Nat) : Int) with
    | false =>
      simp only [Bool.not_false, cond_true, cond_false]
      cases decide (((x.2.1.length : Nat) : Int) > 300) <;> first | exact ⟨rfl, rfl, rfl⟩ | exact ⟨rfl, trivial, rfl⟩ | exact ⟨trivial, rfl, rfl⟩ | exact ⟨trivial, trivial, rfl⟩ | exact ⟨rfl, rfl, trivial⟩ | (simp)
    | true =>
      simp only [Bool.not_true, cond_false]
      cases hrep : (repOut x.2.1).2.2 with
      | false => cases decide (((x.2.1.length : Nat) : Int) > 300) <;> cases decide (((x.2.1.length : Nat) : Int) + ((x.2.2.2.2.length : Nat) : Int) > 300) <;> exact ⟨rfl, rfl, rfl⟩
      | true =>
        simp only [cond_true]
        cases sameL qP (repOut x.2.1).1 x.2.2.2.1 with
        | false => cases decide (((x.2.1.length : Nat) : Int) > 300) <;> cases decide (((x.2.1.length : Nat) : Int) + ((x.2.2.2.2.length : Nat) : Int) > 300) <;> exact ⟨rfl, rfl, rfl⟩
        | true =>
          simp only [cond_true]
          cases hs : sameL qR (repOut x.2.1).2.1 x.2.2.2.2 with
          | false => cases decide (((x.2.1.length : Nat) : Int) > 300) <;> cases decide (((x.2.1.length : Nat) : Int) + ((x.2.2.2.2.length : Nat) : Int) > 300) <;> exact ⟨rfl, rfl, rfl⟩
          | true =>
            have hlen : (repOut x.2.1).2.1.length = x.2.2.2.2.length := by
              by_cases he : (repOut x.2.1).2.1.length = x.2.2.2.2.length
              · exact he
              · simp only [sameL, ne_len he, cond_true] at hs; cases hs
            rw [hlen]
            by_cases g1 : ((x.2.1.length : Nat) : Int) > 300
            · rw [decide_eq_true g1, decide_eq_true (show ((x.2.1.length : Nat) : Int) + ((x.2.2.2.2.length : Nat) : Int) > 300 by omega)]
              exact ⟨rfl, rfl, rfl⟩
            · rw [decide_eq_false g1]
              by_cases g2 : ((x.2.1.length : Nat) : Int) + ((x.2.2.2.2.length : Nat) : Int) > 300
              · rw [decide_eq_true g2, decide_eq_false (show ¬ ((x.2.1.length : Nat) : Int) + ((x.2.2.2.2.length : Nat) : Int) ≤ 300 by omega)]
                exact ⟨rfl, rfl, rfl⟩
              · rw [decide_eq_false g2, decide_eq_true (show ((x.2.1.length : Nat) : Int) + ((x.2.2.2.2.length : Nat) : Int) ≤ 300 by omega)]
                exact ⟨rfl, rfl, rfl⟩
theorem bigOpS_of {l : LIBBe} (h : bigT t_spiptt l = true) : bigOpS l := bigOps_of h
theorem bigRecS_of {l : List RecD} (h : bigT t_spipispiptt l = true) : bigRecS l := by
  have h : (decide (l.length ≤ maxLen) && l.all fun x => ((Lit.int .i64 x.1).wf && ((Lit.int .i64 x.2.1).wf && bigT t_spiptt x.2.2))) = true := h
  have hm : maxLen = 9223372036854775807 := by decide
  rw [hm] at h
  simp only [Bool.and_eq_true, decide_eq_true_eq, List.all_eq_true] at h
  exact ⟨h.1, fun x hx => bigOpS_of (h.2 x hx).2.2⟩
theorem bigPairS_of {l : List PairD} (h : bigT t_sptt l = true) : bigPairS l := by
  have h : (decide (l.length ≤ maxLen) && l.all fun o => (decide (o.1.size ≤ maxLen) && decide (o.2.size ≤ maxLen))) = true := h
  have hm : maxLen = 9223372036854775807 := by decide
  rw [hm] at h
  simp only [Bool.and_eq_true, decide_eq_true_eq, List.all_eq_true] at h
  simp only [bigPairS, bigS, decide_eq_true_eq]
  exact ⟨h.1, fun o ho => h.2 o ho⟩
theorem bigShard_of {x : ShardD} (h : bigT t_pipspipispipttpipspttspipispiptt x = true) : bigShard x := by
  have h : ((Lit.int .i64 x.1).wf && (bigT t_spipispiptt x.2.1 && ((Lit.int .i64 x.2.2.1).wf && (bigT t_sptt x.2.2.2.1 && bigT t_spipispiptt x.2.2.2.2)))) = true := h
  simp only [Bool.and_eq_true] at h
  exact ⟨bigRecS_of h.2.1, bigPairS_of h.2.2.2.1, bigRecS_of h.2.2.2.2⟩
theorem shardOk_all (x : ShardD) (hb : bigShard x) : q_lFnExactShardOk x.1 x.2.1 x.2.2.1 x.2.2.2.1 x.2.2.2.2 = true ∧ lFnExactShardOk x.1 x.2.1 x.2.2.1 x.2.2.2.1 x.2.2.2.2 = true := by
  obtain ⟨z1, z2⟩ := szShard_el hb (b := 1048576) (by omega) (by omega)
  by_cases hd : lszShard x.1 x.2.1 x.2.2.1 x.2.2.2.1 x.2.2.2.2 1048576 < 0
  · simp only [q_lFnExactShardOk, lFnExactShardOk, z1, decide_eq_true hd, cond_true]
    exact ⟨rfl, trivial⟩
  · obtain ⟨_, ho⟩ := z2 (by omega)
    obtain ⟨t1, t2⟩ := toShard_el ho
    obtain ⟨e1, e2⟩ := eqShard_el ho
    obtain ⟨c1, c2, c3⟩ := shardOk_same ho
    have e5 : ∀ x : Bool, (x == x) = true := fun x => by simp
    simp only [q_lFnExactShardOk, lFnExactShardOk, k1_lFnExactShardOk, k2_lFnExactShardOk, k3_lFnExactShardOk, z1, decide_eq_false hd, t1, t2, c1, c2, c3, e1, e2, e5, cond_false, Bool.not_true, Bool.and_self]
    exact ⟨trivial, trivial⟩
theorem pre_of_lFnExactShardOk (a0 : Int) (a1 : List RecD) (a2 : Int) (a3 : List PairD) (a4 : List RecD) (h : bigT t_pipspipispipttpipspttspipispiptt (a0, (a1, (a2, (a3, a4)))) = true) : pre_lFnExactShardOk ((a0, a1, a2, a3, a4, ()), ()) = true := (shardOk_all (a0, a1, a2, a3, a4) (bigShard_of h)).1
theorem exact_lFnExactShardOk (a0 : Int) (a1 : List RecD) (a2 : Int) (a3 : List PairD) (a4 : List RecD) (h : bigT t_pipspipispipttpipspttspipispiptt (a0, (a1, (a2, (a3, a4)))) = true) : lFnExactShardOk a0 a1 a2 a3 a4 = true := (shardOk_all (a0, a1, a2, a3, a4) (bigShard_of h)).2

end Go.Proofs.Ytccelbeahdcooaa.Eng

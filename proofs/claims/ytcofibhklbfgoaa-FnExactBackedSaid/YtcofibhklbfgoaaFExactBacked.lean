/- What the functions that FnExactBacked reaches compute: further. -/
import Derived.Test.YtcofibhklbfgoaaFExactBackedB
namespace Go.Proofs.Ytcofibhklbfgoaa.Eng
open Go Go.RowKit
set_option linter.unusedSimpArgs false
set_option linter.unusedVariables false
set_option maxRecDepth 10000
/-! 9 loop.example/g00244/laws.eqWorld -/
noncomputable abbrev P_leqWorld : List PSh := [.agg [(.int .i64), (.int .i64), (.int .i64), (.sl (.pair (.int .i64) (.pair (.sl (.pair (.int .i64) (.pair .str .str))) (.pair (.int .i64) (.sl (.int .i64)))))), (.sl (.pair (.int .i64) .bool)), (.int .i64), (.sl (.pair (.int .i64) (.pair (.sl (.pair (.int .i64) (.pair (.int .i64) (.sl (.pair (.int .i64) (.pair .str .str)))))) (.pair (.int .i64) (.pair (.sl (.pair .str .str)) (.sl (.pair (.int .i64) (.pair (.int .i64) (.sl (.pair (.int .i64) (.pair .str .str))))))))))), (.sl (.pair (.int .i64) (.pair (.int .i64) (.pair (.int .i64) (.pair (.sl (.pair (.int .i64) (.pair .str .str))) .bool))))), (.sl (.pair (.int .i64) (.pair (.int .i64) (.pair (.int .i64) (.pair (.sl (.pair (.int .i64) (.pair .str .str))) .bool))))), (.sl (.pair (.int .i64) (.sl (.pair (.int .i64) (.pair .str .str)))))], .agg [(.int .i64), (.int .i64), (.int .i64), (.sl (.pair (.int .i64) (.pair (.sl (.pair (.int .i64) (.pair .str .str))) (.pair (.int .i64) (.sl (.int .i64)))))), (.sl (.pair (.int .i64) .bool)), (.int .i64), (.sl (.pair (.int .i64) (.pair (.sl (.pair (.int .i64) (.pair (.int .i64) (.sl (.pair (.int .i64) (.pair .str .str)))))) (.pair (.int .i64) (.pair (.sl (.pair .str .str)) (.sl (.pair (.int .i64) (.pair (.int .i64) (.sl (.pair (.int .i64) (.pair .str .str))))))))))), (.sl (.pair (.int .i64) (.pair (.int .i64) (.pair (.int .i64) (.pair (.sl (.pair (.int .i64) (.pair .str .str))) .bool))))), (.sl (.pair (.int .i64) (.pair (.int .i64) (.pair (.int .i64) (.pair (.sl (.pair (.int .i64) (.pair .str .str))) .bool))))), (.sl (.pair (.int .i64) (.sl (.pair (.int .i64) (.pair .str .str)))))]]
noncomputable def leqWorld (a0 : Int) (a1 : Int) (a2 : Int) (a3 : List (Int × (List (Int × ByteArray × ByteArray)) × Int × List Int)) (a4 : List (Int × Bool)) (a5 : Int) (a6 : List (Int × (List (Int × Int × List (Int × ByteArray × ByteArray))) × Int × (List (ByteArray × ByteArray)) × List (Int × Int × List (Int × ByteArray × ByteArray)))) (a7 : List (Int × Int × Int × (List (Int × ByteArray × ByteArray)) × Bool)) (a8 : List (Int × Int × Int × (List (Int × ByteArray × ByteArray)) × Bool)) (a9 : List (Int × List (Int × ByteArray × ByteArray))) (a10 : Int) (a11 : Int) (a12 : Int) (a13 : List (Int × (List (Int × ByteArray × ByteArray)) × Int × List Int)) (a14 : List (Int × Bool)) (a15 : Int) (a16 : List (Int × (List (Int × Int × List (Int × ByteArray × ByteArray))) × Int × (List (ByteArray × ByteArray)) × List (Int × Int × List (Int × ByteArray × ByteArray)))) (a17 : List (Int × Int × Int × (List (Int × ByteArray × ByteArray)) × Bool)) (a18 : List (Int × Int × Int × (List (Int × ByteArray × ByteArray)) × Bool)) (a19 : List (Int × List (Int × ByteArray × ByteArray))) : Bool := (cond (!(leqCoord a0 a1 a2 a3 a4 a5 a10 a11 a12 a13 a14 a15)) false (cond (!(leqShardS a6 a16)) false (cond (!(leqWordS a7 a17)) false (cond (!(leqWordS a8 a18)) false (cond (!(leqOrderS a9 a19)) false true)))))
noncomputable abbrev e_leqWorld (r : Bool) : AV × List AObj := ((.t true .bool r), [])
noncomputable abbrev g_leqWorld : pshsDen P_leqWorld → AV × List AObj := fun d => e_leqWorld (leqWorld d.1.1 d.1.2.1 d.1.2.2.1 d.1.2.2.2.1 d.1.2.2.2.2.1 d.1.2.2.2.2.2.1 d.1.2.2.2.2.2.2.1 d.1.2.2.2.2.2.2.2.1 d.1.2.2.2.2.2.2.2.2.1 d.1.2.2.2.2.2.2.2.2.2.1 d.2.1.1 d.2.1.2.1 d.2.1.2.2.1 d.2.1.2.2.2.1 d.2.1.2.2.2.2.1 d.2.1.2.2.2.2.2.1 d.2.1.2.2.2.2.2.2.1 d.2.1.2.2.2.2.2.2.2.1 d.2.1.2.2.2.2.2.2.2.2.1 d.2.1.2.2.2.2.2.2.2.2.2.1)
noncomputable def q_leqWorld (a0 : Int) (a1 : Int) (a2 : Int) (a3 : List (Int × (List (Int × ByteArray × ByteArray)) × Int × List Int)) (a4 : List (Int × Bool)) (a5 : Int) (a6 : List (Int × (List (Int × Int × List (Int × ByteArray × ByteArray))) × Int × (List (ByteArray × ByteArray)) × List (Int × Int × List (Int × ByteArray × ByteArray)))) (a7 : List (Int × Int × Int × (List (Int × ByteArray × ByteArray)) × Bool)) (a8 : List (Int × Int × Int × (List (Int × ByteArray × ByteArray)) × Bool)) (a9 : List (Int × List (Int × ByteArray × ByteArray))) (a10 : Int) (a11 : Int) (a12 : Int) (a13 : List (Int × (List (Int × ByteArray × ByteArray)) × Int × List Int)) (a14 : List (Int × Bool)) (a15 : Int) (a16 : List (Int × (List (Int × Int × List (Int × ByteArray × ByteArray))) × Int × (List (ByteArray × ByteArray)) × List (Int × Int × List (Int × ByteArray × ByteArray)))) (a17 : List (Int × Int × Int × (List (Int × ByteArray × ByteArray)) × Bool)) (a18 : List (Int × Int × Int × (List (Int × ByteArray × ByteArray)) × Bool)) (a19 : List (Int × List (Int × ByteArray × ByteArray))) : Bool := (q_leqCoord a0 a1 a2 a3 a4 a5 a10 a11 a12 a13 a14 a15) && (cond (!(leqCoord a0 a1 a2 a3 a4 a5 a10 a11 a12 a13 a14 a15)) true ((q_leqShardS a6 a16) && (cond (!(leqShardS a6 a16)) true ((q_leqWordS a7 a17) && (cond (!(leqWordS a7 a17)) true ((q_leqWordS a8 a18) && (cond (!(leqWordS a8 a18)) true (q_leqOrderS a9 a19))))))))
noncomputable abbrev pre_leqWorld : pshsDen P_leqWorld → Bool := fun d => q_leqWorld d.1.1 d.1.2.1 d.1.2.2.1 d.1.2.2.2.1 d.1.2.2.2.2.1 d.1.2.2.2.2.2.1 d.1.2.2.2.2.2.2.1 d.1.2.2.2.2.2.2.2.1 d.1.2.2.2.2.2.2.2.2.1 d.1.2.2.2.2.2.2.2.2.2.1 d.2.1.1 d.2.1.2.1 d.2.1.2.2.1 d.2.1.2.2.2.1 d.2.1.2.2.2.2.1 d.2.1.2.2.2.2.2.1 d.2.1.2.2.2.2.2.2.1 d.2.1.2.2.2.2.2.2.2.1 d.2.1.2.2.2.2.2.2.2.2.1 d.2.1.2.2.2.2.2.2.2.2.2.1
theorem runA_leqWorld (a0 : Int) (a1 : Int) (a2 : Int) (a3 : List (Int × (List (Int × ByteArray × ByteArray)) × Int × List Int)) (a4 : List (Int × Bool)) (a5 : Int) (a6 : List (Int × (List (Int × Int × List (Int × ByteArray × ByteArray))) × Int × (List (ByteArray × ByteArray)) × List (Int × Int × List (Int × ByteArray × ByteArray)))) (a7 : List (Int × Int × Int × (List (Int × ByteArray × ByteArray)) × Bool)) (a8 : List (Int × Int × Int × (List (Int × ByteArray × ByteArray)) × Bool)) (a9 : List (Int × List (Int × ByteArray × ByteArray))) (a10 : Int) (a11 : Int) (a12 : Int) (a13 : List (Int × (List (Int × ByteArray × ByteArray)) × Int × List Int)) (a14 : List (Int × Bool)) (a15 : Int) (a16 : List (Int × (List (Int × Int × List (Int × ByteArray × ByteArray))) × Int × (List (ByteArray × ByteArray)) × List (Int × Int × List (Int × ByteArray × ByteArray)))) (a17 : List (Int × Int × Int × (List (Int × ByteArray × ByteArray)) × Bool)) (a18 : List (Int × Int × Int × (List (Int × ByteArray × ByteArray)) × Bool)) (a19 : List (Int × List (Int × ByteArray × ByteArray))) (hp : ((q_leqCoord a0 a1 a2 a3 a4 a5 a10 a11 a12 a13 a14 a15) && (cond (!(leqCoord a0 a1 a2 a3 a4 a5 a10 a11 a12 a13 a14 a15)) true ((q_leqShardS a6 a16) && (cond (!(leqShardS a6 a16)) true ((q_leqWordS a7 a17) && (cond (!(leqWordS a7 a17)) true ((q_leqWordS a8 a18) && (cond (!(leqWordS a8 a18)) true (q_leqOrderS a9 a19))))))))) = true) : runP true Try.prog tt S59 QF59 (fun _ _ => none) Try.f9 (argsMk P_leqWorld ((a0, (a1, (a2, (a3, (a4, (a5, (a6, (a7, (a8, (a9, ())))))))))), ((a10, (a11, (a12, (a13, (a14, (a15, (a16, (a17, (a18, (a19, ())))))))))), ()))) = some (g_leqWorld ((a0, (a1, (a2, (a3, (a4, (a5, (a6, (a7, (a8, (a9, ())))))))))), ((a10, (a11, (a12, (a13, (a14, (a15, (a16, (a17, (a18, (a19, ())))))))))), ()))) := by
  refine Eq.trans (b := (cond (q_leqCoord a0 a1 a2 a3 a4 a5 a10 a11 a12 a13 a14 a15) (cond (!(leqCoord a0 a1 a2 a3 a4 a5 a10 a11 a12 a13 a14 a15)) (some (e_leqWorld false)) (cond (q_leqShardS a6 a16) (cond (!(leqShardS a6 a16)) (some (e_leqWorld false)) (cond (q_leqWordS a7 a17) (cond (!(leqWordS a7 a17)) (some (e_leqWorld false)) (cond (q_leqWordS a8 a18) (cond (!(leqWordS a8 a18)) (some (e_leqWorld false)) (cond (q_leqOrderS a9 a19) (cond (!(leqOrderS a9 a19)) (some (e_leqWorld false)) (some (e_leqWorld true))) none)) none)) none)) none)) none)) (by kernel_rfl) ?_
  exact (cndT (andL hp) (fun _h => (fun hp => (cndQ (F := fun r => some (e_leqWorld r)) hp (fun hp => rfl) (fun hp => (cndT (andL hp) (fun _h => (fun hp => (cndQ (F := fun r => some (e_leqWorld r)) hp (fun hp => rfl) (fun hp => (cndT (andL hp) (fun _h => (fun hp => (cndQ (F := fun r => some (e_leqWorld r)) hp (fun hp => rfl) (fun hp => (cndT (andL hp) (fun _h => (fun hp => (cndQ (F := fun r => some (e_leqWorld r)) hp (fun hp => rfl) (fun hp => (cndT hp (fun _h => (cnd (F := fun r => some (e_leqWorld r)) (fun _h => rfl) (fun _h => rfl))))))) (andR hp)))))) (andR hp)))))) (andR hp)))))) (andR hp)))
theorem run_leqWorld : ∀ d, pre_leqWorld d = true → runP true Try.prog tt S59 QF59 (fun _ _ => none) Try.f9 (argsMk P_leqWorld d) = some (g_leqWorld d) := fun d hp => runA_leqWorld d.1.1 d.1.2.1 d.1.2.2.1 d.1.2.2.2.1 d.1.2.2.2.2.1 d.1.2.2.2.2.2.1 d.1.2.2.2.2.2.2.1 d.1.2.2.2.2.2.2.2.1 d.1.2.2.2.2.2.2.2.2.1 d.1.2.2.2.2.2.2.2.2.2.1 d.2.1.1 d.2.1.2.1 d.2.1.2.2.1 d.2.1.2.2.2.1 d.2.1.2.2.2.2.1 d.2.1.2.2.2.2.2.1 d.2.1.2.2.2.2.2.2.1 d.2.1.2.2.2.2.2.2.2.1 d.2.1.2.2.2.2.2.2.2.2.1 d.2.1.2.2.2.2.2.2.2.2.2.1 hp
theorem c_leqWorld : PContract Try.prog 9 (sumOf P_leqWorld pre_leqWorld g_leqWorld) := PContract.of_data true G59 (fn := Try.f9) (by kernel_rfl) (L := fun _ _ => none) (by rw [show loopsIn 0 (bodyOf Try.f9) = [] by kernel_rfl]; simp) P_leqWorld pre_leqWorld g_leqWorld run_leqWorld
noncomputable def S60 : Tab := Tab.add S59 9 (lift (sumOf P_leqWorld pre_leqWorld g_leqWorld))
noncomputable def QF60 : FuncId → Bool := qadd QF59 9
theorem G60 : Good Try.prog tt S60 QF60 := G59.addQ c_leqWorld ⟨Try.f9, by kernel_rfl, by kernel_rfl, by kernel_rfl⟩ (fun _ => rfl)

/-! 4 loop.example/g00244/laws.FnExactBacked -/
noncomputable abbrev P_lFnExactBacked : List PSh := [.agg [(.int .i64), (.int .i64), (.int .i64), (.sl (.pair (.int .i64) (.pair (.sl (.pair (.int .i64) (.pair .str .str))) (.pair (.int .i64) (.sl (.int .i64)))))), (.sl (.pair (.int .i64) .bool)), (.int .i64), (.sl (.pair (.int .i64) (.pair (.sl (.pair (.int .i64) (.pair (.int .i64) (.sl (.pair (.int .i64) (.pair .str .str)))))) (.pair (.int .i64) (.pair (.sl (.pair .str .str)) (.sl (.pair (.int .i64) (.pair (.int .i64) (.sl (.pair (.int .i64) (.pair .str .str))))))))))), (.sl (.pair (.int .i64) (.pair (.int .i64) (.pair (.int .i64) (.pair (.sl (.pair (.int .i64) (.pair .str .str))) .bool))))), (.sl (.pair (.int .i64) (.pair (.int .i64) (.pair (.int .i64) (.pair (.sl (.pair (.int .i64) (.pair .str .str))) .bool))))), (.sl (.pair (.int .i64) (.sl (.pair (.int .i64) (.pair .str .str)))))]]
noncomputable def k1_lFnExactBacked (a0 : Int) (a1 : Int) (a2 : Int) (a3 : List (Int × (List (Int × ByteArray × ByteArray)) × Int × List Int)) (a4 : List (Int × Bool)) (a5 : Int) (a6 : List (Int × (List (Int × Int × List (Int × ByteArray × ByteArray))) × Int × (List (ByteArray × ByteArray)) × List (Int × Int × List (Int × ByteArray × ByteArray)))) (a7 : List (Int × Int × Int × (List (Int × ByteArray × ByteArray)) × Bool)) (a8 : List (Int × Int × Int × (List (Int × ByteArray × ByteArray)) × Bool)) (a9 : List (Int × List (Int × ByteArray × ByteArray))) := sBacked ((ltoWorld a0 a1 a2 a3 a4 a5 a6 a7 a8 a9).1) ((ltoWorld a0 a1 a2 a3 a4 a5 a6 a7 a8 a9).2.1) ((ltoWorld a0 a1 a2 a3 a4 a5 a6 a7 a8 a9).2.2.1) ((ltoWorld a0 a1 a2 a3 a4 a5 a6 a7 a8 a9).2.2.2.1) ((ltoWorld a0 a1 a2 a3 a4 a5 a6 a7 a8 a9).2.2.2.2.1) ((ltoWorld a0 a1 a2 a3 a4 a5 a6 a7 a8 a9).2.2.2.2.2.1) ((ltoWorld a0 a1 a2 a3 a4 a5 a6 a7 a8 a9).2.2.2.2.2.2.1) ((ltoWorld a0 a1 a2 a3 a4 a5 a6 a7 a8 a9).2.2.2.2.2.2.2.1) ((ltoWorld a0 a1 a2 a3 a4 a5 a6 a7 a8 a9).2.2.2.2.2.2.2.2.1) ((ltoWorld a0 a1 a2 a3 a4 a5 a6 a7 a8 a9).2.2.2.2.2.2.2.2.2)
noncomputable def k2_lFnExactBacked (a0 : Int) (a1 : Int) (a2 : Int) (a3 : List (Int × (List (Int × ByteArray × ByteArray)) × Int × List Int)) (a4 : List (Int × Bool)) (a5 : Int) (a6 : List (Int × (List (Int × Int × List (Int × ByteArray × ByteArray))) × Int × (List (ByteArray × ByteArray)) × List (Int × Int × List (Int × ByteArray × ByteArray)))) (a7 : List (Int × Int × Int × (List (Int × ByteArray × ByteArray)) × Bool)) (a8 : List (Int × Int × Int × (List (Int × ByteArray × ByteArray)) × Bool)) (a9 : List (Int × List (Int × ByteArray × ByteArray))) := iBacked ((ltoWorld a0 a1 a2 a3 a4 a5 a6 a7 a8 a9).1) ((ltoWorld a0 a1 a2 a3 a4 a5 a6 a7 a8 a9).2.1) ((ltoWorld a0 a1 a2 a3 a4 a5 a6 a7 a8 a9).2.2.1) ((ltoWorld a0 a1 a2 a3 a4 a5 a6 a7 a8 a9).2.2.2.1) ((ltoWorld a0 a1 a2 a3 a4 a5 a6 a7 a8 a9).2.2.2.2.1) ((ltoWorld a0 a1 a2 a3 a4 a5 a6 a7 a8 a9).2.2.2.2.2.1) ((ltoWorld a0 a1 a2 a3 a4 a5 a6 a7 a8 a9).2.2.2.2.2.2.1) ((ltoWorld a0 a1 a2 a3 a4 a5 a6 a7 a8 a9).2.2.2.2.2.2.2.1) ((ltoWorld a0 a1 a2 a3 a4 a5 a6 a7 a8 a9).2.2.2.2.2.2.2.2.1) ((ltoWorld a0 a1 a2 a3 a4 a5 a6 a7 a8 a9).2.2.2.2.2.2.2.2.2)
noncomputable def k3_lFnExactBacked (a0 : Int) (a1 : Int) (a2 : Int) (a3 : List (Int × (List (Int × ByteArray × ByteArray)) × Int × List Int)) (a4 : List (Int × Bool)) (a5 : Int) (a6 : List (Int × (List (Int × Int × List (Int × ByteArray × ByteArray))) × Int × (List (ByteArray × ByteArray)) × List (Int × Int × List (Int × ByteArray × ByteArray)))) (a7 : List (Int × Int × Int × (List (Int × ByteArray × ByteArray)) × Bool)) (a8 : List (Int × Int × Int × (List (Int × ByteArray × ByteArray)) × Bool)) (a9 : List (Int × List (Int × ByteArray × ByteArray))) := leqWorld ((ltoWorld a0 a1 a2 a3 a4 a5 a6 a7 a8 a9).1) ((ltoWorld a0 a1 a2 a3 a4 a5 a6 a7 a8 a9).2.1) ((ltoWorld a0 a1 a2 a3 a4 a5 a6 a7 a8 a9).2.2.1) ((ltoWorld a0 a1 a2 a3 a4 a5 a6 a7 a8 a9).2.2.2.1) ((ltoWorld a0 a1 a2 a3 a4 a5 a6 a7 a8 a9).2.2.2.2.1) ((ltoWorld a0 a1 a2 a3 a4 a5 a6 a7 a8 a9).2.2.2.2.2.1) ((ltoWorld a0 a1 a2 a3 a4 a5 a6 a7 a8 a9).2.2.2.2.2.2.1) ((ltoWorld a0 a1 a2 a3 a4 a5 a6 a7 a8 a9).2.2.2.2.2.2.2.1) ((ltoWorld a0 a1 a2 a3 a4 a5 a6 a7 a8 a9).2.2.2.2.2.2.2.2.1) ((ltoWorld a0 a1 a2 a3 a4 a5 a6 a7 a8 a9).2.2.2.2.2.2.2.2.2) ((ltoWorld a0 a1 a2 a3 a4 a5 a6 a7 a8 a9).1) ((ltoWorld a0 a1 a2 a3 a4 a5 a6 a7 a8 a9).2.1) ((ltoWorld a0 a1 a2 a3 a4 a5 a6 a7 a8 a9).2.2.1) ((ltoWorld a0 a1 a2 a3 a4 a5 a6 a7 a8 a9).2.2.2.1) ((ltoWorld a0 a1 a2 a3 a4 a5 a6 a7 a8 a9).2.2.2.2.1) ((ltoWorld a0 a1 a2 a3 a4 a5 a6 a7 a8 a9).2.2.2.2.2.1) ((ltoWorld a0 a1 a2 a3 a4 a5 a6 a7 a8 a9).2.2.2.2.2.2.1) ((ltoWorld a0 a1 a2 a3 a4 a5 a6 a7 a8 a9).2.2.2.2.2.2.2.1) ((ltoWorld a0 a1 a2 a3 a4 a5 a6 a7 a8 a9).2.2.2.2.2.2.2.2.1) ((ltoWorld a0 a1 a2 a3 a4 a5 a6 a7 a8 a9).2.2.2.2.2.2.2.2.2)
noncomputable def lFnExactBacked (a0 : Int) (a1 : Int) (a2 : Int) (a3 : List (Int × (List (Int × ByteArray × ByteArray)) × Int × List Int)) (a4 : List (Int × Bool)) (a5 : Int) (a6 : List (Int × (List (Int × Int × List (Int × ByteArray × ByteArray))) × Int × (List (ByteArray × ByteArray)) × List (Int × Int × List (Int × ByteArray × ByteArray)))) (a7 : List (Int × Int × Int × (List (Int × ByteArray × ByteArray)) × Bool)) (a8 : List (Int × Int × Int × (List (Int × ByteArray × ByteArray)) × Bool)) (a9 : List (Int × List (Int × ByteArray × ByteArray))) : Bool := (cond (decide ((lszWorld a0 a1 a2 a3 a4 a5 a6 a7 a8 a9 (1048576 : Int)) < (0 : Int))) true (cond (!((k2_lFnExactBacked a0 a1 a2 a3 a4 a5 a6 a7 a8 a9) == (k1_lFnExactBacked a0 a1 a2 a3 a4 a5 a6 a7 a8 a9))) false (cond (!(k3_lFnExactBacked a0 a1 a2 a3 a4 a5 a6 a7 a8 a9)) false true)))
noncomputable abbrev e_lFnExactBacked (r : Bool) : AV × List AObj := ((.t true .bool r), [])
noncomputable abbrev g_lFnExactBacked : pshsDen P_lFnExactBacked → AV × List AObj := fun d => e_lFnExactBacked (lFnExactBacked d.1.1 d.1.2.1 d.1.2.2.1 d.1.2.2.2.1 d.1.2.2.2.2.1 d.1.2.2.2.2.2.1 d.1.2.2.2.2.2.2.1 d.1.2.2.2.2.2.2.2.1 d.1.2.2.2.2.2.2.2.2.1 d.1.2.2.2.2.2.2.2.2.2.1)
noncomputable def q_lFnExactBacked (a0 : Int) (a1 : Int) (a2 : Int) (a3 : List (Int × (List (Int × ByteArray × ByteArray)) × Int × List Int)) (a4 : List (Int × Bool)) (a5 : Int) (a6 : List (Int × (List (Int × Int × List (Int × ByteArray × ByteArray))) × Int × (List (ByteArray × ByteArray)) × List (Int × Int × List (Int × ByteArray × ByteArray)))) (a7 : List (Int × Int × Int × (List (Int × ByteArray × ByteArray)) × Bool)) (a8 : List (Int × Int × Int × (List (Int × ByteArray × ByteArray)) × Bool)) (a9 : List (Int × List (Int × ByteArray × ByteArray))) : Bool := (q_lszWorld a0 a1 a2 a3 a4 a5 a6 a7 a8 a9 (1048576 : Int)) && (cond (decide ((lszWorld a0 a1 a2 a3 a4 a5 a6 a7 a8 a9 (1048576 : Int)) < (0 : Int))) true ((q_ltoWorld a0 a1 a2 a3 a4 a5 a6 a7 a8 a9) && ((q_sBacked ((ltoWorld a0 a1 a2 a3 a4 a5 a6 a7 a8 a9).1) ((ltoWorld a0 a1 a2 a3 a4 a5 a6 a7 a8 a9).2.1) ((ltoWorld a0 a1 a2 a3 a4 a5 a6 a7 a8 a9).2.2.1) ((ltoWorld a0 a1 a2 a3 a4 a5 a6 a7 a8 a9).2.2.2.1) ((ltoWorld a0 a1 a2 a3 a4 a5 a6 a7 a8 a9).2.2.2.2.1) ((ltoWorld a0 a1 a2 a3 a4 a5 a6 a7 a8 a9).2.2.2.2.2.1) ((ltoWorld a0 a1 a2 a3 a4 a5 a6 a7 a8 a9).2.2.2.2.2.2.1) ((ltoWorld a0 a1 a2 a3 a4 a5 a6 a7 a8 a9).2.2.2.2.2.2.2.1) ((ltoWorld a0 a1 a2 a3 a4 a5 a6 a7 a8 a9).2.2.2.2.2.2.2.2.1) ((ltoWorld a0 a1 a2 a3 a4 a5 a6 a7 a8 a9).2.2.2.2.2.2.2.2.2)) && ((q_ltoWorld a0 a1 a2 a3 a4 a5 a6 a7 a8 a9) && ((q_iBacked ((ltoWorld a0 a1 a2 a3 a4 a5 a6 a7 a8 a9).1) ((ltoWorld a0 a1 a2 a3 a4 a5 a6 a7 a8 a9).2.1) ((ltoWorld a0 a1 a2 a3 a4 a5 a6 a7 a8 a9).2.2.1) ((ltoWorld a0 a1 a2 a3 a4 a5 a6 a7 a8 a9).2.2.2.1) ((ltoWorld a0 a1 a2 a3 a4 a5 a6 a7 a8 a9).2.2.2.2.1) ((ltoWorld a0 a1 a2 a3 a4 a5 a6 a7 a8 a9).2.2.2.2.2.1) ((ltoWorld a0 a1 a2 a3 a4 a5 a6 a7 a8 a9).2.2.2.2.2.2.1) ((ltoWorld a0 a1 a2 a3 a4 a5 a6 a7 a8 a9).2.2.2.2.2.2.2.1) ((ltoWorld a0 a1 a2 a3 a4 a5 a6 a7 a8 a9).2.2.2.2.2.2.2.2.1) ((ltoWorld a0 a1 a2 a3 a4 a5 a6 a7 a8 a9).2.2.2.2.2.2.2.2.2)) && (cond (!((k2_lFnExactBacked a0 a1 a2 a3 a4 a5 a6 a7 a8 a9) == (k1_lFnExactBacked a0 a1 a2 a3 a4 a5 a6 a7 a8 a9))) true ((q_ltoWorld a0 a1 a2 a3 a4 a5 a6 a7 a8 a9) && (q_leqWorld ((ltoWorld a0 a1 a2 a3 a4 a5 a6 a7 a8 a9).1) ((ltoWorld a0 a1 a2 a3 a4 a5 a6 a7 a8 a9).2.1) ((ltoWorld a0 a1 a2 a3 a4 a5 a6 a7 a8 a9).2.2.1) ((ltoWorld a0 a1 a2 a3 a4 a5 a6 a7 a8 a9).2.2.2.1) ((ltoWorld a0 a1 a2 a3 a4 a5 a6 a7 a8 a9).2.2.2.2.1) ((ltoWorld a0 a1 a2 a3 a4 a5 a6 a7 a8 a9).2.2.2.2.2.1) ((ltoWorld a0 a1 a2 a3 a4 a5 a6 a7 a8 a9).2.2.2.2.2.2.1) ((ltoWorld a0 a1 a2 a3 a4 a5 a6 a7 a8 a9).2.2.2.2.2.2.2.1) ((ltoWorld a0 a1 a2 a3 a4 a5 a6 a7 a8 a9).2.2.2.2.2.2.2.2.1) ((ltoWorld a0 a1 a2 a3 a4 a5 a6 a7 a8 a9).2.2.2.2.2.2.2.2.2) ((ltoWorld a0 a1 a2 a3 a4 a5 a6 a7 a8 a9).1) ((ltoWorld a0 a1 a2 a3 a4 a5 a6 a7 a8 a9).2.1) ((ltoWorld a0 a1 a2 a3 a4 a5 a6 a7 a8 a9).2.2.1) ((ltoWorld a0 a1 a2 a3 a4 a5 a6 a7 a8 a9).2.2.2.1) ((ltoWorld a0 a1 a2 a3 a4 a5 a6 a7 a8 a9).2.2.2.2.1) ((ltoWorld a0 a1 a2 a3 a4 a5 a6 a7 a8 a9).2.2.2.2.2.1) ((ltoWorld a0 a1 a2 a3 a4 a5 a6 a7 a8 a9).2.2.2.2.2.2.1) ((ltoWorld a0 a1 a2 a3 a4 a5 a6 a7 a8 a9).2.2.2.2.2.2.2.1) ((ltoWorld a0 a1 a2 a3 a4 a5 a6 a7 a8 a9).2.2.2.2.2.2.2.2.1) ((ltoWorld a0 a1 a2 a3 a4 a5 a6 a7 a8 a9).2.2.2.2.2.2.2.2.2)))))))))
noncomputable abbrev pre_lFnExactBacked : pshsDen P_lFnExactBacked → Bool := fun d => q_lFnExactBacked d.1.1 d.1.2.1 d.1.2.2.1 d.1.2.2.2.1 d.1.2.2.2.2.1 d.1.2.2.2.2.2.1 d.1.2.2.2.2.2.2.1 d.1.2.2.2.2.2.2.2.1 d.1.2.2.2.2.2.2.2.2.1 d.1.2.2.2.2.2.2.2.2.2.1
theorem runA_lFnExactBacked (a0 : Int) (a1 : Int) (a2 : Int) (a3 : List (Int × (List (Int × ByteArray × ByteArray)) × Int × List Int)) (a4 : List (Int × Bool)) (a5 : Int) (a6 : List (Int × (List (Int × Int × List (Int × ByteArray × ByteArray))) × Int × (List (ByteArray × ByteArray)) × List (Int × Int × List (Int × ByteArray × ByteArray)))) (a7 : List (Int × Int × Int × (List (Int × ByteArray × ByteArray)) × Bool)) (a8 : List (Int × Int × Int × (List (Int × ByteArray × ByteArray)) × Bool)) (a9 : List (Int × List (Int × ByteArray × ByteArray))) (hp : ((q_lszWorld a0 a1 a2 a3 a4 a5 a6 a7 a8 a9 (1048576 : Int)) && (cond (decide ((lszWorld a0 a1 a2 a3 a4 a5 a6 a7 a8 a9 (1048576 : Int)) < (0 : Int))) true ((q_ltoWorld a0 a1 a2 a3 a4 a5 a6 a7 a8 a9) && ((q_sBacked ((ltoWorld a0 a1 a2 a3 a4 a5 a6 a7 a8 a9).1) ((ltoWorld a0 a1 a2 a3 a4 a5 a6 a7 a8 a9).2.1) ((ltoWorld a0 a1 a2 a3 a4 a5 a6 a7 a8 a9).2.2.1) ((ltoWorld a0 a1 a2 a3 a4 a5 a6 a7 a8 a9).2.2.2.1) ((ltoWorld a0 a1 a2 a3 a4 a5 a6 a7 a8 a9).2.2.2.2.1) ((ltoWorld a0 a1 a2 a3 a4 a5 a6 a7 a8 a9).2.2.2.2.2.1) ((ltoWorld a0 a1 a2 a3 a4 a5 a6 a7 a8 a9).2.2.2.2.2.2.1) ((ltoWorld a0 a1 a2 a3 a4 a5 a6 a7 a8 a9).2.2.2.2.2.2.2.1) ((ltoWorld a0 a1 a2 a3 a4 a5 a6 a7 a8 a9).2.2.2.2.2.2.2.2.1) ((ltoWorld a0 a1 a2 a3 a4 a5 a6 a7 a8 a9).2.2.2.2.2.2.2.2.2)) && ((q_ltoWorld a0 a1 a2 a3 a4 a5 a6 a7 a8 a9) && ((q_iBacked ((ltoWorld a0 a1 a2 a3 a4 a5 a6 a7 a8 a9).1) ((ltoWorld a0 a1 a2 a3 a4 a5 a6 a7 a8 a9).2.1) ((ltoWorld a0 a1 a2 a3 a4 a5 a6 a7 a8 a9).2.2.1) ((ltoWorld a0 a1 a2 a3 a4 a5 a6 a7 a8 a9).2.2.2.1) ((ltoWorld a0 a1 a2 a3 a4 a5 a6 a7 a8 a9).2.2.2.2.1) ((ltoWorld a0 a1 a2 a3 a4 a5 a6 a7 a8 a9).2.2.2.2.2.1) ((ltoWorld a0 a1 a2 a3 a4 a5 a6 a7 a8 a9).2.2.2.2.2.2.1) ((ltoWorld a0 a1 a2 a3 a4 a5 a6 a7 a8 a9).2.2.2.2.2.2.2.1) ((ltoWorld a0 a1 a2 a3 a4 a5 a6 a7 a8 a9).2.2.2.2.2.2.2.2.1) ((ltoWorld a0 a1 a2 a3 a4 a5 a6 a7 a8 a9).2.2.2.2.2.2.2.2.2)) && (cond (!((k2_lFnExactBacked a0 a1 a2 a3 a4 a5 a6 a7 a8 a9) == (k1_lFnExactBacked a0 a1 a2 a3 a4 a5 a6 a7 a8 a9))) true ((q_ltoWorld a0 a1 a2 a3 a4 a5 a6 a7 a8 a9) && (q_leqWorld ((ltoWorld a0 a1 a2 a3 a4 a5 a6 a7 a8 a9).1) ((ltoWorld a0 a1 a2 a3 a4 a5 a6 a7 a8 a9).2.1) ((ltoWorld a0 a1 a2 a3 a4 a5 a6 a7 a8 a9).2.2.1) ((ltoWorld a0 a1 a2 a3 a4 a5 a6 a7 a8 a9).2.2.2.1) ((ltoWorld a0 a1 a2 a3 a4 a5 a6 a7 a8 a9).2.2.2.2.1) ((ltoWorld a0 a1 a2 a3 a4 a5 a6 a7 a8 a9).2.2.2.2.2.1) ((ltoWorld a0 a1 a2 a3 a4 a5 a6 a7 a8 a9).2.2.2.2.2.2.1) ((ltoWorld a0 a1 a2 a3 a4 a5 a6 a7 a8 a9).2.2.2.2.2.2.2.1) ((ltoWorld a0 a1 a2 a3 a4 a5 a6 a7 a8 a9).2.2.2.2.2.2.2.2.1) ((ltoWorld a0 a1 a2 a3 a4 a5 a6 a7 a8 a9).2.2.2.2.2.2.2.2.2) ((ltoWorld a0 a1 a2 a3 a4 a5 a6 a7 a8 a9).1) ((ltoWorld a0 a1 a2 a3 a4 a5 a6 a7 a8 a9).2.1) ((ltoWorld a0 a1 a2 a3 a4 a5 a6 a7 a8 a9).2.2.1) ((ltoWorld a0 a1 a2 a3 a4 a5 a6 a7 a8 a9).2.2.2.1) ((ltoWorld a0 a1 a2 a3 a4 a5 a6 a7 a8 a9).2.2.2.2.1) ((ltoWorld a0 a1 a2 a3 a4 a5 a6 a7 a8 a9).2.2.2.2.2.1) ((ltoWorld a0 a1 a2 a3 a4 a5 a6 a7 a8 a9).2.2.2.2.2.2.1) ((ltoWorld a0 a1 a2 a3 a4 a5 a6 a7 a8 a9).2.2.2.2.2.2.2.1) ((ltoWorld a0 a1 a2 a3 a4 a5 a6 a7 a8 a9).2.2.2.2.2.2.2.2.1) ((ltoWorld a0 a1 a2 a3 a4 a5 a6 a7 a8 a9).2.2.2.2.2.2.2.2.2)))))))))) = true) : runP true Try.prog tt S60 QF60 (fun _ _ => none) Try.f4 (argsMk P_lFnExactBacked ((a0, (a1, (a2, (a3, (a4, (a5, (a6, (a7, (a8, (a9, ())))))))))), ())) = some (g_lFnExactBacked ((a0, (a1, (a2, (a3, (a4, (a5, (a6, (a7, (a8, (a9, ())))))))))), ())) := by
  refine Eq.trans (b := (cond (q_lszWorld a0 a1 a2 a3 a4 a5 a6 a7 a8 a9 (1048576 : Int)) (cond (decide ((lszWorld a0 a1 a2 a3 a4 a5 a6 a7 a8 a9 (1048576 : Int)) < (0 : Int))) (some (e_lFnExactBacked true)) (cond (q_ltoWorld a0 a1 a2 a3 a4 a5 a6 a7 a8 a9) (cond (q_sBacked ((ltoWorld a0 a1 a2 a3 a4 a5 a6 a7 a8 a9).1) ((ltoWorld a0 a1 a2 a3 a4 a5 a6 a7 a8 a9).2.1) ((ltoWorld a0 a1 a2 a3 a4 a5 a6 a7 a8 a9).2.2.1) ((ltoWorld a0 a1 a2 a3 a4 a5 a6 a7 a8 a9).2.2.2.1) ((ltoWorld a0 a1 a2 a3 a4 a5 a6 a7 a8 a9).2.2.2.2.1) ((ltoWorld a0 a1 a2 a3 a4 a5 a6 a7 a8 a9).2.2.2.2.2.1) ((ltoWorld a0 a1 a2 a3 a4 a5 a6 a7 a8 a9).2.2.2.2.2.2.1) ((ltoWorld a0 a1 a2 a3 a4 a5 a6 a7 a8 a9).2.2.2.2.2.2.2.1) ((ltoWorld a0 a1 a2 a3 a4 a5 a6 a7 a8 a9).2.2.2.2.2.2.2.2.1) ((ltoWorld a0 a1 a2 a3 a4 a5 a6 a7 a8 a9).2.2.2.2.2.2.2.2.2)) (cond (q_ltoWorld a0 a1 a2 a3 a4 a5 a6 a7 a8 a9) (cond (q_iBacked ((ltoWorld a0 a1 a2 a3 a4 a5 a6 a7 a8 a9).1) ((ltoWorld a0 a1 a2 a3 a4 a5 a6 a7 a8 a9).2.1) ((ltoWorld a0 a1 a2 a3 a4 a5 a6 a7 a8 a9).2.2.1) ((ltoWorld a0 a1 a2 a3 a4 a5 a6 a7 a8 a9).2.2.2.1) ((ltoWorld a0 a1 a2 a3 a4 a5 a6 a7 a8 a9).2.2.2.2.1) ((ltoWorld a0 a1 a2 a3 a4 a5 a6 a7 a8 a9).2.2.2.2.2.1) ((ltoWorld a0 a1 a2 a3 a4 a5 a6 a7 a8 a9).2.2.2.2.2.2.1) ((ltoWorld a0 a1 a2 a3 a4 a5 a6 a7 a8 a9).2.2.2.2.2.2.2.1) ((ltoWorld a0 a1 a2 a3 a4 a5 a6 a7 a8 a9).2.2.2.2.2.2.2.2.1) ((ltoWorld a0 a1 a2 a3 a4 a5 a6 a7 a8 a9).2.2.2.2.2.2.2.2.2)) (cond (!((k2_lFnExactBacked a0 a1 a2 a3 a4 a5 a6 a7 a8 a9) == (k1_lFnExactBacked a0 a1 a2 a3 a4 a5 a6 a7 a8 a9))) (some (e_lFnExactBacked false)) (cond (q_ltoWorld a0 a1 a2 a3 a4 a5 a6 a7 a8 a9) (cond (q_leqWorld ((ltoWorld a0 a1 a2 a3 a4 a5 a6 a7 a8 a9).1) ((ltoWorld a0 a1 a2 a3 a4 a5 a6 a7 a8 a9).2.1) ((ltoWorld a0 a1 a2 a3 a4 a5 a6 a7 a8 a9).2.2.1) ((ltoWorld a0 a1 a2 a3 a4 a5 a6 a7 a8 a9).2.2.2.1) ((ltoWorld a0 a1 a2 a3 a4 a5 a6 a7 a8 a9).2.2.2.2.1) ((ltoWorld a0 a1 a2 a3 a4 a5 a6 a7 a8 a9).2.2.2.2.2.1) ((ltoWorld a0 a1 a2 a3 a4 a5 a6 a7 a8 a9).2.2.2.2.2.2.1) ((ltoWorld a0 a1 a2 a3 a4 a5 a6 a7 a8 a9).2.2.2.2.2.2.2.1) ((ltoWorld a0 a1 a2 a3 a4 a5 a6 a7 a8 a9).2.2.2.2.2.2.2.2.1) ((ltoWorld a0 a1 a2 a3 a4 a5 a6 a7 a8 a9).2.2.2.2.2.2.2.2.2) ((ltoWorld a0 a1 a2 a3 a4 a5 a6 a7 a8 a9).1) ((ltoWorld a0 a1 a2 a3 a4 a5 a6 a7 a8 a9).2.1) ((ltoWorld a0 a1 a2 a3 a4 a5 a6 a7 a8 a9).2.2.1) ((ltoWorld a0 a1 a2 a3 a4 a5 a6 a7 a8 a9).2.2.2.1) ((ltoWorld a0 a1 a2 a3 a4 a5 a6 a7 a8 a9).2.2.2.2.1) ((ltoWorld a0 a1 a2 a3 a4 a5 a6 a7 a8 a9).2.2.2.2.2.1) ((ltoWorld a0 a1 a2 a3 a4 a5 a6 a7 a8 a9).2.2.2.2.2.2.1) ((ltoWorld a0 a1 a2 a3 a4 a5 a6 a7 a8 a9).2.2.2.2.2.2.2.1) ((ltoWorld a0 a1 a2 a3 a4 a5 a6 a7 a8 a9).2.2.2.2.2.2.2.2.1) ((ltoWorld a0 a1 a2 a3 a4 a5 a6 a7 a8 a9).2.2.2.2.2.2.2.2.2)) (cond (!(k3_lFnExactBacked a0 a1 a2 a3 a4 a5 a6 a7 a8 a9)) (some (e_lFnExactBacked false)) (some (e_lFnExactBacked true))) none) none)) none) none) none) none)) none)) (by kernel_rfl) ?_
  exact (cndT (andL hp) (fun _h => (fun hp => (cndQ (F := fun r => some (e_lFnExactBacked r)) hp (fun hp => rfl) (fun hp => (cndT (andL hp) (fun _h => (fun hp => (cndT (andL hp) (fun _h => (fun hp => (cndT (andL hp) (fun _h => (fun hp => (cndT (andL hp) (fun _h => (fun hp => (cndQ (F := fun r => some (e_lFnExactBacked r)) hp (fun hp => rfl) (fun hp => (cndT (andL hp) (fun _h => (fun hp => (cndT hp (fun _h => (cnd (F := fun r => some (e_lFnExactBacked r)) (fun _h => rfl) (fun _h => rfl))))) (andR hp)))))) (andR hp)))) (andR hp)))) (andR hp)))) (andR hp)))))) (andR hp)))
theorem run_lFnExactBacked : ∀ d, pre_lFnExactBacked d = true → runP true Try.prog tt S60 QF60 (fun _ _ => none) Try.f4 (argsMk P_lFnExactBacked d) = some (g_lFnExactBacked d) := fun d hp => runA_lFnExactBacked d.1.1 d.1.2.1 d.1.2.2.1 d.1.2.2.2.1 d.1.2.2.2.2.1 d.1.2.2.2.2.2.1 d.1.2.2.2.2.2.2.1 d.1.2.2.2.2.2.2.2.1 d.1.2.2.2.2.2.2.2.2.1 d.1.2.2.2.2.2.2.2.2.2.1 hp
theorem c_lFnExactBacked : PContract Try.prog 4 (sumOf P_lFnExactBacked pre_lFnExactBacked g_lFnExactBacked) := PContract.of_data true G60 (fn := Try.f4) (by kernel_rfl) (L := fun _ _ => none) (by rw [show loopsIn 0 (bodyOf Try.f4) = [] by kernel_rfl]; simp) P_lFnExactBacked pre_lFnExactBacked g_lFnExactBacked run_lFnExactBacked
noncomputable def S61 : Tab := Tab.add S60 4 (lift (sumOf P_lFnExactBacked pre_lFnExactBacked g_lFnExactBacked))
noncomputable def QF61 : FuncId → Bool := qadd QF60 4
theorem G61 : Good Try.prog tt S61 QF61 := G60.addQ c_lFnExactBacked ⟨Try.f4, by kernel_rfl, by kernel_rfl, by kernel_rfl⟩ (fun _ => rfl)
noncomputable abbrev JobD := Int × List (Int × ByteArray × ByteArray) × Int × List Int
noncomputable abbrev RecD := (Int) × (Int) × List (Int × ByteArray × ByteArray)
noncomputable abbrev ShardD := (Int) × (List RecD) × (Int) × (List (ByteArray × ByteArray)) × List RecD
noncomputable abbrev WordD := (Int) × (Int) × (Int) × (List (Int × ByteArray × ByteArray)) × Bool
noncomputable abbrev OrderD := (Int) × List (Int × ByteArray × ByteArray)
noncomputable def bigJob (j : JobD) : Prop := bigOps j.2.1 = true ∧ j.2.2.2.length ≤ 9223372036854775807
noncomputable def bigJobs (l : List JobD) : Prop := l.length ≤ 9223372036854775807 ∧ ∀ j ∈ l, bigJob j
noncomputable def bigOpS (l : List (Int × ByteArray × ByteArray)) : Prop := bigOps l = true
noncomputable def bigRec (x : RecD) : Prop := bigOpS x.2.2
noncomputable def bigRecS (l : List RecD) : Prop := l.length ≤ 9223372036854775807 ∧ ∀ x ∈ l, bigRec x
noncomputable abbrev PairD := ByteArray × ByteArray
noncomputable def bigPairS (l : List PairD) : Prop := l.length ≤ 9223372036854775807 ∧ ∀ p ∈ l, bigS p.1 = true ∧ bigS p.2 = true
noncomputable def bigShard (x : ShardD) : Prop := bigRecS x.2.1 ∧ bigPairS x.2.2.2.1 ∧ bigRecS x.2.2.2.2
noncomputable def bigShardS (l : List ShardD) : Prop := l.length ≤ 9223372036854775807 ∧ ∀ x ∈ l, bigShard x
noncomputable def bigWord (x : WordD) : Prop := bigOpS x.2.2.2.1
noncomputable def bigWordS (l : List WordD) : Prop := l.length ≤ 9223372036854775807 ∧ ∀ x ∈ l, bigWord x
noncomputable def bigOrder (x : OrderD) : Prop := bigOpS x.2
noncomputable def bigOrderS (l : List OrderD) : Prop := l.length ≤ 9223372036854775807 ∧ ∀ x ∈ l, bigOrder x
noncomputable def bigWorld (a3 : List JobD) (a4 : List (Int × Bool)) (a6 : List ShardD) (a7 a8 : List WordD) (a9 : List OrderD) : Prop := bigJobs a3 ∧ a4.length ≤ 9223372036854775807 ∧ bigShardS a6 ∧ bigWordS a7 ∧ bigWordS a8 ∧ bigOrderS a9
noncomputable def okJob (j : JobD) : Prop := okOps j.2.1 = true ∧ j.2.2.2.length ≤ 1048576
noncomputable def okOpS (l : List (Int × ByteArray × ByteArray)) : Prop := okOps l = true
noncomputable def okRec (x : RecD) : Prop := okOpS x.2.2
noncomputable def okRecS (l : List RecD) : Prop := l.length ≤ 1048576 ∧ ∀ x ∈ l, okRec x
noncomputable def okPairS (l : List PairD) : Prop := l.length ≤ 1048576 ∧ ∀ p ∈ l, okS p.1 = true ∧ okS p.2 = true
noncomputable def okShard (x : ShardD) : Prop := okRecS x.2.1 ∧ okPairS x.2.2.2.1 ∧ okRecS x.2.2.2.2
noncomputable def okShardS (l : List ShardD) : Prop := l.length ≤ 1048576 ∧ ∀ x ∈ l, okShard x
noncomputable def okWord (x : WordD) : Prop := okOpS x.2.2.2.1
noncomputable def okWordS (l : List WordD) : Prop := l.length ≤ 1048576 ∧ ∀ x ∈ l, okWord x
noncomputable def okOrder (x : OrderD) : Prop := okOpS x.2
noncomputable def okOrderS (l : List OrderD) : Prop := l.length ≤ 1048576 ∧ ∀ x ∈ l, okOrder x
/-- A world that is not too large. -/
noncomputable def okWorld (a3 : List JobD) (a4 : List (Int × Bool)) (a6 : List ShardD) (a7 a8 : List WordD) (a9 : List OrderD) : Prop := a3.length ≤ 1048576 ∧ (∀ j ∈ a3, okJob j) ∧ a4.length ≤ 1048576 ∧ okShardS a6 ∧ okWordS a7 ∧ okWordS a8 ∧ okOrderS a9
theorem szOp_spec (k : Int) (s v : ByteArray) (b : Int) (h0 : 0 ≤ b) (h1 : b ≤ 1048576) (hs : bigS s = true) (hv : bigS v = true) (h : 0 ≤ lszOp k s v b) : lszOp k s v b ≤ b ∧ okS s = true ∧ okS v = true := by
  simp only [bigS, decide_eq_true_eq] at hs hv
  have e1 := wrap64 (n := b - ((s.size : Nat) : Int)) (by omega) (by omega)
  simp only [lszOp, e1] at h ⊢
  cases hd : decide (b - ((s.size : Nat) : Int) < 0) with
  | true => rw [hd] at h; simp at h
  | false =>
    rw [hd] at h
    have := of_decide_eq_false hd
    have e2 := wrap64 (n := b - ((s.size : Nat) : Int) - ((v.size : Nat) : Int)) (by omega) (by omega)
    simp only [cond_false, e2] at h ⊢
    cases hd2 : decide (b - ((s.size : Nat) : Int) - ((v.size : Nat) : Int) < 0) with
    | true => rw [hd2] at h; simp at h
    | false =>
      have := of_decide_eq_false hd2
      simp only [cond_false, okS, decide_eq_true_eq]
      omega
theorem szOpS_spec (l : List (Int × ByteArray × ByteArray)) (b : Int) (h0 : 0 ≤ b) (h1 : b ≤ 1048576) (hb : bigOps l = true) (h : 0 ≤ lszOpS l b) : lszOpS l b ≤ b ∧ okOps l = true := by
  have hl : l.length ≤ 9223372036854775807 := by simp only [bigOps, Bool.and_eq_true, decide_eq_true_eq] at hb; exact hb.1
  have e1 := wrap64 (n := b - ((l.length : Nat) : Int)) (by omega) (by omega)
  simp only [lszOpS, e1, Int.toNat_zero, Nat.sub_zero] at h ⊢
  cases hd : decide (b - ((l.length : Nat) : Int) < 0) with
  | true => rw [hd] at h; simp at h
  | false =>
    rw [hd] at h
    have := of_decide_eq_false hd
    simp only [cond_false] at h ⊢
    cases hi : isInl (szN (f_lszOpS_0 l) l.length 0 (b - ((l.length : Nat) : Int))) with
    | false => rw [hi] at h; simp at h
    | true =>
      obtain ⟨r1, r2, r3⟩ := szN_all (M := 1048576) (Q := fun i => okS (l.getD i dOp).2.1 = true ∧ okS (l.getD i dOp).2.2 = true) l.length 0 (b - ((l.length : Nat) : Int)) (fun j b' _ hj q0 q1 hf => by
        obtain ⟨p1, p2⟩ := bigOps_at hb j (by omega)
        obtain ⟨s1, s2, s3⟩ := szOp_spec _ _ _ b' q0 q1 p1 p2 hf
        exact ⟨⟨s2, s3⟩, s1⟩) (by omega) (by omega) hi
      simp only [cond_true]
      exact ⟨by omega, okOps_of (by omega) (fun i hi => r1 i (Nat.zero_le _) (by omega))⟩
theorem szInts_spec {l : List Int} {b : Int} (hl : l.length ≤ 9223372036854775807) (h0 : 0 ≤ b) (h1 : b ≤ 1048576) (h : 0 ≤ lszIntS l b) : lszIntS l b ≤ b ∧ l.length ≤ 1048576 := by
  have e1 := wrap64 (n := b - ((l.length : Nat) : Int)) (by omega) (by omega)
  simp only [lszIntS, e1] at h ⊢
  by_cases hd : b - ((l.length : Nat) : Int) < 0
  · rw [decide_eq_true hd] at h; simp at h
  · rw [decide_eq_false hd]; simp only [cond_false]; omega
theorem szJob_spec {j : JobD} {b : Int} (hj : bigJob j) (h0 : 0 ≤ b) (h1 : b ≤ 1048576) : q_lszJob j.1 j.2.1 j.2.2.1 j.2.2.2 b = true ∧ (0 ≤ lszJob j.1 j.2.1 j.2.2.1 j.2.2.2 b → lszJob j.1 j.2.1 j.2.2.1 j.2.2.2 b ≤ b ∧ okJob j) := by
  obtain ⟨h2, h3⟩ := hj
  refine ⟨decide_eq_true ⟨h0, h1, bigOps_len h2⟩, fun h => ?_⟩
  simp only [lszJob] at h ⊢
  by_cases hd : lszOpS j.2.1 b < 0
  · rw [decide_eq_true hd] at h; simp at h
  · obtain ⟨s1, s2⟩ := szOpS_spec _ b h0 h1 h2 (by omega)
    rw [decide_eq_false hd] at h ⊢
    simp only [cond_false] at h ⊢
    by_cases hd2 : lszIntS j.2.2.2 (lszOpS j.2.1 b) < 0
    · rw [decide_eq_true hd2] at h; simp at h
    · obtain ⟨t1, t2⟩ := szInts_spec h3 (by omega) (by omega) (by omega : 0 ≤ lszIntS j.2.2.2 (lszOpS j.2.1 b))
      rw [decide_eq_false hd2]
      simp only [cond_false]
      exact ⟨by omega, s2, t2⟩
theorem getD_mem {α : Type} {l : List α} {i : Nat} (h : i < l.length) (d : α) : l.getD i d ∈ l := by
  simp [List.getD_eq_getElem?_getD, h]
noncomputable def dJob : JobD := (0, [], 0, [])
theorem take_succ_getD {α : Type} {l : List α} {i : Nat} (hi : i < l.length) (d : α) : l.take (i + 1) = l.take i ++ [l.getD i d] := by
  rw [List.take_add_one, List.getElem?_eq_getElem hi]; simp [List.getD_eq_getElem?_getD, hi]
theorem szJobs_spec {l : List JobD} {b : Int} (hl : bigJobs l) (h0 : 0 ≤ b) (h1 : b ≤ 1048576) : q_lszJobS l b = true ∧ (0 ≤ lszJobS l b → lszJobS l b ≤ b ∧ l.length ≤ 1048576 ∧ ∀ j ∈ l, okJob j) := by
  obtain ⟨h2, h3⟩ := hl
  have e1 := wrap64 (n := b - ((l.length : Nat) : Int)) (by omega) (by omega)
  simp only [q_lszJobS, lszJobS, e1]
  by_cases hd : b - ((l.length : Nat) : Int) < 0
  · rw [decide_eq_true hd]; simp
  · rw [decide_eq_false hd]
    simp only [cond_false]
    have key : (it_lszJobS_0 l (b - ((l.length : Nat) : Int)) 0 = (0, -1, 0)) ∨ ∃ c, it_lszJobS_0 l (b - ((l.length : Nat) : Int)) 0 = (1, 0, c) ∧ 0 ≤ c ∧ c ≤ b ∧ ∀ j ∈ l, okJob j := by
      refine itX_inv (fun v : V_lszJobS_0 => ∃ (i : Nat) (c : Int), v = (l, c, (i : Int)) ∧ i ≤ l.length ∧ 0 ≤ c ∧ c ≤ b ∧ ∀ j ∈ l.take i, okJob j) (fun a : A_lszJobS_0 => a = (0, -1, 0) ∨ ∃ c, a = (1, 0, c) ∧ 0 ≤ c ∧ c ≤ b ∧ ∀ j ∈ l, okJob j) (fun v => l.length - v.2.2.toNat) ?_ ⟨0, _, rfl, Nat.zero_le _, by omega, by omega, by simp⟩ (by simp; omega)
      rintro v ⟨i, c, rfl, hi, c0, c1, hj⟩
      by_cases hlt : i < l.length
      · have e1 : decide ((i : Int) < ((l.length : Nat) : Int)) = true := decide_eq_true (by omega)
        have e2 : decide (0 ≤ (i : Int) ∧ (i : Int) < ((l.length : Nat) : Int)) = true := decide_eq_true (by omega)
        obtain ⟨q1, q2⟩ := szJob_spec (h3 _ (getD_mem hlt dJob)) c0 (by omega)
        have hdj : ((0 : Int), (([] : List (Int × ByteArray × ByteArray)), ((0 : Int), ([] : List Int)))) = dJob := rfl
        simp only [ss_lszJobS_0, hdj, e1, e2, cond_true, Int.toNat_natCast, q1, wrapU i (by omega)]
        by_cases hn : lszJob (l.getD i dJob).1 (l.getD i dJob).2.1 (l.getD i dJob).2.2.1 (l.getD i dJob).2.2.2 c < 0
        · simp only [decide_eq_true hn, cond_true]
          exact .inr ⟨_, rfl, .inl rfl⟩
        · simp only [decide_eq_false hn, cond_false]
          obtain ⟨r1, r2⟩ := q2 (by omega)
          refine .inl ⟨_, rfl, ⟨i + 1, _, rfl, by omega, by omega, by omega, fun j hj2 => ?_⟩, by simp only [Int.toNat_natCast]; omega⟩
          rw [take_succ_getD hlt dJob] at hj2
          rcases List.mem_append.1 hj2 with h | h
          · exact hj j h
          · simp only [List.mem_singleton] at h; rw [h]; exact r2
      · obtain rfl : i = l.length := by omega
        have e1 : decide ((l.length : Int) < ((l.length : Nat) : Int)) = false := decide_eq_false (by omega)
        simp only [ss_lszJobS_0, e1, cond_false]
        rw [List.take_length] at hj
        exact .inr ⟨_, rfl, .inr ⟨c, rfl, c0, c1, hj⟩⟩
    rcases key with h | ⟨c, h, c0, c1, hj⟩
    · rw [h]; exact ⟨rfl, fun h => by simp at h⟩
    · rw [h]; exact ⟨rfl, fun _ => ⟨c1, by omega, hj⟩⟩
/-- What a coordinator is whose size does. -/
theorem szCoord_spec {a3 : List JobD} {a4 : List (Int × Bool)} (hb : bigJobs a3) (h4 : a4.length ≤ 9223372036854775807) (a0 a1 a2 a5 : Int) : q_lszCoord a0 a1 a2 a3 a4 a5 1048576 = true ∧ (0 ≤ lszCoord a0 a1 a2 a3 a4 a5 1048576 → a3.length ≤ 1048576 ∧ (∀ j ∈ a3, okJob j) ∧ a4.length ≤ 1048576) := by
  obtain ⟨z1, z2⟩ := szJobs_spec hb (b := 1048576) (by decide) (by decide)
  refine ⟨z1, fun h => ?_⟩
  simp only [lszCoord] at h
  by_cases hd : lszJobS a3 1048576 < 0
  · rw [decide_eq_true hd] at h; simp at h
  · obtain ⟨y1, y2, y3⟩ := z2 (by omega)
    rw [decide_eq_false hd] at h
    simp only [cond_false] at h
    by_cases hd2 : lszChoiceS a4 (lszJobS a3 1048576) < 0
    · rw [decide_eq_true hd2] at h; simp at h
    · refine ⟨y2, y3, ?_⟩
      generalize lszJobS a3 1048576 = c at *
      have e1 := wrap64 (n := c - ((a4.length : Nat) : Int)) (by omega) (by omega)
      simp only [lszChoiceS, e1] at hd2
      by_cases hd3 : c - ((a4.length : Nat) : Int) < 0
      · rw [decide_eq_true hd3] at hd2; simp at hd2
      · omega
theorem szCoordI {a3 : List JobD} {a4 : List (Int × Bool)} (hb : bigJobs a3) (h4 : a4.length ≤ 9223372036854775807) (a0 a1 a2 a5 : Int) : q_lszCoord a0 a1 a2 a3 a4 a5 1048576 = true ∧ (0 ≤ lszCoord a0 a1 a2 a3 a4 a5 1048576 → lszCoord a0 a1 a2 a3 a4 a5 1048576 ≤ 1048576 ∧ a3.length ≤ 1048576 ∧ (∀ j ∈ a3, okJob j) ∧ a4.length ≤ 1048576) := by
  obtain ⟨z1, z2⟩ := szCoord_spec hb h4 a0 a1 a2 a5
  refine ⟨z1, fun h => ⟨?_, z2 h⟩⟩
  obtain ⟨_, y⟩ := szJobs_spec hb (b := 1048576) (by decide) (by decide)
  simp only [lszCoord] at h ⊢
  by_cases hd : lszJobS a3 1048576 < 0
  · rw [decide_eq_true hd] at h; simp at h
  · obtain ⟨y1, _⟩ := y (by omega)
    rw [decide_eq_false hd] at h ⊢
    simp only [cond_false] at h ⊢
    generalize lszJobS a3 1048576 = c at *
    have e1 := wrap64 (n := c - ((a4.length : Nat) : Int)) (by omega) (by omega)
    simp only [lszChoiceS, e1] at h ⊢
    by_cases hd3 : c - ((a4.length : Nat) : Int) < 0
    · simp only [decide_eq_true hd3, cond_true] at h ⊢; simp
    · simp only [decide_eq_false hd3, cond_false] at h ⊢; omega
noncomputable def dShard : ShardD := ((0 : Int), (([] : List RecD), ((0 : Int), (([] : List (ByteArray × ByteArray)), ([] : List RecD)))))
theorem itX_sz {V A α : Type} {ss : V → V ⊕ A} {fa : A} (pk : Int → Nat → V) (l : List α) (d : α) (sz : α → Int → Int) (Q : α → Prop) (bad : A) (good : Int → A) (M : Int) (hn : l.length < 4611686018427387904) {b : Int} (h0 : 0 ≤ b) (h1 : b ≤ M)
    (hstep : ∀ i c, i < l.length → 0 ≤ c → c ≤ M → ss (pk c i) = cond (decide (sz (l.getD i d) c < 0)) (.inr bad) (.inl (pk (sz (l.getD i d) c) (i + 1))))
    (hQ : ∀ x ∈ l, ∀ c, 0 ≤ c → c ≤ M → 0 ≤ sz x c → sz x c ≤ c ∧ Q x) (hlast : ∀ c, ss (pk c l.length) = .inr (good c)) :
    itX ss fa (pk b 0) = bad ∨ ∃ c, itX ss fa (pk b 0) = good c ∧ 0 ≤ c ∧ c ≤ b ∧ ∀ x ∈ l, Q x := by
  rw [itX_eq]
  have key : ∀ k N i c, i + k = l.length → k < N → 0 ≤ c → c ≤ b → (∀ x ∈ l.take i, Q x) → itN ss fa N (pk c i) = bad ∨ ∃ c', itN ss fa N (pk c i) = good c' ∧ 0 ≤ c' ∧ c' ≤ b ∧ ∀ x ∈ l, Q x := by
    intro k
    induction k with
    | zero =>
      intro N i c hi hN c0 c1 hq
      obtain ⟨N, rfl⟩ : ∃ M, N = M + 1 := ⟨N - 1, by omega⟩
      obtain rfl : i = l.length := by omega
      rw [itN_one, hlast c]
      rw [List.take_length] at hq
      exact .inr ⟨c, rfl, c0, c1, hq⟩
    | succ k ih =>
      intro N i c hi hN c0 c1 hq
      obtain ⟨N, rfl⟩ : ∃ M, N = M + 1 := ⟨N - 1, by omega⟩
      have hlt : i < l.length := by omega
      rw [itN_one, hstep i c hlt c0 (by omega)]
      by_cases hneg : sz (l.getD i d) c < 0
      · rw [decide_eq_true hneg]; exact .inl rfl
      · rw [decide_eq_false hneg]
        obtain ⟨q1, q2⟩ := hQ _ (getD_mem hlt d) c c0 (by omega) (by omega)
        refine ih N (i + 1) _ (by omega) (by omega) (by omega) (by omega) (fun x hx => ?_)
        rw [take_succ_getD hlt d] at hx
        rcases List.mem_append.1 hx with hx | hx
        · exact hq x hx
        · simp only [List.mem_singleton] at hx; rw [hx]; exact q2
  exact key l.length _ 0 b (by omega) hn h0 (Int.le_refl _) (by simp)
noncomputable def dRec : RecD := ((0 : Int), ((0 : Int), ([] : List (Int × ByteArray × ByteArray))))
theorem szOpSI {l : List (Int × ByteArray × ByteArray)} {b : Int} (hb : bigOpS l) (h0 : 0 ≤ b) (h1 : b ≤ 1048576) : q_lszOpS l b = true ∧ (0 ≤ lszOpS l b → lszOpS l b ≤ b ∧ okOpS l) := ⟨decide_eq_true ⟨h0, h1, bigOps_len hb⟩, fun h => szOpS_spec l b h0 h1 hb h⟩
theorem szRec_el {x : RecD} {b : Int} (hx : bigRec x) (h0 : 0 ≤ b) (h1 : b ≤ 1048576) : q_lszRec x.1 x.2.1 x.2.2 b = true ∧ (0 ≤ lszRec x.1 x.2.1 x.2.2 b → lszRec x.1 x.2.1 x.2.2 b ≤ b ∧ okRec x) := by
  obtain ⟨a1, a2⟩ := szOpSI hx h0 h1
  refine ⟨a1, fun h => ?_⟩
  simp only [lszRec] at h ⊢
  by_cases hd : lszOpS x.2.2 b < 0
  · rw [decide_eq_true hd] at h; simp at h
  · rw [decide_eq_false hd]; exact a2 (by omega)
theorem szRecSI {l : List RecD} {b : Int} (hb : bigRecS l) (h0 : 0 ≤ b) (h1 : b ≤ 1048576) : q_lszRecS l b = true ∧ (0 ≤ lszRecS l b → lszRecS l b ≤ b ∧ okRecS l) := by
  obtain ⟨h2, h3⟩ := hb
  have hdj : (((0 : Int), ((0 : Int), ([] : List (Int × ByteArray × ByteArray)))) : RecD) = dRec := rfl
  have e1 := wrap64 (n := b - ((l.length : Nat) : Int)) (by omega) (by omega)
  simp only [q_lszRecS, lszRecS, e1]
  by_cases hd : b - ((l.length : Nat) : Int) < 0
  · rw [decide_eq_true hd]; simp
  rw [decide_eq_false hd]
  simp only [cond_false]
  have key : it_lszRecS_0 l (b - ((l.length : Nat) : Int)) 0 = (0, -1, 0) ∨ ∃ c, it_lszRecS_0 l (b - ((l.length : Nat) : Int)) 0 = (1, 0, c) ∧ 0 ≤ c ∧ c ≤ b - ((l.length : Nat) : Int) ∧ ∀ x ∈ l, okRec x := by
    refine itX_sz (fun c i => (l, c, (i : Int))) l dRec (fun x c => lszRec x.1 x.2.1 x.2.2 c) okRec (0, -1, 0) (fun c => (1, 0, c)) b (by omega) (by omega) (by omega) (fun i c hi c0 c1 => ?_) (fun x hx c c0 c1 h => (szRec_el (h3 x hx) c0 (by omega)).2 h) (fun c => ?_)
    · have q1 := (szRec_el (h3 _ (getD_mem hi dRec)) c0 (by omega)).1
      have e1 : decide ((i : Int) < ((l.length : Nat) : Int)) = true := decide_eq_true (by omega)
      have e2 : decide (0 ≤ (i : Int) ∧ (i : Int) < ((l.length : Nat) : Int)) = true := decide_eq_true (by omega)
      simp only [ss_lszRecS_0, hdj, e1, e2, cond_true, Int.toNat_natCast, q1, wrapU i (by omega)]
    · have e1 : decide ((l.length : Int) < ((l.length : Nat) : Int)) = false := decide_eq_false (by omega)
      simp only [ss_lszRecS_0, e1, cond_false]
  rcases key with h | ⟨c, h, c0, c1, hj⟩
  · rw [h]; exact ⟨rfl, fun h => by simp at h⟩
  · rw [h]; exact ⟨rfl, fun _ => ⟨by show c ≤ b; omega, by omega, hj⟩⟩
noncomputable def dPair : PairD := ((⟨#[]⟩ : ByteArray), (⟨#[]⟩ : ByteArray))
theorem szPair_spec (s v : ByteArray) (b : Int) (h0 : 0 ≤ b) (h1 : b ≤ 1048576) (hs : bigS s = true) (hv : bigS v = true) (h : 0 ≤ lszPair s v b) : lszPair s v b ≤ b ∧ okS s = true ∧ okS v = true := by
  simp only [bigS, decide_eq_true_eq] at hs hv
  have e1 := wrap64 (n := b - ((s.size : Nat) : Int)) (by omega) (by omega)
  simp only [lszPair, e1] at h ⊢
  cases hd : decide (b - ((s.size : Nat) : Int) < 0) with
  | true => rw [hd] at h; simp at h
  | false =>
    rw [hd] at h
    have := of_decide_eq_false hd
    have e2 := wrap64 (n := b - ((s.size : Nat) : Int) - ((v.size : Nat) : Int)) (by omega) (by omega)
    simp only [cond_false, e2] at h ⊢
    cases hd2 : decide (b - ((s.size : Nat) : Int) - ((v.size : Nat) : Int) < 0) with
    | true => rw [hd2] at h; simp at h
    | false =>
      have := of_decide_eq_false hd2
      simp only [cond_false, okS, decide_eq_true_eq]
      omega
theorem szPairSI {l : List PairD} {b : Int} (hb : bigPairS l) (h0 : 0 ≤ b) (h1 : b ≤ 1048576) : q_lszPairS l b = true ∧ (0 ≤ lszPairS l b → lszPairS l b ≤ b ∧ okPairS l) := by
  obtain ⟨hl, hp⟩ := hb
  refine ⟨decide_eq_true ⟨h0, h1, hl⟩, fun h => ?_⟩
  have e1 := wrap64 (n := b - ((l.length : Nat) : Int)) (by omega) (by omega)
  simp only [lszPairS, e1, Int.toNat_zero, Nat.sub_zero] at h ⊢
  cases hd : decide (b - ((l.length : Nat) : Int) < 0) with
  | true => rw [hd] at h; simp at h
  | false =>
    rw [hd] at h
    have := of_decide_eq_false hd
    simp only [cond_false] at h ⊢
    cases hi : isInl (szN (f_lszPairS_0 l) l.length 0 (b - ((l.length : Nat) : Int))) with
    | false => rw [hi] at h; simp at h
    | true =>
      obtain ⟨r1, r2, r3⟩ := szN_all (M := 1048576) (Q := fun i => okS (l.getD i dPair).1 = true ∧ okS (l.getD i dPair).2 = true) l.length 0 (b - ((l.length : Nat) : Int)) (fun j b' _ hj q0 q1 hf => by
        obtain ⟨p1, p2⟩ := hp _ (getD_mem (show j < l.length by omega) dPair)
        obtain ⟨s1, s2, s3⟩ := szPair_spec _ _ b' q0 q1 p1 p2 hf
        exact ⟨⟨s2, s3⟩, s1⟩) (by omega) (by omega) hi
      simp only [cond_true]
      refine ⟨by omega, by omega, fun p hm => ?_⟩
      obtain ⟨i, hi, e⟩ := List.getElem_of_mem hm
      have := r1 i (Nat.zero_le _) (by omega)
      rw [List.getD_eq_getElem?_getD, List.getElem?_eq_getElem hi, Option.getD_some, e] at this
      exact this
theorem szShard_el {x : ShardD} {b : Int} (hx : bigShard x) (h0 : 0 ≤ b) (h1 : b ≤ 1048576) : q_lszShard x.1 x.2.1 x.2.2.1 x.2.2.2.1 x.2.2.2.2 b = true ∧ (0 ≤ lszShard x.1 x.2.1 x.2.2.1 x.2.2.2.1 x.2.2.2.2 b → lszShard x.1 x.2.1 x.2.2.1 x.2.2.2.1 x.2.2.2.2 b ≤ b ∧ okShard x) := by
  simp only [q_lszShard, lszShard]
  obtain ⟨q0, a0⟩ := szRecSI (b := b) (hx.1) (by omega) (by omega)
  generalize hc0 : lszRecS x.2.1 b = c0 at *
  by_cases hd0 : c0 < 0
  · simp only [q0, decide_eq_true hd0, cond_true, Bool.true_and]
    exact ⟨trivial, fun h => by simp at h⟩
  obtain ⟨m0, k0⟩ := a0 (by omega)
  simp only [q0, decide_eq_false hd0, cond_false, Bool.true_and]
  obtain ⟨q1, a1⟩ := szPairSI (b := c0) (hx.2.1) (by omega) (by omega)
  generalize hc1 : lszPairS x.2.2.2.1 c0 = c1 at *
  by_cases hd1 : c1 < 0
  · simp only [q1, decide_eq_true hd1, cond_true, Bool.true_and]
    exact ⟨trivial, fun h => by simp at h⟩
  obtain ⟨m1, k1⟩ := a1 (by omega)
  simp only [q1, decide_eq_false hd1, cond_false, Bool.true_and]
  obtain ⟨q2, a2⟩ := szRecSI (b := c1) (hx.2.2) (by omega) (by omega)
  generalize hc2 : lszRecS x.2.2.2.2 c1 = c2 at *
  by_cases hd2 : c2 < 0
  · rw [decide_eq_true hd2]
    exact ⟨q2, fun h => by simp at h⟩
  obtain ⟨m2, k2⟩ := a2 (by omega)
  rw [decide_eq_false hd2]
  exact ⟨q2, fun _ => ⟨by simp only [cond_false]; omega, k0, k1, k2⟩⟩
theorem szShardSI {l : List ShardD} {b : Int} (hb : bigShardS l) (h0 : 0 ≤ b) (h1 : b ≤ 1048576) : q_lszShardS l b = true ∧ (0 ≤ lszShardS l b → lszShardS l b ≤ b ∧ okShardS l) := by
  obtain ⟨h2, h3⟩ := hb
  have hdj : (((0 : Int), (([] : List RecD), ((0 : Int), (([] : List (ByteArray × ByteArray)), ([] : List RecD))))) : ShardD) = dShard := rfl
  have e1 := wrap64 (n := b - ((l.length : Nat) : Int)) (by omega) (by omega)
  simp only [q_lszShardS, lszShardS, e1]
  by_cases hd : b - ((l.length : Nat) : Int) < 0
  · rw [decide_eq_true hd]; simp
  rw [decide_eq_false hd]
  simp only [cond_false]
  have key : it_lszShardS_0 l (b - ((l.length : Nat) : Int)) 0 = (0, -1, 0) ∨ ∃ c, it_lszShardS_0 l (b - ((l.length : Nat) : Int)) 0 = (1, 0, c) ∧ 0 ≤ c ∧ c ≤ b - ((l.length : Nat) : Int) ∧ ∀ x ∈ l, okShard x := by
    refine itX_sz (fun c i => (l, c, (i : Int))) l dShard (fun x c => lszShard x.1 x.2.1 x.2.2.1 x.2.2.2.1 x.2.2.2.2 c) okShard (0, -1, 0) (fun c => (1, 0, c)) b (by omega) (by omega) (by omega) (fun i c hi c0 c1 => ?_) (fun x hx c c0 c1 h => (szShard_el (h3 x hx) c0 (by omega)).2 h) (fun c => ?_)
    · have q1 := (szShard_el (h3 _ (getD_mem hi dShard)) c0 (by omega)).1
      have e1 : decide ((i : Int) < ((l.length : Nat) : Int)) = true := decide_eq_true (by omega)
      have e2 : decide (0 ≤ (i : Int) ∧ (i : Int) < ((l.length : Nat) : Int)) = true := decide_eq_true (by omega)
      simp only [ss_lszShardS_0, hdj, e1, e2, cond_true, Int.toNat_natCast, q1, wrapU i (by omega)]
    · have e1 : decide ((l.length : Int) < ((l.length : Nat) : Int)) = false := decide_eq_false (by omega)
      simp only [ss_lszShardS_0, e1, cond_false]
  rcases key with h | ⟨c, h, c0, c1, hj⟩
  · rw [h]; exact ⟨rfl, fun h => by simp at h⟩
  · rw [h]; exact ⟨rfl, fun _ => ⟨by show c ≤ b; omega, by omega, hj⟩⟩
noncomputable def dWord : WordD := ((0 : Int), ((0 : Int), ((0 : Int), (([] : List (Int × ByteArray × ByteArray)), false))))
theorem szWord_el {x : WordD} {b : Int} (hx : bigWord x) (h0 : 0 ≤ b) (h1 : b ≤ 1048576) : q_lszWord x.1 x.2.1 x.2.2.1 x.2.2.2.1 x.2.2.2.2 b = true ∧ (0 ≤ lszWord x.1 x.2.1 x.2.2.1 x.2.2.2.1 x.2.2.2.2 b → lszWord x.1 x.2.1 x.2.2.1 x.2.2.2.1 x.2.2.2.2 b ≤ b ∧ okWord x) := by
  obtain ⟨a1, a2⟩ := szOpSI hx h0 h1
  refine ⟨a1, fun h => ?_⟩
  simp only [lszWord] at h ⊢
  by_cases hd : lszOpS x.2.2.2.1 b < 0
  · rw [decide_eq_true hd] at h; simp at h
  · rw [decide_eq_false hd]; exact a2 (by omega)
theorem szWordSI {l : List WordD} {b : Int} (hb : bigWordS l) (h0 : 0 ≤ b) (h1 : b ≤ 1048576) : q_lszWordS l b = true ∧ (0 ≤ lszWordS l b → lszWordS l b ≤ b ∧ okWordS l) := by
  obtain ⟨h2, h3⟩ := hb
  have hdj : (((0 : Int), ((0 : Int), ((0 : Int), (([] : List (Int × ByteArray × ByteArray)), false)))) : WordD) = dWord := rfl
  have e1 := wrap64 (n := b - ((l.length : Nat) : Int)) (by omega) (by omega)
  simp only [q_lszWordS, lszWordS, e1]
  by_cases hd : b - ((l.length : Nat) : Int) < 0
  · rw [decide_eq_true hd]; simp
  rw [decide_eq_false hd]
  simp only [cond_false]
  have key : it_lszWordS_0 l (b - ((l.length : Nat) : Int)) 0 = (0, -1, 0) ∨ ∃ c, it_lszWordS_0 l (b - ((l.length : Nat) : Int)) 0 = (1, 0, c) ∧ 0 ≤ c ∧ c ≤ b - ((l.length : Nat) : Int) ∧ ∀ x ∈ l, okWord x := by
    refine itX_sz (fun c i => (l, c, (i : Int))) l dWord (fun x c => lszWord x.1 x.2.1 x.2.2.1 x.2.2.2.1 x.2.2.2.2 c) okWord (0, -1, 0) (fun c => (1, 0, c)) b (by omega) (by omega) (by omega) (fun i c hi c0 c1 => ?_) (fun x hx c c0 c1 h => (szWord_el (h3 x hx) c0 (by omega)).2 h) (fun c => ?_)
    · have q1 := (szWord_el (h3 _ (getD_mem hi dWord)) c0 (by omega)).1
      have e1 : decide ((i : Int) < ((l.length : Nat) : Int)) = true := decide_eq_true (by omega)
      have e2 : decide (0 ≤ (i : Int) ∧ (i : Int) < ((l.length : Nat) : Int)) = true := decide_eq_true (by omega)
      simp only [ss_lszWordS_0, hdj, e1, e2, cond_true, Int.toNat_natCast, q1, wrapU i (by omega)]
    · have e1 : decide ((l.length : Int) < ((l.length : Nat) : Int)) = false := decide_eq_false (by omega)
      simp only [ss_lszWordS_0, e1, cond_false]
  rcases key with h | ⟨c, h, c0, c1, hj⟩
  · rw [h]; exact ⟨rfl, fun h => by simp at h⟩
  · rw [h]; exact ⟨rfl, fun _ => ⟨by show c ≤ b; omega, by omega, hj⟩⟩
noncomputable def dOrder : OrderD := ((0 : Int), ([] : List (Int × ByteArray × ByteArray)))
theorem szOrder_el {x : OrderD} {b : Int} (hx : bigOrder x) (h0 : 0 ≤ b) (h1 : b ≤ 1048576) : q_lszOrder x.1 x.2 b = true ∧ (0 ≤ lszOrder x.1 x.2 b → lszOrder x.1 x.2 b ≤ b ∧ okOrder x) := by
  obtain ⟨a1, a2⟩ := szOpSI hx h0 h1
  refine ⟨a1, fun h => ?_⟩
  simp only [lszOrder] at h ⊢
  by_cases hd : lszOpS x.2 b < 0
  · rw [decide_eq_true hd] at h; simp at h
  · rw [decide_eq_false hd]; exact a2 (by omega)
theorem szOrderSI {l : List OrderD} {b : Int} (hb : bigOrderS l) (h0 : 0 ≤ b) (h1 : b ≤ 1048576) : q_lszOrderS l b = true ∧ (0 ≤ lszOrderS l b → lszOrderS l b ≤ b ∧ okOrderS l) := by
  obtain ⟨h2, h3⟩ := hb
  have hdj : (((0 : Int), ([] : List (Int × ByteArray × ByteArray))) : OrderD) = dOrder := rfl
  have e1 := wrap64 (n := b - ((l.length : Nat) : Int)) (by omega) (by omega)
  simp only [q_lszOrderS, lszOrderS, e1]
  by_cases hd : b - ((l.length : Nat) : Int) < 0
  · rw [decide_eq_true hd]; simp
  rw [decide_eq_false hd]
  simp only [cond_false]
  have key : it_lszOrderS_0 l (b - ((l.length : Nat) : Int)) 0 = (0, -1, 0) ∨ ∃ c, it_lszOrderS_0 l (b - ((l.length : Nat) : Int)) 0 = (1, 0, c) ∧ 0 ≤ c ∧ c ≤ b - ((l.length : Nat) : Int) ∧ ∀ x ∈ l, okOrder x := by
    refine itX_sz (fun c i => (l, c, (i : Int))) l dOrder (fun x c => lszOrder x.1 x.2 c) okOrder (0, -1, 0) (fun c => (1, 0, c)) b (by omega) (by omega) (by omega) (fun i c hi c0 c1 => ?_) (fun x hx c c0 c1 h => (szOrder_el (h3 x hx) c0 (by omega)).2 h) (fun c => ?_)
    · have q1 := (szOrder_el (h3 _ (getD_mem hi dOrder)) c0 (by omega)).1
      have e1 : decide ((i : Int) < ((l.length : Nat) : Int)) = true := decide_eq_true (by omega)
      have e2 : decide (0 ≤ (i : Int) ∧ (i : Int) < ((l.length : Nat) : Int)) = true := decide_eq_true (by omega)
      simp only [ss_lszOrderS_0, hdj, e1, e2, cond_true, Int.toNat_natCast, q1, wrapU i (by omega)]
    · have e1 : decide ((l.length : Int) < ((l.length : Nat) : Int)) = false := decide_eq_false (by omega)
      simp only [ss_lszOrderS_0, e1, cond_false]
  rcases key with h | ⟨c, h, c0, c1, hj⟩
  · rw [h]; exact ⟨rfl, fun h => by simp at h⟩
  · rw [h]; exact ⟨rfl, fun _ => ⟨by show c ≤ b; omega, by omega, hj⟩⟩
theorem szWorld_spec {a3 : List JobD} {a4 : List (Int × Bool)} {a6 : List ShardD} {a7 a8 : List WordD} {a9 : List OrderD} (hb : bigWorld a3 a4 a6 a7 a8 a9) (a0 a1 a2 a5 : Int) : q_lszWorld a0 a1 a2 a3 a4 a5 a6 a7 a8 a9 1048576 = true ∧ (0 ≤ lszWorld a0 a1 a2 a3 a4 a5 a6 a7 a8 a9 1048576 → okWorld a3 a4 a6 a7 a8 a9) := by
  obtain ⟨b1, b2, b3, b4, b5, b6⟩ := hb
  obtain ⟨q0, x0⟩ := szCoordI b1 b2 a0 a1 a2 a5
  simp only [q_lszWorld, lszWorld]
  generalize lszCoord a0 a1 a2 a3 a4 a5 1048576 = c0 at *
  by_cases d0 : c0 < 0
  · simp only [q0, decide_eq_true d0, cond_true, Bool.true_and]
    exact ⟨trivial, fun h => by simp at h⟩
  obtain ⟨m0, k0⟩ := x0 (by omega)
  simp only [q0, decide_eq_false d0, cond_false, Bool.true_and]
  obtain ⟨q1, x1⟩ := szShardSI (b := c0) b3 (by omega) (by omega)
  generalize lszShardS a6 c0 = c1 at *
  by_cases d1 : c1 < 0
  · simp only [q1, decide_eq_true d1, cond_true, Bool.true_and]
    exact ⟨trivial, fun h => by simp at h⟩
  obtain ⟨m1, k1⟩ := x1 (by omega)
  simp only [q1, decide_eq_false d1, cond_false, Bool.true_and]
  obtain ⟨q2, x2⟩ := szWordSI (b := c1) b4 (by omega) (by omega)
  generalize lszWordS a7 c1 = c2 at *
  by_cases d2 : c2 < 0
  · simp only [q2, decide_eq_true d2, cond_true, Bool.true_and]
    exact ⟨trivial, fun h => by simp at h⟩
  obtain ⟨m2, k2⟩ := x2 (by omega)
  simp only [q2, decide_eq_false d2, cond_false, Bool.true_and]
  obtain ⟨q3, x3⟩ := szWordSI (b := c2) b5 (by omega) (by omega)
  generalize lszWordS a8 c2 = c3 at *
  by_cases d3 : c3 < 0
  · simp only [q3, decide_eq_true d3, cond_true, Bool.true_and]
    exact ⟨trivial, fun h => by simp at h⟩
  obtain ⟨m3, k3⟩ := x3 (by omega)
  simp only [q3, decide_eq_false d3, cond_false, Bool.true_and]
  obtain ⟨q4, x4⟩ := szOrderSI (b := c3) b6 (by omega) (by omega)
  generalize lszOrderS a9 c3 = c4 at *
  by_cases d4 : c4 < 0
  · rw [decide_eq_true d4]
    exact ⟨q4, fun h => by simp at h⟩
  obtain ⟨m4, k4⟩ := x4 (by omega)
  exact ⟨q4, fun _ => ⟨k0.1, k0.2.1, k0.2.2, k1, k2, k3, k4⟩⟩
/-- The first answer of places in order. -/
noncomputable def scanA {A : Type} (f : Nat → Option A) (last : A) : Nat → Nat → A
  | 0, _ => last
  | k + 1, i => match f i with
    | some a => a
    | none => scanA f last k (i + 1)
theorem itX_scan {V A : Type} {ss : V → V ⊕ A} {fa : A} (pk : Nat → V) (n : Nat) (f : Nat → Option A) (last : A) (hn : n < 4611686018427387904)
    (h : ∀ i, i < n → ss (pk i) = (match f i with | some a => .inr a | none => .inl (pk (i + 1)))) (hl : ss (pk n) = .inr last) : itX ss fa (pk 0) = scanA f last n 0 := by
  rw [itX_eq]
  have key : ∀ k N i, i + k = n → k < N → itN ss fa N (pk i) = scanA f last k i := by
    intro k
    induction k with
    | zero =>
      intro N i hi hN
      obtain ⟨M, rfl⟩ : ∃ M, N = M + 1 := ⟨N - 1, by omega⟩
      obtain rfl : i = n := by omega
      rw [itN_one, hl]; rfl
    | succ k ih =>
      intro N i hi hN
      obtain ⟨M, rfl⟩ : ∃ M, N = M + 1 := ⟨N - 1, by omega⟩
      rw [itN_one, h i (by omega)]
      simp only [scanA]
      cases hf : f i with
      | some a => rfl
      | none => exact ih M (i + 1) (by omega) (by omega)
  exact key n _ 0 (by omega) hn
theorem eqOp_same (k : Int) (s v : ByteArray) : leqOp k s v k s v = true := by simp [leqOp]
theorem eqOpS_same (l : List (Int × ByteArray × ByteArray)) : leqOpS l l = true := by
  have e : allF (f_leqOpS_0 l l) (l.length - (0 : Int).toNat) (0 : Int).toNat = true := allF_same _ _ (fun j _ _ => by simp [f_leqOpS_0, eqOp_same])
  simp only [leqOpS, e, cond_true]
  simp
theorem eqInts_same (l : List Int) : leqIntS l l = true := by
  have e : allF (f_leqIntS_0 l l) (l.length - (0 : Int).toNat) (0 : Int).toNat = true := allF_same _ _ fun j _ _ => by simp [f_leqIntS_0]
  simp only [leqIntS, e, cond_true]
  simp
theorem scanA_cases {A : Type} (f : Nat → Option A) (last : A) : ∀ k i, (∃ j a, i ≤ j ∧ j < i + k ∧ f j = some a ∧ (∀ m, i ≤ m → m < j → f m = none) ∧ scanA f last k i = a) ∨ ((∀ j, i ≤ j → j < i + k → f j = none) ∧ scanA f last k i = last) := by
  intro k
  induction k with
  | zero => intro i; exact .inr ⟨fun j h1 h2 => by omega, rfl⟩
  | succ k ih =>
    intro i
    simp only [scanA]
    cases hf : f i with
    | some a => exact .inl ⟨i, a, Nat.le_refl _, by omega, hf, fun m h1 h2 => by omega, rfl⟩
    | none =>
      rcases ih (i + 1) with ⟨j, a, h1, h2, h3, h4, h5⟩ | ⟨h1, h2⟩
      · refine .inl ⟨j, a, by omega, by omega, h3, fun m m1 m2 => ?_, h5⟩
        by_cases hm : m = i
        · rw [hm]; exact hf
        · exact h4 m (by omega) m2
      · refine .inr ⟨fun j j1 j2 => ?_, h2⟩
        by_cases hj : j = i
        · rw [hj]; exact hf
        · exact h1 j (by omega) (by omega)
theorem eqJobs_same {l : List JobD} (hl : l.length ≤ 1048576) (h : ∀ j ∈ l, okJob j) : q_leqJobS l l = true ∧ leqJobS l l = true := by
  have key : it_leqJobS_0 l l 0 = scanA (fun _ => none) (1, false) l.length 0 := by
    refine itX_scan (fun i => (l, l, (i : Int))) l.length _ _ (by omega) (fun i hi => ?_) ?_
    · have e1 : decide ((i : Int) < ((l.length : Nat) : Int)) = true := decide_eq_true (by omega)
      have e2 : decide (0 ≤ (i : Int) ∧ (i : Int) < ((l.length : Nat) : Int)) = true := decide_eq_true (by omega)
      obtain ⟨o1, o2⟩ := h _ (getD_mem hi dJob)
      have hdj : ((0 : Int), (([] : List (Int × ByteArray × ByteArray)), ((0 : Int), ([] : List Int)))) = dJob := rfl
      have q1 : okL (l.getD i dJob).2.2.2 = true := decide_eq_true o2
      have e0 : ∀ x : Int, (x != x) = false := fun x => by simp
      simp only [ss_leqJobS_0, hdj, e1, e2, cond_true, Int.toNat_natCast, q_leqJob, leqJob, q_leqOpS, q_leqIntS, e0, eqOpS_same, eqInts_same, okOps_okL o1, q1, cond_false, Bool.not_true, Bool.true_and, wrapU i (by omega)]
    · have e1 : decide ((l.length : Int) < ((l.length : Nat) : Int)) = false := decide_eq_false (by omega)
      simp only [ss_leqJobS_0, e1, cond_false]
  have k2 : scanA (fun _ => none) ((1, false) : A_leqJobS_0) l.length 0 = (1, false) := by
    rcases scanA_cases (fun _ => none) ((1, false) : A_leqJobS_0) l.length 0 with ⟨j, a, _, _, h3, _⟩ | ⟨_, h⟩
    · cases h3
    · exact h
  rw [k2] at key
  have e0 : ∀ x : Int, (x != x) = false := fun x => by simp
  simp only [q_leqJobS, leqJobS, key, e0, cond_false]
  exact ⟨rfl, rfl⟩
theorem toOpS_same (l : List (Int × ByteArray × ByteArray)) : ltoOpS l = l := by
  have e := mapN (fun o : Int × ByteArray × ByteArray => (ltoOp o.1 o.2.1 o.2.2)) dOp l l.length 0 (List.replicate l.length dOp) (by simp) (by simp)
  simp only [List.take_zero, List.nil_append, List.drop_zero] at e
  have e2 : l.map (fun o : Int × ByteArray × ByteArray => (ltoOp o.1 o.2.1 o.2.2)) = l := by
    rw [show (fun o : Int × ByteArray × ByteArray => (ltoOp o.1 o.2.1 o.2.2)) = id from funext fun _ => rfl, List.map_id]
  rw [e2] at e
  exact e
theorem toInts_same (l : List Int) : ltoIntS l = l := by
  have e := mapN (fun o : Int => o) (0 : Int) l l.length 0 (List.replicate l.length 0) (by simp) (by simp)
  simp only [List.take_zero, List.nil_append, List.drop_zero] at e
  have e2 : l.map (fun o : Int => o) = l := by
    rw [show (fun o : Int => o) = id from funext fun _ => rfl, List.map_id]
  rw [e2] at e
  exact e
theorem getD_set {α : Type} {l : List α} {i : Nat} (hi : i < l.length) (x d : α) : (l.set i x).getD i d = x := by
  simp [List.getD_eq_getElem?_getD, hi]
theorem toJobs_same {l : List JobD} (hl : l.length ≤ 1048576) (h : ∀ j ∈ l, okJob j) : q_ltoJobS l = true ∧ ltoJobS l = l := by
  have key : it_ltoJobS_0 l 0 (List.replicate l.length dJob) = (0, l) := by
    refine itX_inv (fun v : V_ltoJobS_0 => ∃ (i : Nat) (r : List JobD), v = (l, (i : Int), r) ∧ i ≤ l.length ∧ r.length = l.length ∧ r.take i = l.take i) (fun a : A_ltoJobS_0 => a = (0, l)) (fun v => l.length - v.2.1.toNat) ?_ ⟨0, _, rfl, Nat.zero_le _, by simp, by simp⟩ (by simp; omega)
    rintro v ⟨i, r, rfl, hi, hr, ht⟩
    by_cases hlt : i < l.length
    · have e1 : decide ((i : Int) < ((l.length : Nat) : Int)) = true := decide_eq_true (by omega)
      have e2 : decide (0 ≤ (i : Int) ∧ (i : Int) < ((l.length : Nat) : Int)) = true := decide_eq_true (by omega)
      have e3 : decide (0 ≤ (i : Int) ∧ (i : Int) < ((r.length : Nat) : Int)) = true := decide_eq_true (by omega)
      obtain ⟨o1, o2⟩ := h _ (getD_mem hlt dJob)
      have hdj : ((0 : Int), (([] : List (Int × ByteArray × ByteArray)), ((0 : Int), ([] : List Int)))) = dJob := rfl
      have q1 : q_ltoJob (l.getD i dJob).1 (l.getD i dJob).2.1 (l.getD i dJob).2.2.1 (l.getD i dJob).2.2.2 = true := by
        simp only [q_ltoJob, q_ltoOpS, q_ltoIntS, okOps_okL o1, Bool.true_and]
        exact decide_eq_true o2
      simp only [ss_ltoJobS_0, hdj, e1, e2, e3, cond_true, Int.toNat_natCast, q1, wrapU i (by omega), ltoJob, toOpS_same, toInts_same]
      refine .inl ⟨_, rfl, ⟨i + 1, _, rfl, by omega, by rw [List.length_set]; exact hr, ?_⟩, by simp only [Int.toNat_natCast]; omega⟩
      rw [take_succ_getD (by rw [List.length_set]; omega) dJob, take_succ_getD hlt dJob, getD_set (by omega), List.take_set_of_le (Nat.le_refl _), ht]
    · obtain rfl : i = l.length := by omega
      have e1 : decide ((l.length : Int) < ((l.length : Nat) : Int)) = false := decide_eq_false (by omega)
      simp only [ss_ltoJobS_0, e1, cond_false]
      rw [← hr, List.take_length, hr, List.take_length] at ht
      exact .inr ⟨_, rfl, by rw [ht]⟩
  have hdj : ((0 : Int), (([] : List (Int × ByteArray × ByteArray)), ((0 : Int), ([] : List Int)))) = dJob := rfl
  simp only [q_ltoJobS, ltoJobS, hdj, Int.toNat_natCast, key]
  refine ⟨?_, trivial⟩
  rw [Bool.and_eq_true]
  exact ⟨decide_eq_true ⟨by omega, trivial, by simp only [MAXB]; omega, by omega⟩, rfl⟩
theorem toChoices_same (l : List (Int × Bool)) : ltoChoiceS l = l := by
  have e := mapN (fun o : Int × Bool => (ltoChoice o.1 o.2)) ((0 : Int), false) l l.length 0 (List.replicate l.length ((0 : Int), false)) (by simp) (by simp)
  simp only [List.take_zero, List.nil_append, List.drop_zero] at e
  have e2 : l.map (fun o : Int × Bool => (ltoChoice o.1 o.2)) = l := by
    rw [show (fun o : Int × Bool => (ltoChoice o.1 o.2)) = id from funext fun _ => rfl, List.map_id]
  rw [e2] at e
  exact e
theorem eqChoices_same (l : List (Int × Bool)) : leqChoiceS l l = true := by
  have e : allF (f_leqChoiceS_0 l l) (l.length - (0 : Int).toNat) (0 : Int).toNat = true := allF_same _ _ fun j _ _ => by simp [f_leqChoiceS_0, leqChoice]
  simp only [leqChoiceS, e, cond_true]
  simp
theorem eqCoord_same {a3 : List JobD} {a4 : List (Int × Bool)} (h3 : a3.length ≤ 1048576) (hj : ∀ j ∈ a3, okJob j) (h4 : a4.length ≤ 1048576) (a0 a1 a2 a5 : Int) : q_leqCoord a0 a1 a2 a3 a4 a5 a0 a1 a2 a3 a4 a5 = true ∧ leqCoord a0 a1 a2 a3 a4 a5 a0 a1 a2 a3 a4 a5 = true ∧ q_ltoCoord a0 a1 a2 a3 a4 a5 = true ∧ ltoCoord a0 a1 a2 a3 a4 a5 = (a0, a1, a2, a3, a4, a5) := by
  obtain ⟨e1, e2⟩ := eqJobs_same h3 hj
  obtain ⟨t1, t2⟩ := toJobs_same h3 hj
  have e0 : ∀ x : Int, (x != x) = false := fun x => by simp
  have e3 : okL a4 = true := decide_eq_true h4
  simp only [q_leqCoord, leqCoord, q_ltoCoord, ltoCoord, e0, e1, e2, t1, t2, toChoices_same, eqChoices_same, q_leqChoiceS, q_ltoChoiceS, e3, cond_false, Bool.not_true, Bool.and_self]
  exact ⟨trivial, trivial, trivial, trivial⟩
theorem eqOpSI {l : List (Int × ByteArray × ByteArray)} (h : okOpS l) : q_leqOpS l l = true ∧ leqOpS l l = true := ⟨okOps_okL h, eqOpS_same l⟩
theorem eqRecSI {l : List RecD} (h : okRecS l) : q_leqRecS l l = true ∧ leqRecS l l = true := by
  obtain ⟨hl, h3⟩ := h
  have hdj : (((0 : Int), ((0 : Int), ([] : List (Int × ByteArray × ByteArray)))) : RecD) = dRec := rfl
  have e0 : ∀ x : Int, (x != x) = false := fun x => by simp
  have e9 : ∀ x : Bool, (x == x) = true := fun x => by simp
  have key : it_leqRecS_0 l l 0 = scanA (fun _ => none) (1, false) l.length 0 := by
    refine itX_scan (fun i => (l, l, (i : Int))) l.length _ _ (by omega) (fun i hi => ?_) ?_
    · have e1 : decide ((i : Int) < ((l.length : Nat) : Int)) = true := decide_eq_true (by omega)
      have e2 : decide (0 ≤ (i : Int) ∧ (i : Int) < ((l.length : Nat) : Int)) = true := decide_eq_true (by omega)
      have ho := h3 _ (getD_mem hi dRec)
      have o2 := ho
      obtain ⟨qE2, toE2⟩ := eqOpSI o2
      have q1 : q_leqRec (l.getD i dRec).1 (l.getD i dRec).2.1 (l.getD i dRec).2.2 (l.getD i dRec).1 (l.getD i dRec).2.1 (l.getD i dRec).2.2 = true := by
        first | exact qE2 | (simp only [q_leqRec, e0, cond_false]; exact qE2)
      have q2 : leqRec (l.getD i dRec).1 (l.getD i dRec).2.1 (l.getD i dRec).2.2 (l.getD i dRec).1 (l.getD i dRec).2.1 (l.getD i dRec).2.2 = true := by
        simp only [leqRec, e0, e9, toE2, cond_false, Bool.not_true]
      simp only [ss_leqRecS_0, hdj, e1, e2, cond_true, cond_false, Bool.not_true, Int.toNat_natCast, q1, q2, wrapU i (by omega)]
    · have e1 : decide ((l.length : Int) < ((l.length : Nat) : Int)) = false := decide_eq_false (by omega)
      simp only [ss_leqRecS_0, e1, cond_false]
  have k2 : scanA (fun _ => none) ((1, false) : A_leqRecS_0) l.length 0 = (1, false) := by
    rcases scanA_cases (fun _ => none) ((1, false) : A_leqRecS_0) l.length 0 with ⟨j, a, _, _, h3, _⟩ | ⟨_, h⟩
    · cases h3
    · exact h
  rw [k2] at key
  simp only [q_leqRecS, leqRecS, key, e0, cond_false]
  exact ⟨rfl, rfl⟩
theorem eqPairSI {l : List PairD} (h : okPairS l) : q_leqPairS l l = true ∧ leqPairS l l = true := by
  refine ⟨decide_eq_true h.1, ?_⟩
  have e : allF (f_leqPairS_0 l l) (l.length - (0 : Int).toNat) (0 : Int).toNat = true := allF_same _ _ (fun j _ _ => by simp [f_leqPairS_0, leqPair])
  simp only [leqPairS, e, cond_true]
  simp
theorem eqShardSI {l : List ShardD} (h : okShardS l) : q_leqShardS l l = true ∧ leqShardS l l = true := by
  obtain ⟨hl, h3⟩ := h
  have hdj : (((0 : Int), (([] : List RecD), ((0 : Int), (([] : List (ByteArray × ByteArray)), ([] : List RecD))))) : ShardD) = dShard := rfl
  have e0 : ∀ x : Int, (x != x) = false := fun x => by simp
  have e9 : ∀ x : Bool, (x == x) = true := fun x => by simp
  have key : it_leqShardS_0 l l 0 = scanA (fun _ => none) (1, false) l.length 0 := by
    refine itX_scan (fun i => (l, l, (i : Int))) l.length _ _ (by omega) (fun i hi => ?_) ?_
    · have e1 : decide ((i : Int) < ((l.length : Nat) : Int)) = true := decide_eq_true (by omega)
      have e2 : decide (0 ≤ (i : Int) ∧ (i : Int) < ((l.length : Nat) : Int)) = true := decide_eq_true (by omega)
      have ho := h3 _ (getD_mem hi dShard)
      obtain ⟨o1, o3, o4⟩ := ho
      obtain ⟨qE1, toE1⟩ := eqRecSI o1
      obtain ⟨qE3, toE3⟩ := eqPairSI o3
      obtain ⟨qE4, toE4⟩ := eqRecSI o4
      have q1 : q_leqShard (l.getD i dShard).1 (l.getD i dShard).2.1 (l.getD i dShard).2.2.1 (l.getD i dShard).2.2.2.1 (l.getD i dShard).2.2.2.2 (l.getD i dShard).1 (l.getD i dShard).2.1 (l.getD i dShard).2.2.1 (l.getD i dShard).2.2.2.1 (l.getD i dShard).2.2.2.2 = true := by
        simp only [q_leqShard, e0, qE1, toE1, qE3, toE3, qE4, toE4, cond_false, Bool.not_true, Bool.and_self]
      have q2 : leqShard (l.getD i dShard).1 (l.getD i dShard).2.1 (l.getD i dShard).2.2.1 (l.getD i dShard).2.2.2.1 (l.getD i dShard).2.2.2.2 (l.getD i dShard).1 (l.getD i dShard).2.1 (l.getD i dShard).2.2.1 (l.getD i dShard).2.2.2.1 (l.getD i dShard).2.2.2.2 = true := by
        simp only [leqShard, e0, e9, toE1, toE3, toE4, cond_false, Bool.not_true]
      simp only [ss_leqShardS_0, hdj, e1, e2, cond_true, cond_false, Bool.not_true, Int.toNat_natCast, q1, q2, wrapU i (by omega)]
    · have e1 : decide ((l.length : Int) < ((l.length : Nat) : Int)) = false := decide_eq_false (by omega)
      simp only [ss_leqShardS_0, e1, cond_false]
  have k2 : scanA (fun _ => none) ((1, false) : A_leqShardS_0) l.length 0 = (1, false) := by
    rcases scanA_cases (fun _ => none) ((1, false) : A_leqShardS_0) l.length 0 with ⟨j, a, _, _, h3, _⟩ | ⟨_, h⟩
    · cases h3
    · exact h
  rw [k2] at key
  simp only [q_leqShardS, leqShardS, key, e0, cond_false]
  exact ⟨rfl, rfl⟩
theorem itX_map {V A α β : Type} {ss : V → V ⊕ A} {fa : A} (pk : Nat → List β → V) (l : List α) (d : α) (e : β) (f : α → β) (last : List β → A) (hn : l.length < 4611686018427387904)
    (h : ∀ i r, i < l.length → r.length = l.length → ss (pk i r) = .inl (pk (i + 1) (r.set i (f (l.getD i d))))) (hl : ∀ r, r.length = l.length → ss (pk l.length r) = .inr (last r)) : itX ss fa (pk 0 (List.replicate l.length e)) = last (l.map f) := by
  rw [itX_eq]
  have key : ∀ k N i r, i + k = l.length → k < N → r.length = l.length → r.take i = (l.map f).take i → itN ss fa N (pk i r) = last (l.map f) := by
    intro k
    induction k with
    | zero =>
      intro N i r hi hN hr ht
      obtain ⟨M, rfl⟩ : ∃ M, N = M + 1 := ⟨N - 1, by omega⟩
      obtain rfl : i = l.length := by omega
      rw [itN_one, hl r hr]
      have e1 : r.take l.length = r := List.take_of_length_le (by omega)
      have e2 : (l.map f).take l.length = l.map f := List.take_of_length_le (by simp)
      rw [e1, e2] at ht
      rw [ht]
    | succ k ih =>
      intro N i r hi hN hr ht
      obtain ⟨M, rfl⟩ : ∃ M, N = M + 1 := ⟨N - 1, by omega⟩
      rw [itN_one, h i r (by omega) hr]
      refine ih M (i + 1) _ (by omega) (by omega) (by rw [List.length_set]; exact hr) ?_
      have hlt : i < l.length := by omega
      rw [List.take_add_one, List.take_add_one, List.take_set_of_le (Nat.le_refl _), ht]
      congr 1
      simp [List.getElem?_set, hr, hlt, List.getD_eq_getElem?_getD]
  exact key l.length _ 0 _ (by omega) hn (by simp) (by simp)
theorem toOpSI {l : List (Int × ByteArray × ByteArray)} (h : okOpS l) : q_ltoOpS l = true ∧ ltoOpS l = l := ⟨okOps_okL h, toOpS_same l⟩
theorem toRecSI {l : List RecD} (h : okRecS l) : q_ltoRecS l = true ∧ ltoRecS l = l := by
  obtain ⟨hl, h3⟩ := h
  have hdj : (((0 : Int), ((0 : Int), ([] : List (Int × ByteArray × ByteArray)))) : RecD) = dRec := rfl
  have key : it_ltoRecS_0 l 0 (List.replicate l.length dRec) = (0, l.map fun x => x) := by
    refine itX_map (fun i r => (l, (i : Int), r)) l dRec dRec (fun x => x) (fun r => (0, r)) (by omega) (fun i r hi hr => ?_) (fun r hr => ?_)
    · have e1 : decide ((i : Int) < ((l.length : Nat) : Int)) = true := decide_eq_true (by omega)
      have e2 : decide (0 ≤ (i : Int) ∧ (i : Int) < ((l.length : Nat) : Int)) = true := decide_eq_true (by omega)
      have e3 : decide (0 ≤ (i : Int) ∧ (i : Int) < ((r.length : Nat) : Int)) = true := decide_eq_true (by omega)
      have ho := h3 _ (getD_mem hi dRec)
      have o2 := ho
      obtain ⟨qE2, toE2⟩ := toOpSI o2
      have q1 : q_ltoRec (l.getD i dRec).1 (l.getD i dRec).2.1 (l.getD i dRec).2.2 = true := by
        exact qE2
      simp only [ss_ltoRecS_0, hdj, e1, e2, e3, cond_true, Int.toNat_natCast, q1, wrapU i (by omega), ltoRec, toE2]
    · have e1 : decide ((l.length : Int) < ((l.length : Nat) : Int)) = false := decide_eq_false (by omega)
      simp only [ss_ltoRecS_0, e1, cond_false]
  rw [List.map_id'] at key
  simp only [q_ltoRecS, ltoRecS, hdj, Int.toNat_natCast, key]
  refine ⟨?_, trivial⟩
  rw [Bool.and_eq_true]
  exact ⟨decide_eq_true ⟨by omega, trivial, by simp only [MAXB]; omega, by omega⟩, rfl⟩
theorem toPairSI {l : List PairD} (h : okPairS l) : q_ltoPairS l = true ∧ ltoPairS l = l := by
  refine ⟨decide_eq_true h.1, ?_⟩
  have e := mapN (fun o : PairD => (ltoPair o.1 o.2)) dPair l l.length 0 (List.replicate l.length dPair) (by simp) (by simp)
  simp only [List.take_zero, List.nil_append, List.drop_zero] at e
  have e2 : l.map (fun o : PairD => (ltoPair o.1 o.2)) = l := by
    rw [show (fun o : PairD => (ltoPair o.1 o.2)) = id from funext fun _ => rfl, List.map_id]
  rw [e2] at e
  exact e
theorem toShardSI {l : List ShardD} (h : okShardS l) : q_ltoShardS l = true ∧ ltoShardS l = l := by
  obtain ⟨hl, h3⟩ := h
  have hdj : (((0 : Int), (([] : List RecD), ((0 : Int), (([] : List (ByteArray × ByteArray)), ([] : List RecD))))) : ShardD) = dShard := rfl
  have key : it_ltoShardS_0 l 0 (List.replicate l.length dShard) = (0, l.map fun x => x) := by
    refine itX_map (fun i r => (l, (i : Int), r)) l dShard dShard (fun x => x) (fun r => (0, r)) (by omega) (fun i r hi hr => ?_) (fun r hr => ?_)
    · have e1 : decide ((i : Int) < ((l.length : Nat) : Int)) = true := decide_eq_true (by omega)
      have e2 : decide (0 ≤ (i : Int) ∧ (i : Int) < ((l.length : Nat) : Int)) = true := decide_eq_true (by omega)
      have e3 : decide (0 ≤ (i : Int) ∧ (i : Int) < ((r.length : Nat) : Int)) = true := decide_eq_true (by omega)
      have ho := h3 _ (getD_mem hi dShard)
      obtain ⟨o1, o3, o4⟩ := ho
      obtain ⟨qE1, toE1⟩ := toRecSI o1
      obtain ⟨qE3, toE3⟩ := toPairSI o3
      obtain ⟨qE4, toE4⟩ := toRecSI o4
      have q1 : q_ltoShard (l.getD i dShard).1 (l.getD i dShard).2.1 (l.getD i dShard).2.2.1 (l.getD i dShard).2.2.2.1 (l.getD i dShard).2.2.2.2 = true := by
        simp only [q_ltoShard, qE1, qE3, qE4, Bool.and_self]
      simp only [ss_ltoShardS_0, hdj, e1, e2, e3, cond_true, Int.toNat_natCast, q1, wrapU i (by omega), ltoShard, toE1, toE3, toE4]
    · have e1 : decide ((l.length : Int) < ((l.length : Nat) : Int)) = false := decide_eq_false (by omega)
      simp only [ss_ltoShardS_0, e1, cond_false]
  rw [List.map_id'] at key
  simp only [q_ltoShardS, ltoShardS, hdj, Int.toNat_natCast, key]
  refine ⟨?_, trivial⟩
  rw [Bool.and_eq_true]
  exact ⟨decide_eq_true ⟨by omega, trivial, by simp only [MAXB]; omega, by omega⟩, rfl⟩
theorem eqWordSI {l : List WordD} (h : okWordS l) : q_leqWordS l l = true ∧ leqWordS l l = true := by
  obtain ⟨hl, h3⟩ := h
  have hdj : (((0 : Int), ((0 : Int), ((0 : Int), (([] : List (Int × ByteArray × ByteArray)), false)))) : WordD) = dWord := rfl
  have e0 : ∀ x : Int, (x != x) = false := fun x => by simp
  have e9 : ∀ x : Bool, (x == x) = true := fun x => by simp
  have key : it_leqWordS_0 l l 0 = scanA (fun _ => none) (1, false) l.length 0 := by
    refine itX_scan (fun i => (l, l, (i : Int))) l.length _ _ (by omega) (fun i hi => ?_) ?_
    · have e1 : decide ((i : Int) < ((l.length : Nat) : Int)) = true := decide_eq_true (by omega)
      have e2 : decide (0 ≤ (i : Int) ∧ (i : Int) < ((l.length : Nat) : Int)) = true := decide_eq_true (by omega)
      have ho := h3 _ (getD_mem hi dWord)
      have o3 := ho
      obtain ⟨qE3, toE3⟩ := eqOpSI o3
      have q1 : q_leqWord (l.getD i dWord).1 (l.getD i dWord).2.1 (l.getD i dWord).2.2.1 (l.getD i dWord).2.2.2.1 (l.getD i dWord).2.2.2.2 (l.getD i dWord).1 (l.getD i dWord).2.1 (l.getD i dWord).2.2.1 (l.getD i dWord).2.2.2.1 (l.getD i dWord).2.2.2.2 = true := by
        first | exact qE3 | (simp only [q_leqWord, e0, cond_false]; exact qE3)
      have q2 : leqWord (l.getD i dWord).1 (l.getD i dWord).2.1 (l.getD i dWord).2.2.1 (l.getD i dWord).2.2.2.1 (l.getD i dWord).2.2.2.2 (l.getD i dWord).1 (l.getD i dWord).2.1 (l.getD i dWord).2.2.1 (l.getD i dWord).2.2.2.1 (l.getD i dWord).2.2.2.2 = true := by
        simp only [leqWord, e0, e9, toE3, cond_false, Bool.not_true]
      simp only [ss_leqWordS_0, hdj, e1, e2, cond_true, cond_false, Bool.not_true, Int.toNat_natCast, q1, q2, wrapU i (by omega)]
    · have e1 : decide ((l.length : Int) < ((l.length : Nat) : Int)) = false := decide_eq_false (by omega)
      simp only [ss_leqWordS_0, e1, cond_false]
  have k2 : scanA (fun _ => none) ((1, false) : A_leqWordS_0) l.length 0 = (1, false) := by
    rcases scanA_cases (fun _ => none) ((1, false) : A_leqWordS_0) l.length 0 with ⟨j, a, _, _, h3, _⟩ | ⟨_, h⟩
    · cases h3
    · exact h
  rw [k2] at key
  simp only [q_leqWordS, leqWordS, key, e0, cond_false]
  exact ⟨rfl, rfl⟩
theorem toWordSI {l : List WordD} (h : okWordS l) : q_ltoWordS l = true ∧ ltoWordS l = l := by
  obtain ⟨hl, h3⟩ := h
  have hdj : (((0 : Int), ((0 : Int), ((0 : Int), (([] : List (Int × ByteArray × ByteArray)), false)))) : WordD) = dWord := rfl
  have key : it_ltoWordS_0 l 0 (List.replicate l.length dWord) = (0, l.map fun x => x) := by
    refine itX_map (fun i r => (l, (i : Int), r)) l dWord dWord (fun x => x) (fun r => (0, r)) (by omega) (fun i r hi hr => ?_) (fun r hr => ?_)
    · have e1 : decide ((i : Int) < ((l.length : Nat) : Int)) = true := decide_eq_true (by omega)
      have e2 : decide (0 ≤ (i : Int) ∧ (i : Int) < ((l.length : Nat) : Int)) = true := decide_eq_true (by omega)
      have e3 : decide (0 ≤ (i : Int) ∧ (i : Int) < ((r.length : Nat) : Int)) = true := decide_eq_true (by omega)
      have ho := h3 _ (getD_mem hi dWord)
      have o3 := ho
      obtain ⟨qE3, toE3⟩ := toOpSI o3
      have q1 : q_ltoWord (l.getD i dWord).1 (l.getD i dWord).2.1 (l.getD i dWord).2.2.1 (l.getD i dWord).2.2.2.1 (l.getD i dWord).2.2.2.2 = true := by
        exact qE3
      simp only [ss_ltoWordS_0, hdj, e1, e2, e3, cond_true, Int.toNat_natCast, q1, wrapU i (by omega), ltoWord, toE3]
    · have e1 : decide ((l.length : Int) < ((l.length : Nat) : Int)) = false := decide_eq_false (by omega)
      simp only [ss_ltoWordS_0, e1, cond_false]
  rw [List.map_id'] at key
  simp only [q_ltoWordS, ltoWordS, hdj, Int.toNat_natCast, key]
  refine ⟨?_, trivial⟩
  rw [Bool.and_eq_true]
  exact ⟨decide_eq_true ⟨by omega, trivial, by simp only [MAXB]; omega, by omega⟩, rfl⟩
theorem eqOrderSI {l : List OrderD} (h : okOrderS l) : q_leqOrderS l l = true ∧ leqOrderS l l = true := by
  obtain ⟨hl, h3⟩ := h
  have hdj : (((0 : Int), ([] : List (Int × ByteArray × ByteArray))) : OrderD) = dOrder := rfl
  have e0 : ∀ x : Int, (x != x) = false := fun x => by simp
  have e9 : ∀ x : Bool, (x == x) = true := fun x => by simp
  have key : it_leqOrderS_0 l l 0 = scanA (fun _ => none) (1, false) l.length 0 := by
    refine itX_scan (fun i => (l, l, (i : Int))) l.length _ _ (by omega) (fun i hi => ?_) ?_
    · have e1 : decide ((i : Int) < ((l.length : Nat) : Int)) = true := decide_eq_true (by omega)
      have e2 : decide (0 ≤ (i : Int) ∧ (i : Int) < ((l.length : Nat) : Int)) = true := decide_eq_true (by omega)
      have ho := h3 _ (getD_mem hi dOrder)
      have o1 := ho
      obtain ⟨qE1, toE1⟩ := eqOpSI o1
      have q1 : q_leqOrder (l.getD i dOrder).1 (l.getD i dOrder).2 (l.getD i dOrder).1 (l.getD i dOrder).2 = true := by
        first | exact qE1 | (simp only [q_leqOrder, e0, cond_false]; exact qE1)
      have q2 : leqOrder (l.getD i dOrder).1 (l.getD i dOrder).2 (l.getD i dOrder).1 (l.getD i dOrder).2 = true := by
        simp only [leqOrder, e0, e9, toE1, cond_false, Bool.not_true]
      simp only [ss_leqOrderS_0, hdj, e1, e2, cond_true, cond_false, Bool.not_true, Int.toNat_natCast, q1, q2, wrapU i (by omega)]
    · have e1 : decide ((l.length : Int) < ((l.length : Nat) : Int)) = false := decide_eq_false (by omega)
      simp only [ss_leqOrderS_0, e1, cond_false]
  have k2 : scanA (fun _ => none) ((1, false) : A_leqOrderS_0) l.length 0 = (1, false) := by
    rcases scanA_cases (fun _ => none) ((1, false) : A_leqOrderS_0) l.length 0 with ⟨j, a, _, _, h3, _⟩ | ⟨_, h⟩
    · cases h3
    · exact h
  rw [k2] at key
  simp only [q_leqOrderS, leqOrderS, key, e0, cond_false]
  exact ⟨rfl, rfl⟩
theorem toOrderSI {l : List OrderD} (h : okOrderS l) : q_ltoOrderS l = true ∧ ltoOrderS l = l := by
  obtain ⟨hl, h3⟩ := h
  have hdj : (((0 : Int), ([] : List (Int × ByteArray × ByteArray))) : OrderD) = dOrder := rfl
  have key : it_ltoOrderS_0 l 0 (List.replicate l.length dOrder) = (0, l.map fun x => x) := by
    refine itX_map (fun i r => (l, (i : Int), r)) l dOrder dOrder (fun x => x) (fun r => (0, r)) (by omega) (fun i r hi hr => ?_) (fun r hr => ?_)
    · have e1 : decide ((i : Int) < ((l.length : Nat) : Int)) = true := decide_eq_true (by omega)
      have e2 : decide (0 ≤ (i : Int) ∧ (i : Int) < ((l.length : Nat) : Int)) = true := decide_eq_true (by omega)
      have e3 : decide (0 ≤ (i : Int) ∧ (i : Int) < ((r.length : Nat) : Int)) = true := decide_eq_true (by omega)
      have ho := h3 _ (getD_mem hi dOrder)
      have o1 := ho
      obtain ⟨qE1, toE1⟩ := toOpSI o1
      have q1 : q_ltoOrder (l.getD i dOrder).1 (l.getD i dOrder).2 = true := by
        exact qE1
      simp only [ss_ltoOrderS_0, hdj, e1, e2, e3, cond_true, Int.toNat_natCast, q1, wrapU i (by omega), ltoOrder, toE1]
    · have e1 : decide ((l.length : Int) < ((l.length : Nat) : Int)) = false := decide_eq_false (by omega)
      simp only [ss_ltoOrderS_0, e1, cond_false]
  rw [List.map_id'] at key
  simp only [q_ltoOrderS, ltoOrderS, hdj, Int.toNat_natCast, key]
  refine ⟨?_, trivial⟩
  rw [Bool.and_eq_true]
  exact ⟨decide_eq_true ⟨by omega, trivial, by simp only [MAXB]; omega, by omega⟩, rfl⟩
theorem eqWorld_same {a3 : List JobD} {a4 : List (Int × Bool)} {a6 : List ShardD} {a7 a8 : List WordD} {a9 : List OrderD} (h : okWorld a3 a4 a6 a7 a8 a9) (a0 a1 a2 a5 : Int) :
    q_leqWorld a0 a1 a2 a3 a4 a5 a6 a7 a8 a9 a0 a1 a2 a3 a4 a5 a6 a7 a8 a9 = true ∧ leqWorld a0 a1 a2 a3 a4 a5 a6 a7 a8 a9 a0 a1 a2 a3 a4 a5 a6 a7 a8 a9 = true ∧ q_ltoWorld a0 a1 a2 a3 a4 a5 a6 a7 a8 a9 = true ∧ ltoWorld a0 a1 a2 a3 a4 a5 a6 a7 a8 a9 = (a0, a1, a2, a3, a4, a5, a6, a7, a8, a9) := by
  obtain ⟨h3, hj, h4, h6, h7, h8, h9⟩ := h
  obtain ⟨c1, c2, c3, c4⟩ := eqCoord_same h3 hj h4 a0 a1 a2 a5
  obtain ⟨s1, s2⟩ := eqShardSI h6
  obtain ⟨s3, s4⟩ := toShardSI h6
  obtain ⟨w1, w2⟩ := eqWordSI h7
  obtain ⟨w3, w4⟩ := toWordSI h7
  obtain ⟨u1, u2⟩ := eqWordSI h8
  obtain ⟨u3, u4⟩ := toWordSI h8
  obtain ⟨o1, o2⟩ := eqOrderSI h9
  obtain ⟨o3, o4⟩ := toOrderSI h9
  simp only [q_leqWorld, leqWorld, q_ltoWorld, ltoWorld, c1, c2, c3, c4, s1, s2, s3, s4, w1, w2, w3, w4, u1, u2, u3, u4, o1, o2, o3, o4, cond_false, Bool.not_true, Bool.and_self]
  exact ⟨trivial, trivial, trivial, trivial⟩
noncomputable def dCh : Int × Bool := (0, false)
/-- Is there a choice of yes that is sure? -/
noncomputable def yesSure (log : List (Int × Bool)) (sure tx : Int) : Bool := (List.range log.length).any fun i => (log.getD i dCh).1 == tx && ((log.getD i dCh).2 && decide ((i : Int) < sure))
/-- Has a log one that is done and not chosen? -/
noncomputable def unbacked (log : List (Int × Bool)) (sure : Int) (l : List RecD) : Bool := (List.range l.length).any fun i => (l.getD i dRec).1 == 2 && !yesSure log sure (l.getD i dRec).2.1
theorem scan_bool {A : Type} (p : Nat → Bool) (a last : A) (n : Nat) : scanA (fun i => cond (p i) (some a) none) last n 0 = cond ((List.range n).any p) a last := by
  rcases scanA_cases (fun i => cond (p i) (some a) none) last n 0 with ⟨j, b, _, h2, h3, _, h5⟩ | ⟨h1, h2⟩
  · cases hp : p j with
    | true =>
      simp only [hp, cond_true, Option.some.injEq] at h3
      rw [h5, ← h3, List.any_eq_true.2 ⟨j, by simpa using h2, hp⟩]; rfl
    | false => simp only [hp, cond_false] at h3; cases h3
  · rw [h2]
    have : (List.range n).any p = false := by
      rw [List.any_eq_false]
      intro j hj
      have := h1 j (Nat.zero_le _) (by simpa using hj)
      cases hp : p j with
      | true => simp only [hp, cond_true] at this; cases this
      | false => simp
    rw [this]; rfl
theorem scan_break {A : Type} {f g : Nat → Option A} {last : A} {sure : Int} (h1 : ∀ i : Nat, (i : Int) < sure → f i = g i) (h2 : ∀ i : Nat, ¬ (i : Int) < sure → f i = some last ∧ g i = none) : ∀ k i, scanA f last k i = scanA g last k i := by
  have none_last : ∀ k i : Nat, ¬ (i : Int) < sure → scanA g last k i = last := by
    intro k
    induction k with
    | zero => intro i _; rfl
    | succ k ih => intro i hi; simp only [scanA, (h2 i hi).2]; exact ih (i + 1) (by omega)
  intro k
  induction k with
  | zero => intro i; rfl
  | succ k ih =>
    intro i
    by_cases hi : (i : Int) < sure
    · simp only [scanA, h1 i hi, ih (i + 1)]
    · have := none_last (k + 1) i hi
      rw [this]
      simp only [scanA, (h2 i hi).1]
theorem sYesSure (a0 a1 a2 : Int) (a3 : List JobD) {a4 : List (Int × Bool)} (a5 tx : Int) (h4 : a4.length ≤ 1048576) : q_sl13Yes a0 a1 a2 a3 a4 a5 tx = true ∧ sl13Yes a0 a1 a2 a3 a4 a5 tx = yesSure a4 a5 tx := by
  have e : it_sl13Yes_0 tx 0 a0 a1 a2 a3 a4 a5 = cond (yesSure a4 a5 tx) (0, true) (1, false) := by
    rw [yesSure, ← scan_bool]
    rw [← scan_break (f := fun i => cond (decide ((i : Int) < a5)) (cond ((a4.getD i dCh).1 == tx) (cond (a4.getD i dCh).2 (some (0, true)) none) none) (some (1, false))) (sure := a5) (fun i hi => ?_) (fun i hi => ?_)]
    · refine itX_scan (fun i => (tx, (i : Int))) a4.length _ _ (by omega) (fun i hi => ?_) ?_
      · have e1 : decide ((i : Int) < ((a4.length : Nat) : Int)) = true := decide_eq_true (by omega)
        have e2 : decide (0 ≤ (i : Int) ∧ (i : Int) < ((a4.length : Nat) : Int)) = true := decide_eq_true (by omega)
        simp only [ss_sl13Yes_0, e1, e2, cond_true, Int.toNat_natCast, wrapU i (by omega), dCh]
        cases decide ((i : Int) < a5) <;> cases ((a4.getD i (0, false)).1 == tx) <;> cases (a4.getD i (0, false)).2 <;> rfl
      · have e1 : decide ((a4.length : Int) < ((a4.length : Nat) : Int)) = false := decide_eq_false (by omega)
        simp only [ss_sl13Yes_0, e1, cond_false]
    · simp only [decide_eq_true hi, cond_true, Bool.and_true]
      cases ((a4.getD i dCh).1 == tx) <;> cases (a4.getD i dCh).2 <;> rfl
    · simp only [decide_eq_false hi, cond_false, Bool.and_false]
      exact ⟨trivial, trivial⟩
  simp only [q_sl13Yes, sl13Yes, e]
  cases yesSure a4 a5 tx <;> exact ⟨rfl, rfl⟩
theorem iYesSure (a0 a1 a2 : Int) (a3 : List JobD) {a4 : List (Int × Bool)} (a5 : Int) (a6 : List ShardD) (a7 a8 : List WordD) (a9 : List OrderD) (tx : Int) (h4 : a4.length ≤ 1048576) : q_iWorld_isChosen tx a0 a1 a2 a3 a4 a5 a6 a7 a8 a9 = true ∧ iWorld_isChosen tx a0 a1 a2 a3 a4 a5 a6 a7 a8 a9 = yesSure a4 a5 tx := by
  have e : it_iWorld_isChosen_0 tx a4 ((a4.length : Nat) : Int) 0 a0 a1 a2 a3 a4 a5 a6 a7 a8 a9 = cond (yesSure a4 a5 tx) (0, true) (1, false) := by
    rw [yesSure, ← scan_bool]
    refine itX_scan (fun i => (tx, a4, ((a4.length : Nat) : Int), (i : Int))) a4.length _ _ (by omega) (fun i hi => ?_) ?_
    · have e1 : decide ((i : Int) < ((a4.length : Nat) : Int)) = true := decide_eq_true (by omega)
      have e2 : decide (0 ≤ (i : Int) ∧ (i : Int) < ((a4.length : Nat) : Int)) = true := decide_eq_true (by omega)
      simp only [ss_iWorld_isChosen_0, e1, e2, cond_true, Int.toNat_natCast, wrapU i (by omega), dCh]
      cases decide ((i : Int) < a5) <;> cases ((a4.getD i (0, false)).1 == tx) <;> cases (a4.getD i (0, false)).2 <;> rfl
    · have e1 : decide ((a4.length : Int) < ((a4.length : Nat) : Int)) = false := decide_eq_false (by omega)
      simp only [ss_iWorld_isChosen_0, e1, cond_false]
  simp only [q_iWorld_isChosen, iWorld_isChosen, k1_iWorld_isChosen, e]
  cases yesSure a4 a5 tx <;> exact ⟨rfl, rfl⟩
theorem backed_same (a0 a1 a2 : Int) {a3 : List JobD} {a4 : List (Int × Bool)} (a5 : Int) {a6 : List ShardD} {a7 a8 : List WordD} {a9 : List OrderD} (h : okWorld a3 a4 a6 a7 a8 a9) : q_sBacked a0 a1 a2 a3 a4 a5 a6 a7 a8 a9 = true ∧ q_iBacked a0 a1 a2 a3 a4 a5 a6 a7 a8 a9 = true ∧ iBacked a0 a1 a2 a3 a4 a5 a6 a7 a8 a9 = sBacked a0 a1 a2 a3 a4 a5 a6 a7 a8 a9 := by
  obtain ⟨h3, hj, h4, h6, h7, h8, h9⟩ := h
  have hdr : ((0 : Int), ((0 : Int), ([] : List (Int × ByteArray × ByteArray)))) = dRec := rfl
  have hds : ((0 : Int), (([] : List RecD), ((0 : Int), (([] : List PairD), ([] : List RecD))))) = dShard := rfl
  have inS : ∀ (l : List RecD) (x : Int), l.length ≤ 1048576 → it_sBacked_1 x l 0 a0 a1 a2 a3 a4 a5 a6 a7 a8 a9 = cond (unbacked a4 a5 l) (0, false, 0) (1, false, x) := by
    intro l x hl
    rw [unbacked, ← scan_bool]
    refine itX_scan (fun i => (x, l, (i : Int))) l.length _ _ (by omega) (fun i hi => ?_) ?_
    · have e1 : decide ((i : Int) < ((l.length : Nat) : Int)) = true := decide_eq_true (by omega)
      have e2 : decide (0 ≤ (i : Int) ∧ (i : Int) < ((l.length : Nat) : Int)) = true := decide_eq_true (by omega)
      obtain ⟨y1, y2⟩ := sYesSure a0 a1 a2 a3 a5 (l.getD i dRec).2.1 h4
      simp only [ss_sBacked_1, k1_sBacked, hdr, e1, e2, cond_true, Int.toNat_natCast, wrapU i (by omega), y1, y2]
      cases ((l.getD i dRec).1 == 2) <;> cases yesSure a4 a5 (l.getD i dRec).2.1 <;> rfl
    · have e1 : decide ((l.length : Int) < ((l.length : Nat) : Int)) = false := decide_eq_false (by omega)
      simp only [ss_sBacked_1, e1, cond_false]
  have inI : ∀ (l : List RecD) (x : List ShardD) (y z : Int), l.length ≤ 1048576 → it_iBacked_1 x y z l ((l.length : Nat) : Int) 0 a0 a1 a2 a3 a4 a5 a6 a7 a8 a9 = cond (unbacked a4 a5 l) (0, false, [], 0, 0) (1, false, x, y, z) := by
    intro l x y z hl
    rw [unbacked, ← scan_bool]
    refine itX_scan (fun i => (x, y, z, l, ((l.length : Nat) : Int), (i : Int))) l.length _ _ (by omega) (fun i hi => ?_) ?_
    · have e1 : decide ((i : Int) < ((l.length : Nat) : Int)) = true := decide_eq_true (by omega)
      have e2 : decide (0 ≤ (i : Int) ∧ (i : Int) < ((l.length : Nat) : Int)) = true := decide_eq_true (by omega)
      obtain ⟨y1, y2⟩ := iYesSure a0 a1 a2 a3 a5 a6 a7 a8 a9 (l.getD i dRec).2.1 h4
      simp only [ss_iBacked_1, k1_iBacked, hdr, e1, e2, cond_true, Int.toNat_natCast, wrapU i (by omega), y1, y2]
      cases ((l.getD i dRec).1 == 2) <;> cases yesSure a4 a5 (l.getD i dRec).2.1 <;> rfl
    · have e1 : decide ((l.length : Int) < ((l.length : Nat) : Int)) = false := decide_eq_false (by omega)
      simp only [ss_iBacked_1, e1, cond_false]
  have outS : it_sBacked_0 0 a0 a1 a2 a3 a4 a5 a6 a7 a8 a9 = cond ((List.range a6.length).any fun i => unbacked a4 a5 (a6.getD i dShard).2.1) (0, false) (1, false) := by
    rw [← scan_bool]
    have hl := h6.1
    refine itX_scan (fun i => ((i : Int))) a6.length _ _ (by omega) (fun i hi => ?_) ?_
    · have e1 : decide ((i : Int) < ((a6.length : Nat) : Int)) = true := decide_eq_true (by omega)
      have e2 : decide (0 ≤ (i : Int) ∧ (i : Int) < ((a6.length : Nat) : Int)) = true := decide_eq_true (by omega)
      have ho := (h6.2 _ (getD_mem hi dShard)).1.1
      simp only [ss_sBacked_0, k2_sBacked, hds, e1, e2, cond_true, Int.toNat_natCast, inS _ _ ho]
      cases unbacked a4 a5 (a6.getD i dShard).2.1
      · show Sum.inl (IntKind.wrap .i64 ((i : Int) + 1)) = _
        rw [wrapU i (by omega)]; rfl
      · rfl
    · have e1 : decide ((a6.length : Int) < ((a6.length : Nat) : Int)) = false := decide_eq_false (by omega)
      simp only [ss_sBacked_0, e1, cond_false]
  have outI : it_iBacked_0 a6 ((a6.length : Nat) : Int) 0 a0 a1 a2 a3 a4 a5 a6 a7 a8 a9 = cond ((List.range a6.length).any fun i => unbacked a4 a5 (a6.getD i dShard).2.1) (0, false) (1, false) := by
    rw [← scan_bool]
    have hl := h6.1
    refine itX_scan (fun i => (a6, ((a6.length : Nat) : Int), (i : Int))) a6.length _ _ (by omega) (fun i hi => ?_) ?_
    · have e1 : decide ((i : Int) < ((a6.length : Nat) : Int)) = true := decide_eq_true (by omega)
      have e2 : decide (0 ≤ (i : Int) ∧ (i : Int) < ((a6.length : Nat) : Int)) = true := decide_eq_true (by omega)
      have ho := (h6.2 _ (getD_mem hi dShard)).1.1
      simp only [ss_iBacked_0, k2_iBacked, hds, e1, e2, cond_true, Int.toNat_natCast, inI _ _ _ _ ho]
      cases unbacked a4 a5 (a6.getD i dShard).2.1
      · show Sum.inl (a6, ((a6.length : Nat) : Int), IntKind.wrap .i64 ((i : Int) + 1)) = _
        rw [wrapU i (by omega)]; rfl
      · rfl
    · have e1 : decide ((a6.length : Int) < ((a6.length : Nat) : Int)) = false := decide_eq_false (by omega)
      simp only [ss_iBacked_0, e1, cond_false]
  simp only [q_sBacked, q_iBacked, sBacked, iBacked, outS, outI]
  cases ((List.range a6.length).any fun i => unbacked a4 a5 (a6.getD i dShard).2.1) <;> exact ⟨rfl, rfl, trivial⟩
theorem bigJobs_of {l : List JobD} (h : bigT (.sl (.pair (.int .i64) (.pair (.sl (.pair (.int .i64) (.pair .str .str))) (.pair (.int .i64) (.sl (.int .i64)))))) l = true) : bigJobs l := by
  have h : (decide (l.length ≤ maxLen) && l.all fun j => (Lit.int .i64 j.1).wf && (bigT (.sl (.pair (.int .i64) (.pair .str .str))) j.2.1 && ((Lit.int .i64 j.2.2.1).wf && (decide (j.2.2.2.length ≤ maxLen) && j.2.2.2.all fun x => (Lit.int .i64 x).wf)))) = true := h
  have hm : maxLen = 9223372036854775807 := by decide
  rw [hm] at h
  simp only [Bool.and_eq_true, decide_eq_true_eq, List.all_eq_true] at h
  exact ⟨h.1, fun j hj => ⟨bigOps_of (h.2 j hj).2.1, (h.2 j hj).2.2.2.1⟩⟩
theorem bigLog_of {l : List (Int × Bool)} (h : bigT (.sl (.pair (.int .i64) .bool)) l = true) : l.length ≤ 9223372036854775807 := by
  have h : (decide (l.length ≤ maxLen) && l.all fun j => (Lit.int .i64 j.1).wf && true) = true := h
  have hm : maxLen = 9223372036854775807 := by decide
  rw [hm] at h
  simp only [Bool.and_eq_true, decide_eq_true_eq] at h
  exact h.1
theorem bigCoord_of {a0 a1 a2 : Int} {a3 : List JobD} {a4 : List (Int × Bool)} {a5 : Int} (h : bigT (.pair (.int .i64) (.pair (.int .i64) (.pair (.int .i64) (.pair (.sl (.pair (.int .i64) (.pair (.sl (.pair (.int .i64) (.pair .str .str))) (.pair (.int .i64) (.sl (.int .i64)))))) (.pair (.sl (.pair (.int .i64) .bool)) (.int .i64)))))) (a0, (a1, (a2, (a3, (a4, a5))))) = true) : bigJobs a3 ∧ a4.length ≤ 9223372036854775807 := by
  have h : ((Lit.int .i64 a0).wf && ((Lit.int .i64 a1).wf && ((Lit.int .i64 a2).wf && (bigT (.sl (.pair (.int .i64) (.pair (.sl (.pair (.int .i64) (.pair .str .str))) (.pair (.int .i64) (.sl (.int .i64)))))) a3 && (bigT (.sl (.pair (.int .i64) .bool)) a4 && (Lit.int .i64 a5).wf))))) = true := h
  simp only [Bool.and_eq_true] at h
  exact ⟨bigJobs_of h.2.2.2.1, bigLog_of h.2.2.2.2.1⟩
theorem bigOpS_of {l : List (Int × ByteArray × ByteArray)} (h : bigT (.sl (.pair (.int .i64) (.pair .str .str))) l = true) : bigOpS l := bigOps_of h
theorem bigRecS_of {l : List RecD} (h : bigT (.sl (.pair (.int .i64) (.pair (.int .i64) (.sl (.pair (.int .i64) (.pair .str .str)))))) l = true) : bigRecS l := by
  have h : (decide (l.length ≤ maxLen) && l.all fun x => ((Lit.int .i64 x.1).wf && ((Lit.int .i64 x.2.1).wf && bigT (.sl (.pair (.int .i64) (.pair .str .str))) x.2.2))) = true := h
  have hm : maxLen = 9223372036854775807 := by decide
  rw [hm] at h
  simp only [Bool.and_eq_true, decide_eq_true_eq, List.all_eq_true] at h
  exact ⟨h.1, fun x hx => bigOpS_of (h.2 x hx).2.2⟩
theorem bigPairS_of {l : List PairD} (h : bigT (.sl (.pair .str .str)) l = true) : bigPairS l := by
  have h : (decide (l.length ≤ maxLen) && l.all fun o => (decide (o.1.size ≤ maxLen) && decide (o.2.size ≤ maxLen))) = true := h
  have hm : maxLen = 9223372036854775807 := by decide
  rw [hm] at h
  simp only [Bool.and_eq_true, decide_eq_true_eq, List.all_eq_true] at h
  simp only [bigPairS, bigS, decide_eq_true_eq]
  exact ⟨h.1, fun o ho => h.2 o ho⟩
theorem bigShardS_of {l : List ShardD} (h : bigT (.sl (.pair (.int .i64) (.pair (.sl (.pair (.int .i64) (.pair (.int .i64) (.sl (.pair (.int .i64) (.pair .str .str)))))) (.pair (.int .i64) (.pair (.sl (.pair .str .str)) (.sl (.pair (.int .i64) (.pair (.int .i64) (.sl (.pair (.int .i64) (.pair .str .str))))))))))) l = true) : bigShardS l := by
  have h : (decide (l.length ≤ maxLen) && l.all fun x => ((Lit.int .i64 x.1).wf && (bigT (.sl (.pair (.int .i64) (.pair (.int .i64) (.sl (.pair (.int .i64) (.pair .str .str)))))) x.2.1 && ((Lit.int .i64 x.2.2.1).wf && (bigT (.sl (.pair .str .str)) x.2.2.2.1 && bigT (.sl (.pair (.int .i64) (.pair (.int .i64) (.sl (.pair (.int .i64) (.pair .str .str)))))) x.2.2.2.2))))) = true := h
  have hm : maxLen = 9223372036854775807 := by decide
  rw [hm] at h
  simp only [Bool.and_eq_true, decide_eq_true_eq, List.all_eq_true] at h
  exact ⟨h.1, fun x hx => ⟨bigRecS_of (h.2 x hx).2.1, bigPairS_of (h.2 x hx).2.2.2.1, bigRecS_of (h.2 x hx).2.2.2.2⟩⟩
theorem bigWordS_of {l : List WordD} (h : bigT (.sl (.pair (.int .i64) (.pair (.int .i64) (.pair (.int .i64) (.pair (.sl (.pair (.int .i64) (.pair .str .str))) (.bool)))))) l = true) : bigWordS l := by
  have h : (decide (l.length ≤ maxLen) && l.all fun x => ((Lit.int .i64 x.1).wf && ((Lit.int .i64 x.2.1).wf && ((Lit.int .i64 x.2.2.1).wf && (bigT (.sl (.pair (.int .i64) (.pair .str .str))) x.2.2.2.1 && true))))) = true := h
  have hm : maxLen = 9223372036854775807 := by decide
  rw [hm] at h
  simp only [Bool.and_eq_true, decide_eq_true_eq, List.all_eq_true] at h
  exact ⟨h.1, fun x hx => bigOpS_of (h.2 x hx).2.2.2.1⟩
theorem bigOrderS_of {l : List OrderD} (h : bigT (.sl (.pair (.int .i64) (.sl (.pair (.int .i64) (.pair .str .str))))) l = true) : bigOrderS l := by
  have h : (decide (l.length ≤ maxLen) && l.all fun x => ((Lit.int .i64 x.1).wf && bigT (.sl (.pair (.int .i64) (.pair .str .str))) x.2)) = true := h
  have hm : maxLen = 9223372036854775807 := by decide
  rw [hm] at h
  simp only [Bool.and_eq_true, decide_eq_true_eq, List.all_eq_true] at h
  exact ⟨h.1, fun x hx => bigOpS_of (h.2 x hx).2⟩
theorem bigWorld_of {a0 a1 a2 : Int} {a3 : List JobD} {a4 : List (Int × Bool)} {a5 : Int} {a6 : List ShardD} {a7 a8 : List WordD} {a9 : List OrderD} (h : bigT (.pair (.pair (.int .i64) (.pair (.int .i64) (.pair (.int .i64) (.pair (.sl (.pair (.int .i64) (.pair (.sl (.pair (.int .i64) (.pair .str .str))) (.pair (.int .i64) (.sl (.int .i64)))))) (.pair (.sl (.pair (.int .i64) .bool)) (.int .i64)))))) (.pair (.sl (.pair (.int .i64) (.pair (.sl (.pair (.int .i64) (.pair (.int .i64) (.sl (.pair (.int .i64) (.pair .str .str)))))) (.pair (.int .i64) (.pair (.sl (.pair .str .str)) (.sl (.pair (.int .i64) (.pair (.int .i64) (.sl (.pair (.int .i64) (.pair .str .str))))))))))) (.pair (.sl (.pair (.int .i64) (.pair (.int .i64) (.pair (.int .i64) (.pair (.sl (.pair (.int .i64) (.pair .str .str))) .bool))))) (.pair (.sl (.pair (.int .i64) (.pair (.int .i64) (.pair (.int .i64) (.pair (.sl (.pair (.int .i64) (.pair .str .str))) .bool))))) (.sl (.pair (.int .i64) (.sl (.pair (.int .i64) (.pair .str .str))))))))) ((a0, (a1, (a2, (a3, (a4, a5))))), (a6, (a7, (a8, a9)))) = true) : bigWorld a3 a4 a6 a7 a8 a9 := by
  have h : (bigT (.pair (.int .i64) (.pair (.int .i64) (.pair (.int .i64) (.pair (.sl (.pair (.int .i64) (.pair (.sl (.pair (.int .i64) (.pair .str .str))) (.pair (.int .i64) (.sl (.int .i64)))))) (.pair (.sl (.pair (.int .i64) .bool)) (.int .i64)))))) (a0, (a1, (a2, (a3, (a4, a5))))) && (bigT (.sl (.pair (.int .i64) (.pair (.sl (.pair (.int .i64) (.pair (.int .i64) (.sl (.pair (.int .i64) (.pair .str .str)))))) (.pair (.int .i64) (.pair (.sl (.pair .str .str)) (.sl (.pair (.int .i64) (.pair (.int .i64) (.sl (.pair (.int .i64) (.pair .str .str))))))))))) a6 && (bigT (.sl (.pair (.int .i64) (.pair (.int .i64) (.pair (.int .i64) (.pair (.sl (.pair (.int .i64) (.pair .str .str))) .bool))))) a7 && (bigT (.sl (.pair (.int .i64) (.pair (.int .i64) (.pair (.int .i64) (.pair (.sl (.pair (.int .i64) (.pair .str .str))) .bool))))) a8 && bigT (.sl (.pair (.int .i64) (.sl (.pair (.int .i64) (.pair .str .str))))) a9)))) = true := h
  simp only [Bool.and_eq_true] at h
  obtain ⟨c1, c2⟩ := bigCoord_of h.1
  exact ⟨c1, c2, bigShardS_of h.2.1, bigWordS_of h.2.2.1, bigWordS_of h.2.2.2.1, bigOrderS_of h.2.2.2.2⟩
theorem backed_all (a0 a1 a2 : Int) {a3 : List JobD} {a4 : List (Int × Bool)} (a5 : Int) {a6 : List ShardD} {a7 a8 : List WordD} {a9 : List OrderD} (hb : bigWorld a3 a4 a6 a7 a8 a9) : q_lFnExactBacked a0 a1 a2 a3 a4 a5 a6 a7 a8 a9 = true ∧ lFnExactBacked a0 a1 a2 a3 a4 a5 a6 a7 a8 a9 = true := by
  obtain ⟨z1, z2⟩ := szWorld_spec hb a0 a1 a2 a5
  by_cases hd : lszWorld a0 a1 a2 a3 a4 a5 a6 a7 a8 a9 1048576 < 0
  · simp only [q_lFnExactBacked, lFnExactBacked, z1, decide_eq_true hd, cond_true]
    exact ⟨rfl, trivial⟩
  · have hk := z2 (by omega)
    obtain ⟨e1, e2, e3, e4⟩ := eqWorld_same hk a0 a1 a2 a5
    obtain ⟨c1, c2, c3⟩ := backed_same a0 a1 a2 a5 hk
    have e5 : ∀ x : Bool, (x == x) = true := fun x => by simp
    simp only [q_lFnExactBacked, lFnExactBacked, k1_lFnExactBacked, k2_lFnExactBacked, k3_lFnExactBacked, z1, decide_eq_false hd, e3, e4, c1, c2, c3, e1, e2, e5, cond_false, Bool.not_true, Bool.and_self]
    exact ⟨trivial, trivial⟩
theorem pre_of_lFnExactBacked (a0 a1 a2 : Int) (a3 : List JobD) (a4 : List (Int × Bool)) (a5 : Int) (a6 : List ShardD) (a7 a8 : List WordD) (a9 : List OrderD) (h : bigT (.pair (.pair (.int .i64) (.pair (.int .i64) (.pair (.int .i64) (.pair (.sl (.pair (.int .i64) (.pair (.sl (.pair (.int .i64) (.pair .str .str))) (.pair (.int .i64) (.sl (.int .i64)))))) (.pair (.sl (.pair (.int .i64) .bool)) (.int .i64)))))) (.pair (.sl (.pair (.int .i64) (.pair (.sl (.pair (.int .i64) (.pair (.int .i64) (.sl (.pair (.int .i64) (.pair .str .str)))))) (.pair (.int .i64) (.pair (.sl (.pair .str .str)) (.sl (.pair (.int .i64) (.pair (.int .i64) (.sl (.pair (.int .i64) (.pair .str .str))))))))))) (.pair (.sl (.pair (.int .i64) (.pair (.int .i64) (.pair (.int .i64) (.pair (.sl (.pair (.int .i64) (.pair .str .str))) .bool))))) (.pair (.sl (.pair (.int .i64) (.pair (.int .i64) (.pair (.int .i64) (.pair (.sl (.pair (.int .i64) (.pair .str .str))) .bool))))) (.sl (.pair (.int .i64) (.sl (.pair (.int .i64) (.pair .str .str))))))))) ((a0, (a1, (a2, (a3, (a4, a5))))), (a6, (a7, (a8, a9)))) = true) : pre_lFnExactBacked ((a0, a1, a2, a3, a4, a5, a6, a7, a8, a9, ()), ()) = true := (backed_all a0 a1 a2 a5 (bigWorld_of h)).1
theorem exact_lFnExactBacked (a0 a1 a2 : Int) (a3 : List JobD) (a4 : List (Int × Bool)) (a5 : Int) (a6 : List ShardD) (a7 a8 : List WordD) (a9 : List OrderD) (h : bigT (.pair (.pair (.int .i64) (.pair (.int .i64) (.pair (.int .i64) (.pair (.sl (.pair (.int .i64) (.pair (.sl (.pair (.int .i64) (.pair .str .str))) (.pair (.int .i64) (.sl (.int .i64)))))) (.pair (.sl (.pair (.int .i64) .bool)) (.int .i64)))))) (.pair (.sl (.pair (.int .i64) (.pair (.sl (.pair (.int .i64) (.pair (.int .i64) (.sl (.pair (.int .i64) (.pair .str .str)))))) (.pair (.int .i64) (.pair (.sl (.pair .str .str)) (.sl (.pair (.int .i64) (.pair (.int .i64) (.sl (.pair (.int .i64) (.pair .str .str))))))))))) (.pair (.sl (.pair (.int .i64) (.pair (.int .i64) (.pair (.int .i64) (.pair (.sl (.pair (.int .i64) (.pair .str .str))) .bool))))) (.pair (.sl (.pair (.int .i64) (.pair (.int .i64) (.pair (.int .i64) (.pair (.sl (.pair (.int .i64) (.pair .str .str))) .bool))))) (.sl (.pair (.int .i64) (.sl (.pair (.int .i64) (.pair .str .str))))))))) ((a0, (a1, (a2, (a3, (a4, a5))))), (a6, (a7, (a8, a9)))) = true) : lFnExactBacked a0 a1 a2 a3 a4 a5 a6 a7 a8 a9 = true := (backed_all a0 a1 a2 a5 (bigWorld_of h)).2

end Go.Proofs.Ytcofibhklbfgoaa.Eng

/- What the functions that FnOps reaches compute: further. -/
import Derived.Test.YtoddiofedjnapaaFOpsA
namespace Go.Proofs.Ytoddiofedjnapaa.Eng
open Go Go.RowKit
set_option linter.unusedSimpArgs false
set_option linter.unusedVariables false
set_option maxRecDepth 10000
/-! 155 loop.example/g00244/impl.GetNum -/
noncomputable abbrev P_iGetNum : List PSh := [.t (.sl (.int .u8)), .t (.int .i64)]
noncomputable abbrev S_iGetNum_0 : SS := ⟨[.t false (.sl (.int .u8)), .t true (.int .i64), .junk, .junk, .junk, .junk, .junk, .t true (.int .i64), .t true (.int .i64), .junk, .junk, .junk, .junk, .junk, .junk, .junk, .junk, .junk, .junk, .junk, .junk, .junk, .junk, .junk, .junk, .junk, .junk, .junk, .junk, .junk, .junk, .junk, .junk, .junk, .junk, .junk, .junk, .junk, .junk, .junk, .junk, .junk, .junk, .junk, .junk, .junk, .junk, .junk, .junk, .junk, .junk, .junk, .junk, .junk, .junk], []⟩
noncomputable abbrev E_iGetNum_0_0 : SS := ⟨[.junk, .junk, .junk, .junk, .t true (.int .i64), .t true (.int .i64), .t true .bool, .junk, .junk, .junk, .junk, .junk, .junk, .junk, .junk, .junk, .junk, .junk, .junk, .junk, .junk, .junk, .junk, .junk, .junk, .junk, .junk, .junk, .junk, .junk, .junk, .junk, .junk, .junk, .junk, .junk, .junk, .junk, .junk, .junk, .junk, .junk, .junk, .junk, .junk, .junk, .junk, .junk, .junk, .junk, .junk, .junk, .junk, .junk, .junk], []⟩
noncomputable abbrev E_iGetNum_0_1 : SS := ⟨[.junk, .junk, .junk, .junk, .junk, .junk, .junk, .junk, .junk, .junk, .junk, .junk, .junk, .junk, .junk, .junk, .junk, .junk, .junk, .junk, .junk, .junk, .junk, .junk, .junk, .junk, .junk, .junk, .junk, .junk, .junk, .junk, .junk, .junk, .junk, .junk, .junk, .junk, .junk, .junk, .junk, .junk, .junk, .junk, .junk, .junk, .junk, .junk, .junk, .junk, .junk, .junk, .junk, .junk, .junk], []⟩
noncomputable def st_iGetNum_0 (x0 : List Int) (x1 : Int) (x7 : Int) (x8 : Int) : RT S_iGetNum_0.den := (.br (decide (x8 < (5 : Int))) (.br (decide (x1 < ((x0.length : Nat) : Int))) (.br (decide (0 ≤ x1 ∧ x1 < ((x0.length : Nat) : Int))) (.br (decide (0 ≤ (IntKind.wrap .u64 (IntKind.wrap .i64 ((7 : Int) * x8))))) (.br (decide ((IntKind.wrap .i64 (x0.getD x1.toNat (0 : Int))) < (128 : Int))) (.br ((IntKind.wrap .i64 (x0.getD x1.toNat (0 : Int))) == (0 : Int)) (.br (decide (x8 > (0 : Int))) (.done .ret E_iGetNum_0_0 (((), (), (), (), (0 : Int), (0 : Int), false, (), (), (), (), (), (), (), (), (), (), (), (), (), (), (), (), (), (), (), (), (), (), (), (), (), (), (), (), (), (), (), (), (), (), (), (), (), (), (), (), (), (), (), (), (), (), (), (), ()), ())) (.br (decide ((ior .i64 x7 (IntKind.wrap .i64 ((iand .i64 (IntKind.wrap .i64 (x0.getD x1.toNat (0 : Int))) (127 : Int)) * 2 ^ (min (Int.toNat (IntKind.wrap .u64 (IntKind.wrap .i64 ((7 : Int) * x8)))) (IntKind.bits .i64))))) > (1000000000 : Int))) (.done .ret E_iGetNum_0_0 (((), (), (), (), (0 : Int), (0 : Int), false, (), (), (), (), (), (), (), (), (), (), (), (), (), (), (), (), (), (), (), (), (), (), (), (), (), (), (), (), (), (), (), (), (), (), (), (), (), (), (), (), (), (), (), (), (), (), (), (), ()), ())) (.done .ret E_iGetNum_0_0 (((), (), (), (), ior .i64 x7 (IntKind.wrap .i64 ((iand .i64 (IntKind.wrap .i64 (x0.getD x1.toNat (0 : Int))) (127 : Int)) * 2 ^ (min (Int.toNat (IntKind.wrap .u64 (IntKind.wrap .i64 ((7 : Int) * x8)))) (IntKind.bits .i64)))), IntKind.wrap .i64 (x1 + (1 : Int)), true, (), (), (), (), (), (), (), (), (), (), (), (), (), (), (), (), (), (), (), (), (), (), (), (), (), (), (), (), (), (), (), (), (), (), (), (), (), (), (), (), (), (), (), (), (), (), (), (), ()), ())))) (.br (decide ((ior .i64 x7 (IntKind.wrap .i64 ((iand .i64 (IntKind.wrap .i64 (x0.getD x1.toNat (0 : Int))) (127 : Int)) * 2 ^ (min (Int.toNat (IntKind.wrap .u64 (IntKind.wrap .i64 ((7 : Int) * x8)))) (IntKind.bits .i64))))) > (1000000000 : Int))) (.done .ret E_iGetNum_0_0 (((), (), (), (), (0 : Int), (0 : Int), false, (), (), (), (), (), (), (), (), (), (), (), (), (), (), (), (), (), (), (), (), (), (), (), (), (), (), (), (), (), (), (), (), (), (), (), (), (), (), (), (), (), (), (), (), (), (), (), (), ()), ())) (.done .ret E_iGetNum_0_0 (((), (), (), (), ior .i64 x7 (IntKind.wrap .i64 ((iand .i64 (IntKind.wrap .i64 (x0.getD x1.toNat (0 : Int))) (127 : Int)) * 2 ^ (min (Int.toNat (IntKind.wrap .u64 (IntKind.wrap .i64 ((7 : Int) * x8)))) (IntKind.bits .i64)))), IntKind.wrap .i64 (x1 + (1 : Int)), true, (), (), (), (), (), (), (), (), (), (), (), (), (), (), (), (), (), (), (), (), (), (), (), (), (), (), (), (), (), (), (), (), (), (), (), (), (), (), (), (), (), (), (), (), (), (), (), (), ()), ())))) (.next ((x0, IntKind.wrap .i64 (x1 + (1 : Int)), (), (), (), (), (), ior .i64 x7 (IntKind.wrap .i64 ((iand .i64 (IntKind.wrap .i64 (x0.getD x1.toNat (0 : Int))) (127 : Int)) * 2 ^ (min (Int.toNat (IntKind.wrap .u64 (IntKind.wrap .i64 ((7 : Int) * x8)))) (IntKind.bits .i64)))), IntKind.wrap .i64 (x8 + (1 : Int)), (), (), (), (), (), (), (), (), (), (), (), (), (), (), (), (), (), (), (), (), (), (), (), (), (), (), (), (), (), (), (), (), (), (), (), (), (), (), (), (), (), (), (), (), (), (), ()), ()))) .fail) .fail) (.done (.exit 0) E_iGetNum_0_1 (((), (), (), (), (), (), (), (), (), (), (), (), (), (), (), (), (), (), (), (), (), (), (), (), (), (), (), (), (), (), (), (), (), (), (), (), (), (), (), (), (), (), (), (), (), (), (), (), (), (), (), (), (), (), (), ()), ()))) (.done (.exit 0) E_iGetNum_0_1 (((), (), (), (), (), (), (), (), (), (), (), (), (), (), (), (), (), (), (), (), (), (), (), (), (), (), (), (), (), (), (), (), (), (), (), (), (), (), (), (), (), (), (), (), (), (), (), (), (), (), (), (), (), (), (), ()), ())))
noncomputable abbrev V_iGetNum_0 := (List Int) × (Int) × (Int) × (Int)
noncomputable abbrev A_iGetNum_0 := Nat × (Int) × (Int) × (Bool)
noncomputable def fl_iGetNum_0 : A_iGetNum_0 := (99, ((0 : Int) : Int), ((0 : Int) : Int), (false : Bool))
noncomputable def ss_iGetNum_0 (x0 : List Int) (x1 : Int) (x7 : Int) (x8 : Int) : V_iGetNum_0 ⊕ A_iGetNum_0 := (cond (decide (x8 < (5 : Int))) (cond (decide (x1 < ((x0.length : Nat) : Int))) (cond (decide (0 ≤ x1 ∧ x1 < ((x0.length : Nat) : Int))) (cond (decide (0 ≤ (IntKind.wrap .u64 (IntKind.wrap .i64 ((7 : Int) * x8))))) (cond (decide ((IntKind.wrap .i64 (x0.getD x1.toNat (0 : Int))) < (128 : Int))) (cond ((IntKind.wrap .i64 (x0.getD x1.toNat (0 : Int))) == (0 : Int)) (cond (decide (x8 > (0 : Int))) (.inr (0, (0 : Int), (0 : Int), false)) (cond (decide ((ior .i64 x7 (IntKind.wrap .i64 ((iand .i64 (IntKind.wrap .i64 (x0.getD x1.toNat (0 : Int))) (127 : Int)) * 2 ^ (min (Int.toNat (IntKind.wrap .u64 (IntKind.wrap .i64 ((7 : Int) * x8)))) (IntKind.bits .i64))))) > (1000000000 : Int))) (.inr (0, (0 : Int), (0 : Int), false)) (.inr (0, ior .i64 x7 (IntKind.wrap .i64 ((iand .i64 (IntKind.wrap .i64 (x0.getD x1.toNat (0 : Int))) (127 : Int)) * 2 ^ (min (Int.toNat (IntKind.wrap .u64 (IntKind.wrap .i64 ((7 : Int) * x8)))) (IntKind.bits .i64)))), IntKind.wrap .i64 (x1 + (1 : Int)), true)))) (cond (decide ((ior .i64 x7 (IntKind.wrap .i64 ((iand .i64 (IntKind.wrap .i64 (x0.getD x1.toNat (0 : Int))) (127 : Int)) * 2 ^ (min (Int.toNat (IntKind.wrap .u64 (IntKind.wrap .i64 ((7 : Int) * x8)))) (IntKind.bits .i64))))) > (1000000000 : Int))) (.inr (0, (0 : Int), (0 : Int), false)) (.inr (0, ior .i64 x7 (IntKind.wrap .i64 ((iand .i64 (IntKind.wrap .i64 (x0.getD x1.toNat (0 : Int))) (127 : Int)) * 2 ^ (min (Int.toNat (IntKind.wrap .u64 (IntKind.wrap .i64 ((7 : Int) * x8)))) (IntKind.bits .i64)))), IntKind.wrap .i64 (x1 + (1 : Int)), true)))) (.inl (x0, IntKind.wrap .i64 (x1 + (1 : Int)), ior .i64 x7 (IntKind.wrap .i64 ((iand .i64 (IntKind.wrap .i64 (x0.getD x1.toNat (0 : Int))) (127 : Int)) * 2 ^ (min (Int.toNat (IntKind.wrap .u64 (IntKind.wrap .i64 ((7 : Int) * x8)))) (IntKind.bits .i64)))), IntKind.wrap .i64 (x8 + (1 : Int))))) (.inr fl_iGetNum_0)) (.inr fl_iGetNum_0)) (.inr (1, ((0 : Int) : Int), ((0 : Int) : Int), (false : Bool)))) (.inr (1, ((0 : Int) : Int), ((0 : Int) : Int), (false : Bool))))
noncomputable def it_iGetNum_0 (x0 : List Int) (x1 : Int) (x7 : Int) (x8 : Int) : A_iGetNum_0 := itX (fun v : V_iGetNum_0 => ss_iGetNum_0 v.1 v.2.1 v.2.2.1 v.2.2.2) fl_iGetNum_0 (x0, x1, x7, x8)
noncomputable def ct_iGetNum_0 (a : A_iGetNum_0) : CT := (.br (a.1 == 0) (.done .ret E_iGetNum_0_0 (((), (), (), (), a.2.1, a.2.2.1, a.2.2.2, (), (), (), (), (), (), (), (), (), (), (), (), (), (), (), (), (), (), (), (), (), (), (), (), (), (), (), (), (), (), (), (), (), (), (), (), (), (), (), (), (), (), (), (), (), (), (), (), ()), ())) (.br (a.1 == 1) (.done (.exit 0) E_iGetNum_0_1 (((), (), (), (), (), (), (), (), (), (), (), (), (), (), (), (), (), (), (), (), (), (), (), (), (), (), (), (), (), (), (), (), (), (), (), (), (), (), (), (), (), (), (), (), (), (), (), (), (), (), (), (), (), (), (), ()), ())) .fail))
noncomputable def T_iGetNum_0 (x0 : List Int) (x1 : Int) (x7 : Int) (x8 : Int) : CT := ct_iGetNum_0 (it_iGetNum_0 x0 x1 x7 x8)
noncomputable abbrev sp_iGetNum_0 : S_iGetNum_0.den → RT S_iGetNum_0.den := fun d => st_iGetNum_0 d.1.1 d.1.2.1 d.1.2.2.2.2.2.2.2.1 d.1.2.2.2.2.2.2.2.2.1
noncomputable abbrev pk_iGetNum_0 (x0 : List Int) (x1 : Int) (x7 : Int) (x8 : Int) : S_iGetNum_0.den := ((x0, x1, (), (), (), (), (), x7, x8, (), (), (), (), (), (), (), (), (), (), (), (), (), (), (), (), (), (), (), (), (), (), (), (), (), (), (), (), (), (), (), (), (), (), (), (), (), (), (), (), (), (), (), (), (), (), ()), ())
noncomputable def body_iGetNum_0 : Code := ((loopsIn 0 (bodyOf Try.f155)).getD 0 (0, .skip)).2
theorem R_iGetNum_0 (x0 : List Int) (x1 : Int) (x7 : Int) (x8 : Int) : (T_iGetNum_0 x0 x1 x7 x8).val (D := S_iGetNum_0.den) = .fail ∨ Runs sp_iGetNum_0 (pk_iGetNum_0 x0 x1 x7 x8) (T_iGetNum_0 x0 x1 x7 x8).val := Runs.ofIt (step := sp_iGetNum_0) (fun v : V_iGetNum_0 => pk_iGetNum_0 v.1 v.2.1 v.2.2.1 v.2.2.2) (ct := ct_iGetNum_0) rfl (fun v => ((relB (relB (relB (relB (relB (relB (relB rfl (relB rfl rfl)) (relB rfl rfl)) rfl) rfl) rfl) rfl) rfl) : (st_iGetNum_0 v.1 v.2.1 v.2.2.1 v.2.2.2).val = relS (fun v : V_iGetNum_0 => pk_iGetNum_0 v.1 v.2.1 v.2.2.1 v.2.2.2) ct_iGetNum_0 (ss_iGetNum_0 v.1 v.2.1 v.2.2.1 v.2.2.2))) (fun a => ((cendB (cendD (by simp)) (cendB (cendD (by simp)) cendF)) : CEnd _ (ct_iGetNum_0 a))) (x0, x1, x7, x8)
theorem rd_iGetNum_0 : ∀ d, execC Try.prog tt S34 QF34 (fun _ _ => none) 0 body_iGetNum_0 (S_iGetNum_0.st d 0 []) (fun e s' => some (e, S_iGetNum_0.cutE (kepts [4, 5, 6] [(0, [])]) e s')) = (sp_iGetNum_0 d).opt 0 [] := by
  intro d
  kernel_rfl
noncomputable abbrev say_iGetNum_0 : St → Option Tree := S_iGetNum_0.say 0 [] [] (fun d => T_iGetNum_0 d.1.1 d.1.2.1 d.1.2.2.2.2.2.2.2.1 d.1.2.2.2.2.2.2.2.2.1)
theorem lw_iGetNum_0 : LoopWp Try.prog say_iGetNum_0 body_iGetNum_0 := SS.wp G34 (fun _ _ => none) (by rw [show loopsIn 0 body_iGetNum_0 = [] by kernel_rfl]; simp) S_iGetNum_0 0 [] (kepts [4, 5, 6] [(0, [])]) [] sp_iGetNum_0 rd_iGetNum_0 _ (fun d => R_iGetNum_0 d.1.1 d.1.2.1 d.1.2.2.2.2.2.2.2.1 d.1.2.2.2.2.2.2.2.2.1)
noncomputable def iGetNum (a0 : List Int) (a1 : Int) : Int × Int × Bool := (cond (!(iinRange a1 (0 : Int) (IntKind.wrap .i64 (((a0.length : Nat) : Int) - (1 : Int))))) ((0 : Int), (0 : Int), false) (cond ((it_iGetNum_0 a0 a1 (0 : Int) (0 : Int)).1 == 0) (((it_iGetNum_0 a0 a1 (0 : Int) (0 : Int)).2.1), ((it_iGetNum_0 a0 a1 (0 : Int) (0 : Int)).2.2.1), ((it_iGetNum_0 a0 a1 (0 : Int) (0 : Int)).2.2.2)) ((0 : Int), (0 : Int), false)))
noncomputable abbrev e_iGetNum (r : Int × Int × Bool) : AV × List AObj := ((.tup [(.t true (.int .i64) r.1), (.t true (.int .i64) r.2.1), (.t true .bool r.2.2)]), [])
noncomputable abbrev g_iGetNum : pshsDen P_iGetNum → AV × List AObj := fun d => e_iGetNum (iGetNum d.1 d.2.1)
noncomputable def q_iGetNum (a0 : List Int) (a1 : Int) : Bool := cond (!(iinRange a1 (0 : Int) (IntKind.wrap .i64 (((a0.length : Nat) : Int) - (1 : Int))))) true (cond ((it_iGetNum_0 a0 a1 (0 : Int) (0 : Int)).1 == 0) true ((it_iGetNum_0 a0 a1 (0 : Int) (0 : Int)).1 == 1))
noncomputable abbrev pre_iGetNum : pshsDen P_iGetNum → Bool := fun d => q_iGetNum d.1 d.2.1
theorem runA_iGetNum (a0 : List Int) (a1 : Int) (hp : (cond (!(iinRange a1 (0 : Int) (IntKind.wrap .i64 (((a0.length : Nat) : Int) - (1 : Int))))) true (cond ((it_iGetNum_0 a0 a1 (0 : Int) (0 : Int)).1 == 0) true ((it_iGetNum_0 a0 a1 (0 : Int) (0 : Int)).1 == 1))) = true) : runP true Try.prog tt S34 QF34 (fun b => match b with | 0 => say_iGetNum_0 | _ => fun _ => none) Try.f155 (argsMk P_iGetNum (a0, (a1, ()))) = some (g_iGetNum (a0, (a1, ()))) := by
  refine Eq.trans (b := (cond (!(iinRange a1 (0 : Int) (IntKind.wrap .i64 (((a0.length : Nat) : Int) - (1 : Int))))) (some (e_iGetNum ((0 : Int), (0 : Int), false))) (cond ((it_iGetNum_0 a0 a1 (0 : Int) (0 : Int)).1 == 0) (some (e_iGetNum (((it_iGetNum_0 a0 a1 (0 : Int) (0 : Int)).2.1), ((it_iGetNum_0 a0 a1 (0 : Int) (0 : Int)).2.2.1), ((it_iGetNum_0 a0 a1 (0 : Int) (0 : Int)).2.2.2)))) (cond ((it_iGetNum_0 a0 a1 (0 : Int) (0 : Int)).1 == 1) (some (e_iGetNum ((0 : Int), (0 : Int), false))) none)))) (by kernel_rfl) ?_
  exact (cndQ (F := fun r => some (e_iGetNum r)) hp (fun hp => rfl) (fun hp => (cndQ (F := fun r => some (e_iGetNum r)) hp (fun hp => rfl) (fun hp => (cndT hp (fun _h => rfl))))))
theorem run_iGetNum : ∀ d, pre_iGetNum d = true → runP true Try.prog tt S34 QF34 (fun b => match b with | 0 => say_iGetNum_0 | _ => fun _ => none) Try.f155 (argsMk P_iGetNum d) = some (g_iGetNum d) := fun d hp => runA_iGetNum d.1 d.2.1 hp
theorem c_iGetNum : PContract Try.prog 155 (sumOf P_iGetNum pre_iGetNum g_iGetNum) := PContract.of_data true G34 (fn := Try.f155) (by kernel_rfl) (L := fun b => match b with | 0 => say_iGetNum_0 | _ => fun _ => none) (by rw [show loopsIn 0 (bodyOf Try.f155) = [(0, body_iGetNum_0)] by kernel_rfl]; intro p hp; simp only [List.mem_singleton] at hp; subst hp; exact lw_iGetNum_0) P_iGetNum pre_iGetNum g_iGetNum run_iGetNum
noncomputable def S35 : Tab := Tab.add S34 155 (lift (sumOf P_iGetNum pre_iGetNum g_iGetNum))
noncomputable def QF35 : FuncId → Bool := qadd QF34 155
theorem G35 : Good Try.prog tt S35 QF35 := G34.addQ c_iGetNum ⟨Try.f155, by kernel_rfl, by kernel_rfl, by kernel_rfl⟩ (fun _ => rfl)

/-! 127 (*loop.example/g00244/impl.getter).num -/
noncomputable abbrev SM_igetter_num : SS := ⟨[.ptr 0 0 1 0], [.box [.t false (.sl (.int .u8)), .t true (.int .i64), .t true .bool]]⟩
noncomputable def igetter_num (h0_0 : List Int) (h0_1 : Int) (h0_2 : Bool) : Int × (List Int) × Int × Bool := (cond h0_2 ((0 : Int), h0_0, h0_1, true) (cond (!((iGetNum h0_0 h0_1).2.2)) ((0 : Int), h0_0, h0_1, true) (((iGetNum h0_0 h0_1).1), h0_0, ((iGetNum h0_0 h0_1).2.1), h0_2)))
noncomputable abbrev e_igetter_num (r : Int × (List Int) × Int × Bool) : AV × List AObj × List Nat := ((.t true (.int .i64) r.1), [(.box [(.t false (.sl (.int .u8)) r.2.1), (.t true (.int .i64) r.2.2.1), (.t true .bool r.2.2.2)])], [])
noncomputable abbrev g_igetter_num : SM_igetter_num.den → AV × List AObj × List Nat := fun d => e_igetter_num (igetter_num d.2.1.1 d.2.1.2.1 d.2.1.2.2.1)
noncomputable def q_igetter_num (h0_0 : List Int) (h0_1 : Int) (h0_2 : Bool) : Bool := q_iGetNum h0_0 h0_1
noncomputable abbrev pre_igetter_num : SM_igetter_num.den → Bool := fun d => q_igetter_num d.2.1.1 d.2.1.2.1 d.2.1.2.2.1
theorem runA_igetter_num (h0_0 : List Int) (h0_1 : Int) (h0_2 : Bool) (hp : (q_iGetNum h0_0 h0_1) = true) : runM Try.prog tt S35 QF35 (fun _ _ => none) Try.f127 (shsMk SM_igetter_num.sl ((((), ()), ((h0_0, h0_1, h0_2, ()), ())) : SM_igetter_num.den).1) (ohsMk SM_igetter_num.hp ((((), ()), ((h0_0, h0_1, h0_2, ()), ())) : SM_igetter_num.den).2) = some (g_igetter_num (((), ()), ((h0_0, h0_1, h0_2, ()), ()))) := by
  refine Eq.trans (b := (cond (q_iGetNum h0_0 h0_1) (cond h0_2 (some (e_igetter_num ((0 : Int), h0_0, h0_1, true))) (cond (!((iGetNum h0_0 h0_1).2.2)) (some (e_igetter_num ((0 : Int), h0_0, h0_1, true))) (some (e_igetter_num (((iGetNum h0_0 h0_1).1), h0_0, ((iGetNum h0_0 h0_1).2.1), h0_2))))) none)) (by kernel_rfl) ?_
  exact (cndT hp (fun _h => (cnd (F := fun r => some (e_igetter_num r)) (fun _h => rfl) (fun _h => (cnd (F := fun r => some (e_igetter_num r)) (fun _h => rfl) (fun _h => rfl))))))
theorem run_igetter_num : ∀ d : SM_igetter_num.den, pre_igetter_num d = true → runM Try.prog tt S35 QF35 (fun _ _ => none) Try.f127 (shsMk SM_igetter_num.sl (d : SM_igetter_num.den).1) (ohsMk SM_igetter_num.hp (d : SM_igetter_num.den).2) = some (g_igetter_num d) := fun d hp => runA_igetter_num d.2.1.1 d.2.1.2.1 d.2.1.2.2.1 hp
theorem c_igetter_num : MContract Try.prog 127 (win winIds (msum SM_igetter_num pre_igetter_num g_igetter_num)) := (MContract.of_data G35 (fn := Try.f127) (by kernel_rfl) (L := fun _ _ => none) (by rw [show loopsIn 0 (bodyOf Try.f127) = [] by kernel_rfl]; simp) SM_igetter_num pre_igetter_num g_igetter_num run_igetter_num).win winIds
noncomputable def S36 : Tab := Tab.add S35 127 (win winIds (msum SM_igetter_num pre_igetter_num g_igetter_num))
noncomputable def QF36 : FuncId → Bool := QF35
theorem G36 : Good Try.prog tt S36 QF36 := G35.addM c_igetter_num (win_local _) ⟨Try.f127, by kernel_rfl, by kernel_rfl, by kernel_rfl⟩ (by kernel_rfl)

/-! 163 loop.example/g00244/impl.GetText -/
noncomputable abbrev P_iGetText : List PSh := [.t (.sl (.int .u8)), .t (.int .i64)]
noncomputable def iGetText (a0 : List Int) (a1 : Int) : ByteArray × Int × Bool := (cond (!((iGetNum a0 a1).2.2)) ((⟨#[]⟩ : ByteArray), (0 : Int), false) (cond (decide (((iGetNum a0 a1).1) > (IntKind.wrap .i64 (((a0.length : Nat) : Int) - ((iGetNum a0 a1).2.1))))) ((⟨#[]⟩ : ByteArray), (0 : Int), false) ((⟨(((a0.take (IntKind.wrap .i64 (((iGetNum a0 a1).2.1) + ((iGetNum a0 a1).1))).toNat).drop ((iGetNum a0 a1).2.1).toNat).map fun n => UInt8.ofNat n.toNat).toArray⟩ : ByteArray), IntKind.wrap .i64 (((iGetNum a0 a1).2.1) + ((iGetNum a0 a1).1)), true)))
noncomputable abbrev e_iGetText (r : ByteArray × Int × Bool) : AV × List AObj := ((.tup [(.t true .str r.1), (.t true (.int .i64) r.2.1), (.t true .bool r.2.2)]), [])
noncomputable abbrev g_iGetText : pshsDen P_iGetText → AV × List AObj := fun d => e_iGetText (iGetText d.1 d.2.1)
noncomputable def q_iGetText (a0 : List Int) (a1 : Int) : Bool := (q_iGetNum a0 a1) && (cond (!((iGetNum a0 a1).2.2)) true (cond (decide (((iGetNum a0 a1).1) > (IntKind.wrap .i64 (((a0.length : Nat) : Int) - ((iGetNum a0 a1).2.1))))) true (decide (0 ≤ ((iGetNum a0 a1).2.1) ∧ ((iGetNum a0 a1).2.1) ≤ (IntKind.wrap .i64 (((iGetNum a0 a1).2.1) + ((iGetNum a0 a1).1))) ∧ (IntKind.wrap .i64 (((iGetNum a0 a1).2.1) + ((iGetNum a0 a1).1))) ≤ ((a0.length : Nat) : Int)))))
noncomputable abbrev pre_iGetText : pshsDen P_iGetText → Bool := fun d => q_iGetText d.1 d.2.1
theorem runA_iGetText (a0 : List Int) (a1 : Int) (hp : ((q_iGetNum a0 a1) && (cond (!((iGetNum a0 a1).2.2)) true (cond (decide (((iGetNum a0 a1).1) > (IntKind.wrap .i64 (((a0.length : Nat) : Int) - ((iGetNum a0 a1).2.1))))) true (decide (0 ≤ ((iGetNum a0 a1).2.1) ∧ ((iGetNum a0 a1).2.1) ≤ (IntKind.wrap .i64 (((iGetNum a0 a1).2.1) + ((iGetNum a0 a1).1))) ∧ (IntKind.wrap .i64 (((iGetNum a0 a1).2.1) + ((iGetNum a0 a1).1))) ≤ ((a0.length : Nat) : Int)))))) = true) : runP true Try.prog tt S36 QF36 (fun _ _ => none) Try.f163 (argsMk P_iGetText (a0, (a1, ()))) = some (g_iGetText (a0, (a1, ()))) := by
  refine Eq.trans (b := (cond (q_iGetNum a0 a1) (cond (!((iGetNum a0 a1).2.2)) (some (e_iGetText ((⟨#[]⟩ : ByteArray), (0 : Int), false))) (cond (decide (((iGetNum a0 a1).1) > (IntKind.wrap .i64 (((a0.length : Nat) : Int) - ((iGetNum a0 a1).2.1))))) (some (e_iGetText ((⟨#[]⟩ : ByteArray), (0 : Int), false))) (cond (decide (0 ≤ ((iGetNum a0 a1).2.1) ∧ ((iGetNum a0 a1).2.1) ≤ (IntKind.wrap .i64 (((iGetNum a0 a1).2.1) + ((iGetNum a0 a1).1))) ∧ (IntKind.wrap .i64 (((iGetNum a0 a1).2.1) + ((iGetNum a0 a1).1))) ≤ ((a0.length : Nat) : Int))) (some (e_iGetText ((⟨(((a0.take (IntKind.wrap .i64 (((iGetNum a0 a1).2.1) + ((iGetNum a0 a1).1))).toNat).drop ((iGetNum a0 a1).2.1).toNat).map fun n => UInt8.ofNat n.toNat).toArray⟩ : ByteArray), IntKind.wrap .i64 (((iGetNum a0 a1).2.1) + ((iGetNum a0 a1).1)), true))) none))) none)) (by kernel_rfl) ?_
  exact (cndT (andL hp) (fun _h => (fun hp => (cndQ (F := fun r => some (e_iGetText r)) hp (fun hp => rfl) (fun hp => (cndQ (F := fun r => some (e_iGetText r)) hp (fun hp => rfl) (fun hp => (cndT hp (fun _h => rfl))))))) (andR hp)))
theorem run_iGetText : ∀ d, pre_iGetText d = true → runP true Try.prog tt S36 QF36 (fun _ _ => none) Try.f163 (argsMk P_iGetText d) = some (g_iGetText d) := fun d hp => runA_iGetText d.1 d.2.1 hp
theorem c_iGetText : PContract Try.prog 163 (sumOf P_iGetText pre_iGetText g_iGetText) := PContract.of_data true G36 (fn := Try.f163) (by kernel_rfl) (L := fun _ _ => none) (by rw [show loopsIn 0 (bodyOf Try.f163) = [] by kernel_rfl]; simp) P_iGetText pre_iGetText g_iGetText run_iGetText
noncomputable def S37 : Tab := Tab.add S36 163 (lift (sumOf P_iGetText pre_iGetText g_iGetText))
noncomputable def QF37 : FuncId → Bool := qadd QF36 163
theorem G37 : Good Try.prog tt S37 QF37 := G36.addQ c_iGetText ⟨Try.f163, by kernel_rfl, by kernel_rfl, by kernel_rfl⟩ (fun _ => rfl)

/-! 148 (*loop.example/g00244/impl.getter).text -/
noncomputable abbrev SM_igetter_text : SS := ⟨[.ptr 0 0 1 0], [.box [.t false (.sl (.int .u8)), .t true (.int .i64), .t true .bool]]⟩
noncomputable def igetter_text (h0_0 : List Int) (h0_1 : Int) (h0_2 : Bool) : ByteArray × (List Int) × Int × Bool := (cond h0_2 ((⟨#[]⟩ : ByteArray), h0_0, h0_1, true) (cond (!((iGetText h0_0 h0_1).2.2)) ((⟨#[]⟩ : ByteArray), h0_0, h0_1, true) (((iGetText h0_0 h0_1).1), h0_0, ((iGetText h0_0 h0_1).2.1), h0_2)))
noncomputable abbrev e_igetter_text (r : ByteArray × (List Int) × Int × Bool) : AV × List AObj × List Nat := ((.t true .str r.1), [(.box [(.t false (.sl (.int .u8)) r.2.1), (.t true (.int .i64) r.2.2.1), (.t true .bool r.2.2.2)])], [])
noncomputable abbrev g_igetter_text : SM_igetter_text.den → AV × List AObj × List Nat := fun d => e_igetter_text (igetter_text d.2.1.1 d.2.1.2.1 d.2.1.2.2.1)
noncomputable def q_igetter_text (h0_0 : List Int) (h0_1 : Int) (h0_2 : Bool) : Bool := q_iGetText h0_0 h0_1
noncomputable abbrev pre_igetter_text : SM_igetter_text.den → Bool := fun d => q_igetter_text d.2.1.1 d.2.1.2.1 d.2.1.2.2.1
theorem runA_igetter_text (h0_0 : List Int) (h0_1 : Int) (h0_2 : Bool) (hp : (q_iGetText h0_0 h0_1) = true) : runM Try.prog tt S37 QF37 (fun _ _ => none) Try.f148 (shsMk SM_igetter_text.sl ((((), ()), ((h0_0, h0_1, h0_2, ()), ())) : SM_igetter_text.den).1) (ohsMk SM_igetter_text.hp ((((), ()), ((h0_0, h0_1, h0_2, ()), ())) : SM_igetter_text.den).2) = some (g_igetter_text (((), ()), ((h0_0, h0_1, h0_2, ()), ()))) := by
  refine Eq.trans (b := (cond (q_iGetText h0_0 h0_1) (cond h0_2 (some (e_igetter_text ((⟨#[]⟩ : ByteArray), h0_0, h0_1, true))) (cond (!((iGetText h0_0 h0_1).2.2)) (some (e_igetter_text ((⟨#[]⟩ : ByteArray), h0_0, h0_1, true))) (some (e_igetter_text (((iGetText h0_0 h0_1).1), h0_0, ((iGetText h0_0 h0_1).2.1), h0_2))))) none)) (by kernel_rfl) ?_
  exact (cndT hp (fun _h => (cnd (F := fun r => some (e_igetter_text r)) (fun _h => rfl) (fun _h => (cnd (F := fun r => some (e_igetter_text r)) (fun _h => rfl) (fun _h => rfl))))))
theorem run_igetter_text : ∀ d : SM_igetter_text.den, pre_igetter_text d = true → runM Try.prog tt S37 QF37 (fun _ _ => none) Try.f148 (shsMk SM_igetter_text.sl (d : SM_igetter_text.den).1) (ohsMk SM_igetter_text.hp (d : SM_igetter_text.den).2) = some (g_igetter_text d) := fun d hp => runA_igetter_text d.2.1.1 d.2.1.2.1 d.2.1.2.2.1 hp
theorem c_igetter_text : MContract Try.prog 148 (win winIds (msum SM_igetter_text pre_igetter_text g_igetter_text)) := (MContract.of_data G37 (fn := Try.f148) (by kernel_rfl) (L := fun _ _ => none) (by rw [show loopsIn 0 (bodyOf Try.f148) = [] by kernel_rfl]; simp) SM_igetter_text pre_igetter_text g_igetter_text run_igetter_text).win winIds
noncomputable def S38 : Tab := Tab.add S37 148 (win winIds (msum SM_igetter_text pre_igetter_text g_igetter_text))
noncomputable def QF38 : FuncId → Bool := QF37
theorem G38 : Good Try.prog tt S38 QF38 := G37.addM c_igetter_text (win_local _) ⟨Try.f148, by kernel_rfl, by kernel_rfl, by kernel_rfl⟩ (by kernel_rfl)

/-! 118 (*loop.example/g00244/impl.getter).ops -/
noncomputable abbrev SM_igetter_ops : SS := ⟨[.ptr 0 0 1 0], [.box [.t false (.sl (.int .u8)), .t true (.int .i64), .t true .bool]]⟩
noncomputable abbrev S_igetter_ops_0 : SS := ⟨[.ptr 0 0 1 0, .junk, .junk, .junk, .all 1 3, .junk, .junk, .junk, .junk, .junk, .junk, .junk, .junk, .t true (.int .i64), .t true (.int .i64), .junk, .junk, .junk, .junk, .junk, .junk, .junk, .junk, .junk, .junk, .junk, .junk, .junk, .junk, .junk, .junk], [.box [.t false (.sl (.int .u8)), .t true (.int .i64), .t true .bool], .rows 85 true (.pair (.int .i64) (.pair .str .str))]⟩
noncomputable abbrev E_igetter_ops_0_0 : SS := ⟨[.junk, .junk, .junk, .junk, .all 1 3, .junk, .junk, .junk, .junk, .junk, .junk, .junk, .junk, .junk, .junk, .junk, .junk, .junk, .junk, .junk, .junk, .junk, .junk, .junk, .junk, .junk, .junk, .junk, .junk, .junk, .junk], [.box [.t false (.sl (.int .u8)), .t true (.int .i64), .t true .bool], .rows 85 true (.pair (.int .i64) (.pair .str .str))]⟩
noncomputable def k1_igetter_ops (h0_0 : List Int) (h0_1 : Int) (h0_2 : Bool) := igetter_text ((igetter_num h0_0 h0_1 h0_2).2.1) ((igetter_num h0_0 h0_1 h0_2).2.2.1) ((igetter_num h0_0 h0_1 h0_2).2.2.2)
noncomputable def k2_igetter_ops (h0_0 : List Int) (h0_1 : Int) (h0_2 : Bool) := igetter_text ((k1_igetter_ops h0_0 h0_1 h0_2).2.1) ((k1_igetter_ops h0_0 h0_1 h0_2).2.2.1) ((k1_igetter_ops h0_0 h0_1 h0_2).2.2.2)
noncomputable def st_igetter_ops_0 (x13 : Int) (x14 : Int) (h0_0 : List Int) (h0_1 : Int) (h0_2 : Bool) (h1 : List (Int × ByteArray × ByteArray)) : RT S_igetter_ops_0.den := (.br (decide (x14 < x13)) (.br (q_igetter_num h0_0 h0_1 h0_2) (.br (q_igetter_text ((igetter_num h0_0 h0_1 h0_2).2.1) ((igetter_num h0_0 h0_1 h0_2).2.2.1) ((igetter_num h0_0 h0_1 h0_2).2.2.2)) (.br (q_igetter_text ((k1_igetter_ops h0_0 h0_1 h0_2).2.1) ((k1_igetter_ops h0_0 h0_1 h0_2).2.2.1) ((k1_igetter_ops h0_0 h0_1 h0_2).2.2.2)) (.br (decide ((h1.length + [(((igetter_num h0_0 h0_1 h0_2).1), (((k1_igetter_ops h0_0 h0_1 h0_2).1), ((k2_igetter_ops h0_0 h0_1 h0_2).1)))].length) * 40 ≤ MAXB)) (.next (((), (), (), (), (), (), (), (), (), (), (), (), (), x13, IntKind.wrap .i64 (x14 + (1 : Int)), (), (), (), (), (), (), (), (), (), (), (), (), (), (), (), (), ()), ((((k2_igetter_ops h0_0 h0_1 h0_2).2.1), ((k2_igetter_ops h0_0 h0_1 h0_2).2.2.1), ((k2_igetter_ops h0_0 h0_1 h0_2).2.2.2), ()), h1 ++ [(((igetter_num h0_0 h0_1 h0_2).1), (((k1_igetter_ops h0_0 h0_1 h0_2).1), ((k2_igetter_ops h0_0 h0_1 h0_2).1)))], ()))) .fail) .fail) .fail) .fail) (.done (.exit 0) E_igetter_ops_0_0 (((), (), (), (), (), (), (), (), (), (), (), (), (), (), (), (), (), (), (), (), (), (), (), (), (), (), (), (), (), (), (), ()), ((h0_0, h0_1, h0_2, ()), h1, ()))))
noncomputable abbrev V_igetter_ops_0 := (Int) × (Int) × (List Int) × (Int) × (Bool) × (List (Int × ByteArray × ByteArray))
noncomputable abbrev A_igetter_ops_0 := Nat × (List Int) × (Int) × (Bool) × (List (Int × ByteArray × ByteArray))
noncomputable def fl_igetter_ops_0 : A_igetter_ops_0 := (99, ([] : List Int), ((0 : Int) : Int), (false : Bool), ([] : List (Int × ByteArray × ByteArray)))
noncomputable def ss_igetter_ops_0 (x13 : Int) (x14 : Int) (h0_0 : List Int) (h0_1 : Int) (h0_2 : Bool) (h1 : List (Int × ByteArray × ByteArray)) : V_igetter_ops_0 ⊕ A_igetter_ops_0 := (cond (decide (x14 < x13)) (cond (q_igetter_num h0_0 h0_1 h0_2) (cond (q_igetter_text ((igetter_num h0_0 h0_1 h0_2).2.1) ((igetter_num h0_0 h0_1 h0_2).2.2.1) ((igetter_num h0_0 h0_1 h0_2).2.2.2)) (cond (q_igetter_text ((k1_igetter_ops h0_0 h0_1 h0_2).2.1) ((k1_igetter_ops h0_0 h0_1 h0_2).2.2.1) ((k1_igetter_ops h0_0 h0_1 h0_2).2.2.2)) (cond (decide ((h1.length + [(((igetter_num h0_0 h0_1 h0_2).1), (((k1_igetter_ops h0_0 h0_1 h0_2).1), ((k2_igetter_ops h0_0 h0_1 h0_2).1)))].length) * 40 ≤ MAXB)) (.inl (x13, IntKind.wrap .i64 (x14 + (1 : Int)), ((k2_igetter_ops h0_0 h0_1 h0_2).2.1), ((k2_igetter_ops h0_0 h0_1 h0_2).2.2.1), ((k2_igetter_ops h0_0 h0_1 h0_2).2.2.2), h1 ++ [(((igetter_num h0_0 h0_1 h0_2).1), (((k1_igetter_ops h0_0 h0_1 h0_2).1), ((k2_igetter_ops h0_0 h0_1 h0_2).1)))])) (.inr fl_igetter_ops_0)) (.inr fl_igetter_ops_0)) (.inr fl_igetter_ops_0)) (.inr fl_igetter_ops_0)) (.inr (0, h0_0, h0_1, h0_2, h1)))
noncomputable def it_igetter_ops_0 (x13 : Int) (x14 : Int) (h0_0 : List Int) (h0_1 : Int) (h0_2 : Bool) (h1 : List (Int × ByteArray × ByteArray)) : A_igetter_ops_0 := itX (fun v : V_igetter_ops_0 => ss_igetter_ops_0 v.1 v.2.1 v.2.2.1 v.2.2.2.1 v.2.2.2.2.1 v.2.2.2.2.2) fl_igetter_ops_0 (x13, x14, h0_0, h0_1, h0_2, h1)
noncomputable def ct_igetter_ops_0 (a : A_igetter_ops_0) : CT := (.br (a.1 == 0) (.done (.exit 0) E_igetter_ops_0_0 (((), (), (), (), (), (), (), (), (), (), (), (), (), (), (), (), (), (), (), (), (), (), (), (), (), (), (), (), (), (), (), ()), ((a.2.1, a.2.2.1, a.2.2.2.1, ()), a.2.2.2.2, ()))) .fail)
noncomputable def T_igetter_ops_0 (x13 : Int) (x14 : Int) (h0_0 : List Int) (h0_1 : Int) (h0_2 : Bool) (h1 : List (Int × ByteArray × ByteArray)) : CT := ct_igetter_ops_0 (it_igetter_ops_0 x13 x14 h0_0 h0_1 h0_2 h1)
noncomputable abbrev sp_igetter_ops_0 : S_igetter_ops_0.den → RT S_igetter_ops_0.den := fun d => st_igetter_ops_0 d.1.2.2.2.2.2.2.2.2.2.2.2.2.2.1 d.1.2.2.2.2.2.2.2.2.2.2.2.2.2.2.1 d.2.1.1 d.2.1.2.1 d.2.1.2.2.1 d.2.2.1
noncomputable abbrev pk_igetter_ops_0 (x13 : Int) (x14 : Int) (h0_0 : List Int) (h0_1 : Int) (h0_2 : Bool) (h1 : List (Int × ByteArray × ByteArray)) : S_igetter_ops_0.den := (((), (), (), (), (), (), (), (), (), (), (), (), (), x13, x14, (), (), (), (), (), (), (), (), (), (), (), (), (), (), (), (), ()), ((h0_0, h0_1, h0_2, ()), h1, ()))
noncomputable def body_igetter_ops_0 : Code := ((loopsIn 0 (bodyOf Try.f118)).getD 0 (0, .skip)).2
theorem R_igetter_ops_0 (x13 : Int) (x14 : Int) (h0_0 : List Int) (h0_1 : Int) (h0_2 : Bool) (h1 : List (Int × ByteArray × ByteArray)) : (T_igetter_ops_0 x13 x14 h0_0 h0_1 h0_2 h1).val (D := S_igetter_ops_0.den) = .fail ∨ Runs sp_igetter_ops_0 (pk_igetter_ops_0 x13 x14 h0_0 h0_1 h0_2 h1) (T_igetter_ops_0 x13 x14 h0_0 h0_1 h0_2 h1).val := Runs.ofIt (step := sp_igetter_ops_0) (fun v : V_igetter_ops_0 => pk_igetter_ops_0 v.1 v.2.1 v.2.2.1 v.2.2.2.1 v.2.2.2.2.1 v.2.2.2.2.2) (ct := ct_igetter_ops_0) rfl (fun v => ((relB (relB (relB (relB (relB rfl rfl) rfl) rfl) rfl) rfl) : (st_igetter_ops_0 v.1 v.2.1 v.2.2.1 v.2.2.2.1 v.2.2.2.2.1 v.2.2.2.2.2).val = relS (fun v : V_igetter_ops_0 => pk_igetter_ops_0 v.1 v.2.1 v.2.2.1 v.2.2.2.1 v.2.2.2.2.1 v.2.2.2.2.2) ct_igetter_ops_0 (ss_igetter_ops_0 v.1 v.2.1 v.2.2.1 v.2.2.2.1 v.2.2.2.2.1 v.2.2.2.2.2))) (fun a => ((cendB (cendD (by simp)) cendF) : CEnd _ (ct_igetter_ops_0 a))) (x13, x14, h0_0, h0_1, h0_2, h1)
theorem rd_igetter_ops_0 : ∀ d, execC Try.prog tt S38 QF38 (fun _ _ => none) 0 body_igetter_ops_0 (S_igetter_ops_0.st d 1 []) (fun e s' => some (e, S_igetter_ops_0.cutE (kepts [] [(0, [4])]) e s')) = (sp_igetter_ops_0 d).opt 1 [] := by
  intro d
  kernel_rfl
noncomputable abbrev say_igetter_ops_0 : St → Option Tree := S_igetter_ops_0.say 1 [] [(4, 85, (.pair (.int .i64) (.pair .str .str)))] (fun d => T_igetter_ops_0 d.1.2.2.2.2.2.2.2.2.2.2.2.2.2.1 d.1.2.2.2.2.2.2.2.2.2.2.2.2.2.2.1 d.2.1.1 d.2.1.2.1 d.2.1.2.2.1 d.2.2.1)
theorem lw_igetter_ops_0 : LoopWp Try.prog say_igetter_ops_0 body_igetter_ops_0 := SS.wp G38 (fun _ _ => none) (by rw [show loopsIn 0 body_igetter_ops_0 = [] by kernel_rfl]; simp) S_igetter_ops_0 1 [] (kepts [] [(0, [4])]) [(4, 85, (.pair (.int .i64) (.pair .str .str)))] sp_igetter_ops_0 rd_igetter_ops_0 _ (fun d => R_igetter_ops_0 d.1.2.2.2.2.2.2.2.2.2.2.2.2.2.1 d.1.2.2.2.2.2.2.2.2.2.2.2.2.2.2.1 d.2.1.1 d.2.1.2.1 d.2.1.2.2.1 d.2.2.1)
noncomputable def k3_igetter_ops (h0_0 : List Int) (h0_1 : Int) (h0_2 : Bool) := it_igetter_ops_0 ((igetter_num h0_0 h0_1 h0_2).1) (0 : Int) ((igetter_num h0_0 h0_1 h0_2).2.1) ((igetter_num h0_0 h0_1 h0_2).2.2.1) ((igetter_num h0_0 h0_1 h0_2).2.2.2) ([] : List (Int × ByteArray × ByteArray))
noncomputable def igetter_ops (h0_0 : List Int) (h0_1 : Int) (h0_2 : Bool) : (List (Int × ByteArray × ByteArray)) × (List Int) × Int × Bool := (cond (decide (((igetter_num h0_0 h0_1 h0_2).1) > (8 : Int))) ([], ((igetter_num h0_0 h0_1 h0_2).2.1), ((igetter_num h0_0 h0_1 h0_2).2.2.1), true) (((k3_igetter_ops h0_0 h0_1 h0_2).2.2.2.2), ((k3_igetter_ops h0_0 h0_1 h0_2).2.1), ((k3_igetter_ops h0_0 h0_1 h0_2).2.2.1), ((k3_igetter_ops h0_0 h0_1 h0_2).2.2.2.1)))
noncomputable abbrev e_igetter_ops (r : (List (Int × ByteArray × ByteArray)) × (List Int) × Int × Bool) : AV × List AObj × List Nat := ((.t true (.sl (.pair (.int .i64) (.pair .str .str))) r.1), [(.box [(.t false (.sl (.int .u8)) r.2.1), (.t true (.int .i64) r.2.2.1), (.t true .bool r.2.2.2)])], [])
noncomputable abbrev g_igetter_ops : SM_igetter_ops.den → AV × List AObj × List Nat := fun d => e_igetter_ops (igetter_ops d.2.1.1 d.2.1.2.1 d.2.1.2.2.1)
noncomputable def q_igetter_ops (h0_0 : List Int) (h0_1 : Int) (h0_2 : Bool) : Bool := (q_igetter_num h0_0 h0_1 h0_2) && (cond (decide (((igetter_num h0_0 h0_1 h0_2).1) > (8 : Int))) true ((k3_igetter_ops h0_0 h0_1 h0_2).1 == 0))
noncomputable abbrev pre_igetter_ops : SM_igetter_ops.den → Bool := fun d => q_igetter_ops d.2.1.1 d.2.1.2.1 d.2.1.2.2.1
theorem runA_igetter_ops (h0_0 : List Int) (h0_1 : Int) (h0_2 : Bool) (hp : ((q_igetter_num h0_0 h0_1 h0_2) && (cond (decide (((igetter_num h0_0 h0_1 h0_2).1) > (8 : Int))) true ((k3_igetter_ops h0_0 h0_1 h0_2).1 == 0))) = true) : runMR Try.prog tt S38 QF38 (fun b => match b with | 0 => say_igetter_ops_0 | _ => fun _ => none) Try.f118 (shsMk SM_igetter_ops.sl ((((), ()), ((h0_0, h0_1, h0_2, ()), ())) : SM_igetter_ops.den).1) (ohsMk SM_igetter_ops.hp ((((), ()), ((h0_0, h0_1, h0_2, ()), ())) : SM_igetter_ops.den).2) = some (g_igetter_ops (((), ()), ((h0_0, h0_1, h0_2, ()), ()))) := by
  refine Eq.trans (b := (cond (q_igetter_num h0_0 h0_1 h0_2) (cond (decide (((igetter_num h0_0 h0_1 h0_2).1) > (8 : Int))) (some (e_igetter_ops ([], ((igetter_num h0_0 h0_1 h0_2).2.1), ((igetter_num h0_0 h0_1 h0_2).2.2.1), true))) (cond ((k3_igetter_ops h0_0 h0_1 h0_2).1 == 0) (some (e_igetter_ops (((k3_igetter_ops h0_0 h0_1 h0_2).2.2.2.2), ((k3_igetter_ops h0_0 h0_1 h0_2).2.1), ((k3_igetter_ops h0_0 h0_1 h0_2).2.2.1), ((k3_igetter_ops h0_0 h0_1 h0_2).2.2.2.1)))) none)) none)) (by kernel_rfl) ?_
  exact (cndT (andL hp) (fun _h => (fun hp => (cndQ (F := fun r => some (e_igetter_ops r)) hp (fun hp => rfl) (fun hp => (cndT hp (fun _h => rfl))))) (andR hp)))
theorem run_igetter_ops : ∀ d : SM_igetter_ops.den, pre_igetter_ops d = true → runMR Try.prog tt S38 QF38 (fun b => match b with | 0 => say_igetter_ops_0 | _ => fun _ => none) Try.f118 (shsMk SM_igetter_ops.sl (d : SM_igetter_ops.den).1) (ohsMk SM_igetter_ops.hp (d : SM_igetter_ops.den).2) = some (g_igetter_ops d) := fun d hp => runA_igetter_ops d.2.1.1 d.2.1.2.1 d.2.1.2.2.1 hp
theorem c_igetter_ops : MContract Try.prog 118 (win winIds (msum SM_igetter_ops pre_igetter_ops g_igetter_ops)) := (MContract.of_dataR G38 (fn := Try.f118) (by kernel_rfl) (L := fun b => match b with | 0 => say_igetter_ops_0 | _ => fun _ => none) (by rw [show loopsIn 0 (bodyOf Try.f118) = [(0, body_igetter_ops_0)] by kernel_rfl]; intro p hp; simp only [List.mem_singleton] at hp; subst hp; exact lw_igetter_ops_0) SM_igetter_ops pre_igetter_ops g_igetter_ops run_igetter_ops).win winIds
noncomputable def S39 : Tab := Tab.add S38 118 (win winIds (msum SM_igetter_ops pre_igetter_ops g_igetter_ops))
noncomputable def QF39 : FuncId → Bool := QF38
theorem G39 : Good Try.prog tt S39 QF39 := G38.addM c_igetter_ops (win_local _) ⟨Try.f118, by kernel_rfl, by kernel_rfl, by kernel_rfl⟩ (by kernel_rfl)

/-! 119 bytes.Equal -/
noncomputable abbrev P_bytes_Equal : List PSh := [.t (.sl (.int .u8)), .t (.sl (.int .u8))]
noncomputable def bytes_Equal (a0 : List Int) (a1 : List Int) : Bool := ((⟨(a0.map fun n => UInt8.ofNat n.toNat).toArray⟩ : ByteArray).toList == (⟨(a1.map fun n => UInt8.ofNat n.toNat).toArray⟩ : ByteArray).toList)
noncomputable abbrev e_bytes_Equal (r : Bool) : AV × List AObj := ((.t true .bool r), [])
noncomputable abbrev g_bytes_Equal : pshsDen P_bytes_Equal → AV × List AObj := fun d => e_bytes_Equal (bytes_Equal d.1 d.2.1)
noncomputable abbrev pre_bytes_Equal : pshsDen P_bytes_Equal → Bool := fun d => true
theorem runA_bytes_Equal (a0 : List Int) (a1 : List Int) : runP true Try.prog tt S39 QF39 (fun _ _ => none) Try.f119 (argsMk P_bytes_Equal (a0, (a1, ()))) = some (g_bytes_Equal (a0, (a1, ()))) := by
  kernel_rfl
theorem run_bytes_Equal : ∀ d, pre_bytes_Equal d = true → runP true Try.prog tt S39 QF39 (fun _ _ => none) Try.f119 (argsMk P_bytes_Equal d) = some (g_bytes_Equal d) := fun d hp => runA_bytes_Equal d.1 d.2.1
theorem c_bytes_Equal : PContract Try.prog 119 (sumOf P_bytes_Equal pre_bytes_Equal g_bytes_Equal) := PContract.of_data true G39 (fn := Try.f119) (by kernel_rfl) (L := fun _ _ => none) (by rw [show loopsIn 0 (bodyOf Try.f119) = [] by kernel_rfl]; simp) P_bytes_Equal pre_bytes_Equal g_bytes_Equal run_bytes_Equal
noncomputable def S40 : Tab := Tab.add S39 119 (lift (sumOf P_bytes_Equal pre_bytes_Equal g_bytes_Equal))
noncomputable def QF40 : FuncId → Bool := qadd QF39 119
theorem G40 : Good Try.prog tt S40 QF40 := G39.addQ c_bytes_Equal ⟨Try.f119, by kernel_rfl, by kernel_rfl, by kernel_rfl⟩ (fun _ => rfl)

/-! 56 loop.example/g00244/impl.GetOps -/
noncomputable abbrev P_iGetOps : List PSh := [.t (.sl (.int .u8))]
noncomputable def iGetOps (a0 : List Int) : (List (Int × ByteArray × ByteArray)) × Bool := (cond ((igetter_ops a0 (0 : Int) false).2.2.2) ([], false) (cond (!(iOpsOk ((igetter_ops a0 (0 : Int) false).1))) ([], false) (cond (!(bytes_Equal (iputOps_nil ((igetter_ops a0 (0 : Int) false).1)) a0)) ([], false) (((igetter_ops a0 (0 : Int) false).1), true))))
noncomputable abbrev e_iGetOps (r : (List (Int × ByteArray × ByteArray)) × Bool) : AV × List AObj := ((.tup [(.t true (.sl (.pair (.int .i64) (.pair .str .str))) r.1), (.t true .bool r.2)]), [])
noncomputable abbrev g_iGetOps : pshsDen P_iGetOps → AV × List AObj := fun d => e_iGetOps (iGetOps d.1)
noncomputable def q_iGetOps (a0 : List Int) : Bool := (q_igetter_ops a0 (0 : Int) false) && (cond ((igetter_ops a0 (0 : Int) false).2.2.2) true ((q_iOpsOk ((igetter_ops a0 (0 : Int) false).1)) && (cond (!(iOpsOk ((igetter_ops a0 (0 : Int) false).1))) true (q_iputOps_nil ((igetter_ops a0 (0 : Int) false).1)))))
noncomputable abbrev pre_iGetOps : pshsDen P_iGetOps → Bool := fun d => q_iGetOps d.1
theorem runA_iGetOps (a0 : List Int) (hp : ((q_igetter_ops a0 (0 : Int) false) && (cond ((igetter_ops a0 (0 : Int) false).2.2.2) true ((q_iOpsOk ((igetter_ops a0 (0 : Int) false).1)) && (cond (!(iOpsOk ((igetter_ops a0 (0 : Int) false).1))) true (q_iputOps_nil ((igetter_ops a0 (0 : Int) false).1)))))) = true) : runP true Try.prog tt S40 QF40 (fun _ _ => none) Try.f56 (argsMk P_iGetOps (a0, ())) = some (g_iGetOps (a0, ())) := by
  refine Eq.trans (b := (cond (q_igetter_ops a0 (0 : Int) false) (cond ((igetter_ops a0 (0 : Int) false).2.2.2) (some (e_iGetOps ([], false))) (cond (q_iOpsOk ((igetter_ops a0 (0 : Int) false).1)) (cond (!(iOpsOk ((igetter_ops a0 (0 : Int) false).1))) (some (e_iGetOps ([], false))) (cond (q_iputOps_nil ((igetter_ops a0 (0 : Int) false).1)) (cond (!(bytes_Equal (iputOps_nil ((igetter_ops a0 (0 : Int) false).1)) a0)) (some (e_iGetOps ([], false))) (some (e_iGetOps (((igetter_ops a0 (0 : Int) false).1), true)))) none)) none)) none)) (by kernel_rfl) ?_
  exact (cndT (andL hp) (fun _h => (fun hp => (cndQ (F := fun r => some (e_iGetOps r)) hp (fun hp => rfl) (fun hp => (cndT (andL hp) (fun _h => (fun hp => (cndQ (F := fun r => some (e_iGetOps r)) hp (fun hp => rfl) (fun hp => (cndT hp (fun _h => (cnd (F := fun r => some (e_iGetOps r)) (fun _h => rfl) (fun _h => rfl))))))) (andR hp)))))) (andR hp)))
theorem run_iGetOps : ∀ d, pre_iGetOps d = true → runP true Try.prog tt S40 QF40 (fun _ _ => none) Try.f56 (argsMk P_iGetOps d) = some (g_iGetOps d) := fun d hp => runA_iGetOps d.1 hp
theorem c_iGetOps : PContract Try.prog 56 (sumOf P_iGetOps pre_iGetOps g_iGetOps) := PContract.of_data true G40 (fn := Try.f56) (by kernel_rfl) (L := fun _ _ => none) (by rw [show loopsIn 0 (bodyOf Try.f56) = [] by kernel_rfl]; simp) P_iGetOps pre_iGetOps g_iGetOps run_iGetOps
noncomputable def S41 : Tab := Tab.add S40 56 (lift (sumOf P_iGetOps pre_iGetOps g_iGetOps))
noncomputable def QF41 : FuncId → Bool := qadd QF40 56
theorem G41 : Good Try.prog tt S41 QF41 := G40.addQ c_iGetOps ⟨Try.f56, by kernel_rfl, by kernel_rfl, by kernel_rfl⟩ (fun _ => rfl)

/-! 120 loop.example/g00244/spec.GetNum -/
noncomputable abbrev P_sGetNum : List PSh := [.t (.sl (.int .u8)), .t (.int .i64)]
noncomputable abbrev S_sGetNum_0 : SS := ⟨[.t false (.sl (.int .u8)), .t true (.int .i64), .junk, .junk, .junk, .junk, .junk, .t true (.int .i64), .t true (.int .i64), .junk, .junk, .junk, .junk, .junk, .junk, .junk, .junk, .junk, .junk, .junk, .junk, .junk, .junk, .junk, .junk, .junk, .junk, .junk, .junk, .junk, .junk, .junk, .junk, .junk, .junk, .junk, .junk, .junk, .junk, .junk, .junk, .junk, .junk, .junk, .junk, .junk, .junk, .junk, .junk, .junk, .junk, .junk, .junk, .junk, .junk, .junk, .junk, .junk, .junk, .junk, .junk, .junk, .junk, .junk], []⟩
noncomputable abbrev E_sGetNum_0_0 : SS := ⟨[.junk, .junk, .junk, .junk, .t true (.int .i64), .t true (.int .i64), .t true .bool, .junk, .junk, .junk, .junk, .junk, .junk, .junk, .junk, .junk, .junk, .junk, .junk, .junk, .junk, .junk, .junk, .junk, .junk, .junk, .junk, .junk, .junk, .junk, .junk, .junk, .junk, .junk, .junk, .junk, .junk, .junk, .junk, .junk, .junk, .junk, .junk, .junk, .junk, .junk, .junk, .junk, .junk, .junk, .junk, .junk, .junk, .junk, .junk, .junk, .junk, .junk, .junk, .junk, .junk, .junk, .junk, .junk], []⟩
noncomputable abbrev E_sGetNum_0_1 : SS := ⟨[.junk, .junk, .junk, .junk, .junk, .junk, .junk, .junk, .junk, .junk, .junk, .junk, .junk, .junk, .junk, .junk, .junk, .junk, .junk, .junk, .junk, .junk, .junk, .junk, .junk, .junk, .junk, .junk, .junk, .junk, .junk, .junk, .junk, .junk, .junk, .junk, .junk, .junk, .junk, .junk, .junk, .junk, .junk, .junk, .junk, .junk, .junk, .junk, .junk, .junk, .junk, .junk, .junk, .junk, .junk, .junk, .junk, .junk, .junk, .junk, .junk, .junk, .junk, .junk], []⟩
noncomputable def st_sGetNum_0 (x0 : List Int) (x1 : Int) (x7 : Int) (x8 : Int) : RT S_sGetNum_0.den := (.br (decide (x8 < (5 : Int))) (.br (decide (x1 ≥ (0 : Int))) (.br (decide (x1 < ((x0.length : Nat) : Int))) (.br (decide ((IntKind.wrap .i64 (x1 + x8)) < ((x0.length : Nat) : Int))) (.br (decide (0 ≤ (IntKind.wrap .i64 (x1 + x8)) ∧ (IntKind.wrap .i64 (x1 + x8)) < ((x0.length : Nat) : Int))) (.br (decide (0 ≤ (IntKind.wrap .u64 (IntKind.wrap .i64 ((7 : Int) * x8))))) (.br (decide ((IntKind.wrap .i64 (x0.getD ((IntKind.wrap .i64 (x1 + x8)).toNat) (0 : Int))) > (127 : Int))) (.next ((x0, x1, (), (), (), (), (), ior .i64 x7 (IntKind.wrap .i64 ((iand .i64 (IntKind.wrap .i64 (x0.getD ((IntKind.wrap .i64 (x1 + x8)).toNat) (0 : Int))) (127 : Int)) * 2 ^ (min (Int.toNat (IntKind.wrap .u64 (IntKind.wrap .i64 ((7 : Int) * x8)))) (IntKind.bits .i64)))), IntKind.wrap .i64 (x8 + (1 : Int)), (), (), (), (), (), (), (), (), (), (), (), (), (), (), (), (), (), (), (), (), (), (), (), (), (), (), (), (), (), (), (), (), (), (), (), (), (), (), (), (), (), (), (), (), (), (), (), (), (), (), (), (), (), (), (), ()), ())) (.br (decide (x8 > (0 : Int))) (.br ((IntKind.wrap .i64 (x0.getD ((IntKind.wrap .i64 (x1 + x8)).toNat) (0 : Int))) == (0 : Int)) (.done .ret E_sGetNum_0_0 (((), (), (), (), (0 : Int), (0 : Int), false, (), (), (), (), (), (), (), (), (), (), (), (), (), (), (), (), (), (), (), (), (), (), (), (), (), (), (), (), (), (), (), (), (), (), (), (), (), (), (), (), (), (), (), (), (), (), (), (), (), (), (), (), (), (), (), (), (), ()), ())) (.br (decide ((ior .i64 x7 (IntKind.wrap .i64 ((iand .i64 (IntKind.wrap .i64 (x0.getD ((IntKind.wrap .i64 (x1 + x8)).toNat) (0 : Int))) (127 : Int)) * 2 ^ (min (Int.toNat (IntKind.wrap .u64 (IntKind.wrap .i64 ((7 : Int) * x8)))) (IntKind.bits .i64))))) > (1000000000 : Int))) (.done .ret E_sGetNum_0_0 (((), (), (), (), (0 : Int), (0 : Int), false, (), (), (), (), (), (), (), (), (), (), (), (), (), (), (), (), (), (), (), (), (), (), (), (), (), (), (), (), (), (), (), (), (), (), (), (), (), (), (), (), (), (), (), (), (), (), (), (), (), (), (), (), (), (), (), (), (), ()), ())) (.done .ret E_sGetNum_0_0 (((), (), (), (), ior .i64 x7 (IntKind.wrap .i64 ((iand .i64 (IntKind.wrap .i64 (x0.getD ((IntKind.wrap .i64 (x1 + x8)).toNat) (0 : Int))) (127 : Int)) * 2 ^ (min (Int.toNat (IntKind.wrap .u64 (IntKind.wrap .i64 ((7 : Int) * x8)))) (IntKind.bits .i64)))), IntKind.wrap .i64 ((IntKind.wrap .i64 (x1 + x8)) + (1 : Int)), true, (), (), (), (), (), (), (), (), (), (), (), (), (), (), (), (), (), (), (), (), (), (), (), (), (), (), (), (), (), (), (), (), (), (), (), (), (), (), (), (), (), (), (), (), (), (), (), (), (), (), (), (), (), (), (), (), (), ()), ())))) (.br (decide ((ior .i64 x7 (IntKind.wrap .i64 ((iand .i64 (IntKind.wrap .i64 (x0.getD ((IntKind.wrap .i64 (x1 + x8)).toNat) (0 : Int))) (127 : Int)) * 2 ^ (min (Int.toNat (IntKind.wrap .u64 (IntKind.wrap .i64 ((7 : Int) * x8)))) (IntKind.bits .i64))))) > (1000000000 : Int))) (.done .ret E_sGetNum_0_0 (((), (), (), (), (0 : Int), (0 : Int), false, (), (), (), (), (), (), (), (), (), (), (), (), (), (), (), (), (), (), (), (), (), (), (), (), (), (), (), (), (), (), (), (), (), (), (), (), (), (), (), (), (), (), (), (), (), (), (), (), (), (), (), (), (), (), (), (), (), ()), ())) (.done .ret E_sGetNum_0_0 (((), (), (), (), ior .i64 x7 (IntKind.wrap .i64 ((iand .i64 (IntKind.wrap .i64 (x0.getD ((IntKind.wrap .i64 (x1 + x8)).toNat) (0 : Int))) (127 : Int)) * 2 ^ (min (Int.toNat (IntKind.wrap .u64 (IntKind.wrap .i64 ((7 : Int) * x8)))) (IntKind.bits .i64)))), IntKind.wrap .i64 ((IntKind.wrap .i64 (x1 + x8)) + (1 : Int)), true, (), (), (), (), (), (), (), (), (), (), (), (), (), (), (), (), (), (), (), (), (), (), (), (), (), (), (), (), (), (), (), (), (), (), (), (), (), (), (), (), (), (), (), (), (), (), (), (), (), (), (), (), (), (), (), (), (), ()), ()))))) .fail) .fail) (.done (.exit 0) E_sGetNum_0_1 (((), (), (), (), (), (), (), (), (), (), (), (), (), (), (), (), (), (), (), (), (), (), (), (), (), (), (), (), (), (), (), (), (), (), (), (), (), (), (), (), (), (), (), (), (), (), (), (), (), (), (), (), (), (), (), (), (), (), (), (), (), (), (), (), ()), ()))) (.done (.exit 0) E_sGetNum_0_1 (((), (), (), (), (), (), (), (), (), (), (), (), (), (), (), (), (), (), (), (), (), (), (), (), (), (), (), (), (), (), (), (), (), (), (), (), (), (), (), (), (), (), (), (), (), (), (), (), (), (), (), (), (), (), (), (), (), (), (), (), (), (), (), (), ()), ()))) (.done (.exit 0) E_sGetNum_0_1 (((), (), (), (), (), (), (), (), (), (), (), (), (), (), (), (), (), (), (), (), (), (), (), (), (), (), (), (), (), (), (), (), (), (), (), (), (), (), (), (), (), (), (), (), (), (), (), (), (), (), (), (), (), (), (), (), (), (), (), (), (), (), (), (), ()), ()))) (.done (.exit 0) E_sGetNum_0_1 (((), (), (), (), (), (), (), (), (), (), (), (), (), (), (), (), (), (), (), (), (), (), (), (), (), (), (), (), (), (), (), (), (), (), (), (), (), (), (), (), (), (), (), (), (), (), (), (), (), (), (), (), (), (), (), (), (), (), (), (), (), (), (), (), ()), ())))
noncomputable abbrev V_sGetNum_0 := (List Int) × (Int) × (Int) × (Int)
noncomputable abbrev A_sGetNum_0 := Nat × (Int) × (Int) × (Bool)
noncomputable def fl_sGetNum_0 : A_sGetNum_0 := (99, ((0 : Int) : Int), ((0 : Int) : Int), (false : Bool))
noncomputable def ss_sGetNum_0 (x0 : List Int) (x1 : Int) (x7 : Int) (x8 : Int) : V_sGetNum_0 ⊕ A_sGetNum_0 := (cond (decide (x8 < (5 : Int))) (cond (decide (x1 ≥ (0 : Int))) (cond (decide (x1 < ((x0.length : Nat) : Int))) (cond (decide ((IntKind.wrap .i64 (x1 + x8)) < ((x0.length : Nat) : Int))) (cond (decide (0 ≤ (IntKind.wrap .i64 (x1 + x8)) ∧ (IntKind.wrap .i64 (x1 + x8)) < ((x0.length : Nat) : Int))) (cond (decide (0 ≤ (IntKind.wrap .u64 (IntKind.wrap .i64 ((7 : Int) * x8))))) (cond (decide ((IntKind.wrap .i64 (x0.getD ((IntKind.wrap .i64 (x1 + x8)).toNat) (0 : Int))) > (127 : Int))) (.inl (x0, x1, ior .i64 x7 (IntKind.wrap .i64 ((iand .i64 (IntKind.wrap .i64 (x0.getD ((IntKind.wrap .i64 (x1 + x8)).toNat) (0 : Int))) (127 : Int)) * 2 ^ (min (Int.toNat (IntKind.wrap .u64 (IntKind.wrap .i64 ((7 : Int) * x8)))) (IntKind.bits .i64)))), IntKind.wrap .i64 (x8 + (1 : Int)))) (cond (decide (x8 > (0 : Int))) (cond ((IntKind.wrap .i64 (x0.getD ((IntKind.wrap .i64 (x1 + x8)).toNat) (0 : Int))) == (0 : Int)) (.inr (0, (0 : Int), (0 : Int), false)) (cond (decide ((ior .i64 x7 (IntKind.wrap .i64 ((iand .i64 (IntKind.wrap .i64 (x0.getD ((IntKind.wrap .i64 (x1 + x8)).toNat) (0 : Int))) (127 : Int)) * 2 ^ (min (Int.toNat (IntKind.wrap .u64 (IntKind.wrap .i64 ((7 : Int) * x8)))) (IntKind.bits .i64))))) > (1000000000 : Int))) (.inr (0, (0 : Int), (0 : Int), false)) (.inr (0, ior .i64 x7 (IntKind.wrap .i64 ((iand .i64 (IntKind.wrap .i64 (x0.getD ((IntKind.wrap .i64 (x1 + x8)).toNat) (0 : Int))) (127 : Int)) * 2 ^ (min (Int.toNat (IntKind.wrap .u64 (IntKind.wrap .i64 ((7 : Int) * x8)))) (IntKind.bits .i64)))), IntKind.wrap .i64 ((IntKind.wrap .i64 (x1 + x8)) + (1 : Int)), true)))) (cond (decide ((ior .i64 x7 (IntKind.wrap .i64 ((iand .i64 (IntKind.wrap .i64 (x0.getD ((IntKind.wrap .i64 (x1 + x8)).toNat) (0 : Int))) (127 : Int)) * 2 ^ (min (Int.toNat (IntKind.wrap .u64 (IntKind.wrap .i64 ((7 : Int) * x8)))) (IntKind.bits .i64))))) > (1000000000 : Int))) (.inr (0, (0 : Int), (0 : Int), false)) (.inr (0, ior .i64 x7 (IntKind.wrap .i64 ((iand .i64 (IntKind.wrap .i64 (x0.getD ((IntKind.wrap .i64 (x1 + x8)).toNat) (0 : Int))) (127 : Int)) * 2 ^ (min (Int.toNat (IntKind.wrap .u64 (IntKind.wrap .i64 ((7 : Int) * x8)))) (IntKind.bits .i64)))), IntKind.wrap .i64 ((IntKind.wrap .i64 (x1 + x8)) + (1 : Int)), true))))) (.inr fl_sGetNum_0)) (.inr fl_sGetNum_0)) (.inr (1, ((0 : Int) : Int), ((0 : Int) : Int), (false : Bool)))) (.inr (1, ((0 : Int) : Int), ((0 : Int) : Int), (false : Bool)))) (.inr (1, ((0 : Int) : Int), ((0 : Int) : Int), (false : Bool)))) (.inr (1, ((0 : Int) : Int), ((0 : Int) : Int), (false : Bool))))
noncomputable def it_sGetNum_0 (x0 : List Int) (x1 : Int) (x7 : Int) (x8 : Int) : A_sGetNum_0 := itX (fun v : V_sGetNum_0 => ss_sGetNum_0 v.1 v.2.1 v.2.2.1 v.2.2.2) fl_sGetNum_0 (x0, x1, x7, x8)
noncomputable def ct_sGetNum_0 (a : A_sGetNum_0) : CT := (.br (a.1 == 0) (.done .ret E_sGetNum_0_0 (((), (), (), (), a.2.1, a.2.2.1, a.2.2.2, (), (), (), (), (), (), (), (), (), (), (), (), (), (), (), (), (), (), (), (), (), (), (), (), (), (), (), (), (), (), (), (), (), (), (), (), (), (), (), (), (), (), (), (), (), (), (), (), (), (), (), (), (), (), (), (), (), ()), ())) (.br (a.1 == 1) (.done (.exit 0) E_sGetNum_0_1 (((), (), (), (), (), (), (), (), (), (), (), (), (), (), (), (), (), (), (), (), (), (), (), (), (), (), (), (), (), (), (), (), (), (), (), (), (), (), (), (), (), (), (), (), (), (), (), (), (), (), (), (), (), (), (), (), (), (), (), (), (), (), (), (), ()), ())) .fail))
noncomputable def T_sGetNum_0 (x0 : List Int) (x1 : Int) (x7 : Int) (x8 : Int) : CT := ct_sGetNum_0 (it_sGetNum_0 x0 x1 x7 x8)
noncomputable abbrev sp_sGetNum_0 : S_sGetNum_0.den → RT S_sGetNum_0.den := fun d => st_sGetNum_0 d.1.1 d.1.2.1 d.1.2.2.2.2.2.2.2.1 d.1.2.2.2.2.2.2.2.2.1
noncomputable abbrev pk_sGetNum_0 (x0 : List Int) (x1 : Int) (x7 : Int) (x8 : Int) : S_sGetNum_0.den := ((x0, x1, (), (), (), (), (), x7, x8, (), (), (), (), (), (), (), (), (), (), (), (), (), (), (), (), (), (), (), (), (), (), (), (), (), (), (), (), (), (), (), (), (), (), (), (), (), (), (), (), (), (), (), (), (), (), (), (), (), (), (), (), (), (), (), ()), ())
noncomputable def body_sGetNum_0 : Code := ((loopsIn 0 (bodyOf Try.f120)).getD 0 (0, .skip)).2
theorem R_sGetNum_0 (x0 : List Int) (x1 : Int) (x7 : Int) (x8 : Int) : (T_sGetNum_0 x0 x1 x7 x8).val (D := S_sGetNum_0.den) = .fail ∨ Runs sp_sGetNum_0 (pk_sGetNum_0 x0 x1 x7 x8) (T_sGetNum_0 x0 x1 x7 x8).val := Runs.ofIt (step := sp_sGetNum_0) (fun v : V_sGetNum_0 => pk_sGetNum_0 v.1 v.2.1 v.2.2.1 v.2.2.2) (ct := ct_sGetNum_0) rfl (fun v => ((relB (relB (relB (relB (relB (relB (relB rfl (relB (relB rfl (relB rfl rfl)) (relB rfl rfl))) rfl) rfl) rfl) rfl) rfl) rfl) : (st_sGetNum_0 v.1 v.2.1 v.2.2.1 v.2.2.2).val = relS (fun v : V_sGetNum_0 => pk_sGetNum_0 v.1 v.2.1 v.2.2.1 v.2.2.2) ct_sGetNum_0 (ss_sGetNum_0 v.1 v.2.1 v.2.2.1 v.2.2.2))) (fun a => ((cendB (cendD (by simp)) (cendB (cendD (by simp)) cendF)) : CEnd _ (ct_sGetNum_0 a))) (x0, x1, x7, x8)
theorem rd_sGetNum_0 : ∀ d, execC Try.prog tt S41 QF41 (fun _ _ => none) 0 body_sGetNum_0 (S_sGetNum_0.st d 0 []) (fun e s' => some (e, S_sGetNum_0.cutE (kepts [4, 5, 6] [(0, [])]) e s')) = (sp_sGetNum_0 d).opt 0 [] := by
  intro d
  kernel_rfl
noncomputable abbrev say_sGetNum_0 : St → Option Tree := S_sGetNum_0.say 0 [] [] (fun d => T_sGetNum_0 d.1.1 d.1.2.1 d.1.2.2.2.2.2.2.2.1 d.1.2.2.2.2.2.2.2.2.1)
theorem lw_sGetNum_0 : LoopWp Try.prog say_sGetNum_0 body_sGetNum_0 := SS.wp G41 (fun _ _ => none) (by rw [show loopsIn 0 body_sGetNum_0 = [] by kernel_rfl]; simp) S_sGetNum_0 0 [] (kepts [4, 5, 6] [(0, [])]) [] sp_sGetNum_0 rd_sGetNum_0 _ (fun d => R_sGetNum_0 d.1.1 d.1.2.1 d.1.2.2.2.2.2.2.2.1 d.1.2.2.2.2.2.2.2.2.1)
noncomputable def sGetNum (a0 : List Int) (a1 : Int) : Int × Int × Bool := (cond ((it_sGetNum_0 a0 a1 (0 : Int) (0 : Int)).1 == 0) (((it_sGetNum_0 a0 a1 (0 : Int) (0 : Int)).2.1), ((it_sGetNum_0 a0 a1 (0 : Int) (0 : Int)).2.2.1), ((it_sGetNum_0 a0 a1 (0 : Int) (0 : Int)).2.2.2)) ((0 : Int), (0 : Int), false))
noncomputable abbrev e_sGetNum (r : Int × Int × Bool) : AV × List AObj := ((.tup [(.t true (.int .i64) r.1), (.t true (.int .i64) r.2.1), (.t true .bool r.2.2)]), [])
noncomputable abbrev g_sGetNum : pshsDen P_sGetNum → AV × List AObj := fun d => e_sGetNum (sGetNum d.1 d.2.1)
noncomputable def q_sGetNum (a0 : List Int) (a1 : Int) : Bool := cond ((it_sGetNum_0 a0 a1 (0 : Int) (0 : Int)).1 == 0) true ((it_sGetNum_0 a0 a1 (0 : Int) (0 : Int)).1 == 1)
noncomputable abbrev pre_sGetNum : pshsDen P_sGetNum → Bool := fun d => q_sGetNum d.1 d.2.1
theorem runA_sGetNum (a0 : List Int) (a1 : Int) (hp : (cond ((it_sGetNum_0 a0 a1 (0 : Int) (0 : Int)).1 == 0) true ((it_sGetNum_0 a0 a1 (0 : Int) (0 : Int)).1 == 1)) = true) : runP true Try.prog tt S41 QF41 (fun b => match b with | 0 => say_sGetNum_0 | _ => fun _ => none) Try.f120 (argsMk P_sGetNum (a0, (a1, ()))) = some (g_sGetNum (a0, (a1, ()))) := by
  refine Eq.trans (b := (cond ((it_sGetNum_0 a0 a1 (0 : Int) (0 : Int)).1 == 0) (some (e_sGetNum (((it_sGetNum_0 a0 a1 (0 : Int) (0 : Int)).2.1), ((it_sGetNum_0 a0 a1 (0 : Int) (0 : Int)).2.2.1), ((it_sGetNum_0 a0 a1 (0 : Int) (0 : Int)).2.2.2)))) (cond ((it_sGetNum_0 a0 a1 (0 : Int) (0 : Int)).1 == 1) (some (e_sGetNum ((0 : Int), (0 : Int), false))) none))) (by kernel_rfl) ?_
  exact (cndQ (F := fun r => some (e_sGetNum r)) hp (fun hp => rfl) (fun hp => (cndT hp (fun _h => rfl))))
theorem run_sGetNum : ∀ d, pre_sGetNum d = true → runP true Try.prog tt S41 QF41 (fun b => match b with | 0 => say_sGetNum_0 | _ => fun _ => none) Try.f120 (argsMk P_sGetNum d) = some (g_sGetNum d) := fun d hp => runA_sGetNum d.1 d.2.1 hp
theorem c_sGetNum : PContract Try.prog 120 (sumOf P_sGetNum pre_sGetNum g_sGetNum) := PContract.of_data true G41 (fn := Try.f120) (by kernel_rfl) (L := fun b => match b with | 0 => say_sGetNum_0 | _ => fun _ => none) (by rw [show loopsIn 0 (bodyOf Try.f120) = [(0, body_sGetNum_0)] by kernel_rfl]; intro p hp; simp only [List.mem_singleton] at hp; subst hp; exact lw_sGetNum_0) P_sGetNum pre_sGetNum g_sGetNum run_sGetNum
noncomputable def S42 : Tab := Tab.add S41 120 (lift (sumOf P_sGetNum pre_sGetNum g_sGetNum))
noncomputable def QF42 : FuncId → Bool := qadd QF41 120
theorem G42 : Good Try.prog tt S42 QF42 := G41.addQ c_sGetNum ⟨Try.f120, by kernel_rfl, by kernel_rfl, by kernel_rfl⟩ (fun _ => rfl)

/-! 121 loop.example/g00244/spec.GetText -/
noncomputable abbrev P_sGetText : List PSh := [.t (.sl (.int .u8)), .t (.int .i64)]
noncomputable def sGetText (a0 : List Int) (a1 : Int) : ByteArray × Int × Bool := (cond (!((sGetNum a0 a1).2.2)) ((⟨#[]⟩ : ByteArray), (0 : Int), false) (cond (decide (((sGetNum a0 a1).1) > (IntKind.wrap .i64 (((a0.length : Nat) : Int) - ((sGetNum a0 a1).2.1))))) ((⟨#[]⟩ : ByteArray), (0 : Int), false) ((⟨(((a0.take (IntKind.wrap .i64 (((sGetNum a0 a1).2.1) + ((sGetNum a0 a1).1))).toNat).drop ((sGetNum a0 a1).2.1).toNat).map fun n => UInt8.ofNat n.toNat).toArray⟩ : ByteArray), IntKind.wrap .i64 (((sGetNum a0 a1).2.1) + ((sGetNum a0 a1).1)), true)))
noncomputable abbrev e_sGetText (r : ByteArray × Int × Bool) : AV × List AObj := ((.tup [(.t true .str r.1), (.t true (.int .i64) r.2.1), (.t true .bool r.2.2)]), [])
noncomputable abbrev g_sGetText : pshsDen P_sGetText → AV × List AObj := fun d => e_sGetText (sGetText d.1 d.2.1)
noncomputable def q_sGetText (a0 : List Int) (a1 : Int) : Bool := (q_sGetNum a0 a1) && (cond (!((sGetNum a0 a1).2.2)) true (cond (decide (((sGetNum a0 a1).1) > (IntKind.wrap .i64 (((a0.length : Nat) : Int) - ((sGetNum a0 a1).2.1))))) true (decide (0 ≤ ((sGetNum a0 a1).2.1) ∧ ((sGetNum a0 a1).2.1) ≤ (IntKind.wrap .i64 (((sGetNum a0 a1).2.1) + ((sGetNum a0 a1).1))) ∧ (IntKind.wrap .i64 (((sGetNum a0 a1).2.1) + ((sGetNum a0 a1).1))) ≤ ((a0.length : Nat) : Int)))))
noncomputable abbrev pre_sGetText : pshsDen P_sGetText → Bool := fun d => q_sGetText d.1 d.2.1
theorem runA_sGetText (a0 : List Int) (a1 : Int) (hp : ((q_sGetNum a0 a1) && (cond (!((sGetNum a0 a1).2.2)) true (cond (decide (((sGetNum a0 a1).1) > (IntKind.wrap .i64 (((a0.length : Nat) : Int) - ((sGetNum a0 a1).2.1))))) true (decide (0 ≤ ((sGetNum a0 a1).2.1) ∧ ((sGetNum a0 a1).2.1) ≤ (IntKind.wrap .i64 (((sGetNum a0 a1).2.1) + ((sGetNum a0 a1).1))) ∧ (IntKind.wrap .i64 (((sGetNum a0 a1).2.1) + ((sGetNum a0 a1).1))) ≤ ((a0.length : Nat) : Int)))))) = true) : runP true Try.prog tt S42 QF42 (fun _ _ => none) Try.f121 (argsMk P_sGetText (a0, (a1, ()))) = some (g_sGetText (a0, (a1, ()))) := by
  refine Eq.trans (b := (cond (q_sGetNum a0 a1) (cond (!((sGetNum a0 a1).2.2)) (some (e_sGetText ((⟨#[]⟩ : ByteArray), (0 : Int), false))) (cond (decide (((sGetNum a0 a1).1) > (IntKind.wrap .i64 (((a0.length : Nat) : Int) - ((sGetNum a0 a1).2.1))))) (some (e_sGetText ((⟨#[]⟩ : ByteArray), (0 : Int), false))) (cond (decide (0 ≤ ((sGetNum a0 a1).2.1) ∧ ((sGetNum a0 a1).2.1) ≤ (IntKind.wrap .i64 (((sGetNum a0 a1).2.1) + ((sGetNum a0 a1).1))) ∧ (IntKind.wrap .i64 (((sGetNum a0 a1).2.1) + ((sGetNum a0 a1).1))) ≤ ((a0.length : Nat) : Int))) (some (e_sGetText ((⟨(((a0.take (IntKind.wrap .i64 (((sGetNum a0 a1).2.1) + ((sGetNum a0 a1).1))).toNat).drop ((sGetNum a0 a1).2.1).toNat).map fun n => UInt8.ofNat n.toNat).toArray⟩ : ByteArray), IntKind.wrap .i64 (((sGetNum a0 a1).2.1) + ((sGetNum a0 a1).1)), true))) none))) none)) (by kernel_rfl) ?_
  exact (cndT (andL hp) (fun _h => (fun hp => (cndQ (F := fun r => some (e_sGetText r)) hp (fun hp => rfl) (fun hp => (cndQ (F := fun r => some (e_sGetText r)) hp (fun hp => rfl) (fun hp => (cndT hp (fun _h => rfl))))))) (andR hp)))
theorem run_sGetText : ∀ d, pre_sGetText d = true → runP true Try.prog tt S42 QF42 (fun _ _ => none) Try.f121 (argsMk P_sGetText d) = some (g_sGetText d) := fun d hp => runA_sGetText d.1 d.2.1 hp
theorem c_sGetText : PContract Try.prog 121 (sumOf P_sGetText pre_sGetText g_sGetText) := PContract.of_data true G42 (fn := Try.f121) (by kernel_rfl) (L := fun _ _ => none) (by rw [show loopsIn 0 (bodyOf Try.f121) = [] by kernel_rfl]; simp) P_sGetText pre_sGetText g_sGetText run_sGetText
noncomputable def S43 : Tab := Tab.add S42 121 (lift (sumOf P_sGetText pre_sGetText g_sGetText))
noncomputable def QF43 : FuncId → Bool := qadd QF42 121
theorem G43 : Good Try.prog tt S43 QF43 := G42.addQ c_sGetText ⟨Try.f121, by kernel_rfl, by kernel_rfl, by kernel_rfl⟩ (fun _ => rfl)

/-! 57 loop.example/g00244/spec.GetOps -/
noncomputable abbrev P_sGetOps : List PSh := [.t (.sl (.int .u8))]
noncomputable abbrev S_sGetOps_0 : SS := ⟨[.t false (.sl (.int .u8)), .junk, .junk, .junk, .all 0 3, .t true (.int .i64), .t true (.int .i64), .junk, .all 1 3, .t true (.int .i64), .junk, .junk, .junk, .junk, .junk, .junk, .junk, .junk, .junk, .junk, .junk, .junk, .junk, .junk, .junk, .junk, .junk, .junk, .junk, .junk, .junk, .junk, .junk, .junk, .junk, .junk, .junk, .junk, .junk, .junk, .junk, .junk, .junk, .junk, .junk, .junk, .junk, .junk, .junk, .junk, .junk, .junk, .junk, .junk, .junk, .junk, .junk, .junk, .junk, .junk, .junk, .junk, .junk, .junk, .junk, .junk, .junk, .junk, .junk, .junk, .junk, .junk, .junk, .junk, .junk, .junk, .junk, .junk, .junk, .junk, .junk, .junk, .junk, .junk, .junk, .junk, .junk, .junk, .junk, .junk], [.rows 85 true (.pair (.int .i64) (.pair .str .str)), .rows 85 true (.pair (.int .i64) (.pair .str .str))]⟩
noncomputable abbrev E_sGetOps_0_0 : SS := ⟨[.junk, .junk, .all 0 3, .t true .bool, .junk, .junk, .junk, .junk, .junk, .junk, .junk, .junk, .junk, .junk, .junk, .junk, .junk, .junk, .junk, .junk, .junk, .junk, .junk, .junk, .junk, .junk, .junk, .junk, .junk, .junk, .junk, .junk, .junk, .junk, .junk, .junk, .junk, .junk, .junk, .junk, .junk, .junk, .junk, .junk, .junk, .junk, .junk, .junk, .junk, .junk, .junk, .junk, .junk, .junk, .junk, .junk, .junk, .junk, .junk, .junk, .junk, .junk, .junk, .junk, .junk, .junk, .junk, .junk, .junk, .junk, .junk, .junk, .junk, .junk, .junk, .junk, .junk, .junk, .junk, .junk, .junk, .junk, .junk, .junk, .junk, .junk, .junk, .junk, .junk, .junk], [.rows 85 true (.pair (.int .i64) (.pair .str .str))]⟩
noncomputable abbrev E_sGetOps_0_1 : SS := ⟨[.t false (.sl (.int .u8)), .junk, .junk, .junk, .all 0 3, .junk, .t true (.int .i64), .junk, .all 1 3, .junk, .junk, .junk, .junk, .junk, .junk, .junk, .junk, .junk, .junk, .junk, .junk, .junk, .junk, .junk, .junk, .junk, .junk, .junk, .junk, .junk, .junk, .junk, .junk, .junk, .junk, .junk, .junk, .junk, .junk, .junk, .junk, .junk, .junk, .junk, .junk, .junk, .junk, .junk, .junk, .junk, .junk, .junk, .junk, .junk, .junk, .junk, .junk, .junk, .junk, .junk, .junk, .junk, .junk, .junk, .junk, .junk, .junk, .junk, .junk, .junk, .junk, .junk, .junk, .junk, .junk, .junk, .junk, .junk, .junk, .junk, .junk, .junk, .junk, .junk, .junk, .junk, .junk, .junk, .junk, .junk], [.rows 85 true (.pair (.int .i64) (.pair .str .str)), .rows 85 true (.pair (.int .i64) (.pair .str .str))]⟩
noncomputable def st_sGetOps_0 (x0 : List Int) (x5 : Int) (x6 : Int) (x9 : Int) (h0 : List (Int × ByteArray × ByteArray)) (h1 : List (Int × ByteArray × ByteArray)) : RT S_sGetOps_0.den := (.br (decide (x9 < x5)) (.br (q_sGetNum x0 x6) (.br (q_sGetText x0 ((sGetNum x0 x6).2.1)) (.br (q_sGetText x0 ((sGetText x0 ((sGetNum x0 x6).2.1)).2.1)) (.br (!((sGetNum x0 x6).2.2)) (.done .ret E_sGetOps_0_0 (((), (), (), false, (), (), (), (), (), (), (), (), (), (), (), (), (), (), (), (), (), (), (), (), (), (), (), (), (), (), (), (), (), (), (), (), (), (), (), (), (), (), (), (), (), (), (), (), (), (), (), (), (), (), (), (), (), (), (), (), (), (), (), (), (), (), (), (), (), (), (), (), (), (), (), (), (), (), (), (), (), (), (), (), (), (), (), (), (), (), ()), (h0, ()))) (.br (!((sGetText x0 ((sGetNum x0 x6).2.1)).2.2)) (.done .ret E_sGetOps_0_0 (((), (), (), false, (), (), (), (), (), (), (), (), (), (), (), (), (), (), (), (), (), (), (), (), (), (), (), (), (), (), (), (), (), (), (), (), (), (), (), (), (), (), (), (), (), (), (), (), (), (), (), (), (), (), (), (), (), (), (), (), (), (), (), (), (), (), (), (), (), (), (), (), (), (), (), (), (), (), (), (), (), (), (), (), (), (), (), (), (), (), ()), (h0, ()))) (.br (!((sGetText x0 ((sGetText x0 ((sGetNum x0 x6).2.1)).2.1)).2.2)) (.done .ret E_sGetOps_0_0 (((), (), (), false, (), (), (), (), (), (), (), (), (), (), (), (), (), (), (), (), (), (), (), (), (), (), (), (), (), (), (), (), (), (), (), (), (), (), (), (), (), (), (), (), (), (), (), (), (), (), (), (), (), (), (), (), (), (), (), (), (), (), (), (), (), (), (), (), (), (), (), (), (), (), (), (), (), (), (), (), (), (), (), (), (), (), (), (), (), (), ()), (h0, ()))) (.br (decide ((h1.length + [(((sGetNum x0 x6).1), (((sGetText x0 ((sGetNum x0 x6).2.1)).1), ((sGetText x0 ((sGetText x0 ((sGetNum x0 x6).2.1)).2.1)).1)))].length) * 40 ≤ MAXB)) (.next ((x0, (), (), (), (), x5, ((sGetText x0 ((sGetText x0 ((sGetNum x0 x6).2.1)).2.1)).2.1), (), (), IntKind.wrap .i64 (x9 + (1 : Int)), (), (), (), (), (), (), (), (), (), (), (), (), (), (), (), (), (), (), (), (), (), (), (), (), (), (), (), (), (), (), (), (), (), (), (), (), (), (), (), (), (), (), (), (), (), (), (), (), (), (), (), (), (), (), (), (), (), (), (), (), (), (), (), (), (), (), (), (), (), (), (), (), (), (), (), (), (), (), (), (), ()), (h0, h1 ++ [(((sGetNum x0 x6).1), (((sGetText x0 ((sGetNum x0 x6).2.1)).1), ((sGetText x0 ((sGetText x0 ((sGetNum x0 x6).2.1)).2.1)).1)))], ()))) .fail)))) .fail) .fail) .fail) (.done (.exit 0) E_sGetOps_0_1 ((x0, (), (), (), (), (), x6, (), (), (), (), (), (), (), (), (), (), (), (), (), (), (), (), (), (), (), (), (), (), (), (), (), (), (), (), (), (), (), (), (), (), (), (), (), (), (), (), (), (), (), (), (), (), (), (), (), (), (), (), (), (), (), (), (), (), (), (), (), (), (), (), (), (), (), (), (), (), (), (), (), (), (), (), (), (), (), (), (), (), (), ()), (h0, h1, ()))))
noncomputable abbrev V_sGetOps_0 := (List Int) × (Int) × (Int) × (Int) × (List (Int × ByteArray × ByteArray)) × (List (Int × ByteArray × ByteArray))
noncomputable abbrev A_sGetOps_0 := Nat × (Bool) × (List (Int × ByteArray × ByteArray)) × (List Int) × (Int) × (List (Int × ByteArray × ByteArray))
noncomputable def fl_sGetOps_0 : A_sGetOps_0 := (99, (false : Bool), ([] : List (Int × ByteArray × ByteArray)), ([] : List Int), ((0 : Int) : Int), ([] : List (Int × ByteArray × ByteArray)))
noncomputable def ss_sGetOps_0 (x0 : List Int) (x5 : Int) (x6 : Int) (x9 : Int) (h0 : List (Int × ByteArray × ByteArray)) (h1 : List (Int × ByteArray × ByteArray)) : V_sGetOps_0 ⊕ A_sGetOps_0 := (cond (decide (x9 < x5)) (cond (q_sGetNum x0 x6) (cond (q_sGetText x0 ((sGetNum x0 x6).2.1)) (cond (q_sGetText x0 ((sGetText x0 ((sGetNum x0 x6).2.1)).2.1)) (cond (!((sGetNum x0 x6).2.2)) (.inr (0, false, h0, ([] : List Int), ((0 : Int) : Int), ([] : List (Int × ByteArray × ByteArray)))) (cond (!((sGetText x0 ((sGetNum x0 x6).2.1)).2.2)) (.inr (0, false, h0, ([] : List Int), ((0 : Int) : Int), ([] : List (Int × ByteArray × ByteArray)))) (cond (!((sGetText x0 ((sGetText x0 ((sGetNum x0 x6).2.1)).2.1)).2.2)) (.inr (0, false, h0, ([] : List Int), ((0 : Int) : Int), ([] : List (Int × ByteArray × ByteArray)))) (cond (decide ((h1.length + [(((sGetNum x0 x6).1), (((sGetText x0 ((sGetNum x0 x6).2.1)).1), ((sGetText x0 ((sGetText x0 ((sGetNum x0 x6).2.1)).2.1)).1)))].length) * 40 ≤ MAXB)) (.inl (x0, x5, ((sGetText x0 ((sGetText x0 ((sGetNum x0 x6).2.1)).2.1)).2.1), IntKind.wrap .i64 (x9 + (1 : Int)), h0, h1 ++ [(((sGetNum x0 x6).1), (((sGetText x0 ((sGetNum x0 x6).2.1)).1), ((sGetText x0 ((sGetText x0 ((sGetNum x0 x6).2.1)).2.1)).1)))])) (.inr fl_sGetOps_0))))) (.inr fl_sGetOps_0)) (.inr fl_sGetOps_0)) (.inr fl_sGetOps_0)) (.inr (1, (false : Bool), h0, x0, x6, h1)))
noncomputable def it_sGetOps_0 (x0 : List Int) (x5 : Int) (x6 : Int) (x9 : Int) (h0 : List (Int × ByteArray × ByteArray)) (h1 : List (Int × ByteArray × ByteArray)) : A_sGetOps_0 := itX (fun v : V_sGetOps_0 => ss_sGetOps_0 v.1 v.2.1 v.2.2.1 v.2.2.2.1 v.2.2.2.2.1 v.2.2.2.2.2) fl_sGetOps_0 (x0, x5, x6, x9, h0, h1)
noncomputable def ct_sGetOps_0 (a : A_sGetOps_0) : CT := (.br (a.1 == 0) (.done .ret E_sGetOps_0_0 (((), (), (), a.2.1, (), (), (), (), (), (), (), (), (), (), (), (), (), (), (), (), (), (), (), (), (), (), (), (), (), (), (), (), (), (), (), (), (), (), (), (), (), (), (), (), (), (), (), (), (), (), (), (), (), (), (), (), (), (), (), (), (), (), (), (), (), (), (), (), (), (), (), (), (), (), (), (), (), (), (), (), (), (), (), (), (), (), (), (), (), (), ()), (a.2.2.1, ()))) (.br (a.1 == 1) (.done (.exit 0) E_sGetOps_0_1 ((a.2.2.2.1, (), (), (), (), (), a.2.2.2.2.1, (), (), (), (), (), (), (), (), (), (), (), (), (), (), (), (), (), (), (), (), (), (), (), (), (), (), (), (), (), (), (), (), (), (), (), (), (), (), (), (), (), (), (), (), (), (), (), (), (), (), (), (), (), (), (), (), (), (), (), (), (), (), (), (), (), (), (), (), (), (), (), (), (), (), (), (), (), (), (), (), (), (), (), ()), (a.2.2.1, a.2.2.2.2.2, ()))) .fail))
noncomputable def T_sGetOps_0 (x0 : List Int) (x5 : Int) (x6 : Int) (x9 : Int) (h0 : List (Int × ByteArray × ByteArray)) (h1 : List (Int × ByteArray × ByteArray)) : CT := ct_sGetOps_0 (it_sGetOps_0 x0 x5 x6 x9 h0 h1)
noncomputable abbrev sp_sGetOps_0 : S_sGetOps_0.den → RT S_sGetOps_0.den := fun d => st_sGetOps_0 d.1.1 d.1.2.2.2.2.2.1 d.1.2.2.2.2.2.2.1 d.1.2.2.2.2.2.2.2.2.2.1 d.2.1 d.2.2.1
noncomputable abbrev pk_sGetOps_0 (x0 : List Int) (x5 : Int) (x6 : Int) (x9 : Int) (h0 : List (Int × ByteArray × ByteArray)) (h1 : List (Int × ByteArray × ByteArray)) : S_sGetOps_0.den := ((x0, (), (), (), (), x5, x6, (), (), x9, (), (), (), (), (), (), (), (), (), (), (), (), (), (), (), (), (), (), (), (), (), (), (), (), (), (), (), (), (), (), (), (), (), (), (), (), (), (), (), (), (), (), (), (), (), (), (), (), (), (), (), (), (), (), (), (), (), (), (), (), (), (), (), (), (), (), (), (), (), (), (), (), (), (), (), (), (), (), (), (), ()), (h0, h1, ()))
noncomputable def body_sGetOps_0 : Code := ((loopsIn 0 (bodyOf Try.f57)).getD 0 (0, .skip)).2
theorem R_sGetOps_0 (x0 : List Int) (x5 : Int) (x6 : Int) (x9 : Int) (h0 : List (Int × ByteArray × ByteArray)) (h1 : List (Int × ByteArray × ByteArray)) : (T_sGetOps_0 x0 x5 x6 x9 h0 h1).val (D := S_sGetOps_0.den) = .fail ∨ Runs sp_sGetOps_0 (pk_sGetOps_0 x0 x5 x6 x9 h0 h1) (T_sGetOps_0 x0 x5 x6 x9 h0 h1).val := Runs.ofIt (step := sp_sGetOps_0) (fun v : V_sGetOps_0 => pk_sGetOps_0 v.1 v.2.1 v.2.2.1 v.2.2.2.1 v.2.2.2.2.1 v.2.2.2.2.2) (ct := ct_sGetOps_0) rfl (fun v => ((relB (relB (relB (relB (relB rfl (relB rfl (relB rfl (relB rfl rfl)))) rfl) rfl) rfl) rfl) : (st_sGetOps_0 v.1 v.2.1 v.2.2.1 v.2.2.2.1 v.2.2.2.2.1 v.2.2.2.2.2).val = relS (fun v : V_sGetOps_0 => pk_sGetOps_0 v.1 v.2.1 v.2.2.1 v.2.2.2.1 v.2.2.2.2.1 v.2.2.2.2.2) ct_sGetOps_0 (ss_sGetOps_0 v.1 v.2.1 v.2.2.1 v.2.2.2.1 v.2.2.2.2.1 v.2.2.2.2.2))) (fun a => ((cendB (cendD (by simp)) (cendB (cendD (by simp)) cendF)) : CEnd _ (ct_sGetOps_0 a))) (x0, x5, x6, x9, h0, h1)
theorem rd_sGetOps_0 : ∀ d, execC Try.prog tt S43 QF43 (fun _ _ => none) 0 body_sGetOps_0 (S_sGetOps_0.st d 0 []) (fun e s' => some (e, S_sGetOps_0.cutE (kepts [2, 3] [(0, [0, 4, 6, 8])]) e s')) = (sp_sGetOps_0 d).opt 0 [] := by
  intro d
  kernel_rfl
noncomputable abbrev say_sGetOps_0 : St → Option Tree := S_sGetOps_0.say 0 [] [] (fun d => T_sGetOps_0 d.1.1 d.1.2.2.2.2.2.1 d.1.2.2.2.2.2.2.1 d.1.2.2.2.2.2.2.2.2.2.1 d.2.1 d.2.2.1)
theorem lw_sGetOps_0 : LoopWp Try.prog say_sGetOps_0 body_sGetOps_0 := SS.wp G43 (fun _ _ => none) (by rw [show loopsIn 0 body_sGetOps_0 = [] by kernel_rfl]; simp) S_sGetOps_0 0 [] (kepts [2, 3] [(0, [0, 4, 6, 8])]) [] sp_sGetOps_0 rd_sGetOps_0 _ (fun d => R_sGetOps_0 d.1.1 d.1.2.2.2.2.2.1 d.1.2.2.2.2.2.2.1 d.1.2.2.2.2.2.2.2.2.2.1 d.2.1 d.2.2.1)
noncomputable def k1_sGetOps (a0 : List Int) := it_sGetOps_0 a0 ((sGetNum a0 (0 : Int)).1) ((sGetNum a0 (0 : Int)).2.1) (0 : Int) ([] : List (Int × ByteArray × ByteArray)) ([] : List (Int × ByteArray × ByteArray))
noncomputable def sGetOps (a0 : List Int) : (List (Int × ByteArray × ByteArray)) × Bool := (cond (!((sGetNum a0 (0 : Int)).2.2)) (([] : List (Int × ByteArray × ByteArray)), false) (cond (decide (((sGetNum a0 (0 : Int)).1) > (8 : Int))) (([] : List (Int × ByteArray × ByteArray)), false) (cond ((k1_sGetOps a0).1 == 0) (((k1_sGetOps a0).2.2.1), ((k1_sGetOps a0).2.1)) (cond (((k1_sGetOps a0).2.2.2.2.1) != ((((k1_sGetOps a0).2.2.2.1).length : Nat) : Int)) (((k1_sGetOps a0).2.2.1), false) (cond (!(sOpsOk ((k1_sGetOps a0).2.2.2.2.2))) (((k1_sGetOps a0).2.2.1), false) (((k1_sGetOps a0).2.2.2.2.2), true))))))
noncomputable abbrev e_sGetOps (r : (List (Int × ByteArray × ByteArray)) × Bool) : AV × List AObj := ((.tup [(.t true (.sl (.pair (.int .i64) (.pair .str .str))) r.1), (.t true .bool r.2)]), [])
noncomputable abbrev g_sGetOps : pshsDen P_sGetOps → AV × List AObj := fun d => e_sGetOps (sGetOps d.1)
noncomputable def q_sGetOps (a0 : List Int) : Bool := (q_sGetNum a0 (0 : Int)) && (cond (!((sGetNum a0 (0 : Int)).2.2)) true (cond (decide (((sGetNum a0 (0 : Int)).1) > (8 : Int))) true (cond ((k1_sGetOps a0).1 == 0) true (((k1_sGetOps a0).1 == 1) && (cond (((k1_sGetOps a0).2.2.2.2.1) != ((((k1_sGetOps a0).2.2.2.1).length : Nat) : Int)) true (q_sOpsOk ((k1_sGetOps a0).2.2.2.2.2)))))))
noncomputable abbrev pre_sGetOps : pshsDen P_sGetOps → Bool := fun d => q_sGetOps d.1
theorem runA_sGetOps (a0 : List Int) (hp : ((q_sGetNum a0 (0 : Int)) && (cond (!((sGetNum a0 (0 : Int)).2.2)) true (cond (decide (((sGetNum a0 (0 : Int)).1) > (8 : Int))) true (cond ((k1_sGetOps a0).1 == 0) true (((k1_sGetOps a0).1 == 1) && (cond (((k1_sGetOps a0).2.2.2.2.1) != ((((k1_sGetOps a0).2.2.2.1).length : Nat) : Int)) true (q_sOpsOk ((k1_sGetOps a0).2.2.2.2.2)))))))) = true) : runP true Try.prog tt S43 QF43 (fun b => match b with | 0 => say_sGetOps_0 | _ => fun _ => none) Try.f57 (argsMk P_sGetOps (a0, ())) = some (g_sGetOps (a0, ())) := by
  refine Eq.trans (b := (cond (q_sGetNum a0 (0 : Int)) (cond (!((sGetNum a0 (0 : Int)).2.2)) (some (e_sGetOps (([] : List (Int × ByteArray × ByteArray)), false))) (cond (decide (((sGetNum a0 (0 : Int)).1) > (8 : Int))) (some (e_sGetOps (([] : List (Int × ByteArray × ByteArray)), false))) (cond ((k1_sGetOps a0).1 == 0) (some (e_sGetOps (((k1_sGetOps a0).2.2.1), ((k1_sGetOps a0).2.1)))) (cond ((k1_sGetOps a0).1 == 1) (cond (((k1_sGetOps a0).2.2.2.2.1) != ((((k1_sGetOps a0).2.2.2.1).length : Nat) : Int)) (some (e_sGetOps (((k1_sGetOps a0).2.2.1), false))) (cond (q_sOpsOk ((k1_sGetOps a0).2.2.2.2.2)) (cond (!(sOpsOk ((k1_sGetOps a0).2.2.2.2.2))) (some (e_sGetOps (((k1_sGetOps a0).2.2.1), false))) (some (e_sGetOps (((k1_sGetOps a0).2.2.2.2.2), true)))) none)) none)))) none)) (by kernel_rfl) ?_
  exact (cndT (andL hp) (fun _h => (fun hp => (cndQ (F := fun r => some (e_sGetOps r)) hp (fun hp => rfl) (fun hp => (cndQ (F := fun r => some (e_sGetOps r)) hp (fun hp => rfl) (fun hp => (cndQ (F := fun r => some (e_sGetOps r)) hp (fun hp => rfl) (fun hp => (cndT (andL hp) (fun _h => (fun hp => (cndQ (F := fun r => some (e_sGetOps r)) hp (fun hp => rfl) (fun hp => (cndT hp (fun _h => (cnd (F := fun r => some (e_sGetOps r)) (fun _h => rfl) (fun _h => rfl))))))) (andR hp)))))))))) (andR hp)))
theorem run_sGetOps : ∀ d, pre_sGetOps d = true → runP true Try.prog tt S43 QF43 (fun b => match b with | 0 => say_sGetOps_0 | _ => fun _ => none) Try.f57 (argsMk P_sGetOps d) = some (g_sGetOps d) := fun d hp => runA_sGetOps d.1 hp
theorem c_sGetOps : PContract Try.prog 57 (sumOf P_sGetOps pre_sGetOps g_sGetOps) := PContract.of_data true G43 (fn := Try.f57) (by kernel_rfl) (L := fun b => match b with | 0 => say_sGetOps_0 | _ => fun _ => none) (by rw [show loopsIn 0 (bodyOf Try.f57) = [(0, body_sGetOps_0)] by kernel_rfl]; intro p hp; simp only [List.mem_singleton] at hp; subst hp; exact lw_sGetOps_0) P_sGetOps pre_sGetOps g_sGetOps run_sGetOps
noncomputable def S44 : Tab := Tab.add S43 57 (lift (sumOf P_sGetOps pre_sGetOps g_sGetOps))
noncomputable def QF44 : FuncId → Bool := qadd QF43 57
theorem G44 : Good Try.prog tt S44 QF44 := G43.addQ c_sGetOps ⟨Try.f57, by kernel_rfl, by kernel_rfl, by kernel_rfl⟩ (fun _ => rfl)

/-! 58 loop.example/g00244/laws.sameBytes -/
noncomputable abbrev P_lsameBytes : List PSh := [.t (.sl (.int .u8)), .t (.sl (.int .u8))]
noncomputable abbrev S_lsameBytes_0 : SS := ⟨[.t false (.sl (.int .u8)), .t false (.sl (.int .u8)), .junk, .junk, .junk, .t true (.int .i64), .junk, .junk, .junk, .junk, .junk, .junk, .junk, .junk, .junk, .junk, .junk, .junk, .junk, .junk, .junk, .junk, .junk, .junk, .junk, .junk], []⟩
noncomputable abbrev E_lsameBytes_0_0 : SS := ⟨[.junk, .junk, .junk, .junk, .t true .bool, .junk, .junk, .junk, .junk, .junk, .junk, .junk, .junk, .junk, .junk, .junk, .junk, .junk, .junk, .junk, .junk, .junk, .junk, .junk, .junk, .junk], []⟩
noncomputable abbrev E_lsameBytes_0_1 : SS := ⟨[.junk, .junk, .junk, .junk, .junk, .junk, .junk, .junk, .junk, .junk, .junk, .junk, .junk, .junk, .junk, .junk, .junk, .junk, .junk, .junk, .junk, .junk, .junk, .junk, .junk, .junk], []⟩
noncomputable def st_lsameBytes_0 (x0 : List Int) (x1 : List Int) (x5 : Int) : RT S_lsameBytes_0.den := (.br (decide (x5 < ((x0.length : Nat) : Int))) (.br (decide (0 ≤ x5 ∧ x5 < ((x0.length : Nat) : Int))) (.br (decide (0 ≤ x5 ∧ x5 < ((x1.length : Nat) : Int))) (.br ((x0.getD x5.toNat (0 : Int)) != (x1.getD x5.toNat (0 : Int))) (.done .ret E_lsameBytes_0_0 (((), (), (), (), false, (), (), (), (), (), (), (), (), (), (), (), (), (), (), (), (), (), (), (), (), (), ()), ())) (.next ((x0, x1, (), (), (), IntKind.wrap .i64 (x5 + (1 : Int)), (), (), (), (), (), (), (), (), (), (), (), (), (), (), (), (), (), (), (), (), ()), ()))) .fail) .fail) (.done (.exit 0) E_lsameBytes_0_1 (((), (), (), (), (), (), (), (), (), (), (), (), (), (), (), (), (), (), (), (), (), (), (), (), (), (), ()), ())))
noncomputable abbrev V_lsameBytes_0 := (List Int) × (List Int) × (Int)
noncomputable abbrev A_lsameBytes_0 := Nat × (Bool)
noncomputable def fl_lsameBytes_0 : A_lsameBytes_0 := (99, (false : Bool))
noncomputable def ss_lsameBytes_0 (x0 : List Int) (x1 : List Int) (x5 : Int) : V_lsameBytes_0 ⊕ A_lsameBytes_0 := (cond (decide (x5 < ((x0.length : Nat) : Int))) (cond (decide (0 ≤ x5 ∧ x5 < ((x0.length : Nat) : Int))) (cond (decide (0 ≤ x5 ∧ x5 < ((x1.length : Nat) : Int))) (cond ((x0.getD x5.toNat (0 : Int)) != (x1.getD x5.toNat (0 : Int))) (.inr (0, false)) (.inl (x0, x1, IntKind.wrap .i64 (x5 + (1 : Int))))) (.inr fl_lsameBytes_0)) (.inr fl_lsameBytes_0)) (.inr (1, (false : Bool))))
noncomputable def it_lsameBytes_0 (x0 : List Int) (x1 : List Int) (x5 : Int) : A_lsameBytes_0 := itX (fun v : V_lsameBytes_0 => ss_lsameBytes_0 v.1 v.2.1 v.2.2) fl_lsameBytes_0 (x0, x1, x5)
noncomputable def ct_lsameBytes_0 (a : A_lsameBytes_0) : CT := (.br (a.1 == 0) (.done .ret E_lsameBytes_0_0 (((), (), (), (), a.2, (), (), (), (), (), (), (), (), (), (), (), (), (), (), (), (), (), (), (), (), (), ()), ())) (.br (a.1 == 1) (.done (.exit 0) E_lsameBytes_0_1 (((), (), (), (), (), (), (), (), (), (), (), (), (), (), (), (), (), (), (), (), (), (), (), (), (), (), ()), ())) .fail))
noncomputable def T_lsameBytes_0 (x0 : List Int) (x1 : List Int) (x5 : Int) : CT := ct_lsameBytes_0 (it_lsameBytes_0 x0 x1 x5)
noncomputable abbrev sp_lsameBytes_0 : S_lsameBytes_0.den → RT S_lsameBytes_0.den := fun d => st_lsameBytes_0 d.1.1 d.1.2.1 d.1.2.2.2.2.2.1
noncomputable abbrev pk_lsameBytes_0 (x0 : List Int) (x1 : List Int) (x5 : Int) : S_lsameBytes_0.den := ((x0, x1, (), (), (), x5, (), (), (), (), (), (), (), (), (), (), (), (), (), (), (), (), (), (), (), (), ()), ())
noncomputable def body_lsameBytes_0 : Code := ((loopsIn 0 (bodyOf Try.f58)).getD 0 (0, .skip)).2
theorem R_lsameBytes_0 (x0 : List Int) (x1 : List Int) (x5 : Int) : (T_lsameBytes_0 x0 x1 x5).val (D := S_lsameBytes_0.den) = .fail ∨ Runs sp_lsameBytes_0 (pk_lsameBytes_0 x0 x1 x5) (T_lsameBytes_0 x0 x1 x5).val := Runs.ofIt (step := sp_lsameBytes_0) (fun v : V_lsameBytes_0 => pk_lsameBytes_0 v.1 v.2.1 v.2.2) (ct := ct_lsameBytes_0) rfl (fun v => ((relB (relB (relB (relB rfl rfl) rfl) rfl) rfl) : (st_lsameBytes_0 v.1 v.2.1 v.2.2).val = relS (fun v : V_lsameBytes_0 => pk_lsameBytes_0 v.1 v.2.1 v.2.2) ct_lsameBytes_0 (ss_lsameBytes_0 v.1 v.2.1 v.2.2))) (fun a => ((cendB (cendD (by simp)) (cendB (cendD (by simp)) cendF)) : CEnd _ (ct_lsameBytes_0 a))) (x0, x1, x5)
theorem rd_lsameBytes_0 : ∀ d, execC Try.prog tt S44 QF44 (fun _ _ => none) 0 body_lsameBytes_0 (S_lsameBytes_0.st d 0 []) (fun e s' => some (e, S_lsameBytes_0.cutE (kepts [4] [(0, [])]) e s')) = (sp_lsameBytes_0 d).opt 0 [] := by
  intro d
  kernel_rfl
noncomputable abbrev say_lsameBytes_0 : St → Option Tree := S_lsameBytes_0.say 0 [] [] (fun d => T_lsameBytes_0 d.1.1 d.1.2.1 d.1.2.2.2.2.2.1)
theorem lw_lsameBytes_0 : LoopWp Try.prog say_lsameBytes_0 body_lsameBytes_0 := SS.wp G44 (fun _ _ => none) (by rw [show loopsIn 0 body_lsameBytes_0 = [] by kernel_rfl]; simp) S_lsameBytes_0 0 [] (kepts [4] [(0, [])]) [] sp_lsameBytes_0 rd_lsameBytes_0 _ (fun d => R_lsameBytes_0 d.1.1 d.1.2.1 d.1.2.2.2.2.2.1)
noncomputable def lsameBytes (a0 : List Int) (a1 : List Int) : Bool := (cond (((a0.length : Nat) : Int) != ((a1.length : Nat) : Int)) false (cond ((it_lsameBytes_0 a0 a1 (0 : Int)).1 == 0) ((it_lsameBytes_0 a0 a1 (0 : Int)).2) true))
noncomputable abbrev e_lsameBytes (r : Bool) : AV × List AObj := ((.t true .bool r), [])
noncomputable abbrev g_lsameBytes : pshsDen P_lsameBytes → AV × List AObj := fun d => e_lsameBytes (lsameBytes d.1 d.2.1)
noncomputable def q_lsameBytes (a0 : List Int) (a1 : List Int) : Bool := cond (((a0.length : Nat) : Int) != ((a1.length : Nat) : Int)) true (cond ((it_lsameBytes_0 a0 a1 (0 : Int)).1 == 0) true ((it_lsameBytes_0 a0 a1 (0 : Int)).1 == 1))
noncomputable abbrev pre_lsameBytes : pshsDen P_lsameBytes → Bool := fun d => q_lsameBytes d.1 d.2.1
theorem runA_lsameBytes (a0 : List Int) (a1 : List Int) (hp : (cond (((a0.length : Nat) : Int) != ((a1.length : Nat) : Int)) true (cond ((it_lsameBytes_0 a0 a1 (0 : Int)).1 == 0) true ((it_lsameBytes_0 a0 a1 (0 : Int)).1 == 1))) = true) : runP true Try.prog tt S44 QF44 (fun b => match b with | 0 => say_lsameBytes_0 | _ => fun _ => none) Try.f58 (argsMk P_lsameBytes (a0, (a1, ()))) = some (g_lsameBytes (a0, (a1, ()))) := by
  refine Eq.trans (b := (cond (((a0.length : Nat) : Int) != ((a1.length : Nat) : Int)) (some (e_lsameBytes false)) (cond ((it_lsameBytes_0 a0 a1 (0 : Int)).1 == 0) (some (e_lsameBytes ((it_lsameBytes_0 a0 a1 (0 : Int)).2))) (cond ((it_lsameBytes_0 a0 a1 (0 : Int)).1 == 1) (some (e_lsameBytes true)) none)))) (by kernel_rfl) ?_
  exact (cndQ (F := fun r => some (e_lsameBytes r)) hp (fun hp => rfl) (fun hp => (cndQ (F := fun r => some (e_lsameBytes r)) hp (fun hp => rfl) (fun hp => (cndT hp (fun _h => rfl))))))
theorem run_lsameBytes : ∀ d, pre_lsameBytes d = true → runP true Try.prog tt S44 QF44 (fun b => match b with | 0 => say_lsameBytes_0 | _ => fun _ => none) Try.f58 (argsMk P_lsameBytes d) = some (g_lsameBytes d) := fun d hp => runA_lsameBytes d.1 d.2.1 hp
theorem c_lsameBytes : PContract Try.prog 58 (sumOf P_lsameBytes pre_lsameBytes g_lsameBytes) := PContract.of_data true G44 (fn := Try.f58) (by kernel_rfl) (L := fun b => match b with | 0 => say_lsameBytes_0 | _ => fun _ => none) (by rw [show loopsIn 0 (bodyOf Try.f58) = [(0, body_lsameBytes_0)] by kernel_rfl]; intro p hp; simp only [List.mem_singleton] at hp; subst hp; exact lw_lsameBytes_0) P_lsameBytes pre_lsameBytes g_lsameBytes run_lsameBytes
noncomputable def S45 : Tab := Tab.add S44 58 (lift (sumOf P_lsameBytes pre_lsameBytes g_lsameBytes))
noncomputable def QF45 : FuncId → Bool := qadd QF44 58
theorem G45 : Good Try.prog tt S45 QF45 := G44.addQ c_lsameBytes ⟨Try.f58, by kernel_rfl, by kernel_rfl, by kernel_rfl⟩ (fun _ => rfl)

/-! 61 loop.example/g00244/laws.sameOps -/
noncomputable abbrev P_lsameOps : List PSh := [.t (.sl (.pair (.int .i64) (.pair .str .str))), .t (.sl (.pair (.int .i64) (.pair .str .str)))]
noncomputable abbrev S_lsameOps_0 : SS := ⟨[.t false (.sl (.pair (.int .i64) (.pair .str .str))), .t false (.sl (.pair (.int .i64) (.pair .str .str))), .junk, .junk, .junk, .t true (.int .i64), .junk, .junk, .junk, .junk, .junk, .junk, .junk, .junk, .junk, .junk, .junk, .junk, .junk, .junk, .junk, .junk, .junk, .junk, .junk, .junk], []⟩
noncomputable abbrev E_lsameOps_0_0 : SS := ⟨[.junk, .junk, .junk, .junk, .t true .bool, .junk, .junk, .junk, .junk, .junk, .junk, .junk, .junk, .junk, .junk, .junk, .junk, .junk, .junk, .junk, .junk, .junk, .junk, .junk, .junk, .junk], []⟩
noncomputable abbrev E_lsameOps_0_1 : SS := ⟨[.junk, .junk, .junk, .junk, .junk, .junk, .junk, .junk, .junk, .junk, .junk, .junk, .junk, .junk, .junk, .junk, .junk, .junk, .junk, .junk, .junk, .junk, .junk, .junk, .junk, .junk], []⟩
noncomputable def st_lsameOps_0 (x0 : List (Int × ByteArray × ByteArray)) (x1 : List (Int × ByteArray × ByteArray)) (x5 : Int) : RT S_lsameOps_0.den := (.br (decide (x5 < ((x0.length : Nat) : Int))) (.br (decide (0 ≤ x5 ∧ x5 < ((x0.length : Nat) : Int))) (.br (decide (0 ≤ x5 ∧ x5 < ((x1.length : Nat) : Int))) (.br (!((((x0.getD x5.toNat ((0 : Int), ((⟨#[]⟩ : ByteArray), (⟨#[]⟩ : ByteArray)))).1) == ((x1.getD x5.toNat ((0 : Int), ((⟨#[]⟩ : ByteArray), (⟨#[]⟩ : ByteArray)))).1)) && (((((x0.getD x5.toNat ((0 : Int), ((⟨#[]⟩ : ByteArray), (⟨#[]⟩ : ByteArray)))).2).1).toList == (((x1.getD x5.toNat ((0 : Int), ((⟨#[]⟩ : ByteArray), (⟨#[]⟩ : ByteArray)))).2).1).toList) && (((((x0.getD x5.toNat ((0 : Int), ((⟨#[]⟩ : ByteArray), (⟨#[]⟩ : ByteArray)))).2).2).toList == (((x1.getD x5.toNat ((0 : Int), ((⟨#[]⟩ : ByteArray), (⟨#[]⟩ : ByteArray)))).2).2).toList) && true)))) (.done .ret E_lsameOps_0_0 (((), (), (), (), false, (), (), (), (), (), (), (), (), (), (), (), (), (), (), (), (), (), (), (), (), (), ()), ())) (.next ((x0, x1, (), (), (), IntKind.wrap .i64 (x5 + (1 : Int)), (), (), (), (), (), (), (), (), (), (), (), (), (), (), (), (), (), (), (), (), ()), ()))) .fail) .fail) (.done (.exit 0) E_lsameOps_0_1 (((), (), (), (), (), (), (), (), (), (), (), (), (), (), (), (), (), (), (), (), (), (), (), (), (), (), ()), ())))
noncomputable abbrev V_lsameOps_0 := (List (Int × ByteArray × ByteArray)) × (List (Int × ByteArray × ByteArray)) × (Int)
noncomputable abbrev A_lsameOps_0 := Nat × (Bool)
noncomputable def fl_lsameOps_0 : A_lsameOps_0 := (99, (false : Bool))
noncomputable def ss_lsameOps_0 (x0 : List (Int × ByteArray × ByteArray)) (x1 : List (Int × ByteArray × ByteArray)) (x5 : Int) : V_lsameOps_0 ⊕ A_lsameOps_0 := (cond (decide (x5 < ((x0.length : Nat) : Int))) (cond (decide (0 ≤ x5 ∧ x5 < ((x0.length : Nat) : Int))) (cond (decide (0 ≤ x5 ∧ x5 < ((x1.length : Nat) : Int))) (cond (!((((x0.getD x5.toNat ((0 : Int), ((⟨#[]⟩ : ByteArray), (⟨#[]⟩ : ByteArray)))).1) == ((x1.getD x5.toNat ((0 : Int), ((⟨#[]⟩ : ByteArray), (⟨#[]⟩ : ByteArray)))).1)) && (((((x0.getD x5.toNat ((0 : Int), ((⟨#[]⟩ : ByteArray), (⟨#[]⟩ : ByteArray)))).2).1).toList == (((x1.getD x5.toNat ((0 : Int), ((⟨#[]⟩ : ByteArray), (⟨#[]⟩ : ByteArray)))).2).1).toList) && (((((x0.getD x5.toNat ((0 : Int), ((⟨#[]⟩ : ByteArray), (⟨#[]⟩ : ByteArray)))).2).2).toList == (((x1.getD x5.toNat ((0 : Int), ((⟨#[]⟩ : ByteArray), (⟨#[]⟩ : ByteArray)))).2).2).toList) && true)))) (.inr (0, false)) (.inl (x0, x1, IntKind.wrap .i64 (x5 + (1 : Int))))) (.inr fl_lsameOps_0)) (.inr fl_lsameOps_0)) (.inr (1, (false : Bool))))
noncomputable def it_lsameOps_0 (x0 : List (Int × ByteArray × ByteArray)) (x1 : List (Int × ByteArray × ByteArray)) (x5 : Int) : A_lsameOps_0 := itX (fun v : V_lsameOps_0 => ss_lsameOps_0 v.1 v.2.1 v.2.2) fl_lsameOps_0 (x0, x1, x5)
noncomputable def ct_lsameOps_0 (a : A_lsameOps_0) : CT := (.br (a.1 == 0) (.done .ret E_lsameOps_0_0 (((), (), (), (), a.2, (), (), (), (), (), (), (), (), (), (), (), (), (), (), (), (), (), (), (), (), (), ()), ())) (.br (a.1 == 1) (.done (.exit 0) E_lsameOps_0_1 (((), (), (), (), (), (), (), (), (), (), (), (), (), (), (), (), (), (), (), (), (), (), (), (), (), (), ()), ())) .fail))
noncomputable def T_lsameOps_0 (x0 : List (Int × ByteArray × ByteArray)) (x1 : List (Int × ByteArray × ByteArray)) (x5 : Int) : CT := ct_lsameOps_0 (it_lsameOps_0 x0 x1 x5)
noncomputable abbrev sp_lsameOps_0 : S_lsameOps_0.den → RT S_lsameOps_0.den := fun d => st_lsameOps_0 d.1.1 d.1.2.1 d.1.2.2.2.2.2.1
noncomputable abbrev pk_lsameOps_0 (x0 : List (Int × ByteArray × ByteArray)) (x1 : List (Int × ByteArray × ByteArray)) (x5 : Int) : S_lsameOps_0.den := ((x0, x1, (), (), (), x5, (), (), (), (), (), (), (), (), (), (), (), (), (), (), (), (), (), (), (), (), ()), ())
noncomputable def body_lsameOps_0 : Code := ((loopsIn 0 (bodyOf Try.f61)).getD 0 (0, .skip)).2
theorem R_lsameOps_0 (x0 : List (Int × ByteArray × ByteArray)) (x1 : List (Int × ByteArray × ByteArray)) (x5 : Int) : (T_lsameOps_0 x0 x1 x5).val (D := S_lsameOps_0.den) = .fail ∨ Runs sp_lsameOps_0 (pk_lsameOps_0 x0 x1 x5) (T_lsameOps_0 x0 x1 x5).val := Runs.ofIt (step := sp_lsameOps_0) (fun v : V_lsameOps_0 => pk_lsameOps_0 v.1 v.2.1 v.2.2) (ct := ct_lsameOps_0) rfl (fun v => ((relB (relB (relB (relB rfl rfl) rfl) rfl) rfl) : (st_lsameOps_0 v.1 v.2.1 v.2.2).val = relS (fun v : V_lsameOps_0 => pk_lsameOps_0 v.1 v.2.1 v.2.2) ct_lsameOps_0 (ss_lsameOps_0 v.1 v.2.1 v.2.2))) (fun a => ((cendB (cendD (by simp)) (cendB (cendD (by simp)) cendF)) : CEnd _ (ct_lsameOps_0 a))) (x0, x1, x5)
theorem rd_lsameOps_0 : ∀ d, execC Try.prog tt S45 QF45 (fun _ _ => none) 0 body_lsameOps_0 (S_lsameOps_0.st d 0 []) (fun e s' => some (e, S_lsameOps_0.cutE (kepts [4] [(0, [])]) e s')) = (sp_lsameOps_0 d).opt 0 [] := by
  intro d
  kernel_rfl
noncomputable abbrev say_lsameOps_0 : St → Option Tree := S_lsameOps_0.say 0 [] [] (fun d => T_lsameOps_0 d.1.1 d.1.2.1 d.1.2.2.2.2.2.1)
theorem lw_lsameOps_0 : LoopWp Try.prog say_lsameOps_0 body_lsameOps_0 := SS.wp G45 (fun _ _ => none) (by rw [show loopsIn 0 body_lsameOps_0 = [] by kernel_rfl]; simp) S_lsameOps_0 0 [] (kepts [4] [(0, [])]) [] sp_lsameOps_0 rd_lsameOps_0 _ (fun d => R_lsameOps_0 d.1.1 d.1.2.1 d.1.2.2.2.2.2.1)
noncomputable def lsameOps (a0 : List (Int × ByteArray × ByteArray)) (a1 : List (Int × ByteArray × ByteArray)) : Bool := (cond (((a0.length : Nat) : Int) != ((a1.length : Nat) : Int)) false (cond ((it_lsameOps_0 a0 a1 (0 : Int)).1 == 0) ((it_lsameOps_0 a0 a1 (0 : Int)).2) true))
noncomputable abbrev e_lsameOps (r : Bool) : AV × List AObj := ((.t true .bool r), [])
noncomputable abbrev g_lsameOps : pshsDen P_lsameOps → AV × List AObj := fun d => e_lsameOps (lsameOps d.1 d.2.1)
noncomputable def q_lsameOps (a0 : List (Int × ByteArray × ByteArray)) (a1 : List (Int × ByteArray × ByteArray)) : Bool := cond (((a0.length : Nat) : Int) != ((a1.length : Nat) : Int)) true (cond ((it_lsameOps_0 a0 a1 (0 : Int)).1 == 0) true ((it_lsameOps_0 a0 a1 (0 : Int)).1 == 1))
noncomputable abbrev pre_lsameOps : pshsDen P_lsameOps → Bool := fun d => q_lsameOps d.1 d.2.1
theorem runA_lsameOps (a0 : List (Int × ByteArray × ByteArray)) (a1 : List (Int × ByteArray × ByteArray)) (hp : (cond (((a0.length : Nat) : Int) != ((a1.length : Nat) : Int)) true (cond ((it_lsameOps_0 a0 a1 (0 : Int)).1 == 0) true ((it_lsameOps_0 a0 a1 (0 : Int)).1 == 1))) = true) : runP true Try.prog tt S45 QF45 (fun b => match b with | 0 => say_lsameOps_0 | _ => fun _ => none) Try.f61 (argsMk P_lsameOps (a0, (a1, ()))) = some (g_lsameOps (a0, (a1, ()))) := by
  refine Eq.trans (b := (cond (((a0.length : Nat) : Int) != ((a1.length : Nat) : Int)) (some (e_lsameOps false)) (cond ((it_lsameOps_0 a0 a1 (0 : Int)).1 == 0) (some (e_lsameOps ((it_lsameOps_0 a0 a1 (0 : Int)).2))) (cond ((it_lsameOps_0 a0 a1 (0 : Int)).1 == 1) (some (e_lsameOps true)) none)))) (by kernel_rfl) ?_
  exact (cndQ (F := fun r => some (e_lsameOps r)) hp (fun hp => rfl) (fun hp => (cndQ (F := fun r => some (e_lsameOps r)) hp (fun hp => rfl) (fun hp => (cndT hp (fun _h => rfl))))))
theorem run_lsameOps : ∀ d, pre_lsameOps d = true → runP true Try.prog tt S45 QF45 (fun b => match b with | 0 => say_lsameOps_0 | _ => fun _ => none) Try.f61 (argsMk P_lsameOps d) = some (g_lsameOps d) := fun d hp => runA_lsameOps d.1 d.2.1 hp
theorem c_lsameOps : PContract Try.prog 61 (sumOf P_lsameOps pre_lsameOps g_lsameOps) := PContract.of_data true G45 (fn := Try.f61) (by kernel_rfl) (L := fun b => match b with | 0 => say_lsameOps_0 | _ => fun _ => none) (by rw [show loopsIn 0 (bodyOf Try.f61) = [(0, body_lsameOps_0)] by kernel_rfl]; intro p hp; simp only [List.mem_singleton] at hp; subst hp; exact lw_lsameOps_0) P_lsameOps pre_lsameOps g_lsameOps run_lsameOps
noncomputable def S46 : Tab := Tab.add S45 61 (lift (sumOf P_lsameOps pre_lsameOps g_lsameOps))
noncomputable def QF46 : FuncId → Bool := qadd QF45 61
theorem G46 : Good Try.prog tt S46 QF46 := G45.addQ c_lsameOps ⟨Try.f61, by kernel_rfl, by kernel_rfl, by kernel_rfl⟩ (fun _ => rfl)

/-! 9 loop.example/g00244/laws.FnOps -/
noncomputable abbrev P_lFnOps : List PSh := [.t (.sl (.int .u8))]
noncomputable def lFnOps (a0 : List Int) : Bool := (cond (lbig a0) true (cond (!(((iGetOps (sDrawGetOps a0)).2) == ((sGetOps (sDrawGetOps a0)).2))) false (cond ((iGetOps (sDrawGetOps a0)).2) (cond (!(lsameBytes (iPutOps ((iGetOps (sDrawGetOps a0)).1)) (sDrawGetOps a0))) false (cond (!(sOpsOk (sDrawPutOps a0))) (cond ((((iPutOps (sDrawPutOps a0)).length : Nat) : Int) == (0 : Int)) (!(iOpsOk (sDrawPutOps a0))) false) (cond ((iGetOps (iPutOps (sDrawPutOps a0))).2) (cond (lsameOps ((iGetOps (iPutOps (sDrawPutOps a0))).1) (sDrawPutOps a0)) (iOpsOk (sDrawPutOps a0)) false) false))) (cond (!(sOpsOk (sDrawPutOps a0))) (cond ((((iPutOps (sDrawPutOps a0)).length : Nat) : Int) == (0 : Int)) (!(iOpsOk (sDrawPutOps a0))) false) (cond ((iGetOps (iPutOps (sDrawPutOps a0))).2) (cond (lsameOps ((iGetOps (iPutOps (sDrawPutOps a0))).1) (sDrawPutOps a0)) (iOpsOk (sDrawPutOps a0)) false) false)))))
noncomputable abbrev e_lFnOps (r : Bool) : AV × List AObj := ((.t true .bool r), [])
noncomputable abbrev g_lFnOps : pshsDen P_lFnOps → AV × List AObj := fun d => e_lFnOps (lFnOps d.1)
noncomputable def q_lFnOps (a0 : List Int) : Bool := cond (lbig a0) true ((q_sDrawPutOps a0) && ((q_iPutOps (sDrawPutOps a0)) && ((q_sDrawGetOps a0) && ((q_iGetOps (sDrawGetOps a0)) && ((q_sGetOps (sDrawGetOps a0)) && (cond (!(((iGetOps (sDrawGetOps a0)).2) == ((sGetOps (sDrawGetOps a0)).2))) true (cond ((iGetOps (sDrawGetOps a0)).2) ((q_iPutOps ((iGetOps (sDrawGetOps a0)).1)) && ((q_lsameBytes (iPutOps ((iGetOps (sDrawGetOps a0)).1)) (sDrawGetOps a0)) && (cond (!(lsameBytes (iPutOps ((iGetOps (sDrawGetOps a0)).1)) (sDrawGetOps a0))) true ((q_sOpsOk (sDrawPutOps a0)) && (cond (!(sOpsOk (sDrawPutOps a0))) (cond ((((iPutOps (sDrawPutOps a0)).length : Nat) : Int) == (0 : Int)) (q_iOpsOk (sDrawPutOps a0)) true) ((q_iGetOps (iPutOps (sDrawPutOps a0))) && (cond ((iGetOps (iPutOps (sDrawPutOps a0))).2) ((q_lsameOps ((iGetOps (iPutOps (sDrawPutOps a0))).1) (sDrawPutOps a0)) && (cond (lsameOps ((iGetOps (iPutOps (sDrawPutOps a0))).1) (sDrawPutOps a0)) (q_iOpsOk (sDrawPutOps a0)) true)) true))))))) ((q_sOpsOk (sDrawPutOps a0)) && (cond (!(sOpsOk (sDrawPutOps a0))) (cond ((((iPutOps (sDrawPutOps a0)).length : Nat) : Int) == (0 : Int)) (q_iOpsOk (sDrawPutOps a0)) true) ((q_iGetOps (iPutOps (sDrawPutOps a0))) && (cond ((iGetOps (iPutOps (sDrawPutOps a0))).2) ((q_lsameOps ((iGetOps (iPutOps (sDrawPutOps a0))).1) (sDrawPutOps a0)) && (cond (lsameOps ((iGetOps (iPutOps (sDrawPutOps a0))).1) (sDrawPutOps a0)) (q_iOpsOk (sDrawPutOps a0)) true)) true)))))))))))
noncomputable abbrev pre_lFnOps : pshsDen P_lFnOps → Bool := fun d => q_lFnOps d.1
theorem runA_lFnOps (a0 : List Int) (hp : (cond (lbig a0) true ((q_sDrawPutOps a0) && ((q_iPutOps (sDrawPutOps a0)) && ((q_sDrawGetOps a0) && ((q_iGetOps (sDrawGetOps a0)) && ((q_sGetOps (sDrawGetOps a0)) && (cond (!(((iGetOps (sDrawGetOps a0)).2) == ((sGetOps (sDrawGetOps a0)).2))) true (cond ((iGetOps (sDrawGetOps a0)).2) ((q_iPutOps ((iGetOps (sDrawGetOps a0)).1)) && ((q_lsameBytes (iPutOps ((iGetOps (sDrawGetOps a0)).1)) (sDrawGetOps a0)) && (cond (!(lsameBytes (iPutOps ((iGetOps (sDrawGetOps a0)).1)) (sDrawGetOps a0))) true ((q_sOpsOk (sDrawPutOps a0)) && (cond (!(sOpsOk (sDrawPutOps a0))) (cond ((((iPutOps (sDrawPutOps a0)).length : Nat) : Int) == (0 : Int)) (q_iOpsOk (sDrawPutOps a0)) true) ((q_iGetOps (iPutOps (sDrawPutOps a0))) && (cond ((iGetOps (iPutOps (sDrawPutOps a0))).2) ((q_lsameOps ((iGetOps (iPutOps (sDrawPutOps a0))).1) (sDrawPutOps a0)) && (cond (lsameOps ((iGetOps (iPutOps (sDrawPutOps a0))).1) (sDrawPutOps a0)) (q_iOpsOk (sDrawPutOps a0)) true)) true))))))) ((q_sOpsOk (sDrawPutOps a0)) && (cond (!(sOpsOk (sDrawPutOps a0))) (cond ((((iPutOps (sDrawPutOps a0)).length : Nat) : Int) == (0 : Int)) (q_iOpsOk (sDrawPutOps a0)) true) ((q_iGetOps (iPutOps (sDrawPutOps a0))) && (cond ((iGetOps (iPutOps (sDrawPutOps a0))).2) ((q_lsameOps ((iGetOps (iPutOps (sDrawPutOps a0))).1) (sDrawPutOps a0)) && (cond (lsameOps ((iGetOps (iPutOps (sDrawPutOps a0))).1) (sDrawPutOps a0)) (q_iOpsOk (sDrawPutOps a0)) true)) true)))))))))))) = true) : runP true Try.prog tt S46 QF46 (fun _ _ => none) Try.f9 (argsMk P_lFnOps (a0, ())) = some (g_lFnOps (a0, ())) := by
  refine Eq.trans (b := (cond (lbig a0) (some (e_lFnOps true)) (cond (q_sDrawPutOps a0) (cond (q_iPutOps (sDrawPutOps a0)) (cond (q_sDrawGetOps a0) (cond (q_iGetOps (sDrawGetOps a0)) (cond (q_sGetOps (sDrawGetOps a0)) (cond (!(((iGetOps (sDrawGetOps a0)).2) == ((sGetOps (sDrawGetOps a0)).2))) (some (e_lFnOps false)) (cond ((iGetOps (sDrawGetOps a0)).2) (cond (q_iPutOps ((iGetOps (sDrawGetOps a0)).1)) (cond (q_lsameBytes (iPutOps ((iGetOps (sDrawGetOps a0)).1)) (sDrawGetOps a0)) (cond (!(lsameBytes (iPutOps ((iGetOps (sDrawGetOps a0)).1)) (sDrawGetOps a0))) (some (e_lFnOps false)) (cond (q_sOpsOk (sDrawPutOps a0)) (cond (!(sOpsOk (sDrawPutOps a0))) (cond ((((iPutOps (sDrawPutOps a0)).length : Nat) : Int) == (0 : Int)) (cond (q_iOpsOk (sDrawPutOps a0)) (some (e_lFnOps (!(iOpsOk (sDrawPutOps a0))))) none) (some (e_lFnOps false))) (cond (q_iGetOps (iPutOps (sDrawPutOps a0))) (cond ((iGetOps (iPutOps (sDrawPutOps a0))).2) (cond (q_lsameOps ((iGetOps (iPutOps (sDrawPutOps a0))).1) (sDrawPutOps a0)) (cond (lsameOps ((iGetOps (iPutOps (sDrawPutOps a0))).1) (sDrawPutOps a0)) (cond (q_iOpsOk (sDrawPutOps a0)) (some (e_lFnOps (iOpsOk (sDrawPutOps a0)))) none) (some (e_lFnOps false))) none) (some (e_lFnOps false))) none)) none)) none) none) (cond (q_sOpsOk (sDrawPutOps a0)) (cond (!(sOpsOk (sDrawPutOps a0))) (cond ((((iPutOps (sDrawPutOps a0)).length : Nat) : Int) == (0 : Int)) (cond (q_iOpsOk (sDrawPutOps a0)) (some (e_lFnOps (!(iOpsOk (sDrawPutOps a0))))) none) (some (e_lFnOps false))) (cond (q_iGetOps (iPutOps (sDrawPutOps a0))) (cond ((iGetOps (iPutOps (sDrawPutOps a0))).2) (cond (q_lsameOps ((iGetOps (iPutOps (sDrawPutOps a0))).1) (sDrawPutOps a0)) (cond (lsameOps ((iGetOps (iPutOps (sDrawPutOps a0))).1) (sDrawPutOps a0)) (cond (q_iOpsOk (sDrawPutOps a0)) (some (e_lFnOps (iOpsOk (sDrawPutOps a0)))) none) (some (e_lFnOps false))) none) (some (e_lFnOps false))) none)) none))) none) none) none) none) none))) (by kernel_rfl) ?_
  exact (cndQ (F := fun r => some (e_lFnOps r)) hp (fun hp => rfl) (fun hp => (cndT (andL hp) (fun _h => (fun hp => (cndT (andL hp) (fun _h => (fun hp => (cndT (andL hp) (fun _h => (fun hp => (cndT (andL hp) (fun _h => (fun hp => (cndT (andL hp) (fun _h => (fun hp => (cndQ (F := fun r => some (e_lFnOps r)) hp (fun hp => rfl) (fun hp => (cndQ (F := fun r => some (e_lFnOps r)) hp (fun hp => (cndT (andL hp) (fun _h => (fun hp => (cndT (andL hp) (fun _h => (fun hp => (cndQ (F := fun r => some (e_lFnOps r)) hp (fun hp => rfl) (fun hp => (cndT (andL hp) (fun _h => (fun hp => (cndQ (F := fun r => some (e_lFnOps r)) hp (fun hp => (cndQ (F := fun r => some (e_lFnOps r)) hp (fun hp => (cndT hp (fun _h => rfl))) (fun hp => rfl))) (fun hp => (cndT (andL hp) (fun _h => (fun hp => (cndQ (F := fun r => some (e_lFnOps r)) hp (fun hp => (cndT (andL hp) (fun _h => (fun hp => (cndQ (F := fun r => some (e_lFnOps r)) hp (fun hp => (cndT hp (fun _h => rfl))) (fun hp => rfl))) (andR hp)))) (fun hp => rfl))) (andR hp)))))) (andR hp)))))) (andR hp)))) (andR hp)))) (fun hp => (cndT (andL hp) (fun _h => (fun hp => (cndQ (F := fun r => some (e_lFnOps r)) hp (fun hp => (cndQ (F := fun r => some (e_lFnOps r)) hp (fun hp => (cndT hp (fun _h => rfl))) (fun hp => rfl))) (fun hp => (cndT (andL hp) (fun _h => (fun hp => (cndQ (F := fun r => some (e_lFnOps r)) hp (fun hp => (cndT (andL hp) (fun _h => (fun hp => (cndQ (F := fun r => some (e_lFnOps r)) hp (fun hp => (cndT hp (fun _h => rfl))) (fun hp => rfl))) (andR hp)))) (fun hp => rfl))) (andR hp)))))) (andR hp)))))))) (andR hp)))) (andR hp)))) (andR hp)))) (andR hp)))) (andR hp)))))
theorem run_lFnOps : ∀ d, pre_lFnOps d = true → runP true Try.prog tt S46 QF46 (fun _ _ => none) Try.f9 (argsMk P_lFnOps d) = some (g_lFnOps d) := fun d hp => runA_lFnOps d.1 hp
theorem c_lFnOps : PContract Try.prog 9 (sumOf P_lFnOps pre_lFnOps g_lFnOps) := PContract.of_data true G46 (fn := Try.f9) (by kernel_rfl) (L := fun _ _ => none) (by rw [show loopsIn 0 (bodyOf Try.f9) = [] by kernel_rfl]; simp) P_lFnOps pre_lFnOps g_lFnOps run_lFnOps
noncomputable def S47 : Tab := Tab.add S46 9 (lift (sumOf P_lFnOps pre_lFnOps g_lFnOps))
noncomputable def QF47 : FuncId → Bool := qadd QF46 9
theorem G47 : Good Try.prog tt S47 QF47 := G46.addQ c_lFnOps ⟨Try.f9, by kernel_rfl, by kernel_rfl, by kernel_rfl⟩ (fun _ => rfl)
/-- Bytes, all of them. -/
noncomputable def okB (b : List Int) : Prop := ∀ c ∈ b, 0 ≤ c ∧ c ≤ 255
theorem bigB_ok {l : List Int} (h : bigT (.sl (.int .u8)) l = true) : okB l := by
  have hb : (decide (l.length ≤ maxLen) && l.all (fun x => (Lit.int .u8 x).wf)) = true := h
  rw [Bool.and_eq_true, List.all_eq_true] at hb
  intro c hc
  have := hb.2 c hc
  simp only [Lit.wf, Bool.and_eq_true, decide_eq_true_eq] at this
  exact ⟨this.1, this.2⟩
/-- A draw's cursor that is right. -/
noncomputable def cOk (b : List Int) (i : Int) : Prop := okB b ∧ 0 ≤ i ∧ i ≤ b.length ∧ b.length ≤ 1048576
theorem sl1New_spec {b : List Int} (hb : okB b) (hl : b.length ≤ 1048576) : q_sl1New b = true ∧ (sl1New b).1 = b ∧ cOk b (sl1New b).2.1 := by
  have key : ∀ x : Int, (it_sl1New_0 b x 0).1 = 0 ∧ (it_sl1New_0 b x 0).2.1 = b := by
    intro x
    refine itX_inv (fun v : V_sl1New_0 => v.1 = b ∧ 0 ≤ v.2.2 ∧ v.2.2 ≤ b.length) (fun a : A_sl1New_0 => a.1 = 0 ∧ a.2.1 = b) (fun v => b.length - v.2.2.toNat) ?_ ⟨rfl, Int.le_refl _, by simp⟩ (by simp; omega)
    rintro ⟨y, z, i⟩ ⟨hy, h1, h2⟩
    simp only at hy h1 h2
    subst hy
    by_cases hi : i < (y.length : Int)
    · have e : decide (i < ((y.length : Nat) : Int)) = true := decide_eq_true hi
      have e2 : decide (0 ≤ i ∧ i < ((y.length : Nat) : Int)) = true := decide_eq_true ⟨h1, hi⟩
      have w : IntKind.wrap .i64 (i + 1) = i + 1 := wrap64 (by omega) (by omega)
      by_cases h4 : i < 4000
      · simp only [ss_sl1New_0, e, e2, decide_eq_true h4, cond_true, w]
        exact .inl ⟨_, rfl, ⟨rfl, by simp only; omega, by simp only; omega⟩, by simp only; omega⟩
      · simp only [ss_sl1New_0, e, decide_eq_false h4, cond_true, cond_false]
        exact .inr ⟨_, rfl, rfl, rfl⟩
    · simp only [ss_sl1New_0, decide_eq_false hi, cond_false]
      exact .inr ⟨_, rfl, rfl, rfl⟩
  simp only [q_sl1New, sl1New, key]
  exact ⟨rfl, trivial, hb, Int.le_refl _, by omega, hl⟩
/-- One op ahead of another, by its key. -/
noncomputable def ltO (a b : Int × ByteArray × ByteArray) : Prop := Op.bytesLess a.2.1.toList b.2.1.toList = true
/-- Ops that a draw makes: in order, each of them right. -/
noncomputable def drawnO (l : List (Int × ByteArray × ByteArray)) : Prop := l.Pairwise ltO ∧ ∀ o ∈ l, sl7Op o.1 o.2.1 o.2.2 = true ∧ o.2.1.size ≤ 20 ∧ o.2.2.size ≤ 20
theorem ofInt_nat (n : Nat) (h : n < 18446744073709551616) : (BitVec.ofInt 64 (n : Int)).toNat = n := by
  simp [BitVec.toNat_ofInt]; omega
theorem iand_range (x : Int) (m : Nat) (hm : m < 9223372036854775808) : 0 ≤ iand .i64 x (m : Int) ∧ iand .i64 x (m : Int) ≤ m := by
  have e : iand .i64 x (m : Int) = IntKind.wrap .i64 (((BitVec.ofInt 64 x).toNat &&& m : Nat) : Int) := by
    show IntKind.wrap .i64 (((BitVec.ofInt 64 x &&& BitVec.ofInt 64 (m : Int)).toNat : Nat) : Int) = _
    rw [BitVec.toNat_and, ofInt_nat m (by omega)]
  have h : (BitVec.ofInt 64 x).toNat &&& m ≤ m := Nat.and_le_right
  rw [e, wrap64 (by omega) (by omega)]
  omega
theorem sl1Byte_spec {b : List Int} {i : Int} (hc : cOk b i) (h : Int) : q_sl1Byte b i h = true ∧ 0 ≤ (sl1Byte b i h).1 ∧ (sl1Byte b i h).1 ≤ 255 ∧ (sl1Byte b i h).2.1 = b ∧ cOk b (sl1Byte b i h).2.2.1 := by
  obtain ⟨h0, h1, h2, h3⟩ := hc
  have r := fun x => iand_range x 255 (by decide)
  by_cases hi : i < (b.length : Int)
  · have e : decide (i < ((b.length : Nat) : Int)) = true := decide_eq_true hi
    have w : IntKind.wrap .i64 (i + 1) = i + 1 := wrap64 (by omega) (by omega)
    simp only [q_sl1Byte, sl1Byte, e, cond_true, w]
    exact ⟨decide_eq_true ⟨h1, hi⟩, (r _).1, (r _).2, trivial, h0, by omega, by omega, h3⟩
  · have e : decide (i < ((b.length : Nat) : Int)) = false := decide_eq_false hi
    simp only [q_sl1Byte, sl1Byte, e, cond_false]
    exact ⟨trivial, (r _).1, (r _).2, trivial, h0, h1, h2, h3⟩
theorem sl1Below_spec {b : List Int} {i : Int} (hc : cOk b i) (n : Int) (h : Int) : q_sl1Below n b i h = true ∧ 0 ≤ (sl1Below n b i h).1 ∧ (0 < n → (sl1Below n b i h).1 < n) ∧ (sl1Below n b i h).2.1 = b ∧ cOk b (sl1Below n b i h).2.2.1 := by
  obtain ⟨a1, a2, a3, a4, a5⟩ := sl1Byte_spec hc h
  by_cases h0 : n ≤ 0
  · have e : decide (n ≤ 0) = true := decide_eq_true h0
    simp only [q_sl1Below, sl1Below, e, cond_true]
    exact ⟨trivial, Int.le_refl _, fun h => by omega, trivial, hc⟩
  · have e : decide (n ≤ 0) = false := decide_eq_false h0
    have en : decide (n ≠ 0) = true := decide_eq_true (by omega)
    by_cases h1 : n ≤ 256
    · have e2 : decide (n ≤ 256) = true := decide_eq_true h1
      simp only [q_sl1Below, sl1Below, e, e2, cond_true, cond_false, a1, en, Bool.and_self]
      exact ⟨trivial, Int.tmod_nonneg _ a2, fun h => Int.tmod_lt_of_pos _ h, a4, a5⟩
    · have e2 : decide (n ≤ 256) = false := decide_eq_false h1
      obtain ⟨b1, b2, b3, b4, b5⟩ := sl1Byte_spec a5 (sl1Byte b i h).2.2.2
      obtain ⟨c1, c2, c3, c4, c5⟩ := sl1Byte_spec b5 (sl1Byte b (sl1Byte b i h).2.2.1 (sl1Byte b i h).2.2.2).2.2.2
      simp only [q_sl1Below, sl1Below, e, e2, cond_false, a1, a4, en, k1_sl1Below, k2_sl1Below, b1, b4, c1, Bool.and_self]
      rw [wrap64 (n := (sl1Byte b i h).1 * 65536) (by omega) (by omega), wrap64 (n := (sl1Byte b (sl1Byte b i h).2.2.1 (sl1Byte b i h).2.2.2).1 * 256) (by omega) (by omega), wrap64 (n := (sl1Byte b i h).1 * 65536 + (sl1Byte b (sl1Byte b i h).2.2.1 (sl1Byte b i h).2.2.2).1 * 256) (by omega) (by omega), wrap64 (by omega) (by omega)]
      exact ⟨trivial, Int.tmod_nonneg _ (by omega), fun h => Int.tmod_lt_of_pos _ h, c4, c5⟩
theorem getD_mem {α : Type} {l : List α} {i : Nat} (h : i < l.length) (d : α) : l.getD i d ∈ l := by
  simp [List.getD_eq_getElem?_getD, h]
theorem sl1Int_spec {b : List Int} {i : Int} (hc : cOk b i) (h : Int) {l : List Int} (hl : 0 < l.length) : q_sl1Int b i h l = true ∧ (sl1Int b i h l).1 ∈ l ∧ (sl1Int b i h l).2.1 = b ∧ cOk b (sl1Int b i h l).2.2.1 := by
  obtain ⟨a1, a2, a3, a4, a5⟩ := sl1Below_spec hc (l.length : Int) h
  have := a3 (by omega)
  simp only [q_sl1Int, sl1Int, a1, Bool.true_and]
  exact ⟨decide_eq_true ⟨a2, this⟩, getD_mem (by omega) _, a4, a5⟩
theorem sl1Str_spec {b : List Int} {i : Int} (hc : cOk b i) (h : Int) {l : List ByteArray} (hl : 0 < l.length) : q_sl1Str b i h l = true ∧ (sl1Str b i h l).1 ∈ l ∧ (sl1Str b i h l).2.1 = b ∧ cOk b (sl1Str b i h l).2.2.1 := by
  obtain ⟨a1, a2, a3, a4, a5⟩ := sl1Below_spec hc (l.length : Int) h
  have := a3 (by omega)
  simp only [q_sl1Str, sl1Str, a1, Bool.true_and]
  exact ⟨decide_eq_true ⟨a2, this⟩, getD_mem (by omega) _, a4, a5⟩
theorem sl3Key_spec {b : List Int} {i : Int} (hc : cOk b i) (h : Int) : q_sl3Key b i h = true ∧ (sl3Key b i h).1.size ≤ 2 ∧ sKeyOk (sl3Key b i h).1 = true ∧ (sl3Key b i h).2.1 = b ∧ cOk b (sl3Key b i h).2.2.1 := by
  obtain ⟨a1, a2, a3, a4⟩ := sl1Str_spec hc h (l := [(⟨#[97]⟩ : ByteArray), (⟨#[98]⟩ : ByteArray), (⟨#[99]⟩ : ByteArray), (⟨#[107, 49]⟩ : ByteArray), (⟨#[107, 50]⟩ : ByteArray), (⟨#[109]⟩ : ByteArray), (⟨#[122]⟩ : ByteArray)]) (by decide)
  simp only [q_sl3Key, sl3Key, k1_sl3Key, a1]
  have hm : (sl1Str b i h [(⟨#[97]⟩ : ByteArray), (⟨#[98]⟩ : ByteArray), (⟨#[99]⟩ : ByteArray), (⟨#[107, 49]⟩ : ByteArray), (⟨#[107, 50]⟩ : ByteArray), (⟨#[109]⟩ : ByteArray), (⟨#[122]⟩ : ByteArray)]).1.size ≤ 2 ∧ sKeyOk (sl1Str b i h [(⟨#[97]⟩ : ByteArray), (⟨#[98]⟩ : ByteArray), (⟨#[99]⟩ : ByteArray), (⟨#[107, 49]⟩ : ByteArray), (⟨#[107, 50]⟩ : ByteArray), (⟨#[109]⟩ : ByteArray), (⟨#[122]⟩ : ByteArray)]).1 = true := by
    generalize (sl1Str b i h [(⟨#[97]⟩ : ByteArray), (⟨#[98]⟩ : ByteArray), (⟨#[99]⟩ : ByteArray), (⟨#[107, 49]⟩ : ByteArray), (⟨#[107, 50]⟩ : ByteArray), (⟨#[109]⟩ : ByteArray), (⟨#[122]⟩ : ByteArray)]).1 = s at a2
    simp only [List.mem_cons, List.not_mem_nil, or_false] at a2
    rcases a2 with rfl | rfl | rfl | rfl | rfl | rfl | rfl <;> exact ⟨by decide, by kernel_rfl⟩
  exact ⟨trivial, hm.1, hm.2, a3, a4⟩
theorem sl7Op1_spec {b : List Int} {i : Int} (hc : cOk b i) (h : Int) : q_sl7Op1 b i h = true ∧ (sl7Op1 b i h).2.1.size ≤ 20 ∧ (sl7Op1 b i h).2.2.1.size ≤ 20 ∧ sl7Op (sl7Op1 b i h).1 (sl7Op1 b i h).2.1 (sl7Op1 b i h).2.2.1 = true ∧ (sl7Op1 b i h).2.2.2.1 = b ∧ cOk b (sl7Op1 b i h).2.2.2.2.1 := by
  obtain ⟨a1, a2, a3, a4⟩ := sl1Int_spec hc h (l := [(1 : Int), (1 : Int), (1 : Int), (2 : Int), (3 : Int)]) (by decide)
  simp only [q_sl7Op1, sl7Op1, k1_sl7Op1, k2_sl7Op1, a1, a3, Bool.true_and]
  generalize sl1Int b i h [(1 : Int), (1 : Int), (1 : Int), (2 : Int), (3 : Int)] = r at *
  obtain ⟨b1, b2, b3, b4, b5⟩ := sl3Key_spec a4 r.2.2.2.1
  simp only [b1, b4, Bool.true_and]
  generalize sl3Key b r.2.2.1 r.2.2.2.1 = t at *
  have hk : r.1 = 1 ∨ r.1 = 2 ∨ r.1 = 3 := by simp only [List.mem_cons, List.not_mem_nil, or_false] at a2; omega
  have hin : sl1In r.1 1 3 = true := by rcases hk with e | e | e <;> rw [e] <;> rfl
  cases e : (r.1 != 2) with
  | true =>
    obtain ⟨c1, c2, c3, c4⟩ := sl1Str_spec b5 t.2.2.2 (l := [(⟨#[49]⟩ : ByteArray), (⟨#[50]⟩ : ByteArray), (⟨#[120]⟩ : ByteArray), (⟨#[]⟩ : ByteArray), (⟨#[49]⟩ : ByteArray)]) (by decide)
    simp only [cond_true, c1]
    generalize sl1Str b t.2.2.1 t.2.2.2 [(⟨#[49]⟩ : ByteArray), (⟨#[50]⟩ : ByteArray), (⟨#[120]⟩ : ByteArray), (⟨#[]⟩ : ByteArray), (⟨#[49]⟩ : ByteArray)] = u at *
    have hs : u.1.size ≤ 1 := by
      have h0 : ∀ x ∈ [(⟨#[49]⟩ : ByteArray), (⟨#[50]⟩ : ByteArray), (⟨#[120]⟩ : ByteArray), (⟨#[]⟩ : ByteArray), (⟨#[49]⟩ : ByteArray)], x.size ≤ 1 := by
        intro x hx
        simp only [List.mem_cons, List.not_mem_nil, or_false] at hx
        rcases hx with rfl | rfl | rfl | rfl | rfl <;> decide
      exact h0 _ c2
    have hne : (r.1 == 2) = false := by simpa using e
    have hd : decide (((u.1.size : Nat) : Int) ≤ 20) = true := decide_eq_true (by omega)
    refine ⟨trivial, by omega, by omega, ?_, c3, c4⟩
    simp only [sl7Op, hin, hne, b3, hd, Bool.not_true, cond_false, cond_true]
  | false =>
    have he : (r.1 == 2) = true := by simpa using e
    simp only [cond_false]
    refine ⟨trivial, by omega, by decide, ?_, trivial, b5⟩
    simp only [sl7Op, hin, he, b3, Bool.not_true, cond_false, cond_true, beq_self_eq_true]
    rfl
/-- What holds on the way of putting an op in order. -/
noncomputable def oneI (l : List (Int × ByteArray × ByteArray)) (o : Int × ByteArray × ByteArray) (i : Nat) (p : Bool) (h : List (Int × ByteArray × ByteArray)) : Prop :=
  h.Pairwise ltO ∧ (∀ x ∈ h, x = o ∨ x ∈ l) ∧ h.length ≤ i + 1 ∧
  (p = false → h = l.take i ∧ ∀ x ∈ h, ltO x o) ∧
  (p = true → h ≠ [] ∧ ∀ x ∈ h, ∀ y ∈ l.drop i, ltO x y)
theorem pw_take {α : Type} {R : α → α → Prop} {l : List α} (h : l.Pairwise R) (i : Nat) (hi : i < l.length) (d : α) : ∀ x ∈ l.take i, R x (l.getD i d) := by
  intro x hx
  obtain ⟨j, hj, rfl⟩ := List.getElem_of_mem hx
  rw [List.length_take] at hj
  have := List.pairwise_iff_getElem.1 h j i (by omega) hi (by omega)
  simpa [List.getD_eq_getElem?_getD, hi] using this
theorem pw_drop {α : Type} {R : α → α → Prop} {l : List α} (h : l.Pairwise R) (i : Nat) (hi : i < l.length) (d : α) : ∀ y ∈ l.drop (i + 1), R (l.getD i d) y := by
  intro y hy
  obtain ⟨j, hj, rfl⟩ := List.getElem_of_mem hy
  rw [List.length_drop] at hj
  have := List.pairwise_iff_getElem.1 h i (i + 1 + j) hi (by omega) (by omega)
  simpa [List.getD_eq_getElem?_getD, hi] using this
theorem take_succ_getD {α : Type} {l : List α} {i : Nat} (hi : i < l.length) (d : α) : l.take (i + 1) = l.take i ++ [l.getD i d] := by
  rw [List.take_add_one, List.getElem?_eq_getElem hi]; simp [List.getD_eq_getElem?_getD, hi]
theorem pw_snoc {α : Type} {R : α → α → Prop} {h : List α} {x : α} (h1 : h.Pairwise R) (h2 : ∀ y ∈ h, R y x) : (h ++ [x]).Pairwise R := by
  rw [List.pairwise_append]
  exact ⟨h1, by simp, fun a ha b hb => by simp at hb; subst hb; exact h2 a ha⟩
theorem bytesLess_trans : ∀ a b c : List UInt8, Op.bytesLess a b = true → Op.bytesLess b c = true → Op.bytesLess a c = true := by
  intro a
  induction a with
  | nil => intro b c h1 h2; cases c with
    | nil => cases b <;> simp [Op.bytesLess] at h2
    | cons z c => rfl
  | cons x a ih =>
    intro b c h1 h2
    cases b with
    | nil => simp [Op.bytesLess] at h1
    | cons y b => cases c with
      | nil => simp [Op.bytesLess] at h2
      | cons z c =>
        simp only [Op.bytesLess, Bool.or_eq_true, Bool.and_eq_true, decide_eq_true_eq, beq_iff_eq] at h1 h2 ⊢
        rcases h1 with h1 | ⟨rfl, h1⟩
        · rcases h2 with h2 | ⟨rfl, h2⟩
          · exact .inl (UInt8.lt_trans h1 h2)
          · exact .inl h1
        · rcases h2 with h2 | ⟨rfl, h2⟩
          · exact .inl h2
          · exact .inr ⟨rfl, ih b c h1 h2⟩
theorem ltO_trans {a b c : Int × ByteArray × ByteArray} (h1 : ltO a b) (h2 : ltO b c) : ltO a c := bytesLess_trans _ _ _ h1 h2
theorem sl7One_it {l : List (Int × ByteArray × ByteArray)} (hs : l.Pairwise ltO) (hl : l.length ≤ 1000) (o : Int × ByteArray × ByteArray) :
    ∃ p h, it_sl7One_0 l false 0 o.1 o.2.1 o.2.2 [] = (0, p, o.1, o.2.1, o.2.2, h) ∧ oneI l o l.length p h := by
  refine itX_inv (fun v : V_sl7One_0 => ∃ (i : Nat) (p : Bool) (h : List (Int × ByteArray × ByteArray)), v = (l, p, (i : Int), o.1, o.2.1, o.2.2, h) ∧ i ≤ l.length ∧ oneI l o i p h) (fun a => ∃ p h, a = (0, p, o.1, o.2.1, o.2.2, h) ∧ oneI l o l.length p h) (fun v => l.length - v.2.2.1.toNat) ?_ ⟨0, false, [], rfl, Nat.zero_le _, .nil, by simp, by simp, fun _ => ⟨rfl, by simp⟩, fun h => by cases h⟩ (by simp; omega)
  rintro v ⟨i, p, h, rfl, hi, hI⟩
  obtain ⟨i1, i2, i3, i4, i5⟩ := hI
  by_cases hlt : i < l.length
  · have e1 : decide ((i : Int) < ((l.length : Nat) : Int)) = true := decide_eq_true (by omega)
    have e2 : decide (0 ≤ (i : Int) ∧ (i : Int) < ((l.length : Nat) : Int)) = true := decide_eq_true (by omega)
    have w := wrapU i (by omega)
    have m1 : ∀ x : Int × ByteArray × ByteArray, decide ((h.length + [x].length) * 40 ≤ MAXB) = true := fun x => decide_eq_true (by simp only [List.length_singleton, MAXB]; omega)
    have m2 : ∀ x y : Int × ByteArray × ByteArray, decide (((h ++ [x]).length + [y].length) * 40 ≤ MAXB) = true := fun x y => decide_eq_true (by simp only [List.length_append, List.length_singleton, MAXB]; omega)
    have eta : ∀ x : Int × ByteArray × ByteArray, (x.1, (x.2.1, x.2.2)) = x := fun _ => rfl
    have hdrop : l.drop i = l.getD i dOp :: l.drop (i + 1) := by rw [List.drop_eq_getElem_cons hlt]; simp [List.getD_eq_getElem?_getD, hlt]
    have htk := pw_take hs i hlt dOp
    have hdr := pw_drop hs i hlt dOp
    have hmem : l.getD i dOp ∈ l := getD_mem hlt _
    have hts := take_succ_getD hlt dOp
    have meas : ∀ (p' : Bool) (h' : List (Int × ByteArray × ByteArray)), l.length - ((l, p', ((i + 1 : Nat) : Int), o.1, o.2.1, o.2.2, h') : V_sl7One_0).2.2.1.toNat < l.length - ((l, p, (i : Int), o.1, o.2.1, o.2.2, h) : V_sl7One_0).2.2.1.toNat := fun _ _ => by simp only [Int.toNat_natCast]; omega
    simp only [ss_sl7One_0, e1, e2, m1, m2, w, cond_true, Int.toNat_natCast, eta]
    have hd : ((0 : Int), ((⟨#[]⟩ : ByteArray), (⟨#[]⟩ : ByteArray))) = dOp := rfl
    simp only [hd]
    generalize hx : l.getD i dOp = x at *
    left
    cases p with
    | false =>
      obtain ⟨j1, j2⟩ := i4 rfl
      simp only [Bool.not_false, cond_true]
      cases hb : Op.bytesLess x.2.1.toList o.2.1.toList with
      | true =>
        -- still ahead of it
        have hxo : ltO x o := hb
        have hne : (x.2.1.toList == o.2.1.toList) = false := by
          rw [beq_eq_false_iff_ne]; intro e; rw [e] at hb; rw [bytesLess_irrefl] at hb; cases hb
        simp only [Bool.not_true, cond_false, hne, Bool.not_false, cond_true]
        refine ⟨_, rfl, ⟨i + 1, false, h ++ [x], rfl, by omega, pw_snoc i1 (fun y hy => ?_), ?_, by simp; omega, fun _ => ⟨by rw [j1, hts], ?_⟩, fun h => by cases h⟩, meas _ _⟩
        · rw [j1] at hy; exact htk y hy
        · intro y hy
          rcases List.mem_append.1 hy with hy | hy
          · exact i2 y hy
          · simp at hy; subst hy; exact .inr hmem
        · intro y hy
          rcases List.mem_append.1 hy with hy | hy
          · exact j2 y hy
          · simp at hy; subst hy; exact hxo
      | false =>
        have hge := bytesLess_ge x.2.1.toList o.2.1.toList
        rw [hb] at hge
        simp only [Bool.not_false] at hge
        simp only [Bool.not_false, cond_true]
        have s1 : (h ++ [o]).Pairwise ltO := pw_snoc i1 j2
        have s2 : ∀ y ∈ h ++ [o], y = o ∨ y ∈ l := by
          intro y hy
          rcases List.mem_append.1 hy with hy | hy
          · exact i2 y hy
          · simp at hy; exact .inl hy
        cases hq : (x.2.1.toList == o.2.1.toList) with
        | true =>
          simp only [Bool.not_true, cond_false]
          have hkey : x.2.1.toList = o.2.1.toList := by simpa using hq
          have ho : ∀ y ∈ l.drop (i + 1), ltO o y := fun y hy => by have := hdr y hy; unfold ltO at this ⊢; rwa [hkey] at this
          refine ⟨_, rfl, ⟨i + 1, true, h ++ [o], rfl, by omega, s1, s2, by simp; omega, (fun h => by cases h), fun _ => ⟨by simp, ?_⟩⟩, meas _ _⟩
          intro y hy z hz
          rcases List.mem_append.1 hy with hy | hy
          · exact ltO_trans (j2 y hy) (ho z hz)
          · simp at hy; subst hy; exact ho z hz
        | false =>
          simp only [Bool.not_false, cond_true]
          have hox : ltO o x := by
            have h9 : Op.bytesLess o.2.1.toList x.2.1.toList = true := by
              cases h8 : Op.bytesLess o.2.1.toList x.2.1.toList with
              | true => rfl
              | false =>
                rw [h8] at hge
                have h7 : (o.2.1.toList == x.2.1.toList) = true := by simpa using hge.symm
                rw [beq_iff_eq] at h7
                rw [h7] at hq; simp at hq
            exact h9
          refine ⟨_, rfl, ⟨i + 1, true, (h ++ [o]) ++ [x], rfl, by omega, pw_snoc s1 (fun y hy => ?_), ?_, ?_, (fun h => by cases h), fun _ => ⟨by simp, ?_⟩⟩, meas _ _⟩
          · rcases List.mem_append.1 hy with hy | hy
            · exact ltO_trans (j2 y hy) hox
            · simp at hy; subst hy; exact hox
          · intro y hy
            rcases List.mem_append.1 hy with hy | hy
            · exact s2 y hy
            · simp at hy; subst hy; exact .inr hmem
          · have : h.length ≤ i := by rw [j1, List.length_take]; omega
            simp; omega
          · intro y hy z hz
            have hxz := hdr z hz
            rcases List.mem_append.1 hy with hy | hy
            · rcases List.mem_append.1 hy with hy | hy
              · exact ltO_trans (ltO_trans (j2 y hy) hox) hxz
              · simp at hy; subst hy; exact ltO_trans hox hxz
            · simp at hy; subst hy; exact hxz
    | true =>
      obtain ⟨j1, j2⟩ := i5 rfl
      simp only [Bool.not_true, cond_false]
      have j3 : ∀ y ∈ h, ∀ z ∈ l.drop (i + 1), ltO y z := fun y hy z hz => j2 y hy z (by rw [hdrop]; exact List.mem_cons_of_mem _ hz)
      cases hq : (x.2.1.toList == o.2.1.toList) with
      | true =>
        simp only [Bool.not_true, cond_false]
        exact ⟨_, rfl, ⟨i + 1, true, h, rfl, by omega, i1, i2, by omega, (fun h => by cases h), fun _ => ⟨j1, j3⟩⟩, meas _ _⟩
      | false =>
        simp only [Bool.not_false, cond_true]
        refine ⟨_, rfl, ⟨i + 1, true, h ++ [x], rfl, by omega, pw_snoc i1 (fun y hy => j2 y hy x (by rw [hdrop]; simp)), ?_, by simp; omega, (fun h => by cases h), fun _ => ⟨by simp, ?_⟩⟩, meas _ _⟩
        · intro y hy
          rcases List.mem_append.1 hy with hy | hy
          · exact i2 y hy
          · simp at hy; subst hy; exact .inr hmem
        · intro y hy z hz
          rcases List.mem_append.1 hy with hy | hy
          · exact j3 y hy z hz
          · simp at hy; subst hy; exact hdr z hz
  · obtain rfl : i = l.length := by omega
    have e1 : decide (((l.length : Nat) : Int) < ((l.length : Nat) : Int)) = false := decide_eq_false (by omega)
    simp only [ss_sl7One_0, e1, cond_false]
    exact .inr ⟨_, rfl, p, h, rfl, i1, i2, i3, i4, i5⟩
theorem sl7One_spec {l : List (Int × ByteArray × ByteArray)} (hs : l.Pairwise ltO) (hl : l.length ≤ 1000) (k : Int) (s v : ByteArray) :
    q_sl7One l k s v = true ∧ (sl7One l k s v).Pairwise ltO ∧ (∀ x ∈ sl7One l k s v, x = (k, s, v) ∨ x ∈ l) ∧ sl7One l k s v ≠ [] ∧ (sl7One l k s v).length ≤ l.length + 1 := by
  obtain ⟨p, h, e, i1, i2, i3, i4, i5⟩ := sl7One_it hs hl (k, s, v)
  simp only at e
  have m1 : ∀ x : Int × ByteArray × ByteArray, decide ((h.length + [x].length) * 40 ≤ MAXB) = true := fun x => decide_eq_true (by simp only [List.length_singleton, MAXB]; omega)
  simp only [q_sl7One, sl7One, e, m1]
  cases p with
  | true =>
    simp only [Bool.not_true, cond_false]
    exact ⟨rfl, i1, i2, (i5 rfl).1, i3⟩
  | false =>
    obtain ⟨j1, j2⟩ := i4 rfl
    simp only [Bool.not_false, cond_true]
    refine ⟨rfl, pw_snoc i1 j2, ?_, by simp, ?_⟩
    · intro y hy
      rcases List.mem_append.1 hy with hy | hy
      · exact i2 y hy
      · simp at hy; exact .inl hy
    · rw [j1]; simp
theorem sl7Draw_spec {b : List Int} {i : Int} (hc : cOk b i) (h : Int) : q_sl7Draw b i h = true ∧ (sl7Draw b i h).1 = b ∧ cOk b (sl7Draw b i h).2.1 ∧ drawnO (sl7Draw b i h).2.2.2 ∧ 1 ≤ (sl7Draw b i h).2.2.2.length ∧ (sl7Draw b i h).2.2.2.length ≤ 4 := by
  obtain ⟨a1, a2, a3, a4, a5⟩ := sl1Below_spec hc 4 h
  have a3 := a3 (by omega)
  simp only [q_sl7Draw, sl7Draw, k2_sl7Draw, a1, a4, Bool.true_and]
  generalize sl1Below 4 b i h = r at *
  have w : IntKind.wrap .i64 (1 + r.1) = 1 + r.1 := wrap64 (by omega) (by omega)
  rw [w]
  obtain ⟨z1, z2, z3, z4, z5, z6⟩ : (it_sl7Draw_0 (1 + r.1) b r.2.2.1 r.2.2.2 []).1 = 0 ∧ (it_sl7Draw_0 (1 + r.1) b r.2.2.1 r.2.2.2 []).2.1 = b ∧ cOk b (it_sl7Draw_0 (1 + r.1) b r.2.2.1 r.2.2.2 []).2.2.1 ∧ drawnO (it_sl7Draw_0 (1 + r.1) b r.2.2.1 r.2.2.2 []).2.2.2.2 ∧ 1 ≤ (it_sl7Draw_0 (1 + r.1) b r.2.2.1 r.2.2.2 []).2.2.2.2.length ∧ (it_sl7Draw_0 (1 + r.1) b r.2.2.1 r.2.2.2 []).2.2.2.2.length ≤ 4 := by
    refine itX_inv (fun v : V_sl7Draw_0 => v.2.1 = b ∧ cOk b v.2.2.1 ∧ drawnO v.2.2.2.2 ∧ 0 ≤ v.1 ∧ v.1 ≤ 4 ∧ (v.2.2.2.2.length : Int) ≤ 4 - v.1 ∧ (v.1 = 0 → 1 ≤ v.2.2.2.2.length)) (fun a : A_sl7Draw_0 => a.1 = 0 ∧ a.2.1 = b ∧ cOk b a.2.2.1 ∧ drawnO a.2.2.2.2 ∧ 1 ≤ a.2.2.2.2.length ∧ a.2.2.2.2.length ≤ 4) (fun v => v.1.toNat) ?_ ⟨rfl, a5, ⟨.nil, by simp⟩, by simp only; omega, by simp only; omega, by simp only [List.length_nil]; omega, fun h => by simp only at h; omega⟩ (by simp only; omega)
    rintro ⟨n, b', j, h', l⟩ ⟨e1, e2, e3, e4, e5, e6, e7⟩
    simp only at e1 e2 e3 e4 e5 e6 e7
    subst e1
    by_cases hn : n > 0
    · obtain ⟨o1, o2, o3, o4, o5, o6⟩ := sl7Op1_spec e2 h'
      obtain ⟨p1, p2, p3, p4, p5⟩ := sl7One_spec e3.1 (by omega) (sl7Op1 b' j h').1 (sl7Op1 b' j h').2.1 (sl7Op1 b' j h').2.2.1
      have w2 : IntKind.wrap .i64 (n - 1) = n - 1 := wrap64 (by omega) (by omega)
      simp only [ss_sl7Draw_0, decide_eq_true hn, o1, p1, cond_true, w2, o5, k1_sl7Draw]
      refine .inl ⟨_, rfl, ⟨rfl, o6, ⟨p2, fun x hx => ?_⟩, by simp only; omega, by simp only; omega, by simp only; omega, fun _ => List.length_pos_iff.2 p4⟩, by simp only; omega⟩
      rcases p3 x hx with rfl | hx
      · exact ⟨o4, o2, o3⟩
      · exact e3.2 x hx
    · simp only [ss_sl7Draw_0, decide_eq_false hn, cond_false]
      exact .inr ⟨_, rfl, rfl, rfl, e2, e3, e7 (by omega), by simp only; omega⟩
  exact ⟨by rw [z1]; rfl, z2, z3, z4, z5, z6⟩
theorem okOps_small {l : List (Int × ByteArray × ByteArray)} (h1 : l.length ≤ 1048576) (h2 : ∀ o ∈ l, o.2.1.size ≤ 1048576 ∧ o.2.2.size ≤ 1048576) : okOps l = true := by
  simp only [okOps, okL, Bool.and_eq_true, decide_eq_true_eq, List.all_eq_true]
  refine ⟨h1, fun o ho => ?_⟩
  simp only [okOp, okS, Bool.and_eq_true, decide_eq_true_eq]; exact h2 o ho
theorem mem_set_or {α : Type} {l : List α} {i : Nat} {x y : α} (h : y ∈ l.set i x) : y = x ∨ y ∈ l := by
  rcases List.mem_or_eq_of_mem_set h with h | h
  · exact .inr h
  · exact .inl h
theorem sl1Once_spec {b : List Int} {i : Int} (hc : cOk b i) (n : Int) (h : Int) : q_sl1Once n b i h = true ∧ (sl1Once n b i h).2.1 = b ∧ cOk b (sl1Once n b i h).2.2.1 := by
  obtain ⟨a1, a2, a3, a4, a5⟩ := sl1Below_spec hc n h
  exact ⟨a1, a4, a5⟩
theorem sl3KeyAny_spec {b : List Int} {i : Int} (hc : cOk b i) (h : Int) : q_sl3KeyAny b i h = true ∧ (sl3KeyAny b i h).1.size ≤ 20 ∧ (sl3KeyAny b i h).2.1 = b ∧ cOk b (sl3KeyAny b i h).2.2.1 := by
  obtain ⟨a1, a2, a3⟩ := sl1Once_spec hc 6 h
  simp only [q_sl3KeyAny, sl3KeyAny, k1_sl3KeyAny, k2_sl3KeyAny, a1, a2, Bool.true_and]
  generalize sl1Once 6 b i h = r at *
  cases r.1 with
  | true =>
    obtain ⟨c1, c2, c3, c4⟩ := sl1Str_spec a3 r.2.2.2 (l := [(⟨#[]⟩ : ByteArray), (⟨#[65]⟩ : ByteArray), (⟨#[97, 32, 98]⟩ : ByteArray), (⟨#[116, 104, 105, 114, 116, 101, 101, 110, 98, 121, 116, 101, 115]⟩ : ByteArray), (⟨#[116, 119, 101, 108, 118, 101, 98, 121, 116, 101, 115, 49]⟩ : ByteArray)]) (by decide)
    simp only [cond_true]
    refine ⟨c1, ?_, c3, c4⟩
    revert c2
    generalize (sl1Str b r.2.2.1 r.2.2.2 [(⟨#[]⟩ : ByteArray), (⟨#[65]⟩ : ByteArray), (⟨#[97, 32, 98]⟩ : ByteArray), (⟨#[116, 104, 105, 114, 116, 101, 101, 110, 98, 121, 116, 101, 115]⟩ : ByteArray), (⟨#[116, 119, 101, 108, 118, 101, 98, 121, 116, 101, 115, 49]⟩ : ByteArray)]).1 = s
    intro c2
    simp only [List.mem_cons, List.not_mem_nil, or_false] at c2
    rcases c2 with rfl | rfl | rfl | rfl | rfl <;> decide
  | false =>
    obtain ⟨c1, c2, _, c3, c4⟩ := sl3Key_spec a3 r.2.2.2
    simp only [cond_false]
    exact ⟨c1, by omega, c3, c4⟩
/-- Bytes as a text. -/
noncomputable def strB (l : List Int) : ByteArray := ⟨(l.map fun n => UInt8.ofNat n.toNat).toArray⟩
theorem strB_size (l : List Int) : (strB l).size = l.length := by simp [strB, ByteArray.size]
theorem sl7Any_spec {b : List Int} {i : Int} (hc : cOk b i) (h : Int) : q_sl7Any b i h = true ∧ okOps (sl7Any b i h).1 = true ∧ (sl7Any b i h).2.1 = b ∧ cOk b (sl7Any b i h).2.2.1 := by
  obtain ⟨a1, a2, a3, a4, a5, a6⟩ := sl7Draw_spec hc h
  simp only [q_sl7Any, sl7Any, k1_sl7Any, k2_sl7Any, k3_sl7Any, k4_sl7Any, k5_sl7Any, a1, a2, Bool.true_and]
  generalize sl7Draw b i h = r at *
  obtain ⟨b1, b2, b3, b4, b5⟩ := sl1Below_spec a3 10 r.2.2.1
  simp only [b1, b4, Bool.true_and]
  generalize sl1Below 10 b r.2.1 r.2.2.1 = t at *
  have hidx : decide ((0 : Int) ≤ 0 ∧ (0 : Int) < ((r.2.2.2.length : Nat) : Int)) = true := decide_eq_true (by omega)
  have hidx2 : decide ((0 : Int) ≤ 0 ∧ (0 : Int) ≤ 0 ∧ (0 : Int) ≤ ((r.2.2.2.length : Nat) : Int)) = true := decide_eq_true (by omega)
  have hsm : ∀ o ∈ r.2.2.2, o.2.1.size ≤ 1048576 ∧ o.2.2.size ≤ 1048576 := fun o ho => by have := a4.2 o ho; omega
  have h0 := hsm _ (getD_mem (l := r.2.2.2) (i := 0) (by omega) ((0 : Int), ((⟨#[]⟩ : ByteArray), (⟨#[]⟩ : ByteArray))))
  have hset : ∀ o : Int × ByteArray × ByteArray, o.2.1.size ≤ 1048576 → o.2.2.size ≤ 1048576 → okOps (r.2.2.2.set 0 o) = true := fun o h1 h2 => okOps_small (by rw [List.length_set]; omega) fun y hy => by
    rcases mem_set_or hy with rfl | hy
    · exact ⟨h1, h2⟩
    · exact hsm y hy
  cases c0 : (t.1 == 0) with
  | true =>
    obtain ⟨o1, o2, o3, o4, o5, o6⟩ := sl7Op1_spec b5 t.2.2.2
    have m1 : ∀ x : Int × ByteArray × ByteArray, decide ((r.2.2.2.length + [x].length) * 40 ≤ MAXB) = true := fun x => decide_eq_true (by simp only [List.length_singleton, MAXB]; omega)
    simp only [cond_true, o1, m1]
    refine ⟨rfl, okOps_small (by simp; omega) fun y hy => ?_, o5, o6⟩
    rcases List.mem_append.1 hy with hy | hy
    · exact hsm y hy
    · simp at hy; subst hy; exact ⟨by simp only; omega, by simp only; omega⟩
  | false =>
  cases c1 : (t.1 == 1) with
  | true =>
    obtain ⟨d1, d2, d3, d4, d5⟩ := sl1Below_spec b5 5 t.2.2.2
    simp only [cond_true, cond_false, d1, hidx]
    exact ⟨rfl, hset _ h0.1 h0.2, d4, d5⟩
  | false =>
  cases c2 : (t.1 == 2) with
  | true =>
    obtain ⟨d1, d2, d3, d4⟩ := sl3KeyAny_spec b5 t.2.2.2
    simp only [cond_true, cond_false, d1, hidx]
    exact ⟨rfl, hset _ (by simp only; omega) h0.2, d3, d4⟩
  | false =>
  cases c3 : (t.1 == 3) with
  | true =>
    obtain ⟨d1, d2, d3, d4, d5⟩ := sl1Below_spec b5 2 t.2.2.2
    have d3 := d3 (by omega)
    have w : IntKind.wrap .i64 (20 + (sl1Below 2 b t.2.2.1 t.2.2.2).1) = 20 + (sl1Below 2 b t.2.2.1 t.2.2.2).1 := wrap64 (by omega) (by omega)
    simp only [cond_true, cond_false, d1, hidx, w, Bool.true_and, Bool.and_true]
    refine ⟨decide_eq_true ⟨by omega, trivial, by simp only [MAXB]; omega, by omega⟩, hset _ h0.1 ?_, d4, d5⟩
    have : (strB (List.replicate (20 + (sl1Below 2 b t.2.2.1 t.2.2.2).1).toNat (0 : Int))).size ≤ 1048576 := by rw [strB_size, List.length_replicate]; omega
    exact this
  | false =>
  cases c4 : (t.1 == 4) with
  | true =>
    simp only [cond_true, cond_false, hidx2]
    exact ⟨trivial, okOps_small (by simp) fun y hy => by simp at hy, trivial, b5⟩
  | false =>
    simp only [cond_false]
    exact ⟨trivial, okOps_small (by omega) hsm, trivial, b5⟩
theorem sDrawPutOps_spec {b : List Int} (hb : okB b) (hl : b.length ≤ 1048576) : q_sDrawPutOps b = true ∧ okOps (sDrawPutOps b) = true := by
  obtain ⟨a1, a2, a3⟩ := sl1New_spec hb hl
  simp only [q_sDrawPutOps, sDrawPutOps, a1, a2, Bool.true_and]
  obtain ⟨b1, b2, _⟩ := sl7Any_spec a3 (sl1New b).2.2
  exact ⟨b1, b2⟩
theorem drawn_opsOk {l : List (Int × ByteArray × ByteArray)} (h : drawnO l) (h1 : 1 ≤ l.length) (h8 : l.length ≤ 8) : sOpsOk l = true := by
  have e : allF (sOpAt l) (l.length - (0 : Int).toNat) (0 : Int).toNat = true := by
    refine (allF_true _ _).2 fun j _ hj => ?_
    have hj' : j < l.length := by simpa using hj
    simp only [sOpAt, Bool.and_eq_true, (h.2 _ (getD_mem hj' dOp)).1, true_and]
    by_cases h0 : j = 0
    · subst h0; simp
    · have hp := List.pairwise_iff_getElem.1 h.1 (j - 1) j (by omega) hj' (by omega)
      have e2 : l.getD (j - 1) dOp = l[j - 1] := by simp [List.getD_eq_getElem?_getD, show j - 1 < l.length by omega]
      have e3 : l.getD j dOp = l[j] := by simp [List.getD_eq_getElem?_getD, hj']
      rw [e2, e3]
      simp only [Bool.or_eq_true]
      exact .inr hp
  have e1 : decide (((l.length : Nat) : Int) ≥ 1) = true := decide_eq_true (by omega)
  have e2 : decide (((l.length : Nat) : Int) ≤ 8) = true := decide_eq_true (by omega)
  simp only [sOpsOk, e, cond_true, sl1In, e1, e2]
/-- The bytes of ops. -/
noncomputable def opsB (l : List (Int × ByteArray × ByteArray)) : List Int := numB (l.length : Int) ++ (l.map opB).flatten
theorem opsOk_small {l : List (Int × ByteArray × ByteArray)} (h : sOpsOk l = true) : l.length ≤ 8 ∧ ∀ o ∈ l, o.2.1.size ≤ 12 ∧ o.2.2.size ≤ 20 := by
  simp only [sOpsOk] at h
  cases h5 : allF (sOpAt l) (l.length - (0 : Int).toNat) (0 : Int).toNat with
  | false => rw [h5] at h; simp at h
  | true =>
    rw [h5] at h
    simp only [cond_true, sl1In] at h
    constructor
    · cases h6 : decide (((l.length : Nat) : Int) ≥ 1) with
      | false => simp [h6] at h
      | true => rw [h6] at h; simp only [cond_true, decide_eq_true_eq] at h; omega
    · intro o ho
      obtain ⟨i, hi, rfl⟩ := List.getElem_of_mem ho
      have h6 := (allF_true _ _).1 h5 i (Nat.zero_le _) (by simpa using hi)
      simp only [sOpAt, Bool.and_eq_true, List.getD_eq_getElem?_getD, List.getElem?_eq_getElem hi, Option.getD_some] at h6
      have h7 := h6.1
      simp only [sl7Op] at h7
      have hk : ∀ s : ByteArray, sKeyOk s = true → s.size ≤ 12 := by
        intro s hs
        simp only [sKeyOk] at hs
        cases h8 : allF (sKeyAt s) (s.size - (0 : Int).toNat) (0 : Int).toNat with
        | false => rw [h8] at hs; simp at hs
        | true =>
          rw [h8] at hs
          simp only [cond_true, sl1In] at hs
          cases h9 : decide (((s.size : Nat) : Int) ≥ 1) with
          | false => simp [h9] at hs
          | true => rw [h9] at hs; simp only [cond_true, decide_eq_true_eq] at hs; omega
      cases h8 : sKeyOk (l[i]).2.1 with
      | false => exfalso; revert h7; simp only [h8, cond_false]; cases sl1In (l[i]).1 1 3 <;> cases ((l[i]).1 == 2) <;> simp
      | true =>
        refine ⟨hk _ h8, ?_⟩
        revert h7
        simp only [h8, cond_true]
        cases sl1In (l[i]).1 1 3 <;> cases ((l[i]).1 == 2) <;> simp <;> omega
/-- The bytes of a number behind others. -/
noncomputable def hiB (j x : Nat) : List Int := (hiF gNum j (x : Int)).1 ++ [IntKind.wrap .u8 (hiF gNum j (x : Int)).2]
theorem numB_hi (x : Nat) : numB (x : Int) = hiB 4 x := by simp only [numB, hiB, nX_eq]
theorem hiF_stop (j x : Nat) (h : ¬ 127 < x) : hiF gNum j (x : Int) = ([], (x : Int)) := by
  cases j with
  | zero => rfl
  | succ j =>
    have e : decide ((x : Int) > 127) = false := decide_eq_false (by omega)
    simp only [hiF, e, cond_false]
theorem wrapU8 {n : Int} (h1 : 0 ≤ n) (h2 : n < 256) : IntKind.wrap .u8 n = n := by
  show (if (false && decide (n % (2 ^ 8 : Int) ≥ (2 ^ 7 : Int))) = true then n % (2 ^ 8 : Int) - (2 ^ 8 : Int) else n % (2 ^ 8 : Int)) = n
  simp only [Bool.false_and, Bool.false_eq_true, if_false]; omega
theorem hiB_stop (j x : Nat) (h : ¬ 127 < x) : hiB j x = [(x : Int)] := by
  simp only [hiB, hiF_stop j x h, List.nil_append]; rw [wrapU8 (by omega) (by omega)]
theorem fdivN (n : Nat) : Int.fdiv (n : Int) (2 ^ 7) = ((n / 128 : Nat) : Int) := by
  rw [Int.fdiv_eq_ediv_of_nonneg _ (by decide)]; rfl
/-- The high bytes of a number, and what is left. -/
theorem hiF_step (j x : Nat) (h : 127 < x) : hiF gNum (j + 1) (x : Int) = (gNum x :: (hiF gNum j ((x / 128 : Nat) : Int)).1, (hiF gNum j ((x / 128 : Nat) : Int)).2) := by
  have e : decide ((x : Int) > 127) = true := decide_eq_true (by omega)
  simp only [hiF, e, cond_true, fdivN]
theorem iand127 (n : Nat) (h : n < 9223372036854775808) : iand .i64 (n : Int) 127 = ((n % 128 : Nat) : Int) := by
  show IntKind.wrap .i64 (((BitVec.ofInt 64 (n : Int) &&& BitVec.ofInt 64 ((127 : Nat) : Int)).toNat : Nat) : Int) = _
  rw [BitVec.toNat_and, ofInt_nat n (by omega), ofInt_nat 127 (by omega), show (127 : Nat) = 2 ^ 7 - 1 from rfl, Nat.and_two_pow_sub_one_eq_mod]
  exact wrap64 (by omega) (by omega)
theorem iorAdd (n m j : Nat) (hn : n < 2 ^ j) (h : n + m * 2 ^ j < 9223372036854775808) : ior .i64 (n : Int) ((m * 2 ^ j : Nat) : Int) = ((n + m * 2 ^ j : Nat) : Int) := by
  show IntKind.wrap .i64 (((BitVec.ofInt 64 (n : Int) ||| BitVec.ofInt 64 ((m * 2 ^ j : Nat) : Int)).toNat : Nat) : Int) = _
  rw [BitVec.toNat_or, ofInt_nat n (by omega), ofInt_nat _ (by omega), Nat.or_comm, Nat.mul_comm m, ← Nat.two_pow_add_eq_or_of_lt hn, Nat.add_comm]
  rw [Nat.mul_comm m] at h
  exact wrap64 (by omega) (by omega)
theorem gNum_val (n : Nat) (h : n < 9223372036854775808) : gNum (n : Int) = ((128 + n % 128 : Nat) : Int) := by
  simp only [gNum]
  rw [iand127 n h]
  have := iorAdd (n % 128) 1 7 (by omega) (by omega)
  have e : ((1 * 2 ^ 7 : Nat) : Int) = 128 := rfl
  rw [e] at this
  rw [this, wrapU8 (by omega) (by omega)]; omega
theorem hiB_step (j x : Nat) (h : 127 < x) (hx : x < 9223372036854775808) : hiB (j + 1) x = ((128 + x % 128 : Nat) : Int) :: hiB j (x / 128) := by
  simp only [hiB, hiF_step j x h, gNum_val x hx, List.cons_append]
theorem hiB_ok : ∀ (j x : Nat), x < 128 ^ (j + 1) → x < 9223372036854775808 → okB (hiB j x) := by
  intro j
  induction j with
  | zero => intro x h h'; rw [hiB_stop 0 x (by simp at h; omega)]; intro c hc; simp at hc; simp at h; omega
  | succ j ih =>
    intro x h h'
    by_cases hx : 127 < x
    · rw [hiB_step j x hx h']
      rw [Nat.pow_succ] at h
      have hx' : x / 128 < 128 ^ (j + 1) := Nat.div_lt_of_lt_mul (by rw [Nat.mul_comm]; exact h)
      intro c hc
      rcases List.mem_cons.1 hc with rfl | hc
      · omega
      · exact ih (x / 128) hx' (by omega) c hc
    · rw [hiB_stop _ x hx]; intro c hc; simp at hc; omega
theorem numB_ok {x : Int} (h0 : 0 ≤ x) (h1 : x ≤ 1000000000) : okB (numB x) := by
  obtain ⟨n, rfl⟩ := Int.eq_ofNat_of_zero_le h0
  rw [numB_hi]; exact hiB_ok 4 n (by simp; omega) (by omega)
/-- Ops that can be written. -/
noncomputable def fitO (o : Int × ByteArray × ByteArray) : Prop := 0 ≤ o.1 ∧ o.1 ≤ 1000000000 ∧ o.2.1.size ≤ 1000000000 ∧ o.2.2.size ≤ 1000000000
theorem strInts_ok (s : ByteArray) : okB (strInts s) := by
  intro c hc
  simp only [strInts, List.mem_map] at hc
  obtain ⟨x, _, rfl⟩ := hc
  have := x.toNat_lt
  omega
theorem okB.app {a b : List Int} (h : okB a) (h' : okB b) : okB (a ++ b) := fun c hc => (List.mem_append.1 hc).elim (h c) (h' c)
theorem textB_ok {s : ByteArray} (h : s.size ≤ 1000000000) : okB (textB s) := (numB_ok (by omega) (by omega)).app (strInts_ok s)
theorem opB_ok {o : Int × ByteArray × ByteArray} (h : fitO o) : okB (opB o) := by
  obtain ⟨h0, h1, h2, h3⟩ := h
  simp only [opB, clampN_of h0 h1]
  exact (numB_ok h0 h1).app ((textB_ok h2).app (textB_ok h3))
theorem flat_ok : ∀ l : List (Int × ByteArray × ByteArray), (∀ o ∈ l, fitO o) → okB (l.map opB).flatten := by
  intro l
  induction l with
  | nil => intro _ c hc; simp at hc
  | cons o l ih => intro h; simp only [List.map_cons, List.flatten_cons]; exact (opB_ok (h o (by simp))).app (ih fun x hx => h x (by simp [hx]))
theorem opsOk_fit {l : List (Int × ByteArray × ByteArray)} (h : sOpsOk l = true) : ∀ o ∈ l, fitO o := by
  intro o ho
  obtain ⟨_, a2⟩ := opsOk_small h
  have a3 := a2 o ho
  simp only [sOpsOk] at h
  cases h5 : allF (sOpAt l) (l.length - (0 : Int).toNat) (0 : Int).toNat with
  | false => rw [h5] at h; simp at h
  | true =>
    obtain ⟨i, hi, rfl⟩ := List.getElem_of_mem ho
    have h6 := (allF_true _ _).1 h5 i (Nat.zero_le _) (by simpa using hi)
    simp only [sOpAt, Bool.and_eq_true, List.getD_eq_getElem?_getD, List.getElem?_eq_getElem hi, Option.getD_some] at h6
    have h7 := h6.1
    simp only [sl7Op, sl1In] at h7
    cases h8 : decide ((l[i]).1 ≥ 1) with
    | false => simp [h8] at h7
    | true =>
      cases h9 : decide ((l[i]).1 ≤ 3) with
      | false => simp [h8, h9] at h7
      | true =>
        have := of_decide_eq_true h8
        have := of_decide_eq_true h9
        exact ⟨by omega, by omega, by omega, by omega⟩
theorem opsB_ok {l : List (Int × ByteArray × ByteArray)} (h : sOpsOk l = true) : okB (opsB l) := by
  obtain ⟨a1, _⟩ := opsOk_small h
  exact (numB_ok (by omega) (by omega)).app (flat_ok l (opsOk_fit h))
theorem opsB_len {l : List (Int × ByteArray × ByteArray)} (h : sOpsOk l = true) : (opsB l).length ≤ 400 := by
  obtain ⟨a1, a2⟩ := opsOk_small h
  have h5 := flat_len (M := 47) l (fun o ho' => by have := a2 o ho'; have := opB_len o; omega)
  have h6 := numB_len (l.length : Int)
  simp only [opsB, List.length_append]; omega
theorem opsOk_okOps {l : List (Int × ByteArray × ByteArray)} (h : sOpsOk l = true) : okOps l = true := by
  obtain ⟨a1, a2⟩ := opsOk_small h
  simp only [okOps, okL, Bool.and_eq_true, decide_eq_true_eq, List.all_eq_true]
  refine ⟨by omega, fun o ho => ?_⟩
  have := a2 o ho
  simp only [okOp, okS, Bool.and_eq_true, decide_eq_true_eq]; omega
theorem sPutOps_eq2 {l : List (Int × ByteArray × ByteArray)} (ho : sOpsOk l = true) : sPutOps l = opsB l := by
  have hl := (opsOk_small ho).1
  rw [sPutOps_eq l (opsOk_okOps ho), ho, clampN_of (by omega) (by omega)]; rfl
theorem wrapU8_range (x : Int) : 0 ≤ IntKind.wrap .u8 x ∧ IntKind.wrap .u8 x ≤ 255 := by
  have e : IntKind.wrap .u8 x = (if (false && decide (x % (2 ^ 8 : Int) ≥ (2 ^ 7 : Int))) = true then x % (2 ^ 8 : Int) - (2 ^ 8 : Int) else x % (2 ^ 8 : Int)) := rfl
  rw [e]
  simp only [Bool.false_and, Bool.false_eq_true, if_false]; omega
theorem okB_set {b : List Int} (h : okB b) (i : Nat) {x : Int} (h0 : 0 ≤ x) (h1 : x ≤ 255) : okB (b.set i x) := by
  intro c hc
  rcases List.mem_or_eq_of_mem_set hc with hc | rfl
  · exact h c hc
  · exact ⟨h0, h1⟩
theorem okB.drop {b : List Int} (h : okB b) (i : Nat) : okB (b.drop i) := fun c hc => h c (List.mem_of_mem_drop hc)
theorem okB.take {b : List Int} (h : okB b) (i : Nat) : okB (b.take i) := fun c hc => h c (List.mem_of_mem_take hc)
theorem sDrawGetOps_spec {b : List Int} (hb : okB b) (hl : b.length ≤ 1048576) : q_sDrawGetOps b = true ∧ okB (sDrawGetOps b) ∧ (sDrawGetOps b).length ≤ 1000 := by
  obtain ⟨a1, a2, a3⟩ := sl1New_spec hb hl
  simp only [q_sDrawGetOps, sDrawGetOps, k1_sDrawGetOps, k2_sDrawGetOps, k3_sDrawGetOps, a1, a2, Bool.true_and]
  generalize sl1New b = n at *
  obtain ⟨b1, b2, b3, b4, b5, b6⟩ := sl7Draw_spec a3 n.2.2
  have ho := drawn_opsOk b4 b5 (by omega)
  have w1 := opsB_ok ho
  have w2 := opsB_len ho
  simp only [b1, b2, q_sPutOps, opsOk_okOps ho, Bool.true_and, sPutOps_eq2 ho]
  generalize hw : opsB (sl7Draw b n.2.1 n.2.2).2.2.2 = W at *
  have hpos : 1 ≤ W.length := by
    rw [← hw]; simp only [opsB, List.length_append]
    have : 1 ≤ (numB ((sl7Draw b n.2.1 n.2.2).2.2.2.length : Int)).length := by simp [numB]
    omega
  generalize sl7Draw b n.2.1 n.2.2 = r at *
  obtain ⟨c1, c2, c3, c4, c5⟩ := sl1Below_spec b3 5 r.2.2.1
  simp only [c1, c4, Bool.true_and]
  generalize sl1Below 5 b r.2.1 r.2.2.1 = t at *
  obtain ⟨d1, d2, d3, d4, d5⟩ := sl1Below_spec c5 (W.length : Int) t.2.2.2
  have d3 := d3 (by omega)
  simp only [d1, d4, Bool.true_and]
  generalize sl1Below ((W.length : Nat) : Int) b t.2.2.1 t.2.2.2 = u at *
  obtain ⟨e1, _⟩ := sl1Int_spec d5 u.2.2.2 (l := [(0 : Int), (1 : Int), (2 : Int), (97 : Int), (128 : Int)]) (by decide)
  have hi : decide (0 ≤ u.1 ∧ u.1 < ((W.length : Nat) : Int)) = true := decide_eq_true ⟨d2, d3⟩
  have hi2 : decide ((0 : Int) ≤ 0 ∧ (0 : Int) ≤ u.1 ∧ u.1 ≤ ((W.length : Nat) : Int)) = true := decide_eq_true (by omega)
  have hr := wrapU8_range
  simp only [e1, hi, hi2, Bool.and_self]
  cases (t.1 == 0) with
  | true =>
    simp only [cond_true]
    exact ⟨trivial, okB_set w1 _ (hr _).1 (hr _).2, by rw [List.length_set]; omega⟩
  | false =>
    cases (t.1 == 1) with
    | true =>
      simp only [cond_true, cond_false]
      exact ⟨trivial, (w1.drop _).take _, by rw [List.length_take, List.length_drop]; omega⟩
    | false =>
      simp only [cond_false]
      exact ⟨trivial, w1, by omega⟩
/-- A number out of bytes: its value and how many bytes it takes. -/
noncomputable def pN : Nat → Nat → Nat → List Int → Option (Nat × Nat)
  | 0, _, _, _ => none
  | _ + 1, _, _, [] => none
  | f + 1, k, n, c :: r =>
    if c > 127 then pN f (k + 1) (n + c.toNat % 128 * 2 ^ (7 * k)) r
    else if (0 < k ∧ c = 0) ∨ n + c.toNat * 2 ^ (7 * k) > 1000000000 then none else some (n + c.toNat * 2 ^ (7 * k), k + 1)
/-- A number at a place: its value, the place behind, whether there is one. -/
noncomputable def gN (b : List Int) (at' : Int) : Int × Int × Bool :=
  if 0 ≤ at' ∧ at' < b.length then (match pN 5 0 0 (b.drop at'.toNat) with
    | some (n, l) => ((n : Int), at' + l, true)
    | none => (0, 0, false)) else (0, 0, false)
/-- A text at a place. -/
noncomputable def gT (b : List Int) (a : Int) : ByteArray × Int × Bool :=
  if (gN b a).2.2 = true ∧ (gN b a).1 ≤ (b.length : Int) - (gN b a).2.1 then (strB ((b.drop (gN b a).2.1.toNat).take (gN b a).1.toNat), (gN b a).2.1 + (gN b a).1, true) else (⟨#[]⟩, 0, false)
/-- An op at a place. -/
noncomputable def gO (b : List Int) (p : Int) : (Int × ByteArray × ByteArray) × Int × Bool :=
  (((gN b p).1, (gT b (gN b p).2.1).1, (gT b (gT b (gN b p).2.1).2.1).1), (gT b (gT b (gN b p).2.1).2.1).2.1, (gN b p).2.2 && ((gT b (gN b p).2.1).2.2 && (gT b (gT b (gN b p).2.1).2.1).2.2))
/-- So many ops, one behind the other. -/
noncomputable def pO : Nat → List Int → Int → List (Int × ByteArray × ByteArray) → Option (List (Int × ByteArray × ByteArray) × Int)
  | 0, _, p, acc => some (acc, p)
  | k + 1, b, p, acc => cond (gO b p).2.2 (pO k b (gO b p).2.1 (acc ++ [(gO b p).1])) none
/-- Ops out of all bytes. -/
noncomputable def gOps (b : List Int) : List (Int × ByteArray × ByteArray) × Bool :=
  if (gN b 0).2.2 = true ∧ (gN b 0).1 ≤ 8 then (match pO (gN b 0).1.toNat b (gN b 0).2.1 [] with
    | some (l, q) => if q = (b.length : Int) ∧ sOpsOk l = true then (l, true) else ([], false)
    | none => ([], false)) else ([], false)
theorem wrapU64 {n : Int} (h1 : 0 ≤ n) (h2 : n < 18446744073709551616) : IntKind.wrap .u64 n = n := by
  show (if (false && decide (n % (2 ^ 64 : Int) ≥ (2 ^ 63 : Int))) = true then n % (2 ^ 64 : Int) - (2 ^ 64 : Int) else n % (2 ^ 64 : Int)) = n
  simp only [Bool.false_and, Bool.false_eq_true, if_false]; omega
theorem drop_cons {b : List Int} {i : Nat} (h : i < b.length) : b.drop i = b.getD i 0 :: b.drop (i + 1) := by
  rw [List.drop_eq_getElem_cons h]; simp [List.getD_eq_getElem?_getD, h]
theorem shl7 (c k : Nat) (hc : c ≤ 255) (hk : k < 5) : IntKind.wrap .i64 ((iand .i64 (IntKind.wrap .i64 (c : Int)) (127 : Int)) * 2 ^ (min (Int.toNat (IntKind.wrap .u64 (IntKind.wrap .i64 ((7 : Int) * (k : Int))))) (IntKind.bits .i64))) = ((c % 128 * 2 ^ (7 * k) : Nat) : Int) := by
  rw [wrap64 (n := (c : Int)) (by omega) (by omega), iand127 c (by omega), wrap64 (n := (7 : Int) * (k : Int)) (by omega) (by omega), wrapU64 (by omega) (by omega)]
  have e : Int.toNat ((7 : Int) * (k : Int)) = 7 * k := by omega
  have e2 : min (7 * k) (IntKind.bits .i64) = 7 * k := Nat.min_eq_left (by show 7 * k ≤ 64; omega)
  rw [e, e2]
  have h1 : c % 128 * 2 ^ (7 * k) ≤ 128 * 2 ^ 28 := Nat.mul_le_mul (by omega) (Nat.pow_le_pow_right (by decide) (by omega))
  have h2 : (128 : Nat) * 2 ^ 28 = 34359738368 := by decide
  have e3 : ((c % 128 : Nat) : Int) * 2 ^ (7 * k) = ((c % 128 * 2 ^ (7 * k) : Nat) : Int) := by simp
  rw [e3]
  exact wrap64 (by omega) (by omega)
theorem acc7 (n c k : Nat) (hc : c ≤ 255) (hk : k < 5) (hn : n < 2 ^ (7 * k)) : ior .i64 (n : Int) (IntKind.wrap .i64 ((iand .i64 (IntKind.wrap .i64 (c : Int)) (127 : Int)) * 2 ^ (min (Int.toNat (IntKind.wrap .u64 (IntKind.wrap .i64 ((7 : Int) * (k : Int))))) (IntKind.bits .i64)))) = ((n + c % 128 * 2 ^ (7 * k) : Nat) : Int) ∧ n + c % 128 * 2 ^ (7 * k) < 2 ^ (7 * (k + 1)) ∧ n + c % 128 * 2 ^ (7 * k) < 9223372036854775808 := by
  have h3 : n + c % 128 * 2 ^ (7 * k) < 2 ^ (7 * (k + 1)) := by
    rw [show 7 * (k + 1) = 7 * k + 7 by omega, Nat.pow_add, show (2 : Nat) ^ 7 = 128 from rfl]
    have : c % 128 * 2 ^ (7 * k) ≤ 127 * 2 ^ (7 * k) := Nat.mul_le_mul_right _ (by omega)
    omega
  have h4 : (2 : Nat) ^ (7 * (k + 1)) ≤ 2 ^ 35 := Nat.pow_le_pow_right (by decide) (by omega)
  have h5 : (2 : Nat) ^ 35 = 34359738368 := by decide
  refine ⟨?_, h3, by omega⟩
  rw [shl7 c k hc hk]
  exact iorAdd n (c % 128) (7 * k) hn (by omega)
theorem okB.getD {b : List Int} (h : okB b) (i : Nat) : 0 ≤ b.getD i 0 ∧ b.getD i 0 ≤ 255 := by
  rw [List.getD_eq_getElem?_getD]
  cases e : b[i]? with
  | none => simp
  | some c => exact h c (List.mem_of_getElem? e)
theorem sGetNum_it {b : List Int} (hb : okB b) (hl : b.length ≤ 1099511627776) {i : Nat} (hi : i < b.length) :
    (match pN 5 0 0 (b.drop i) with
      | some (n, l) => it_sGetNum_0 b (i : Int) 0 0 = (0, (n : Int), (i : Int) + l, true)
      | none => it_sGetNum_0 b (i : Int) 0 0 = (0, 0, 0, false) ∨ (it_sGetNum_0 b (i : Int) 0 0).1 = 1) := by
  refine itX_inv (fun v => ∃ k n : Nat, v = (b, (i : Int), (n : Int), (k : Int)) ∧ k ≤ 5 ∧ n < 2 ^ (7 * k) ∧ pN (5 - k) k n (b.drop (i + k)) = pN 5 0 0 (b.drop i)) (fun a => match pN 5 0 0 (b.drop i) with
      | some (n, l) => a = (0, (n : Int), (i : Int) + l, true)
      | none => a = (0, 0, 0, false) ∨ a.1 = 1) (fun v => 5 - v.2.2.2.toNat) ?_ ⟨0, 0, rfl, by omega, by simp, rfl⟩ (by simp)
  rintro v ⟨k, n, rfl, hk, hn, hp⟩
  by_cases h5 : k < 5
  · have e1 : decide ((k : Int) < 5) = true := decide_eq_true (by omega)
    have e2 : decide ((i : Int) ≥ 0) = true := decide_eq_true (by omega)
    have e3 : decide ((i : Int) < ((b.length : Nat) : Int)) = true := decide_eq_true (by omega)
    have e4 : IntKind.wrap .i64 ((i : Int) + (k : Int)) = ((i + k : Nat) : Int) := by rw [wrap64 (by omega) (by omega)]; omega
    by_cases hik : i + k < b.length
    · have e5 : decide (((i + k : Nat) : Int) < ((b.length : Nat) : Int)) = true := decide_eq_true (by omega)
      have e6 : decide (0 ≤ ((i + k : Nat) : Int) ∧ ((i + k : Nat) : Int) < ((b.length : Nat) : Int)) = true := decide_eq_true (by omega)
      have e7 : decide (0 ≤ (IntKind.wrap .u64 (IntKind.wrap .i64 ((7 : Int) * (k : Int))))) = true := by
        rw [wrap64 (n := (7 : Int) * (k : Int)) (by omega) (by omega), wrapU64 (by omega) (by omega)]; exact decide_eq_true (by omega)
      obtain ⟨hc0, hc1⟩ := hb.getD (i + k)
      have hdc := drop_cons hik
      obtain ⟨c, hc⟩ := Int.eq_ofNat_of_zero_le hc0
      rw [hc] at hc1 hdc
      have hc255 : c ≤ 255 := by omega
      obtain ⟨f1, f2, f3⟩ := acc7 n c k hc255 h5 hn
      have e8 : IntKind.wrap .i64 (c : Int) = (c : Int) := wrap64 (by omega) (by omega)
      rw [hdc, show 5 - k = (4 - k) + 1 by omega, pN] at hp
      simp only [Int.toNat_natCast] at hp
      simp only [ss_sGetNum_0, e1, e2, e3, e4, e5, e6, e7, cond_true, Int.toNat_natCast, hc, f1]
      simp only [e8]
      by_cases h127 : c > 127
      · rw [if_pos (by omega)] at hp
        have e9 : decide ((c : Int) > 127) = true := decide_eq_true (by omega)
        simp only [e9, cond_true]
        refine .inl ⟨_, rfl, ⟨k + 1, n + c % 128 * 2 ^ (7 * k), ?_, by omega, f2, ?_⟩, ?_⟩
        · rw [wrapU k (by omega)]
        · rw [show 5 - (k + 1) = 4 - k by omega, ← hp]; rfl
        · rw [wrapU k (by omega)]; simp; omega
      · rw [if_neg (by omega)] at hp
        have e9 : decide ((c : Int) > 127) = false := decide_eq_false (by omega)
        have hcm : c % 128 = c := by omega
        rw [hcm] at f3 ⊢
        simp only [e9, cond_false]
        right
        by_cases hz : 0 < k ∧ c = 0
        · rw [if_pos (by omega)] at hp
          have e10 : decide ((k : Int) > 0) = true := decide_eq_true (by omega)
          have e11 : ((c : Int) == 0) = true := by rw [beq_iff_eq]; omega
          simp only [e10, e11, cond_true]
          exact ⟨_, rfl, by rw [← hp]; exact .inl rfl⟩
        · by_cases hg : n + c * 2 ^ (7 * k) > 1000000000
          · rw [if_pos (.inr hg)] at hp
            have e12 : decide (((n + c * 2 ^ (7 * k) : Nat) : Int) > 1000000000) = true := decide_eq_true (by omega)
            simp only [e12, cond_true]
            refine ⟨(0, 0, 0, false), ?_, by rw [← hp]; exact .inl rfl⟩
            cases decide ((k : Int) > 0) <;> cases ((c : Int) == 0) <;> rfl
          · rw [if_neg (fun h => h.elim (fun h => hz ⟨h.1, by omega⟩) hg)] at hp
            have e12 : decide (((n + c * 2 ^ (7 * k) : Nat) : Int) > 1000000000) = false := decide_eq_false (by omega)
            have e13 : IntKind.wrap .i64 (((i + k : Nat) : Int) + 1) = ((i + k + 1 : Nat) : Int) := wrapU (i + k) (by omega)
            simp only [e12, cond_false, e13]
            refine ⟨(0, ((n + c * 2 ^ (7 * k) : Nat) : Int), ((i + k + 1 : Nat) : Int), true), ?_, ?_⟩
            · by_cases h0 : 0 < k
              · have e10 : decide ((k : Int) > 0) = true := decide_eq_true (by omega)
                have e11 : ((c : Int) == 0) = false := by rw [beq_eq_false_iff_ne]; intro h; exact hz ⟨h0, by omega⟩
                simp only [e10, e11, cond_true, cond_false]
              · have e10 : decide ((k : Int) > 0) = false := decide_eq_false (by omega)
                simp only [e10, cond_false]
            · rw [← hp]; show _ = _
              congr 3
    · have e5 : decide (((i + k : Nat) : Int) < ((b.length : Nat) : Int)) = false := decide_eq_false (by omega)
      rw [show 5 - k = (4 - k) + 1 by omega, List.drop_eq_nil_of_le (by omega), pN] at hp
      simp only [ss_sGetNum_0, e1, e2, e3, e4, e5, cond_true, cond_false]
      exact .inr ⟨_, rfl, by rw [← hp]; exact .inr rfl⟩
  · obtain rfl : k = 5 := by omega
    have e1 : decide (((5 : Nat) : Int) < 5) = false := by decide
    simp only [ss_sGetNum_0, e1, cond_false]
    exact .inr ⟨_, rfl, by rw [← hp]; exact .inr rfl⟩
theorem sGetNum_spec {b : List Int} (hb : okB b) (hl : b.length ≤ 1099511627776) (a : Int) : sGetNum b a = gN b a ∧ q_sGetNum b a = true := by
  simp only [sGetNum, q_sGetNum, gN]
  by_cases h : 0 ≤ a ∧ a < b.length
  · obtain ⟨i, rfl⟩ := Int.eq_ofNat_of_zero_le h.1
    have hi : i < b.length := by omega
    rw [if_pos h, Int.toNat_natCast]
    have := sGetNum_it hb hl hi
    cases hp : pN 5 0 0 (b.drop i) with
    | some x =>
      rw [hp] at this
      simp only at this
      rw [this]; exact ⟨rfl, rfl⟩
    | none =>
      rw [hp] at this
      rcases this with h1 | h1
      · rw [h1]; exact ⟨rfl, rfl⟩
      · rw [h1]; exact ⟨rfl, rfl⟩
  · rw [if_neg h]
    have : (it_sGetNum_0 b a 0 0).1 = 1 := by
      refine itX_inv (fun v : V_sGetNum_0 => v.1 = b ∧ v.2.1 = a) (fun r : A_sGetNum_0 => r.1 = 1) (fun _ => 0) (fun v hv => ?_) ⟨rfl, rfl⟩ (by simp)
      obtain ⟨x, y, n, k⟩ := v
      obtain ⟨rfl, rfl⟩ := hv
      right
      simp only [ss_sGetNum_0]
      cases decide (k < 5) with
      | false => exact ⟨_, rfl, rfl⟩
      | true =>
        by_cases h1 : y ≥ 0
        · have e2 : decide (y < ((x.length : Nat) : Int)) = false := decide_eq_false (fun h2 => h ⟨h1, h2⟩)
          simp only [decide_eq_true h1, e2, cond_true, cond_false]
          exact ⟨_, rfl, rfl⟩
        · simp only [decide_eq_false h1, cond_true, cond_false]
          exact ⟨_, rfl, rfl⟩
    rw [this]; exact ⟨rfl, rfl⟩
theorem pN_inv : ∀ (j k n : Nat) (l : List Int) (m len : Nat), okB l → k + j ≤ 4 → pN (j + 1) k n l = some (m, len) →
    ∃ (x : Nat) (post : List Int), l = hiB j x ++ post ∧ m = n + x * 2 ^ (7 * k) ∧ len = k + (hiB j x).length ∧ (0 < k → 0 < x) ∧ x < 128 ^ (j + 1) ∧ m ≤ 1000000000 := by
  intro j
  induction j with
  | zero =>
    intro k n l m len hb hk h
    cases l with
    | nil => simp [pN] at h
    | cons c r =>
      obtain ⟨hc, _⟩ := hb c (by simp)
      obtain ⟨x, rfl⟩ := Int.eq_ofNat_of_zero_le hc
      simp only [pN, Int.toNat_natCast] at h
      split at h
      · cases h
      · split at h
        · cases h
        · simp only [Option.some.injEq, Prod.mk.injEq] at h
          obtain ⟨rfl, rfl⟩ := h
          exact ⟨x, r, by rw [hiB_stop 0 x (by omega)]; rfl, rfl, by rw [hiB_stop 0 x (by omega)]; rfl, by omega, by simp; omega, by omega⟩
  | succ j ih =>
    intro k n l m len hb hk h
    cases l with
    | nil => simp [pN] at h
    | cons c r =>
      obtain ⟨hc, hc'⟩ := hb c (by simp)
      obtain ⟨y, rfl⟩ := Int.eq_ofNat_of_zero_le hc
      rw [pN] at h
      simp only [Int.toNat_natCast] at h
      split at h
      · rename_i hgt
        obtain ⟨x, post, e1, e2, e3, e4, e5, e6⟩ := ih (k + 1) (n + y % 128 * 2 ^ (7 * k)) r m len (fun c hc => hb c (by simp [hc])) (by omega) h
        have hx0 := e4 (by omega)
        have hxb : y % 128 + 128 * x < 128 ^ (j + 1 + 1) := by rw [Nat.pow_succ]; omega
        have hxs : y % 128 + 128 * x < 9223372036854775808 := by
          have : (128 : Nat) ^ (j + 1 + 1) ≤ 128 ^ 5 := Nat.pow_le_pow_right (by decide) (by omega)
          have h5 : (128 : Nat) ^ 5 = 34359738368 := by decide
          omega
        have hst := hiB_step j (y % 128 + 128 * x) (by omega) hxs
        have q1 : (y % 128 + 128 * x) / 128 = x := by omega
        have q2 : 128 + (y % 128 + 128 * x) % 128 = y := by omega
        rw [q1, q2] at hst
        refine ⟨y % 128 + 128 * x, post, by rw [hst, e1]; rfl, ?_, by rw [hst, e3]; simp; omega, fun _ => by omega, hxb, e6⟩
        rw [e2, show 7 * (k + 1) = 7 * k + 7 by omega, Nat.pow_add, show (2 : Nat) ^ 7 = 128 from rfl, Nat.add_mul, Nat.mul_comm (2 ^ (7 * k)) 128, ← Nat.mul_assoc, Nat.mul_comm x 128]
        omega
      · rename_i hgt
        split at h
        · cases h
        · simp only [Option.some.injEq, Prod.mk.injEq] at h
          obtain ⟨rfl, rfl⟩ := h
          refine ⟨y, r, by rw [hiB_stop _ y (by omega)]; rfl, rfl, by rw [hiB_stop _ y (by omega)]; rfl, by omega, ?_, by omega⟩
          have : (128 : Nat) ^ 1 ≤ 128 ^ (j + 1 + 1) := Nat.pow_le_pow_right (by decide) (by omega)
          omega
theorem pN_of {l : List Int} (hb : okB l) {m len : Nat} (h : pN 5 0 0 l = some (m, len)) : ∃ post, l = numB (m : Int) ++ post ∧ len = (numB (m : Int)).length ∧ m ≤ 1000000000 := by
  obtain ⟨x, post, e1, e2, e3, e4, e5, e6⟩ := pN_inv 4 0 0 l m len hb (by omega) h
  have : x = m := by simp at e2; omega
  subst this
  exact ⟨post, by rw [numB_hi]; exact e1, by rw [numB_hi]; omega, e6⟩
theorem gN_of {b : List Int} (hb : okB b) {a n p : Int} (h : gN b a = (n, p, true)) : ∃ pre post, b = pre ++ (numB n ++ post) ∧ a = pre.length ∧ p = a + (numB n).length ∧ 0 ≤ n ∧ n ≤ 1000000000 := by
  simp only [gN] at h
  split at h
  · rename_i hc
    split at h
    · rename_i m l hp
      simp only [Prod.mk.injEq] at h
      obtain ⟨rfl, rfl, _⟩ := h
      obtain ⟨post, e1, e2, e3⟩ := pN_of (hb.drop _) hp
      refine ⟨b.take a.toNat, post, ?_, by rw [List.length_take]; omega, by rw [e2], by omega, by omega⟩
      rw [← e1, List.take_append_drop]
    · cases h
  · cases h
theorem gN_range {b : List Int} (hb : okB b) {a : Int} (h : (gN b a).2.2 = true) : 0 ≤ a ∧ a < (gN b a).2.1 ∧ (gN b a).2.1 ≤ b.length ∧ 0 ≤ (gN b a).1 ∧ (gN b a).1 ≤ 1000000000 := by
  obtain ⟨pre, post, e1, e2, e3, e4, e5⟩ := gN_of hb (a := a) (n := (gN b a).1) (p := (gN b a).2.1) (by rw [← h])
  have hlen := congrArg List.length e1
  simp only [List.length_append] at hlen
  have : 1 ≤ (numB (gN b a).1).length := by simp [numB]
  omega
/-- The two ways a text is read. -/
theorem gT_eq {b : List Int} (hb : okB b) (hl : b.length ≤ 1099511627776) (a : Int) :
    gT b a = (cond (!((gN b a).2.2)) ((⟨#[]⟩ : ByteArray), (0 : Int), false) (cond (decide (((gN b a).1) > (IntKind.wrap .i64 (((b.length : Nat) : Int) - ((gN b a).2.1))))) ((⟨#[]⟩ : ByteArray), (0 : Int), false) ((⟨(((b.take (IntKind.wrap .i64 (((gN b a).2.1) + ((gN b a).1))).toNat).drop ((gN b a).2.1).toNat).map fun n => UInt8.ofNat n.toNat).toArray⟩ : ByteArray), IntKind.wrap .i64 (((gN b a).2.1) + ((gN b a).1)), true))) ∧
    (cond (!((gN b a).2.2)) true (cond (decide (((gN b a).1) > (IntKind.wrap .i64 (((b.length : Nat) : Int) - ((gN b a).2.1))))) true (decide (0 ≤ ((gN b a).2.1) ∧ ((gN b a).2.1) ≤ (IntKind.wrap .i64 (((gN b a).2.1) + ((gN b a).1))) ∧ (IntKind.wrap .i64 (((gN b a).2.1) + ((gN b a).1))) ≤ ((b.length : Nat) : Int))))) = true := by
  cases h : (gN b a).2.2 with
  | false => simp only [gT, h, Bool.not_false, cond_true]; exact ⟨by rw [if_neg (by simp)], trivial⟩
  | true =>
    obtain ⟨r1, r2, r3, r4, r5⟩ := gN_range hb h
    have w1 : IntKind.wrap .i64 (((b.length : Nat) : Int) - ((gN b a).2.1)) = ((b.length : Nat) : Int) - (gN b a).2.1 := wrap64 (by omega) (by omega)
    have w2 : IntKind.wrap .i64 (((gN b a).2.1) + ((gN b a).1)) = (gN b a).2.1 + (gN b a).1 := wrap64 (by omega) (by omega)
    simp only [gT, h, Bool.not_true, cond_false, w1, w2]
    by_cases hc : (gN b a).1 ≤ (b.length : Int) - (gN b a).2.1
    · rw [if_pos ⟨trivial, hc⟩, decide_eq_false (by omega), cond_false, cond_false]
      refine ⟨?_, decide_eq_true (by omega)⟩
      simp only [strB]
      congr 4
      have : ((gN b a).2.1 + (gN b a).1).toNat = (gN b a).2.1.toNat + (gN b a).1.toNat := by omega
      rw [this, List.take_drop]
    · rw [if_neg (fun h => hc h.2), decide_eq_true (by omega), cond_true, cond_true]
      exact ⟨rfl, rfl⟩
theorem sGetText_spec {b : List Int} (hb : okB b) (hl : b.length ≤ 1099511627776) (a : Int) : sGetText b a = gT b a ∧ q_sGetText b a = true := by
  obtain ⟨h1, h2⟩ := sGetNum_spec hb hl a
  obtain ⟨h3, h4⟩ := gT_eq hb hl a
  rw [h3]
  simp only [sGetText, q_sGetText, h1, h2, Bool.true_and]
  exact ⟨trivial, h4⟩
theorem gT_size {b : List Int} (hb : okB b) (a : Int) : (gT b a).1.size ≤ b.length := by
  simp only [gT]
  split
  · rw [strB_size, List.length_take, List.length_drop]; omega
  · exact Nat.zero_le _
theorem gO_texts {b : List Int} (hb : okB b) (p : Int) : (gO b p).1.2.1.size ≤ b.length ∧ (gO b p).1.2.2.size ≤ b.length := ⟨gT_size hb _, gT_size hb _⟩
theorem sGetOps_it {b : List Int} (hb : okB b) (hl : b.length ≤ 1048576) (n p : Int) (hn : n ≤ 8) (h0 : 0 ≤ n) :
    (match pO n.toNat b p [] with
      | some (l, q) => it_sGetOps_0 b n p 0 [] [] = (1, false, [], b, q, l) ∧ okOps l = true
      | none => it_sGetOps_0 b n p 0 [] [] = (0, false, [], [], 0, [])) := by
  refine itX_inv (fun v : V_sGetOps_0 => ∃ (i : Nat) (p' : Int) (l : List (Int × ByteArray × ByteArray)), v = (b, n, p', (i : Int), [], l) ∧ (i : Int) ≤ n ∧ l.length = i ∧ okOps l = true ∧ pO (n.toNat - i) b p' l = pO n.toNat b p []) (fun a => match pO n.toNat b p [] with
      | some (l, q) => a = (1, false, [], b, q, l) ∧ okOps l = true
      | none => a = (0, false, [], [], 0, [])) (fun v => 8 - v.2.2.2.1.toNat) ?_ ⟨0, p, [], rfl, h0, rfl, rfl, rfl⟩ (by simp)
  rintro v ⟨i, p', l, rfl, hi, hll, hok, hp⟩
  by_cases h5 : (i : Int) < n
  · have e1 : decide ((i : Int) < n) = true := decide_eq_true h5
    obtain ⟨s1, s2⟩ := sGetNum_spec hb (by omega) p'
    obtain ⟨t1, t2⟩ := sGetText_spec hb (by omega) (gN b p').2.1
    obtain ⟨u1, u2⟩ := sGetText_spec hb (by omega) (gT b (gN b p').2.1).2.1
    have e2 : ∀ o : Int × ByteArray × ByteArray, decide ((l.length + [o].length) * 40 ≤ MAXB) = true := fun o => decide_eq_true (by simp only [List.length_singleton, MAXB]; omega)
    rw [show n.toNat - i = (n.toNat - (i + 1)) + 1 by omega, pO] at hp
    simp only [ss_sGetOps_0, e1, s1, s2, t1, t2, u1, u2, e2, cond_true]
    cases hc : (gO b p').2.2 with
    | true =>
      rw [hc, cond_true] at hp
      have hc' := hc
      simp only [gO, Bool.and_eq_true] at hc'
      simp only [hc'.1, hc'.2.1, hc'.2.2, Bool.not_true, cond_false]
      refine .inl ⟨_, rfl, ⟨i + 1, (gO b p').2.1, l ++ [(gO b p').1], ?_, by omega, by simp [hll], ?_, hp⟩, ?_⟩
      · rw [wrapU i (by omega)]; rfl
      · obtain ⟨x1, x2⟩ := gO_texts hb p'
        simp only [okOps, okL, List.length_append, List.length_singleton, List.all_append, List.all_cons, List.all_nil, Bool.and_true, Bool.and_eq_true, decide_eq_true_eq] at hok ⊢
        exact ⟨by omega, hok.2, by simp only [okOp, okS, Bool.and_eq_true, decide_eq_true_eq]; omega⟩
      · rw [wrapU i (by omega)]; simp; omega
    | false =>
      rw [hc, cond_false] at hp
      right
      rw [← hp]
      simp only [gO] at hc
      cases h1 : (gN b p').2.2 with
      | false => exact ⟨_, rfl, rfl⟩
      | true => cases h2 : (gT b (gN b p').2.1).2.2 with
        | false => exact ⟨_, rfl, rfl⟩
        | true => cases h3 : (gT b (gT b (gN b p').2.1).2.1).2.2 with
          | false => exact ⟨_, rfl, rfl⟩
          | true => rw [h1, h2, h3] at hc; cases hc
  · have e1 : decide ((i : Int) < n) = false := decide_eq_false h5
    have : n.toNat - i = 0 := by omega
    rw [this, pO] at hp
    simp only [ss_sGetOps_0, e1, cond_false]
    exact .inr ⟨_, rfl, by rw [← hp]; exact ⟨rfl, hok⟩⟩
theorem sGetOps_spec {b : List Int} (hb : okB b) (hl : b.length ≤ 1048576) : sGetOps b = gOps b ∧ q_sGetOps b = true := by
  obtain ⟨s1, s2⟩ := sGetNum_spec hb (by omega) 0
  simp only [sGetOps, q_sGetOps, gOps, s1, s2, Bool.true_and, k1_sGetOps]
  cases h : (gN b 0).2.2 with
  | false => simp
  | true =>
    obtain ⟨r1, r2, r3, r4, r5⟩ := gN_range hb h
    by_cases h8 : (gN b 0).1 ≤ 8
    · have e1 : decide ((gN b 0).1 > 8) = false := decide_eq_false (by omega)
      have := sGetOps_it hb hl (gN b 0).1 (gN b 0).2.1 h8 r4
      rw [if_pos ⟨rfl, h8⟩]
      simp only [Bool.not_true, cond_false, e1]
      cases hp : pO (gN b 0).1.toNat b (gN b 0).2.1 [] with
      | none => rw [hp] at this; simp only at this; rw [this]; exact ⟨rfl, rfl⟩
      | some x =>
        obtain ⟨l, q⟩ := x
        rw [hp] at this
        obtain ⟨this, hok⟩ := this
        rw [this]
        have h10 : ((1 : Nat) == 0) = false := rfl
        simp only [h10, cond_false, q_sOpsOk, hok, Nat.reduceBEq, beq_self_eq_true, Bool.true_and]
        by_cases hq : q = (b.length : Int)
        · have e2 : (q != ((b.length : Nat) : Int)) = false := by rw [hq]; simp
          simp only [e2, cond_false]
          cases ho : sOpsOk l with
          | true => rw [if_pos ⟨hq, rfl⟩]; exact ⟨rfl, trivial⟩
          | false => rw [if_neg (fun h => by cases h.2)]; exact ⟨rfl, trivial⟩
        · have e2 : (q != ((b.length : Nat) : Int)) = true := by rw [bne_iff_ne]; exact hq
          simp only [e2, cond_true]
          rw [if_neg (fun h => hq h.1)]; exact ⟨rfl, trivial⟩
    · have e1 : decide ((gN b 0).1 > 8) = true := decide_eq_true (by omega)
      rw [if_neg (fun h => h8 h.2)]
      simp only [Bool.not_true, cond_false, e1, cond_true]
      exact ⟨trivial, trivial⟩
/-- All ops by the getter. -/
noncomputable def gOpsI (b : List Int) (a : Int) : Option (List (Int × ByteArray × ByteArray) × Int) :=
  cond (gN b a).2.2 (cond (decide ((gN b a).1 ≤ 8)) (pO (gN b a).1.toNat b (gN b a).2.1 []) none) none
theorem iGetNum_it {b : List Int} (hb : okB b) (hl : b.length ≤ 1099511627776) {i : Nat} (hi : i < b.length) :
    (match pN 5 0 0 (b.drop i) with
      | some (n, l) => it_iGetNum_0 b (i : Int) 0 0 = (0, (n : Int), (i : Int) + l, true)
      | none => it_iGetNum_0 b (i : Int) 0 0 = (0, 0, 0, false) ∨ (it_iGetNum_0 b (i : Int) 0 0).1 = 1) := by
  refine itX_inv (fun v => ∃ k n : Nat, v = (b, ((i + k : Nat) : Int), (n : Int), (k : Int)) ∧ k ≤ 5 ∧ n < 2 ^ (7 * k) ∧ pN (5 - k) k n (b.drop (i + k)) = pN 5 0 0 (b.drop i)) (fun a => match pN 5 0 0 (b.drop i) with
      | some (n, l) => a = (0, (n : Int), (i : Int) + l, true)
      | none => a = (0, 0, 0, false) ∨ a.1 = 1) (fun v => 5 - v.2.2.2.toNat) ?_ ⟨0, 0, rfl, by omega, by simp, rfl⟩ (by simp)
  rintro v ⟨k, n, rfl, hk, hn, hp⟩
  by_cases h5 : k < 5
  · have e1 : decide ((k : Int) < 5) = true := decide_eq_true (by omega)
    by_cases hik : i + k < b.length
    · have e5 : decide (((i + k : Nat) : Int) < ((b.length : Nat) : Int)) = true := decide_eq_true (by omega)
      have e6 : decide (0 ≤ ((i + k : Nat) : Int) ∧ ((i + k : Nat) : Int) < ((b.length : Nat) : Int)) = true := decide_eq_true (by omega)
      have e7 : decide (0 ≤ (IntKind.wrap .u64 (IntKind.wrap .i64 ((7 : Int) * (k : Int))))) = true := by
        rw [wrap64 (n := (7 : Int) * (k : Int)) (by omega) (by omega), wrapU64 (by omega) (by omega)]; exact decide_eq_true (by omega)
      obtain ⟨hc0, hc1⟩ := hb.getD (i + k)
      have hdc := drop_cons hik
      obtain ⟨c, hc⟩ := Int.eq_ofNat_of_zero_le hc0
      rw [hc] at hc1 hdc
      have hc255 : c ≤ 255 := by omega
      obtain ⟨f1, f2, f3⟩ := acc7 n c k hc255 h5 hn
      have e8 : IntKind.wrap .i64 (c : Int) = (c : Int) := wrap64 (by omega) (by omega)
      have e13 : IntKind.wrap .i64 (((i + k : Nat) : Int) + 1) = ((i + k + 1 : Nat) : Int) := wrapU (i + k) (by omega)
      rw [hdc, show 5 - k = (4 - k) + 1 by omega, pN] at hp
      simp only [Int.toNat_natCast] at hp
      simp only [ss_iGetNum_0, e1, e5, e6, e7, cond_true, Int.toNat_natCast, hc, f1, e13]
      simp only [e8]
      by_cases h127 : c > 127
      · rw [if_pos (by omega)] at hp
        have e9 : decide ((c : Int) < 128) = false := decide_eq_false (by omega)
        simp only [e9, cond_false]
        refine .inl ⟨_, rfl, ⟨k + 1, n + c % 128 * 2 ^ (7 * k), ?_, by omega, f2, ?_⟩, ?_⟩
        · rw [wrapU k (by omega)]; rfl
        · rw [show 5 - (k + 1) = 4 - k by omega, ← hp]; rfl
        · rw [wrapU k (by omega)]; simp; omega
      · rw [if_neg (by omega)] at hp
        have e9 : decide ((c : Int) < 128) = true := decide_eq_true (by omega)
        have hcm : c % 128 = c := by omega
        rw [hcm] at f3 ⊢
        simp only [e9, cond_true]
        right
        by_cases hz : 0 < k ∧ c = 0
        · rw [if_pos (by omega)] at hp
          have e10 : decide ((k : Int) > 0) = true := decide_eq_true (by omega)
          have e11 : ((c : Int) == 0) = true := by rw [beq_iff_eq]; omega
          simp only [e10, e11, cond_true]
          exact ⟨_, rfl, by rw [← hp]; exact .inl rfl⟩
        · by_cases hg : n + c * 2 ^ (7 * k) > 1000000000
          · rw [if_pos (.inr hg)] at hp
            have e12 : decide (((n + c * 2 ^ (7 * k) : Nat) : Int) > 1000000000) = true := decide_eq_true (by omega)
            simp only [e12, cond_true]
            refine ⟨(0, 0, 0, false), ?_, by rw [← hp]; exact .inl rfl⟩
            cases decide ((k : Int) > 0) <;> cases ((c : Int) == 0) <;> rfl
          · rw [if_neg (fun h => h.elim (fun h => hz ⟨h.1, by omega⟩) hg)] at hp
            have e12 : decide (((n + c * 2 ^ (7 * k) : Nat) : Int) > 1000000000) = false := decide_eq_false (by omega)
            simp only [e12, cond_false]
            refine ⟨(0, ((n + c * 2 ^ (7 * k) : Nat) : Int), ((i + k + 1 : Nat) : Int), true), ?_, ?_⟩
            · by_cases h0 : 0 < k
              · have e10 : decide ((k : Int) > 0) = true := decide_eq_true (by omega)
                have e11 : ((c : Int) == 0) = false := by rw [beq_eq_false_iff_ne]; intro h; exact hz ⟨h0, by omega⟩
                simp only [e10, e11, cond_true, cond_false]
              · have e10 : decide ((k : Int) > 0) = false := decide_eq_false (by omega)
                simp only [e10, cond_false]
                cases ((c : Int) == 0) <;> rfl
            · rw [← hp]; show _ = _
              congr 3
    · have e5 : decide (((i + k : Nat) : Int) < ((b.length : Nat) : Int)) = false := decide_eq_false (by omega)
      rw [show 5 - k = (4 - k) + 1 by omega, List.drop_eq_nil_of_le (by omega), pN] at hp
      simp only [ss_iGetNum_0, e1, e5, cond_true, cond_false]
      exact .inr ⟨_, rfl, by rw [← hp]; exact .inr rfl⟩
  · obtain rfl : k = 5 := by omega
    have e1 : decide (((5 : Nat) : Int) < 5) = false := by decide
    simp only [ss_iGetNum_0, e1, cond_false]
    exact .inr ⟨_, rfl, by rw [← hp]; exact .inr rfl⟩
theorem iGetNum_spec {b : List Int} (hb : okB b) (hl : b.length ≤ 1099511627776) (a : Int) : iGetNum b a = gN b a ∧ q_iGetNum b a = true := by
  have hw : IntKind.wrap .i64 (((b.length : Nat) : Int) - 1) = ((b.length : Nat) : Int) - 1 := wrap64 (by omega) (by omega)
  simp only [iGetNum, q_iGetNum, gN, iinRange, hw]
  by_cases h : 0 ≤ a ∧ a < b.length
  · obtain ⟨i, rfl⟩ := Int.eq_ofNat_of_zero_le h.1
    have hi : i < b.length := by omega
    have e1 : decide ((i : Int) ≥ 0) = true := decide_eq_true (by omega)
    have e2 : decide ((i : Int) ≤ ((b.length : Nat) : Int) - 1) = true := decide_eq_true (by omega)
    rw [if_pos h, Int.toNat_natCast]
    simp only [e1, e2, cond_true, Bool.not_true, cond_false]
    have := iGetNum_it hb hl hi
    cases hp : pN 5 0 0 (b.drop i) with
    | some x =>
      rw [hp] at this
      simp only at this
      rw [this]; exact ⟨rfl, rfl⟩
    | none =>
      rw [hp] at this
      rcases this with h1 | h1
      · rw [h1]; exact ⟨rfl, rfl⟩
      · rw [h1]; exact ⟨rfl, rfl⟩
  · rw [if_neg h]
    have e : cond (decide (a ≥ 0)) (decide (a ≤ ((b.length : Nat) : Int) - 1)) false = false := by
      by_cases h1 : a ≥ 0
      · rw [decide_eq_true h1, cond_true, decide_eq_false (by omega)]
      · rw [decide_eq_false h1, cond_false]
    rw [e]; exact ⟨rfl, rfl⟩
theorem igetter_num_spec {b : List Int} (hb : okB b) (hl : b.length ≤ 1048576) (a : Int) (bad : Bool) : q_igetter_num b a bad = true ∧ igetter_num b a bad = cond bad ((0 : Int), b, a, true) (cond (gN b a).2.2 ((gN b a).1, b, (gN b a).2.1, false) ((0 : Int), b, a, true)) := by
  obtain ⟨h1, h2⟩ := iGetNum_spec hb (by omega) a
  simp only [igetter_num, q_igetter_num, h1, h2]
  cases bad <;> cases (gN b a).2.2 <;> simp
theorem iGetText_spec {b : List Int} (hb : okB b) (hl : b.length ≤ 1099511627776) (a : Int) : iGetText b a = gT b a ∧ q_iGetText b a = true := by
  obtain ⟨h1, h2⟩ := iGetNum_spec hb hl a
  obtain ⟨h3, h4⟩ := gT_eq hb hl a
  rw [h3]
  simp only [iGetText, q_iGetText, h1, h2, Bool.true_and]
  exact ⟨trivial, h4⟩
theorem igetter_text_spec {b : List Int} (hb : okB b) (hl : b.length ≤ 1048576) (a : Int) (bad : Bool) : q_igetter_text b a bad = true ∧ igetter_text b a bad = cond bad ((⟨#[]⟩ : ByteArray), b, a, true) (cond (gT b a).2.2 ((gT b a).1, b, (gT b a).2.1, false) ((⟨#[]⟩ : ByteArray), b, a, true)) := by
  obtain ⟨h1, h2⟩ := iGetText_spec hb (by omega) a
  simp only [igetter_text, q_igetter_text, h1, h2]
  cases bad <;> cases (gT b a).2.2 <;> simp
/-- One op by the getter. -/
theorem igetter_one {b : List Int} (hb : okB b) (hl : b.length ≤ 1048576) (a : Int) (bad : Bool) :
    q_igetter_num b a bad = true ∧ q_igetter_text (igetter_num b a bad).2.1 (igetter_num b a bad).2.2.1 (igetter_num b a bad).2.2.2 = true ∧
    q_igetter_text (k1_igetter_ops b a bad).2.1 (k1_igetter_ops b a bad).2.2.1 (k1_igetter_ops b a bad).2.2.2 = true ∧
    (k2_igetter_ops b a bad).2.1 = b ∧ (k1_igetter_ops b a bad).1.size ≤ b.length ∧ (k2_igetter_ops b a bad).1.size ≤ b.length ∧
    (bad = true → (k2_igetter_ops b a bad).2.2.2 = true) ∧
    (bad = false → (k2_igetter_ops b a bad).2.2.2 = !(gO b a).2.2) ∧
    (bad = false → (gO b a).2.2 = true → (k2_igetter_ops b a bad).2.2.1 = (gO b a).2.1 ∧ ((igetter_num b a bad).1, (k1_igetter_ops b a bad).1, (k2_igetter_ops b a bad).1) = (gO b a).1) := by
  obtain ⟨n1, n2⟩ := igetter_num_spec hb hl a bad
  have nb : (igetter_num b a bad).2.1 = b := by rw [n2]; cases bad <;> cases (gN b a).2.2 <;> rfl
  have t := fun (x : Int) (y : Bool) => igetter_text_spec hb hl x y
  have tb : ∀ x y, (igetter_text b x y).2.1 = b := fun x y => by rw [(t x y).2]; cases y <;> cases (gT b x).2.2 <;> rfl
  have ts : ∀ x y, (igetter_text b x y).1.size ≤ b.length := fun x y => by
    rw [(t x y).2]
    cases y with
    | true => exact Nat.zero_le _
    | false => cases (gT b x).2.2 with
      | true => exact gT_size hb x
      | false => exact Nat.zero_le _
  refine ⟨n1, by rw [nb]; exact (t _ _).1, ?_, ?_, ?_, ?_, ?_, ?_, ?_⟩
  · simp only [k1_igetter_ops, nb, tb]; exact (t _ _).1
  · simp only [k2_igetter_ops, k1_igetter_ops, nb, tb]
  · simp only [k1_igetter_ops, nb]; exact ts _ _
  · simp only [k2_igetter_ops, k1_igetter_ops, nb, tb]; exact ts _ _
  · rintro rfl
    simp only [k2_igetter_ops, k1_igetter_ops, nb, tb]
    simp only [n2, t, cond_true]
  · rintro rfl
    simp only [k2_igetter_ops, k1_igetter_ops, nb, tb]
    simp only [n2, cond_false, gO]
    cases h1 : (gN b a).2.2 with
    | false => simp only [cond_false, t, cond_true]; rfl
    | true =>
      simp only [cond_true, t, cond_false]
      cases h2 : (gT b (gN b a).2.1).2.2 with
      | false => simp only [cond_false, cond_true]; rfl
      | true =>
        simp only [cond_true, cond_false]
        cases h3 : (gT b (gT b (gN b a).2.1).2.1).2.2 <;> rfl
  · rintro rfl hc
    simp only [k2_igetter_ops, k1_igetter_ops, nb, tb]
    simp only [gO, Bool.and_eq_true] at hc ⊢
    obtain ⟨h1, h2, h3⟩ := hc
    simp only [n2, cond_false, h1, cond_true, t, h2, h3]
    exact ⟨trivial, trivial⟩
theorem igetter_ops_it {b : List Int} (hb : okB b) (hl : b.length ≤ 1048576) (n p : Int) (bad : Bool) (hn : n ≤ 8) (h0 : 0 ≤ n) :
    (it_igetter_ops_0 n 0 b p bad []).1 = 0 ∧ (it_igetter_ops_0 n 0 b p bad []).2.1 = b ∧ okOps (it_igetter_ops_0 n 0 b p bad []).2.2.2.2 = true ∧ (match cond bad none (pO n.toNat b p []) with
      | some (l, q) => it_igetter_ops_0 n 0 b p bad [] = (0, b, q, false, l)
      | none => (it_igetter_ops_0 n 0 b p bad []).2.2.2.1 = true) := by
  refine itX_inv (fun v : V_igetter_ops_0 => ∃ (i : Nat) (p' : Int) (bd : Bool) (l : List (Int × ByteArray × ByteArray)), v = (n, (i : Int), b, p', bd, l) ∧ (i : Int) ≤ n ∧ l.length = i ∧ okOps l = true ∧ cond bd none (pO (n.toNat - i) b p' l) = cond bad none (pO n.toNat b p [])) (fun a : A_igetter_ops_0 => a.1 = 0 ∧ a.2.1 = b ∧ okOps a.2.2.2.2 = true ∧ (match cond bad none (pO n.toNat b p []) with
      | some (l, q) => a = (0, b, q, false, l)
      | none => a.2.2.2.1 = true)) (fun v => 8 - v.2.1.toNat) ?_ ⟨0, p, bad, [], rfl, h0, rfl, rfl, rfl⟩ (by simp)
  rintro v ⟨i, p', bd, l, rfl, hi, hll, hok, hp⟩
  by_cases h5 : (i : Int) < n
  · have e1 : decide ((i : Int) < n) = true := decide_eq_true h5
    obtain ⟨q1, q2, q3, q4, q5, q6, q7, q8, q9⟩ := igetter_one hb hl p' bd
    have e2 : ∀ o : Int × ByteArray × ByteArray, decide ((l.length + [o].length) * 40 ≤ MAXB) = true := fun o => decide_eq_true (by simp only [List.length_singleton, MAXB]; omega)
    simp only [ss_igetter_ops_0, e1, q1, q2, q3, q4, e2, cond_true]
    refine .inl ⟨_, rfl, ⟨i + 1, _, _, l ++ [((igetter_num b p' bd).1, (k1_igetter_ops b p' bd).1, (k2_igetter_ops b p' bd).1)], by rw [wrapU i (by omega)], by omega, by simp [hll], ?_, ?_⟩, ?_⟩
    · simp only [okOps, okL, List.length_append, List.length_singleton, List.all_append, List.all_cons, List.all_nil, Bool.and_true, Bool.and_eq_true, decide_eq_true_eq] at hok ⊢
      exact ⟨by omega, hok.2, by simp only [okOp, okS, Bool.and_eq_true, decide_eq_true_eq]; omega⟩
    · rw [← hp]
      cases bd with
      | true => rw [q7 rfl]; rfl
      | false =>
        rw [q8 rfl, show n.toNat - i = (n.toNat - (i + 1)) + 1 by omega, pO]
        cases hc : (gO b p').2.2 with
        | false => rfl
        | true =>
          obtain ⟨z1, z2⟩ := q9 rfl hc
          rw [z1, z2]; rfl
    · rw [wrapU i (by omega)]; simp; omega
  · have e1 : decide ((i : Int) < n) = false := decide_eq_false h5
    have e3 : n.toNat - i = 0 := by omega
    rw [e3, pO] at hp
    simp only [ss_igetter_ops_0, e1, cond_false]
    refine .inr ⟨_, rfl, rfl, rfl, hok, ?_⟩
    rw [← hp]
    cases bd <;> rfl
theorem igetter_opsR_spec {b : List Int} (hb : okB b) (hl : b.length ≤ 1048576) (a : Int) (bad : Bool) : q_igetter_ops b a bad = true ∧ (igetter_ops b a bad).2.1 = b ∧ okOps (igetter_ops b a bad).1 = true ∧
    (match cond bad none (gOpsI b a) with
      | some (l, q) => igetter_ops b a bad = (l, b, q, false)
      | none => (igetter_ops b a bad).2.2.2 = true) := by
  obtain ⟨n1, n2⟩ := igetter_num_spec hb hl a bad
  have nb : (igetter_num b a bad).2.1 = b := by rw [n2]; cases bad <;> cases (gN b a).2.2 <;> rfl
  have nr : 0 ≤ (igetter_num b a bad).1 := by
    rw [n2]
    cases bad with
    | true => exact Int.le_refl _
    | false => cases h : (gN b a).2.2 with
      | true => exact (gN_range hb h).2.2.2.1
      | false => exact Int.le_refl _
  simp only [igetter_ops, q_igetter_ops, k3_igetter_ops, n1, nb, Bool.true_and]
  by_cases h8 : (igetter_num b a bad).1 ≤ 8
  · have e1 : decide ((igetter_num b a bad).1 > 8) = false := decide_eq_false (by omega)
    obtain ⟨i1, i2, i3, i4⟩ := igetter_ops_it hb hl (igetter_num b a bad).1 (igetter_num b a bad).2.2.1 (igetter_num b a bad).2.2.2 h8 nr
    simp only [e1, cond_false, i1, i2, i3]
    refine ⟨rfl, trivial, trivial, ?_⟩
    revert i4
    rw [n2]
    cases bad with
    | true => simp
    | false =>
      simp only [cond_false, gOpsI]
      cases h : (gN b a).2.2 with
      | false => simp
      | true =>
        have h9 : decide ((gN b a).1 ≤ 8) = true := by rw [n2] at h8; simp only [cond_false, h, cond_true] at h8; exact decide_eq_true h8
        simp only [cond_true, h9, cond_false]
        cases pO (gN b a).1.toNat b (gN b a).2.1 [] with
        | none => exact id
        | some x => intro i4; simp only at i4 ⊢; rw [i4]
  · have e1 : decide ((igetter_num b a bad).1 > 8) = true := decide_eq_true (by omega)
    simp only [e1, cond_true]
    refine ⟨trivial, trivial, rfl, ?_⟩
    cases bad with
    | true => simp
    | false =>
      simp only [cond_false, gOpsI]
      rw [n2] at h8
      cases h : (gN b a).2.2 with
      | false => rw [h] at h8; simp at h8
      | true =>
        simp only [cond_false, h, cond_true] at h8
        simp only [cond_true, decide_eq_false h8, cond_false]
theorem keyAt_same (s : ByteArray) (i : Nat) : sKeyAt s i = iKeyAt s i := by
  have hb : 0 ≤ bt s (i : Int) ∧ bt s (i : Int) < 256 := by
    unfold bt
    split
    · have := UInt8.toNat_lt s[(i : Int).toNat]; omega
    · simp
  have e := wrap64 (n := bt s (i : Int)) (by omega) (by omega)
  simp only [sKeyAt, iKeyAt, sl1In, iisKeyByte, e]
  generalize bt s (i : Int) = c
  by_cases h1 : c ≥ 97 <;> by_cases h2 : c ≤ 122 <;> by_cases h3 : c ≥ 48 <;> by_cases h4 : c ≤ 57 <;> simp [h1, h2, h3, h4]
theorem keyOk_same (s : ByteArray) : sKeyOk s = iKeyOk s := by
  have e : allF (sKeyAt s) (s.size - (0 : Int).toNat) (0 : Int).toNat = allF (iKeyAt s) (s.size - (0 : Int).toNat) (0 : Int).toNat := allF_congr _ _ (fun j _ _ => keyAt_same s j)
  simp only [sKeyOk, iKeyOk, iisWord, iinRange, sl1In, e]
  cases allF (iKeyAt s) (s.size - (0 : Int).toNat) (0 : Int).toNat <;> cases decide (((s.size : Nat) : Int) ≥ 1) <;> cases decide (((s.size : Nat) : Int) ≤ 12) <;> rfl
theorem opOk_same (k : Int) (s v : ByteArray) : sl7Op k s v = iopOk k s v := by
  simp only [sl7Op, iopOk, keyOk_same, ba_beq, sl1In]
  cases iKeyOk s with
  | false =>
    by_cases h1 : k = 1 <;> by_cases h2 : k = 2 <;> by_cases h3 : k = 3 <;> by_cases h4 : v = ⟨#[]⟩ <;> by_cases h5 : k ≥ 1 <;> by_cases h6 : k ≤ 3 <;> simp [h1, h2, h3, h4, h5, h6] <;> omega
  | true =>
    by_cases h2 : k = 2
    · subst h2
      by_cases h4 : v = ⟨#[]⟩
      · subst h4; simp [ByteArray.size]
      · simp [h4]
    · by_cases h1 : k = 1
      · subst h1; simp
      · by_cases h3 : k = 3
        · subst h3; simp
        · by_cases h5 : k ≥ 1 <;> by_cases h6 : k ≤ 3 <;> simp [h1, h2, h3, h5, h6] <;> omega
theorem opAt_same (l : List (Int × ByteArray × ByteArray)) (i : Nat) : sOpAt l i = iOpAt l i := by
  simp only [sOpAt, iOpAt, opOk_same]
  rw [← bytesLess_ge, Bool.not_not]
theorem opsOk_same (l : List (Int × ByteArray × ByteArray)) : sOpsOk l = iOpsOk l := by
  have e : allF (sOpAt l) (l.length - (0 : Int).toNat) (0 : Int).toNat = allF (iOpAt l) (l.length - (0 : Int).toNat) (0 : Int).toNat := allF_congr _ _ (fun j _ _ => opAt_same l j)
  simp only [sOpsOk, iOpsOk, e]
  rfl
theorem iputOps_nil_eq {l : List (Int × ByteArray × ByteArray)} (ho : sOpsOk l = true) : iputOps_nil l = opsB l := by
  have hk := opsOk_okOps ho
  have hl := (opsOk_small ho).1
  simp only [iputOps_nil]
  have := foldN_app opB dOp l (iOpPut l) (fun i h hi => by
    obtain ⟨k1, k2⟩ := okOps_at hk i hi
    simp only [iOpPut, iputText_eq _ _ k1, iputText_eq _ _ k2, iputNum_eq, opB, List.append_assoc]) l.length 0 (iputNum_nil (l.length : Int)) (by omega)
  rw [iputNum_nil_eq, List.drop_zero, clampN_of (by omega) (by omega)] at this
  rw [opsB, ← this, iputNum_nil_eq, clampN_of (by omega) (by omega)]
  rfl
theorem strInts_strB {l : List Int} (h : okB l) : strInts (strB l) = l := by
  simp only [strB, strInts, List.map_map, List.toList_toArray]
  conv => rhs; rw [← List.map_id l]
  apply List.map_congr_left
  intro n hn
  obtain ⟨h0, h1⟩ := h n hn
  simp only [Function.comp_apply, UInt8.toNat_ofNat', id_eq]
  omega
theorem bytesEqual_ok {a b : List Int} (ha : okB a) (hb : okB b) : bytes_Equal a b = true ↔ a = b := by
  have e : bytes_Equal a b = ((strB a).toList == (strB b).toList) := rfl
  rw [e, beq_iff_eq]
  constructor
  · intro h
    have h2 : strB a = strB b := by
      have h3 := congrArg (fun l => (⟨l.toArray⟩ : ByteArray)) h
      have k : ∀ s : ByteArray, (⟨s.toList.toArray⟩ : ByteArray) = s := fun s => by rw [ByteArray.toList_eq]
      simpa only [k] using h3
    rw [← strInts_strB ha, ← strInts_strB hb, h2]
  · rintro rfl; rfl
theorem iGetOps_of {b : List Int} (hb : okB b) (hl : b.length ≤ 1048576) : q_iGetOps b = true ∧ ((∃ l, iGetOps b = (l, true) ∧ sOpsOk l = true ∧ b = opsB l) ∨ iGetOps b = ([], false)) := by
  obtain ⟨o1, o2, o3, o4⟩ := igetter_opsR_spec hb hl 0 false
  simp only [iGetOps, q_iGetOps, o1, Bool.true_and, q_iOpsOk, q_iputOps_nil, o3]
  generalize igetter_ops b 0 false = r at *
  cases hbad : r.2.2.2 with
  | true => exact ⟨rfl, .inr rfl⟩
  | false =>
    cases hw : iOpsOk r.1 with
    | false => exact ⟨rfl, .inr rfl⟩
    | true =>
      have hs : sOpsOk r.1 = true := by rw [opsOk_same]; exact hw
      cases he : bytes_Equal (iputOps_nil r.1) b with
      | false => exact ⟨rfl, .inr rfl⟩
      | true =>
        rw [iputOps_nil_eq hs] at he
        exact ⟨rfl, .inl ⟨_, rfl, hs, ((bytesEqual_ok (opsB_ok hs) hb).1 he).symm⟩⟩
theorem gN_at {pre rest : List Int} (hb : okB (pre ++ rest)) {n p : Int} (h : gN (pre ++ rest) (pre.length : Int) = (n, p, true)) : ∃ post, rest = numB n ++ post ∧ p = ((pre ++ numB n).length : Int) ∧ 0 ≤ n ∧ n ≤ 1000000000 := by
  obtain ⟨pre', post, e1, e2, e3, e4, e5⟩ := gN_of hb h
  obtain ⟨_, q2⟩ := List.append_inj e1 (by omega)
  exact ⟨post, q2, by rw [e3, List.length_append]; omega, e4, e5⟩
theorem gN_at0 {b : List Int} (hb : okB b) {n p : Int} (h : gN b 0 = (n, p, true)) : ∃ post, b = numB n ++ post ∧ p = ((numB n).length : Int) ∧ 0 ≤ n ∧ n ≤ 1000000000 := gN_at (pre := []) hb h
theorem gT_of {b : List Int} (hb : okB b) {a p : Int} {s : ByteArray} (h : gT b a = (s, p, true)) : ∃ pre post, b = pre ++ (textB s ++ post) ∧ a = pre.length ∧ p = a + (textB s).length ∧ s.size ≤ 1000000000 := by
  simp only [gT] at h
  split at h
  · rename_i hc
    obtain ⟨h1, h2⟩ := hc
    obtain ⟨pre, post, e1, e2, e3, e4, e5⟩ := gN_of hb (a := a) (n := (gN b a).1) (p := (gN b a).2.1) (by rw [← h1])
    simp only [Prod.mk.injEq, and_true] at h
    obtain ⟨h3, h4⟩ := h
    have hlen := congrArg List.length e1
    simp only [List.length_append] at hlen
    have ed : b.drop (gN b a).2.1.toNat = post := by
      have hd : ∀ n, b = pre ++ (numB n ++ post) → b.drop (pre.length + (numB n).length) = post := fun n e => by rw [e, ← List.append_assoc, ← List.length_append, List.drop_left]
      have : (gN b a).2.1.toNat = pre.length + (numB (gN b a).1).length := by omega
      rw [this]; exact hd _ e1
    rw [ed] at h3
    have hpl : (gN b a).1.toNat ≤ post.length := by omega
    have hz : s.size = (gN b a).1.toNat := by rw [← h3, strB_size, List.length_take]; omega
    have hpo : okB (post.take (gN b a).1.toNat) := (by rw [← ed]; exact (hb.drop _).take _)
    have hi : strInts s = post.take (gN b a).1.toNat := by rw [← h3, strInts_strB hpo]
    have hsz : (s.size : Int) = (gN b a).1 := by omega
    refine ⟨pre, post.drop (gN b a).1.toNat, ?_, e2, ?_, by omega⟩
    · rw [textB, hsz, hi, List.append_assoc, List.take_append_drop]; exact e1
    · simp only [textB, List.length_append, strInts_len, hsz]; omega
  · cases h
theorem gO_of {b : List Int} (hb : okB b) {p : Int} (h : (gO b p).2.2 = true) : ∃ pre post, b = pre ++ (opB (gO b p).1 ++ post) ∧ p = pre.length ∧ (gO b p).2.1 = p + (opB (gO b p).1).length ∧ fitO (gO b p).1 := by
  simp only [gO, Bool.and_eq_true] at h
  obtain ⟨h1, h2, h3⟩ := h
  obtain ⟨pre1, post1, a1, a2, a3, a4, a5⟩ := gN_of hb (a := p) (n := (gN b p).1) (p := (gN b p).2.1) (by rw [← h1])
  obtain ⟨pre2, post2, b1, b2, b3, b4⟩ := gT_of hb (a := (gN b p).2.1) (s := (gT b (gN b p).2.1).1) (p := (gT b (gN b p).2.1).2.1) (by rw [← h2])
  obtain ⟨pre3, post3, c1, c2, c3, c4⟩ := gT_of hb (a := (gT b (gN b p).2.1).2.1) (s := (gT b (gT b (gN b p).2.1).2.1).1) (p := (gT b (gT b (gN b p).2.1).2.1).2.1) (by rw [← h3])
  have d1 : post1 = b.drop (pre1 ++ numB (gN b p).1).length := by
    have hd : ∀ (u v w x : List Int), x = u ++ (v ++ w) → w = x.drop (u ++ v).length := fun u v w x e => by rw [e, ← List.append_assoc, List.drop_left]
    exact hd _ _ _ _ a1
  have d2 : textB (gT b (gN b p).2.1).1 ++ post2 = b.drop pre2.length := by
    have hd : ∀ (u v x : List Int), x = u ++ v → v = x.drop u.length := fun u v x e => by rw [e, List.drop_left]
    exact hd _ _ _ b1
  have d3 : post2 = b.drop (pre2 ++ textB (gT b (gN b p).2.1).1).length := by
    have hd : ∀ (u v w x : List Int), x = u ++ (v ++ w) → w = x.drop (u ++ v).length := fun u v w x e => by rw [e, ← List.append_assoc, List.drop_left]
    exact hd _ _ _ _ b1
  have d4 : textB (gT b (gT b (gN b p).2.1).2.1).1 ++ post3 = b.drop pre3.length := by
    have hd : ∀ (u v x : List Int), x = u ++ v → v = x.drop u.length := fun u v x e => by rw [e, List.drop_left]
    exact hd _ _ _ c1
  have f1 : post1 = textB (gT b (gN b p).2.1).1 ++ post2 := by rw [d1, d2]; congr 1; simp only [List.length_append]; omega
  have f2 : post2 = textB (gT b (gT b (gN b p).2.1).2.1).1 ++ post3 := by rw [d3, d4]; congr 1; simp only [List.length_append]; omega
  have hk : clampN (gN b p).1 = (gN b p).1 := clampN_of a4 a5
  refine ⟨pre1, post3, ?_, a2, ?_, a4, a5, b4, c4⟩
  · simp only [opB, gO, hk, List.append_assoc]
    rw [← f2, ← f1]; exact a1
  · simp only [opB, gO, hk, List.length_append]; omega
theorem pO_of {b : List Int} (hb : okB b) : ∀ (k : Nat) (p : Int) (acc l : List (Int × ByteArray × ByteArray)) (q : Int), 0 ≤ p → p ≤ b.length → pO k b p acc = some (l, q) →
    ∃ l' pre post, l = acc ++ l' ∧ l'.length = k ∧ b = pre ++ ((l'.map opB).flatten ++ post) ∧ p = pre.length ∧ q = p + (l'.map opB).flatten.length ∧ ∀ o ∈ l', fitO o := by
  intro k
  induction k with
  | zero =>
    intro p acc l q h0 h1 h
    simp only [pO, Option.some.injEq, Prod.mk.injEq] at h
    obtain ⟨rfl, rfl⟩ := h
    exact ⟨[], b.take p.toNat, b.drop p.toNat, by simp, rfl, by simp, by rw [List.length_take]; omega, by simp, by simp⟩
  | succ k ih =>
    intro p acc l q h0 h1 h
    simp only [pO] at h
    cases hc : (gO b p).2.2 with
    | false => rw [hc] at h; cases h
    | true =>
      rw [hc, cond_true] at h
      obtain ⟨pre, post, a1, a2, a3, a4⟩ := gO_of hb hc
      have hlen := congrArg List.length a1
      simp only [List.length_append] at hlen
      obtain ⟨l', pre', post', b1, b2, b3, b4, b5, b6⟩ := ih (gO b p).2.1 (acc ++ [(gO b p).1]) l q (by omega) (by omega) h
      have d1 : post = b.drop (pre ++ opB (gO b p).1).length := by
        have hd : ∀ (u v w x : List Int), x = u ++ (v ++ w) → w = x.drop (u ++ v).length := fun u v w x e => by rw [e, ← List.append_assoc, List.drop_left]
        exact hd _ _ _ _ a1
      have d2 : (l'.map opB).flatten ++ post' = b.drop pre'.length := by
        have hd : ∀ (u v x : List Int), x = u ++ v → v = x.drop u.length := fun u v x e => by rw [e, List.drop_left]
        exact hd _ _ _ b3
      have f1 : post = (l'.map opB).flatten ++ post' := by rw [d1, d2]; congr 1; simp only [List.length_append]; omega
      refine ⟨(gO b p).1 :: l', pre, post', by rw [b1]; simp, by simp [b2], ?_, a2, ?_, ?_⟩
      · simp only [List.map_cons, List.flatten_cons, List.append_assoc]
        rw [← f1]; exact a1
      · simp only [List.map_cons, List.flatten_cons, List.length_append]; omega
      · intro o ho
        rcases List.mem_cons.1 ho with rfl | ho
        · exact a4
        · exact b6 o ho
theorem gOps_of {b : List Int} (hb : okB b) {l : List (Int × ByteArray × ByteArray)} (h : gOps b = (l, true)) : sOpsOk l = true ∧ b = opsB l := by
  simp only [gOps] at h
  split at h
  · rename_i hc
    obtain ⟨c1, c2⟩ := hc
    obtain ⟨post, e1, e2, e3, e4⟩ := gN_at0 hb (n := (gN b 0).1) (p := (gN b 0).2.1) (by rw [← c1])
    have hlen := congrArg List.length e1
    rw [List.length_append] at hlen
    split at h
    · rename_i l' q hp
      split at h
      · rename_i hq
        simp only [Prod.mk.injEq, and_true] at h
        subst h
        obtain ⟨l2, pre, post2, f1, f2, f3, f4, f5, f6⟩ := pO_of hb _ _ _ _ _ (by omega) (by omega) hp
        simp only [List.nil_append] at f1
        subst f1
        refine ⟨hq.2, ?_⟩
        have g1 : (l'.length : Int) = (gN b 0).1 := by omega
        have hlen2 := congrArg List.length f3
        simp only [List.length_append] at hlen2
        have hp2 : post2 = [] := List.eq_nil_of_length_eq_zero (by have := hq.1; omega)
        subst hp2
        have key : ∀ b' : List Int, b' = numB (gN b 0).1 ++ post → b' = pre ++ ((l'.map opB).flatten ++ []) → pre.length = (numB (gN b 0).1).length → b' = numB (gN b 0).1 ++ (l'.map opB).flatten := by
          intro b' x1 x2 x3
          obtain ⟨q1, q2⟩ := List.append_inj (x2.symm.trans x1) x3
          rw [x2, q1, List.append_nil]
        rw [opsB, g1]
        exact key b e1 f3 (by omega)
      · cases h
    · cases h
  · cases h
theorem pN_hiB : ∀ (j k n x : Nat) (post : List Int), x < 128 ^ (j + 1) → (0 < k → 0 < x) → n + x * 2 ^ (7 * k) ≤ 1000000000 → pN (j + 1) k n (hiB j x ++ post) = some (n + x * 2 ^ (7 * k), k + (hiB j x).length) := by
  intro j
  induction j with
  | zero =>
    intro k n x post h1 h2 h3
    have hx : ¬ 127 < x := by simp at h1; omega
    rw [hiB_stop 0 x hx]
    simp only [List.cons_append, List.nil_append, pN, List.length_singleton, Int.toNat_natCast]
    rw [if_neg (by omega), if_neg (by omega)]
  | succ j ih =>
    intro k n x post h1 h2 h3
    by_cases hx : 127 < x
    · have hb : x < 9223372036854775808 := by
        have : x * 1 ≤ x * 2 ^ (7 * k) := Nat.mul_le_mul_left _ (Nat.pow_pos (by decide))
        omega
      rw [hiB_step j x hx hb]
      have hx' : x / 128 < 128 ^ (j + 1) := Nat.div_lt_of_lt_mul (by rw [Nat.pow_succ] at h1; rw [Nat.mul_comm]; exact h1)
      have e : n + x % 128 * 2 ^ (7 * k) + x / 128 * 2 ^ (7 * (k + 1)) = n + x * 2 ^ (7 * k) := by
        rw [show 7 * (k + 1) = 7 * k + 7 by omega, Nat.pow_add]
        have := Nat.div_add_mod x 128
        have h4 : x * 2 ^ (7 * k) = (128 * (x / 128) + x % 128) * 2 ^ (7 * k) := by rw [this]
        rw [h4, Nat.add_mul, show (2 : Nat) ^ 7 = 128 from rfl, Nat.mul_comm 128 (x / 128), Nat.mul_assoc, Nat.mul_comm 128 (2 ^ (7 * k)), ← Nat.mul_assoc]
        omega
      have := ih (k + 1) (n + x % 128 * 2 ^ (7 * k)) (x / 128) post hx' (fun _ => by omega) (by rw [e]; exact h3)
      simp only [List.cons_append, pN]
      rw [if_pos (by omega)]
      have e2 : (((128 + x % 128 : Nat) : Int).toNat % 128) = x % 128 := by omega
      rw [e2, this, e]
      simp only [List.length_cons]
      congr 2; omega
    · rw [hiB_stop _ x hx]
      simp only [List.cons_append, List.nil_append, pN, List.length_singleton, Int.toNat_natCast]
      rw [if_neg (by omega), if_neg (by omega)]
theorem pN_num {n : Int} (h0 : 0 ≤ n) (h1 : n ≤ 1000000000) (post : List Int) : pN 5 0 0 (numB n ++ post) = some (n.toNat, (numB n).length) := by
  obtain ⟨x, rfl⟩ := Int.eq_ofNat_of_zero_le h0
  rw [numB_hi, pN_hiB 4 0 0 x post (by simp; omega) (by omega) (by simp; omega)]
  simp
theorem gN_num {n : Int} (h0 : 0 ≤ n) (h1 : n ≤ 1000000000) (pre post : List Int) : gN (pre ++ (numB n ++ post)) (pre.length : Int) = (n, (pre.length : Int) + (numB n).length, true) := by
  have hl : 1 ≤ (numB n).length := by simp [numB]
  simp only [gN]
  rw [if_pos (by simp only [List.length_append]; omega), Int.toNat_natCast, List.drop_left, pN_num h0 h1]
  show ((n.toNat : Int), _, _) = _
  rw [Int.toNat_of_nonneg h0]
theorem strB_ints (s : ByteArray) : strB (strInts s) = s := by
  cases s with
  | mk a =>
    simp only [strB, strInts, List.map_map]
    congr 1
    apply Array.toList_inj.1
    simp only [List.toList_toArray]
    conv => rhs; rw [← List.map_id a.toList]
    apply List.map_congr_left
    intro b _
    simp
theorem gT_text {s : ByteArray} (h : s.size ≤ 1000000000) (pre post : List Int) : gT (pre ++ (textB s ++ post)) (pre.length : Int) = (s, (pre.length : Int) + (textB s).length, true) := by
  have h1 := gN_num (n := (s.size : Int)) (by omega) (by omega) pre (strInts s ++ post)
  have e : pre ++ (textB s ++ post) = pre ++ (numB (s.size : Int) ++ (strInts s ++ post)) := by simp only [textB, List.append_assoc]
  rw [e]
  simp only [gT, h1]
  have hs := strInts_len s
  rw [if_pos ⟨trivial, by simp only [List.length_append]; omega⟩]
  have e2 : ((pre.length : Int) + ((numB (s.size : Int)).length : Int)).toNat = pre.length + (numB (s.size : Int)).length := by omega
  rw [e2, Int.toNat_natCast, ← List.append_assoc, ← List.length_append, List.drop_left, List.take_left' hs, strB_ints]
  congr 2
  simp only [textB, List.length_append]; omega
theorem gO_op {o : Int × ByteArray × ByteArray} (h : fitO o) (pre post : List Int) : gO (pre ++ (opB o ++ post)) (pre.length : Int) = (o, (pre.length : Int) + (opB o).length, true) := by
  obtain ⟨h0, h1, h2, h3⟩ := h
  have e : opB o = numB o.1 ++ (textB o.2.1 ++ textB o.2.2) := by simp only [opB, clampN_of h0 h1]
  have q1 := gN_num h0 h1 pre (textB o.2.1 ++ (textB o.2.2 ++ post))
  have q2 := gT_text h2 (pre ++ numB o.1) (textB o.2.2 ++ post)
  have q3 := gT_text h3 (pre ++ numB o.1 ++ textB o.2.1) post
  have e1 : pre ++ (opB o ++ post) = pre ++ (numB o.1 ++ (textB o.2.1 ++ (textB o.2.2 ++ post))) := by simp only [e, List.append_assoc]
  have e2 : pre ++ (opB o ++ post) = pre ++ numB o.1 ++ (textB o.2.1 ++ (textB o.2.2 ++ post)) := by simp only [e, List.append_assoc]
  have e3 : pre ++ (opB o ++ post) = pre ++ numB o.1 ++ textB o.2.1 ++ (textB o.2.2 ++ post) := by simp only [e, List.append_assoc]
  rw [← e1] at q1; rw [← e2] at q2; rw [← e3] at q3
  have l1 : ((pre ++ numB o.1).length : Int) = (pre.length : Int) + (numB o.1).length := by simp
  have l2 : ((pre ++ numB o.1 ++ textB o.2.1).length : Int) = ((pre ++ numB o.1).length : Int) + (textB o.2.1).length := by simp; omega
  rw [l1] at q2; rw [l2, l1] at q3
  simp only [gO, q1, q2, q3, Bool.and_true]
  congr 2
  simp only [e, List.length_append]; omega
theorem pO_ops : ∀ (l : List (Int × ByteArray × ByteArray)) (pre post : List Int) (acc : List (Int × ByteArray × ByteArray)), (∀ o ∈ l, fitO o) → pO l.length (pre ++ ((l.map opB).flatten ++ post)) (pre.length : Int) acc = some (acc ++ l, (pre.length : Int) + (l.map opB).flatten.length) := by
  intro l
  induction l with
  | nil => intro pre post acc _; simp [pO]
  | cons o l ih =>
    intro pre post acc h
    have h1 := gO_op (h o (by simp)) pre ((l.map opB).flatten ++ post)
    have h2 := ih (pre ++ opB o) post (acc ++ [o]) (fun x hx => h x (by simp [hx]))
    have e : pre ++ (((o :: l).map opB).flatten ++ post) = pre ++ (opB o ++ ((l.map opB).flatten ++ post)) := by simp
    have e2 : pre ++ opB o ++ ((l.map opB).flatten ++ post) = pre ++ (opB o ++ ((l.map opB).flatten ++ post)) := by simp
    rw [e2, List.length_append, Int.natCast_add] at h2
    rw [e]
    simp only [List.length_cons, pO, h1, cond_true, h2]
    simp only [List.append_assoc, List.singleton_append, List.map_cons, List.flatten_cons, List.length_append, Int.natCast_add]
    congr 2; omega
theorem pO_put {l : List (Int × ByteArray × ByteArray)} (h : sOpsOk l = true) (pre post : List Int) : gN (pre ++ (opsB l ++ post)) (pre.length : Int) = ((l.length : Int), ((pre ++ numB (l.length : Int)).length : Int), true) ∧ pO l.length (pre ++ (opsB l ++ post)) ((pre ++ numB (l.length : Int)).length : Int) [] = some (l, (((pre ++ opsB l).length : Nat) : Int)) := by
  obtain ⟨a1, _⟩ := opsOk_small h
  have e : pre ++ (opsB l ++ post) = pre ++ (numB (l.length : Int) ++ ((l.map opB).flatten ++ post)) := by simp only [opsB, List.append_assoc]
  have h1 := gN_num (n := (l.length : Int)) (by omega) (by omega) pre ((l.map opB).flatten ++ post)
  have h2 := pO_ops l (pre ++ numB (l.length : Int)) post [] (opsOk_fit h)
  rw [List.append_assoc] at h2
  rw [e]
  refine ⟨?_, ?_⟩
  · rw [h1, List.length_append, Int.natCast_add]
  · rw [h2]; simp only [List.nil_append, opsB, List.length_append, Int.natCast_add]; congr 2; omega
theorem iGetOps_put {l : List (Int × ByteArray × ByteArray)} (h : sOpsOk l = true) : iGetOps (opsB l) = (l, true) := by
  have hb := opsB_ok h
  have hl := opsB_len h
  have hlo := (opsOk_small h).1
  obtain ⟨_, _, _, o4⟩ := igetter_opsR_spec hb (by omega) 0 false
  obtain ⟨h1, h2⟩ := pO_put h [] []
  simp only [List.nil_append, List.append_nil, List.length_nil] at h1 h2
  have h1' : gN (opsB l) 0 = ((l.length : Int), ((numB (l.length : Int)).length : Int), true) := h1
  have e8 : decide ((l.length : Int) ≤ 8) = true := decide_eq_true (by omega)
  simp only [cond_false, gOpsI, h1', cond_true, e8, Int.toNat_natCast, h2] at o4
  have hw : iOpsOk l = true := by rw [← opsOk_same]; exact h
  have he : bytes_Equal (iputOps_nil l) (opsB l) = true := (bytesEqual_ok (by rw [iputOps_nil_eq h]; exact hb) hb).2 (iputOps_nil_eq h)
  simp only [iGetOps, o4, cond_false, hw, Bool.not_true, he]
theorem gOps_no {b : List Int} (h : (gOps b).2 = false) : gOps b = ([], false) := by
  simp only [gOps] at h ⊢
  split
  · rename_i hc
    rw [if_pos hc] at h
    split
    · rename_i l q hp
      rw [hp] at h
      simp only at h
      split
      · rename_i hq; rw [if_pos hq] at h; cases h
      · rfl
    · rfl
  · rfl
theorem gOps_put {l : List (Int × ByteArray × ByteArray)} (h : sOpsOk l = true) : gOps (opsB l) = (l, true) := by
  obtain ⟨a1, _⟩ := opsOk_small h
  obtain ⟨h1, h2⟩ := pO_put h [] []
  simp only [List.nil_append, List.append_nil, List.length_nil] at h1 h2
  have h1' : gN (opsB l) 0 = ((l.length : Int), ((numB (l.length : Int)).length : Int), true) := h1
  simp only [gOps, h1']
  rw [if_pos ⟨trivial, by omega⟩, Int.toNat_natCast, h2]
  simp only
  rw [if_pos ⟨trivial, h⟩]
theorem getOps_both {b : List Int} (hb : okB b) (hl : b.length ≤ 1048576) : q_sGetOps b = true ∧ q_iGetOps b = true ∧ ((∃ l, sGetOps b = (l, true) ∧ iGetOps b = (l, true) ∧ sOpsOk l = true ∧ b = opsB l) ∨ sGetOps b = ([], false) ∧ iGetOps b = ([], false)) := by
  obtain ⟨s1, s2⟩ := sGetOps_spec hb hl
  obtain ⟨i1, i2⟩ := iGetOps_of hb hl
  refine ⟨s2, i1, ?_⟩
  rw [s1]
  cases h : (gOps b).2 with
  | true =>
    obtain ⟨h1, h2⟩ := gOps_of hb (l := (gOps b).1) (by rw [← h])
    have e : gOps b = ((gOps b).1, true) := by rw [← h]
    rw [e]
    exact .inl ⟨_, rfl, by conv => lhs; rw [h2]
                           exact iGetOps_put h1, h1, h2⟩
  | false =>
    rw [gOps_no h]
    rcases i2 with ⟨l, f1, f2, f3⟩ | f1
    · rw [f3, gOps_put f2] at h; cases h
    · exact .inr ⟨rfl, f1⟩
theorem iPutOps_eq (l : List (Int × ByteArray × ByteArray)) : iPutOps l = cond (sOpsOk l) (opsB l) [] := by
  simp only [iPutOps, ← opsOk_same]
  cases ho : sOpsOk l with
  | false => rfl
  | true => simp only [Bool.not_true, cond_false, cond_true]; exact iputOps_nil_eq ho
theorem sameOps_self {l : List (Int × ByteArray × ByteArray)} (h : l.length ≤ 1048576) : q_lsameOps l l = true ∧ lsameOps l l = true := by
  have hn : (((l.length : Nat) : Int) != ((l.length : Nat) : Int)) = false := by simp
  have key : (it_lsameOps_0 l l 0).1 = 1 := by
    refine itX_inv (fun v : V_lsameOps_0 => ∃ i : Nat, v = (l, l, (i : Int)) ∧ i ≤ l.length) (fun a : A_lsameOps_0 => a.1 = 1) (fun v => l.length - v.2.2.toNat) ?_ ⟨0, rfl, Nat.zero_le _⟩ (by simp; omega)
    rintro v ⟨i, rfl, hi⟩
    by_cases hlt : i < l.length
    · have e1 : decide ((i : Int) < ((l.length : Nat) : Int)) = true := decide_eq_true (by omega)
      have e2 : decide (0 ≤ (i : Int) ∧ (i : Int) < ((l.length : Nat) : Int)) = true := decide_eq_true (by omega)
      have e3 : ∀ x : Int, (x == x) = true := fun x => by simp
      have e4 : ∀ x : List UInt8, (x == x) = true := fun x => by simp
      simp only [ss_lsameOps_0, e1, e2, e3, e4, Int.toNat_natCast, cond_true, cond_false, Bool.true_and, Bool.not_true, wrapU i (by omega)]
      exact .inl ⟨_, rfl, ⟨i + 1, rfl, by omega⟩, by simp only [Int.toNat_natCast]; omega⟩
    · have e1 : decide ((i : Int) < ((l.length : Nat) : Int)) = false := decide_eq_false (by omega)
      simp only [ss_lsameOps_0, e1, cond_false]
      exact .inr ⟨_, rfl, rfl⟩
  simp only [q_lsameOps, lsameOps, hn, key, cond_false]
  exact ⟨rfl, rfl⟩
theorem sameBytes_self {l : List Int} (h : l.length ≤ 1048576) : q_lsameBytes l l = true ∧ lsameBytes l l = true := by
  have hn : (((l.length : Nat) : Int) != ((l.length : Nat) : Int)) = false := by simp
  have key : (it_lsameBytes_0 l l 0).1 = 1 := by
    refine itX_inv (fun v : V_lsameBytes_0 => ∃ i : Nat, v = (l, l, (i : Int)) ∧ i ≤ l.length) (fun a : A_lsameBytes_0 => a.1 = 1) (fun v => l.length - v.2.2.toNat) ?_ ⟨0, rfl, Nat.zero_le _⟩ (by simp; omega)
    rintro v ⟨i, rfl, hi⟩
    by_cases hlt : i < l.length
    · have e1 : decide ((i : Int) < ((l.length : Nat) : Int)) = true := decide_eq_true (by omega)
      have e2 : decide (0 ≤ (i : Int) ∧ (i : Int) < ((l.length : Nat) : Int)) = true := decide_eq_true (by omega)
      have e3 : (l.getD i (0 : Int) != l.getD i (0 : Int)) = false := by simp
      simp only [ss_lsameBytes_0, e1, e2, Int.toNat_natCast, e3, cond_true, cond_false, wrapU i (by omega)]
      exact .inl ⟨_, rfl, ⟨i + 1, rfl, by omega⟩, by simp only [Int.toNat_natCast]; omega⟩
    · have e1 : decide ((i : Int) < ((l.length : Nat) : Int)) = false := decide_eq_false (by omega)
      simp only [ss_lsameBytes_0, e1, cond_false]
      exact .inr ⟨_, rfl, rfl⟩
  simp only [q_lsameBytes, lsameBytes, hn, key, cond_false]
  exact ⟨rfl, rfl⟩
theorem ops_all {b : List Int} (h : bigT (.sl (.int .u8)) b = true) : q_lFnOps b = true ∧ lFnOps b = true := by
  have hb := bigB_ok h
  cases hd : lbig b with
  | true => simp only [q_lFnOps, lFnOps, hd, cond_true]; exact ⟨trivial, trivial⟩
  | false =>
    have hl : b.length ≤ 1048576 := by simp only [lbig] at hd; have := of_decide_eq_false hd; omega
    obtain ⟨a1, a2⟩ := sDrawPutOps_spec hb hl
    obtain ⟨c1, c2, c3⟩ := sDrawGetOps_spec hb hl
    obtain ⟨g1, g2, g3⟩ := getOps_both c2 (by omega)
    have hq : ∀ l : List (Int × ByteArray × ByteArray), okOps l = true → q_iPutOps l = true := fun l hl => by
      simp only [q_iPutOps, q_iOpsOk, q_iputOps_nil, hl]; cases iOpsOk l <;> rfl
    simp only [q_lFnOps, lFnOps, hd, a1, c1, g1, g2, cond_false, Bool.true_and, q_sOpsOk, q_iOpsOk, a2, iPutOps_eq, ← opsOk_same, hq _ a2]
    generalize sDrawPutOps b = w at *
    generalize sDrawGetOps b = c at *
    have hlo := okL_le (okOps_okL a2)
    have e5 : ∀ x : Bool, (x == x) = true := fun x => by simp
    obtain ⟨so1, so2⟩ := sameOps_self hlo
    rcases g3 with ⟨l, e1, e2, e3, e4⟩ | ⟨e1, e2⟩
    · obtain ⟨sb1, sb2⟩ := sameBytes_self (l := c) (by omega)
      simp only [e1, e2, e3, hq _ (opsOk_okOps e3), ← e4, sb1, sb2, e5, Bool.not_true, cond_false, cond_true, Bool.true_and]
      cases hw : sOpsOk w with
      | false => exact ⟨rfl, rfl⟩
      | true =>
        have gq := (iGetOps_of (opsB_ok hw) (by have := opsB_len hw; omega)).1
        simp only [Bool.not_true, cond_false, cond_true, iGetOps_put hw, gq, so1, so2, Bool.and_self]
        exact ⟨trivial, trivial⟩
    · simp only [e1, e2, e5, Bool.not_true, cond_false, Bool.true_and]
      cases hw : sOpsOk w with
      | false => exact ⟨rfl, rfl⟩
      | true =>
        have gq := (iGetOps_of (opsB_ok hw) (by have := opsB_len hw; omega)).1
        simp only [Bool.not_true, cond_false, cond_true, iGetOps_put hw, gq, so1, so2, Bool.and_self]
        exact ⟨trivial, trivial⟩
theorem pre_of_lFnOps (b : List Int) (h : bigT (.sl (.int .u8)) b = true) : pre_lFnOps (b, ()) = true := (ops_all h).1
theorem exact_lFnOps (b : List Int) (h : bigT (.sl (.int .u8)) b = true) : lFnOps b = true := (ops_all h).2

end Go.Proofs.Ytoddiofedjnapaa.Eng

/- What the functions that FnExactWhole reaches compute: further. -/
import Derived.Test.YtcofibhklbfgoaaFExactWholeB
namespace Go.Proofs.Ytcofibhklbfgoaa.Eng
open Go Go.RowKit
set_option linter.unusedSimpArgs false
set_option linter.unusedVariables false
set_option maxRecDepth 10000
/-! 87 loop.example/g00244/laws.eqRecS -/
noncomputable abbrev P_leqRecS : List PSh := [.t (.sl (.pair (.int .i64) (.pair (.int .i64) (.sl (.pair (.int .i64) (.pair .str .str)))))), .t (.sl (.pair (.int .i64) (.pair (.int .i64) (.sl (.pair (.int .i64) (.pair .str .str))))))]
noncomputable abbrev S_leqRecS_0 : SS := ⟨[.t false (.sl (.pair (.int .i64) (.pair (.int .i64) (.sl (.pair (.int .i64) (.pair .str .str)))))), .t false (.sl (.pair (.int .i64) (.pair (.int .i64) (.sl (.pair (.int .i64) (.pair .str .str)))))), .junk, .junk, .junk, .t true (.int .i64), .junk, .junk, .junk, .junk, .junk, .junk, .junk, .junk, .junk, .junk, .junk, .junk, .junk, .junk, .junk, .junk, .junk, .junk, .junk, .junk, .junk], []⟩
noncomputable abbrev E_leqRecS_0_0 : SS := ⟨[.junk, .junk, .junk, .junk, .t true .bool, .junk, .junk, .junk, .junk, .junk, .junk, .junk, .junk, .junk, .junk, .junk, .junk, .junk, .junk, .junk, .junk, .junk, .junk, .junk, .junk, .junk, .junk], []⟩
noncomputable abbrev E_leqRecS_0_1 : SS := ⟨[.junk, .junk, .junk, .junk, .junk, .junk, .junk, .junk, .junk, .junk, .junk, .junk, .junk, .junk, .junk, .junk, .junk, .junk, .junk, .junk, .junk, .junk, .junk, .junk, .junk, .junk, .junk], []⟩
noncomputable def st_leqRecS_0 (x0 : List (Int × Int × List (Int × ByteArray × ByteArray))) (x1 : List (Int × Int × List (Int × ByteArray × ByteArray))) (x5 : Int) : RT S_leqRecS_0.den := (.br (decide (x5 < ((x0.length : Nat) : Int))) (.br (decide (0 ≤ x5 ∧ x5 < ((x0.length : Nat) : Int))) (.br (decide (0 ≤ x5 ∧ x5 < ((x1.length : Nat) : Int))) (.br (q_leqRec ((x0.getD x5.toNat ((0 : Int), ((0 : Int), []))).1) (((x0.getD x5.toNat ((0 : Int), ((0 : Int), []))).2).1) (((x0.getD x5.toNat ((0 : Int), ((0 : Int), []))).2).2) ((x1.getD x5.toNat ((0 : Int), ((0 : Int), []))).1) (((x1.getD x5.toNat ((0 : Int), ((0 : Int), []))).2).1) (((x1.getD x5.toNat ((0 : Int), ((0 : Int), []))).2).2)) (.br (!(leqRec ((x0.getD x5.toNat ((0 : Int), ((0 : Int), []))).1) (((x0.getD x5.toNat ((0 : Int), ((0 : Int), []))).2).1) (((x0.getD x5.toNat ((0 : Int), ((0 : Int), []))).2).2) ((x1.getD x5.toNat ((0 : Int), ((0 : Int), []))).1) (((x1.getD x5.toNat ((0 : Int), ((0 : Int), []))).2).1) (((x1.getD x5.toNat ((0 : Int), ((0 : Int), []))).2).2))) (.done .ret E_leqRecS_0_0 (((), (), (), (), false, (), (), (), (), (), (), (), (), (), (), (), (), (), (), (), (), (), (), (), (), (), (), ()), ())) (.next ((x0, x1, (), (), (), IntKind.wrap .i64 (x5 + (1 : Int)), (), (), (), (), (), (), (), (), (), (), (), (), (), (), (), (), (), (), (), (), (), ()), ()))) .fail) .fail) .fail) (.done (.exit 0) E_leqRecS_0_1 (((), (), (), (), (), (), (), (), (), (), (), (), (), (), (), (), (), (), (), (), (), (), (), (), (), (), (), ()), ())))
noncomputable abbrev V_leqRecS_0 := (List (Int × Int × List (Int × ByteArray × ByteArray))) × (List (Int × Int × List (Int × ByteArray × ByteArray))) × (Int)
noncomputable abbrev A_leqRecS_0 := Nat × (Bool)
noncomputable def fl_leqRecS_0 : A_leqRecS_0 := (99, (false : Bool))
noncomputable def ss_leqRecS_0 (x0 : List (Int × Int × List (Int × ByteArray × ByteArray))) (x1 : List (Int × Int × List (Int × ByteArray × ByteArray))) (x5 : Int) : V_leqRecS_0 ⊕ A_leqRecS_0 := (cond (decide (x5 < ((x0.length : Nat) : Int))) (cond (decide (0 ≤ x5 ∧ x5 < ((x0.length : Nat) : Int))) (cond (decide (0 ≤ x5 ∧ x5 < ((x1.length : Nat) : Int))) (cond (q_leqRec ((x0.getD x5.toNat ((0 : Int), ((0 : Int), []))).1) (((x0.getD x5.toNat ((0 : Int), ((0 : Int), []))).2).1) (((x0.getD x5.toNat ((0 : Int), ((0 : Int), []))).2).2) ((x1.getD x5.toNat ((0 : Int), ((0 : Int), []))).1) (((x1.getD x5.toNat ((0 : Int), ((0 : Int), []))).2).1) (((x1.getD x5.toNat ((0 : Int), ((0 : Int), []))).2).2)) (cond (!(leqRec ((x0.getD x5.toNat ((0 : Int), ((0 : Int), []))).1) (((x0.getD x5.toNat ((0 : Int), ((0 : Int), []))).2).1) (((x0.getD x5.toNat ((0 : Int), ((0 : Int), []))).2).2) ((x1.getD x5.toNat ((0 : Int), ((0 : Int), []))).1) (((x1.getD x5.toNat ((0 : Int), ((0 : Int), []))).2).1) (((x1.getD x5.toNat ((0 : Int), ((0 : Int), []))).2).2))) (.inr (0, false)) (.inl (x0, x1, IntKind.wrap .i64 (x5 + (1 : Int))))) (.inr fl_leqRecS_0)) (.inr fl_leqRecS_0)) (.inr fl_leqRecS_0)) (.inr (1, (false : Bool))))
noncomputable def it_leqRecS_0 (x0 : List (Int × Int × List (Int × ByteArray × ByteArray))) (x1 : List (Int × Int × List (Int × ByteArray × ByteArray))) (x5 : Int) : A_leqRecS_0 := itX (fun v : V_leqRecS_0 => ss_leqRecS_0 v.1 v.2.1 v.2.2) fl_leqRecS_0 (x0, x1, x5)
noncomputable def ct_leqRecS_0 (a : A_leqRecS_0) : CT := (.br (a.1 == 0) (.done .ret E_leqRecS_0_0 (((), (), (), (), a.2, (), (), (), (), (), (), (), (), (), (), (), (), (), (), (), (), (), (), (), (), (), (), ()), ())) (.br (a.1 == 1) (.done (.exit 0) E_leqRecS_0_1 (((), (), (), (), (), (), (), (), (), (), (), (), (), (), (), (), (), (), (), (), (), (), (), (), (), (), (), ()), ())) .fail))
noncomputable def T_leqRecS_0 (x0 : List (Int × Int × List (Int × ByteArray × ByteArray))) (x1 : List (Int × Int × List (Int × ByteArray × ByteArray))) (x5 : Int) : CT := ct_leqRecS_0 (it_leqRecS_0 x0 x1 x5)
noncomputable abbrev sp_leqRecS_0 : S_leqRecS_0.den → RT S_leqRecS_0.den := fun d => st_leqRecS_0 d.1.1 d.1.2.1 d.1.2.2.2.2.2.1
noncomputable abbrev pk_leqRecS_0 (x0 : List (Int × Int × List (Int × ByteArray × ByteArray))) (x1 : List (Int × Int × List (Int × ByteArray × ByteArray))) (x5 : Int) : S_leqRecS_0.den := ((x0, x1, (), (), (), x5, (), (), (), (), (), (), (), (), (), (), (), (), (), (), (), (), (), (), (), (), (), ()), ())
noncomputable def body_leqRecS_0 : Code := ((loopsIn 0 (bodyOf Try.f87)).getD 0 (0, .skip)).2
theorem R_leqRecS_0 (x0 : List (Int × Int × List (Int × ByteArray × ByteArray))) (x1 : List (Int × Int × List (Int × ByteArray × ByteArray))) (x5 : Int) : (T_leqRecS_0 x0 x1 x5).val (D := S_leqRecS_0.den) = .fail ∨ Runs sp_leqRecS_0 (pk_leqRecS_0 x0 x1 x5) (T_leqRecS_0 x0 x1 x5).val := Runs.ofIt (step := sp_leqRecS_0) (fun v : V_leqRecS_0 => pk_leqRecS_0 v.1 v.2.1 v.2.2) (ct := ct_leqRecS_0) rfl (fun v => ((relB (relB (relB (relB (relB rfl rfl) rfl) rfl) rfl) rfl) : (st_leqRecS_0 v.1 v.2.1 v.2.2).val = relS (fun v : V_leqRecS_0 => pk_leqRecS_0 v.1 v.2.1 v.2.2) ct_leqRecS_0 (ss_leqRecS_0 v.1 v.2.1 v.2.2))) (fun a => ((cendB (cendD (by simp)) (cendB (cendD (by simp)) cendF)) : CEnd _ (ct_leqRecS_0 a))) (x0, x1, x5)
theorem rd_leqRecS_0 : ∀ d, execC Try.prog tt S60 QF60 (fun _ _ => none) 0 body_leqRecS_0 (S_leqRecS_0.st d 0 []) (fun e s' => some (e, S_leqRecS_0.cutE (kepts [4] [(0, [])]) e s')) = (sp_leqRecS_0 d).opt 0 [] := by
  intro d
  kernel_rfl
noncomputable abbrev say_leqRecS_0 : St → Option Tree := S_leqRecS_0.say 0 [] [] (fun d => T_leqRecS_0 d.1.1 d.1.2.1 d.1.2.2.2.2.2.1)
theorem lw_leqRecS_0 : LoopWp Try.prog say_leqRecS_0 body_leqRecS_0 := SS.wp G60 (fun _ _ => none) (by rw [show loopsIn 0 body_leqRecS_0 = [] by kernel_rfl]; simp) S_leqRecS_0 0 [] (kepts [4] [(0, [])]) [] sp_leqRecS_0 rd_leqRecS_0 _ (fun d => R_leqRecS_0 d.1.1 d.1.2.1 d.1.2.2.2.2.2.1)
noncomputable def leqRecS (a0 : List (Int × Int × List (Int × ByteArray × ByteArray))) (a1 : List (Int × Int × List (Int × ByteArray × ByteArray))) : Bool := (cond (((a0.length : Nat) : Int) != ((a1.length : Nat) : Int)) false (cond ((it_leqRecS_0 a0 a1 (0 : Int)).1 == 0) ((it_leqRecS_0 a0 a1 (0 : Int)).2) true))
noncomputable abbrev e_leqRecS (r : Bool) : AV × List AObj := ((.t true .bool r), [])
noncomputable abbrev g_leqRecS : pshsDen P_leqRecS → AV × List AObj := fun d => e_leqRecS (leqRecS d.1 d.2.1)
noncomputable def q_leqRecS (a0 : List (Int × Int × List (Int × ByteArray × ByteArray))) (a1 : List (Int × Int × List (Int × ByteArray × ByteArray))) : Bool := cond (((a0.length : Nat) : Int) != ((a1.length : Nat) : Int)) true (cond ((it_leqRecS_0 a0 a1 (0 : Int)).1 == 0) true ((it_leqRecS_0 a0 a1 (0 : Int)).1 == 1))
noncomputable abbrev pre_leqRecS : pshsDen P_leqRecS → Bool := fun d => q_leqRecS d.1 d.2.1
theorem runA_leqRecS (a0 : List (Int × Int × List (Int × ByteArray × ByteArray))) (a1 : List (Int × Int × List (Int × ByteArray × ByteArray))) (hp : (cond (((a0.length : Nat) : Int) != ((a1.length : Nat) : Int)) true (cond ((it_leqRecS_0 a0 a1 (0 : Int)).1 == 0) true ((it_leqRecS_0 a0 a1 (0 : Int)).1 == 1))) = true) : runP true Try.prog tt S60 QF60 (fun b => match b with | 0 => say_leqRecS_0 | _ => fun _ => none) Try.f87 (argsMk P_leqRecS (a0, (a1, ()))) = some (g_leqRecS (a0, (a1, ()))) := by
  refine Eq.trans (b := (cond (((a0.length : Nat) : Int) != ((a1.length : Nat) : Int)) (some (e_leqRecS false)) (cond ((it_leqRecS_0 a0 a1 (0 : Int)).1 == 0) (some (e_leqRecS ((it_leqRecS_0 a0 a1 (0 : Int)).2))) (cond ((it_leqRecS_0 a0 a1 (0 : Int)).1 == 1) (some (e_leqRecS true)) none)))) (by kernel_rfl) ?_
  exact (cndQ (F := fun r => some (e_leqRecS r)) hp (fun hp => rfl) (fun hp => (cndQ (F := fun r => some (e_leqRecS r)) hp (fun hp => rfl) (fun hp => (cndT hp (fun _h => rfl))))))
theorem run_leqRecS : ∀ d, pre_leqRecS d = true → runP true Try.prog tt S60 QF60 (fun b => match b with | 0 => say_leqRecS_0 | _ => fun _ => none) Try.f87 (argsMk P_leqRecS d) = some (g_leqRecS d) := fun d hp => runA_leqRecS d.1 d.2.1 hp
theorem c_leqRecS : PContract Try.prog 87 (sumOf P_leqRecS pre_leqRecS g_leqRecS) := PContract.of_data true G60 (fn := Try.f87) (by kernel_rfl) (L := fun b => match b with | 0 => say_leqRecS_0 | _ => fun _ => none) (by rw [show loopsIn 0 (bodyOf Try.f87) = [(0, body_leqRecS_0)] by kernel_rfl]; intro p hp; simp only [List.mem_singleton] at hp; subst hp; exact lw_leqRecS_0) P_leqRecS pre_leqRecS g_leqRecS run_leqRecS
noncomputable def S61 : Tab := Tab.add S60 87 (lift (sumOf P_leqRecS pre_leqRecS g_leqRecS))
noncomputable def QF61 : FuncId → Bool := qadd QF60 87
theorem G61 : Good Try.prog tt S61 QF61 := G60.addQ c_leqRecS ⟨Try.f87, by kernel_rfl, by kernel_rfl, by kernel_rfl⟩ (fun _ => rfl)

/-! 106 loop.example/g00244/laws.eqPair -/
noncomputable abbrev P_leqPair : List PSh := [.agg [.str, .str], .agg [.str, .str]]
noncomputable def leqPair (a0 : ByteArray) (a1 : ByteArray) (a2 : ByteArray) (a3 : ByteArray) : Bool := (cond (!(a0.toList == a2.toList)) false (cond (!(a1.toList == a3.toList)) false true))
noncomputable abbrev e_leqPair (r : Bool) : AV × List AObj := ((.t true .bool r), [])
noncomputable abbrev g_leqPair : pshsDen P_leqPair → AV × List AObj := fun d => e_leqPair (leqPair d.1.1 d.1.2.1 d.2.1.1 d.2.1.2.1)
noncomputable abbrev pre_leqPair : pshsDen P_leqPair → Bool := fun d => true
theorem runA_leqPair (a0 : ByteArray) (a1 : ByteArray) (a2 : ByteArray) (a3 : ByteArray) : runP true Try.prog tt S61 QF61 (fun _ _ => none) Try.f106 (argsMk P_leqPair ((a0, (a1, ())), ((a2, (a3, ())), ()))) = some (g_leqPair ((a0, (a1, ())), ((a2, (a3, ())), ()))) := by
  refine Eq.trans (b := (cond (!(a0.toList == a2.toList)) (some (e_leqPair false)) (cond (!(a1.toList == a3.toList)) (some (e_leqPair false)) (some (e_leqPair true))))) (by kernel_rfl) ?_
  exact (cnd (F := fun r => some (e_leqPair r)) (fun _h => rfl) (fun _h => (cnd (F := fun r => some (e_leqPair r)) (fun _h => rfl) (fun _h => rfl))))
theorem run_leqPair : ∀ d, pre_leqPair d = true → runP true Try.prog tt S61 QF61 (fun _ _ => none) Try.f106 (argsMk P_leqPair d) = some (g_leqPair d) := fun d hp => runA_leqPair d.1.1 d.1.2.1 d.2.1.1 d.2.1.2.1
theorem c_leqPair : PContract Try.prog 106 (sumOf P_leqPair pre_leqPair g_leqPair) := PContract.of_data true G61 (fn := Try.f106) (by kernel_rfl) (L := fun _ _ => none) (by rw [show loopsIn 0 (bodyOf Try.f106) = [] by kernel_rfl]; simp) P_leqPair pre_leqPair g_leqPair run_leqPair
noncomputable def S62 : Tab := Tab.add S61 106 (lift (sumOf P_leqPair pre_leqPair g_leqPair))
noncomputable def QF62 : FuncId → Bool := qadd QF61 106
theorem G62 : Good Try.prog tt S62 QF62 := G61.addQ c_leqPair ⟨Try.f106, by kernel_rfl, by kernel_rfl, by kernel_rfl⟩ (fun _ => rfl)

/-! 88 loop.example/g00244/laws.eqPairS -/

noncomputable def f_leqPairS_0 (x0 x1 : List (ByteArray × ByteArray)) (i : Nat) : Bool := !(!(leqPair ((x0.getD i ((⟨#[]⟩ : ByteArray), (⟨#[]⟩ : ByteArray))).1) ((x0.getD i ((⟨#[]⟩ : ByteArray), (⟨#[]⟩ : ByteArray))).2) ((x1.getD i ((⟨#[]⟩ : ByteArray), (⟨#[]⟩ : ByteArray))).1) ((x1.getD i ((⟨#[]⟩ : ByteArray), (⟨#[]⟩ : ByteArray))).2)))
noncomputable abbrev P_leqPairS : List PSh := [.t (.sl (.pair .str .str)), .t (.sl (.pair .str .str))]
noncomputable abbrev S_leqPairS_0 : SS := ⟨[.t false (.sl (.pair .str .str)), .t false (.sl (.pair .str .str)), .junk, .junk, .junk, .t true (.int .i64), .junk, .junk, .junk, .junk, .junk, .junk, .junk, .junk, .junk, .junk, .junk, .junk, .junk, .junk, .junk, .junk, .junk, .junk, .junk, .junk, .junk], []⟩
noncomputable abbrev E_leqPairS_0_0 : SS := ⟨[.junk, .junk, .junk, .junk, .t true .bool, .junk, .junk, .junk, .junk, .junk, .junk, .junk, .junk, .junk, .junk, .junk, .junk, .junk, .junk, .junk, .junk, .junk, .junk, .junk, .junk, .junk, .junk], []⟩
noncomputable abbrev E_leqPairS_0_1 : SS := ⟨[.junk, .junk, .junk, .junk, .junk, .junk, .junk, .junk, .junk, .junk, .junk, .junk, .junk, .junk, .junk, .junk, .junk, .junk, .junk, .junk, .junk, .junk, .junk, .junk, .junk, .junk, .junk], []⟩
noncomputable def st_leqPairS_0 (x0 : List (ByteArray × ByteArray)) (x1 : List (ByteArray × ByteArray)) (x5 : Int) : RT S_leqPairS_0.den := (.br (decide (x5 < ((x0.length : Nat) : Int))) (.br (decide (0 ≤ x5 ∧ x5 < ((x0.length : Nat) : Int))) (.br (decide (0 ≤ x5 ∧ x5 < ((x1.length : Nat) : Int))) (.br (!(leqPair ((x0.getD x5.toNat ((⟨#[]⟩ : ByteArray), (⟨#[]⟩ : ByteArray))).1) ((x0.getD x5.toNat ((⟨#[]⟩ : ByteArray), (⟨#[]⟩ : ByteArray))).2) ((x1.getD x5.toNat ((⟨#[]⟩ : ByteArray), (⟨#[]⟩ : ByteArray))).1) ((x1.getD x5.toNat ((⟨#[]⟩ : ByteArray), (⟨#[]⟩ : ByteArray))).2))) (.done .ret E_leqPairS_0_0 (((), (), (), (), false, (), (), (), (), (), (), (), (), (), (), (), (), (), (), (), (), (), (), (), (), (), (), ()), ())) (.next ((x0, x1, (), (), (), IntKind.wrap .i64 (x5 + (1 : Int)), (), (), (), (), (), (), (), (), (), (), (), (), (), (), (), (), (), (), (), (), (), ()), ()))) .fail) .fail) (.done (.exit 0) E_leqPairS_0_1 (((), (), (), (), (), (), (), (), (), (), (), (), (), (), (), (), (), (), (), (), (), (), (), (), (), (), (), ()), ())))
noncomputable def T_leqPairS_0 (x0 : List (ByteArray × ByteArray)) (x1 : List (ByteArray × ByteArray)) (x5 : Int) : CT := (.br (decide (0 ≤ x5) && (decide (x0.length = x1.length) && okL x0)) (.br (allF (f_leqPairS_0 x0 x1) (x0.length - x5.toNat) x5.toNat) (.done (.exit 0) E_leqPairS_0_1 (((), (), (), (), (), (), (), (), (), (), (), (), (), (), (), (), (), (), (), (), (), (), (), (), (), (), (), ()), ())) (.done .ret E_leqPairS_0_0 (((), (), (), (), false, (), (), (), (), (), (), (), (), (), (), (), (), (), (), (), (), (), (), (), (), (), (), ()), ()))) .fail)
noncomputable abbrev sp_leqPairS_0 : S_leqPairS_0.den → RT S_leqPairS_0.den := fun d => st_leqPairS_0 d.1.1 d.1.2.1 d.1.2.2.2.2.2.1
noncomputable abbrev pk_leqPairS_0 (x0 : List (ByteArray × ByteArray)) (x1 : List (ByteArray × ByteArray)) (x5 : Int) : S_leqPairS_0.den := ((x0, x1, (), (), (), x5, (), (), (), (), (), (), (), (), (), (), (), (), (), (), (), (), (), (), (), (), (), ()), ())
noncomputable def body_leqPairS_0 : Code := ((loopsIn 0 (bodyOf Try.f88)).getD 0 (0, .skip)).2
theorem R_leqPairS_0 (x0 : List (ByteArray × ByteArray)) (x1 : List (ByteArray × ByteArray)) (x5 : Int) : (T_leqPairS_0 x0 x1 x5).val (D := S_leqPairS_0.den) = .fail ∨ Runs sp_leqPairS_0 (pk_leqPairS_0 x0 x1 x5) (T_leqPairS_0 x0 x1 x5).val := by
  cases hc : (decide (0 ≤ x5) && (decide (x0.length = x1.length) && okL x0)) with
  | false => left; simp only [T_leqPairS_0, CT.val, hc, cond_false]
  | true =>
    right
    simp only [T_leqPairS_0, CT.val, hc, cond_true]
    simp only [Bool.and_eq_true, decide_eq_true_eq] at hc
    obtain ⟨i, rfl⟩ := Int.eq_ofNat_of_zero_le hc.1
    have hs := okL_le hc.2.2
    simp only [Int.toNat_natCast]
    refine Runs.scan (fun j => pk_leqPairS_0 x0 x1 (j : Int)) (x0.length) (f_leqPairS_0 x0 x1) (fun i hi => ?_) (fun i hi => ?_) ⟨_, _, _, rfl, by simp⟩ ⟨_, _, _, rfl, by simp⟩ _ _ rfl
    · 
      have h0a : decide ((i : Int) < ((x0.length : Nat) : Int)) = true := decide_eq_true (by omega)
      have h0b : decide (0 ≤ (i : Int) ∧ (i : Int) < ((x0.length : Nat) : Int)) = true := decide_eq_true (by omega)
      simp only [sp_leqPairS_0, st_leqPairS_0, RT.val, h0a, h0b, cond_true, wrapS i (by omega), Int.toNat_natCast]
      have h9 : decide (0 ≤ (i : Int) ∧ (i : Int) < ((x1.length : Nat) : Int)) = true := decide_eq_true (by omega)
      simp only [h9, cond_true]
      simp only [f_leqPairS_0]
      generalize (!(leqPair ((x0.getD i ((⟨#[]⟩ : ByteArray), (⟨#[]⟩ : ByteArray))).1) ((x0.getD i ((⟨#[]⟩ : ByteArray), (⟨#[]⟩ : ByteArray))).2) ((x1.getD i ((⟨#[]⟩ : ByteArray), (⟨#[]⟩ : ByteArray))).1) ((x1.getD i ((⟨#[]⟩ : ByteArray), (⟨#[]⟩ : ByteArray))).2))) = c
      cases c <;> rfl
    · have h1 : decide ((i : Int) < ((x0.length : Nat) : Int)) = false := decide_eq_false (by omega)
      simp only [sp_leqPairS_0, st_leqPairS_0, RT.val, h1, cond_false]
theorem rd_leqPairS_0 : ∀ d, execC Try.prog tt S62 QF62 (fun _ _ => none) 0 body_leqPairS_0 (S_leqPairS_0.st d 0 []) (fun e s' => some (e, S_leqPairS_0.cutE (kepts [4] [(0, [])]) e s')) = (sp_leqPairS_0 d).opt 0 [] := by
  intro d
  kernel_rfl
noncomputable abbrev say_leqPairS_0 : St → Option Tree := S_leqPairS_0.say 0 [] [] (fun d => T_leqPairS_0 d.1.1 d.1.2.1 d.1.2.2.2.2.2.1)
theorem lw_leqPairS_0 : LoopWp Try.prog say_leqPairS_0 body_leqPairS_0 := SS.wp G62 (fun _ _ => none) (by rw [show loopsIn 0 body_leqPairS_0 = [] by kernel_rfl]; simp) S_leqPairS_0 0 [] (kepts [4] [(0, [])]) [] sp_leqPairS_0 rd_leqPairS_0 _ (fun d => R_leqPairS_0 d.1.1 d.1.2.1 d.1.2.2.2.2.2.1)
noncomputable def leqPairS (a0 : List (ByteArray × ByteArray)) (a1 : List (ByteArray × ByteArray)) : Bool := (cond (((a0.length : Nat) : Int) != ((a1.length : Nat) : Int)) false (cond (allF (f_leqPairS_0 a0 a1) (a0.length - (0 : Int).toNat) (0 : Int).toNat) true false))
noncomputable abbrev e_leqPairS (r : Bool) : AV × List AObj := ((.t true .bool r), [])
noncomputable abbrev g_leqPairS : pshsDen P_leqPairS → AV × List AObj := fun d => e_leqPairS (leqPairS d.1 d.2.1)
noncomputable def q_leqPairS (a0 : List (ByteArray × ByteArray)) (a1 : List (ByteArray × ByteArray)) : Bool := okL a0
noncomputable abbrev pre_leqPairS : pshsDen P_leqPairS → Bool := fun d => q_leqPairS d.1 d.2.1
theorem runA_leqPairS (a0 : List (ByteArray × ByteArray)) (a1 : List (ByteArray × ByteArray)) (hp : (okL a0) = true) : runP true Try.prog tt S62 QF62 (fun b => match b with | 0 => say_leqPairS_0 | _ => fun _ => none) Try.f88 (argsMk P_leqPairS (a0, (a1, ()))) = some (g_leqPairS (a0, (a1, ()))) := by
  refine Eq.trans (b := (cond (((a0.length : Nat) : Int) != ((a1.length : Nat) : Int)) (some (e_leqPairS false)) (cond (decide (0 ≤ (0 : Int)) && (decide (a0.length = a1.length) && okL a0)) (cond (allF (f_leqPairS_0 a0 a1) (a0.length - (0 : Int).toNat) (0 : Int).toNat) (some (e_leqPairS true)) (some (e_leqPairS false))) none))) (by kernel_rfl) ?_
  exact (cnd (F := fun r => some (e_leqPairS r)) (fun _h => rfl) (fun _h => (cndT (by simp only [okL, Bool.and_eq_true, decide_eq_true_eq] at hp ⊢; simp at _h; exact ⟨Int.le_refl 0, by omega, hp⟩) (fun _h => (cnd (F := fun r => some (e_leqPairS r)) (fun _h => rfl) (fun _h => rfl))))))
theorem run_leqPairS : ∀ d, pre_leqPairS d = true → runP true Try.prog tt S62 QF62 (fun b => match b with | 0 => say_leqPairS_0 | _ => fun _ => none) Try.f88 (argsMk P_leqPairS d) = some (g_leqPairS d) := fun d hp => runA_leqPairS d.1 d.2.1 hp
theorem c_leqPairS : PContract Try.prog 88 (sumOf P_leqPairS pre_leqPairS g_leqPairS) := PContract.of_data true G62 (fn := Try.f88) (by kernel_rfl) (L := fun b => match b with | 0 => say_leqPairS_0 | _ => fun _ => none) (by rw [show loopsIn 0 (bodyOf Try.f88) = [(0, body_leqPairS_0)] by kernel_rfl]; intro p hp; simp only [List.mem_singleton] at hp; subst hp; exact lw_leqPairS_0) P_leqPairS pre_leqPairS g_leqPairS run_leqPairS
noncomputable def S63 : Tab := Tab.add S62 88 (lift (sumOf P_leqPairS pre_leqPairS g_leqPairS))
noncomputable def QF63 : FuncId → Bool := qadd QF62 88
theorem G63 : Good Try.prog tt S63 QF63 := G62.addQ c_leqPairS ⟨Try.f88, by kernel_rfl, by kernel_rfl, by kernel_rfl⟩ (fun _ => rfl)

/-! 58 loop.example/g00244/laws.eqShard -/
noncomputable abbrev P_leqShard : List PSh := [.agg [(.int .i64), (.sl (.pair (.int .i64) (.pair (.int .i64) (.sl (.pair (.int .i64) (.pair .str .str)))))), (.int .i64), (.sl (.pair .str .str)), (.sl (.pair (.int .i64) (.pair (.int .i64) (.sl (.pair (.int .i64) (.pair .str .str))))))], .agg [(.int .i64), (.sl (.pair (.int .i64) (.pair (.int .i64) (.sl (.pair (.int .i64) (.pair .str .str)))))), (.int .i64), (.sl (.pair .str .str)), (.sl (.pair (.int .i64) (.pair (.int .i64) (.sl (.pair (.int .i64) (.pair .str .str))))))]]
noncomputable def leqShard (a0 : Int) (a1 : List (Int × Int × List (Int × ByteArray × ByteArray))) (a2 : Int) (a3 : List (ByteArray × ByteArray)) (a4 : List (Int × Int × List (Int × ByteArray × ByteArray))) (a5 : Int) (a6 : List (Int × Int × List (Int × ByteArray × ByteArray))) (a7 : Int) (a8 : List (ByteArray × ByteArray)) (a9 : List (Int × Int × List (Int × ByteArray × ByteArray))) : Bool := (cond (a0 != a5) false (cond (!(leqRecS a1 a6)) false (cond (a2 != a7) false (cond (!(leqPairS a3 a8)) false (cond (!(leqRecS a4 a9)) false true)))))
noncomputable abbrev e_leqShard (r : Bool) : AV × List AObj := ((.t true .bool r), [])
noncomputable abbrev g_leqShard : pshsDen P_leqShard → AV × List AObj := fun d => e_leqShard (leqShard d.1.1 d.1.2.1 d.1.2.2.1 d.1.2.2.2.1 d.1.2.2.2.2.1 d.2.1.1 d.2.1.2.1 d.2.1.2.2.1 d.2.1.2.2.2.1 d.2.1.2.2.2.2.1)
noncomputable def q_leqShard (a0 : Int) (a1 : List (Int × Int × List (Int × ByteArray × ByteArray))) (a2 : Int) (a3 : List (ByteArray × ByteArray)) (a4 : List (Int × Int × List (Int × ByteArray × ByteArray))) (a5 : Int) (a6 : List (Int × Int × List (Int × ByteArray × ByteArray))) (a7 : Int) (a8 : List (ByteArray × ByteArray)) (a9 : List (Int × Int × List (Int × ByteArray × ByteArray))) : Bool := cond (a0 != a5) true ((q_leqRecS a1 a6) && (cond (!(leqRecS a1 a6)) true (cond (a2 != a7) true ((q_leqPairS a3 a8) && (cond (!(leqPairS a3 a8)) true (q_leqRecS a4 a9))))))
noncomputable abbrev pre_leqShard : pshsDen P_leqShard → Bool := fun d => q_leqShard d.1.1 d.1.2.1 d.1.2.2.1 d.1.2.2.2.1 d.1.2.2.2.2.1 d.2.1.1 d.2.1.2.1 d.2.1.2.2.1 d.2.1.2.2.2.1 d.2.1.2.2.2.2.1
theorem runA_leqShard (a0 : Int) (a1 : List (Int × Int × List (Int × ByteArray × ByteArray))) (a2 : Int) (a3 : List (ByteArray × ByteArray)) (a4 : List (Int × Int × List (Int × ByteArray × ByteArray))) (a5 : Int) (a6 : List (Int × Int × List (Int × ByteArray × ByteArray))) (a7 : Int) (a8 : List (ByteArray × ByteArray)) (a9 : List (Int × Int × List (Int × ByteArray × ByteArray))) (hp : (cond (a0 != a5) true ((q_leqRecS a1 a6) && (cond (!(leqRecS a1 a6)) true (cond (a2 != a7) true ((q_leqPairS a3 a8) && (cond (!(leqPairS a3 a8)) true (q_leqRecS a4 a9))))))) = true) : runP true Try.prog tt S63 QF63 (fun _ _ => none) Try.f58 (argsMk P_leqShard ((a0, (a1, (a2, (a3, (a4, ()))))), ((a5, (a6, (a7, (a8, (a9, ()))))), ()))) = some (g_leqShard ((a0, (a1, (a2, (a3, (a4, ()))))), ((a5, (a6, (a7, (a8, (a9, ()))))), ()))) := by
  refine Eq.trans (b := (cond (a0 != a5) (some (e_leqShard false)) (cond (q_leqRecS a1 a6) (cond (!(leqRecS a1 a6)) (some (e_leqShard false)) (cond (a2 != a7) (some (e_leqShard false)) (cond (q_leqPairS a3 a8) (cond (!(leqPairS a3 a8)) (some (e_leqShard false)) (cond (q_leqRecS a4 a9) (cond (!(leqRecS a4 a9)) (some (e_leqShard false)) (some (e_leqShard true))) none)) none))) none))) (by kernel_rfl) ?_
  exact (cndQ (F := fun r => some (e_leqShard r)) hp (fun hp => rfl) (fun hp => (cndT (andL hp) (fun _h => (fun hp => (cndQ (F := fun r => some (e_leqShard r)) hp (fun hp => rfl) (fun hp => (cndQ (F := fun r => some (e_leqShard r)) hp (fun hp => rfl) (fun hp => (cndT (andL hp) (fun _h => (fun hp => (cndQ (F := fun r => some (e_leqShard r)) hp (fun hp => rfl) (fun hp => (cndT hp (fun _h => (cnd (F := fun r => some (e_leqShard r)) (fun _h => rfl) (fun _h => rfl))))))) (andR hp)))))))) (andR hp)))))
theorem run_leqShard : ∀ d, pre_leqShard d = true → runP true Try.prog tt S63 QF63 (fun _ _ => none) Try.f58 (argsMk P_leqShard d) = some (g_leqShard d) := fun d hp => runA_leqShard d.1.1 d.1.2.1 d.1.2.2.1 d.1.2.2.2.1 d.1.2.2.2.2.1 d.2.1.1 d.2.1.2.1 d.2.1.2.2.1 d.2.1.2.2.2.1 d.2.1.2.2.2.2.1 hp
theorem c_leqShard : PContract Try.prog 58 (sumOf P_leqShard pre_leqShard g_leqShard) := PContract.of_data true G63 (fn := Try.f58) (by kernel_rfl) (L := fun _ _ => none) (by rw [show loopsIn 0 (bodyOf Try.f58) = [] by kernel_rfl]; simp) P_leqShard pre_leqShard g_leqShard run_leqShard
noncomputable def S64 : Tab := Tab.add S63 58 (lift (sumOf P_leqShard pre_leqShard g_leqShard))
noncomputable def QF64 : FuncId → Bool := qadd QF63 58
theorem G64 : Good Try.prog tt S64 QF64 := G63.addQ c_leqShard ⟨Try.f58, by kernel_rfl, by kernel_rfl, by kernel_rfl⟩ (fun _ => rfl)

/-! 27 loop.example/g00244/laws.eqShardS -/
noncomputable abbrev P_leqShardS : List PSh := [.t (.sl (.pair (.int .i64) (.pair (.sl (.pair (.int .i64) (.pair (.int .i64) (.sl (.pair (.int .i64) (.pair .str .str)))))) (.pair (.int .i64) (.pair (.sl (.pair .str .str)) (.sl (.pair (.int .i64) (.pair (.int .i64) (.sl (.pair (.int .i64) (.pair .str .str))))))))))), .t (.sl (.pair (.int .i64) (.pair (.sl (.pair (.int .i64) (.pair (.int .i64) (.sl (.pair (.int .i64) (.pair .str .str)))))) (.pair (.int .i64) (.pair (.sl (.pair .str .str)) (.sl (.pair (.int .i64) (.pair (.int .i64) (.sl (.pair (.int .i64) (.pair .str .str)))))))))))]
noncomputable abbrev S_leqShardS_0 : SS := ⟨[.t false (.sl (.pair (.int .i64) (.pair (.sl (.pair (.int .i64) (.pair (.int .i64) (.sl (.pair (.int .i64) (.pair .str .str)))))) (.pair (.int .i64) (.pair (.sl (.pair .str .str)) (.sl (.pair (.int .i64) (.pair (.int .i64) (.sl (.pair (.int .i64) (.pair .str .str))))))))))), .t false (.sl (.pair (.int .i64) (.pair (.sl (.pair (.int .i64) (.pair (.int .i64) (.sl (.pair (.int .i64) (.pair .str .str)))))) (.pair (.int .i64) (.pair (.sl (.pair .str .str)) (.sl (.pair (.int .i64) (.pair (.int .i64) (.sl (.pair (.int .i64) (.pair .str .str))))))))))), .junk, .junk, .junk, .t true (.int .i64), .junk, .junk, .junk, .junk, .junk, .junk, .junk, .junk, .junk, .junk, .junk, .junk, .junk, .junk, .junk, .junk, .junk, .junk, .junk, .junk, .junk], []⟩
noncomputable abbrev E_leqShardS_0_0 : SS := ⟨[.junk, .junk, .junk, .junk, .t true .bool, .junk, .junk, .junk, .junk, .junk, .junk, .junk, .junk, .junk, .junk, .junk, .junk, .junk, .junk, .junk, .junk, .junk, .junk, .junk, .junk, .junk, .junk], []⟩
noncomputable abbrev E_leqShardS_0_1 : SS := ⟨[.junk, .junk, .junk, .junk, .junk, .junk, .junk, .junk, .junk, .junk, .junk, .junk, .junk, .junk, .junk, .junk, .junk, .junk, .junk, .junk, .junk, .junk, .junk, .junk, .junk, .junk, .junk], []⟩
noncomputable def st_leqShardS_0 (x0 : List (Int × (List (Int × Int × List (Int × ByteArray × ByteArray))) × Int × (List (ByteArray × ByteArray)) × List (Int × Int × List (Int × ByteArray × ByteArray)))) (x1 : List (Int × (List (Int × Int × List (Int × ByteArray × ByteArray))) × Int × (List (ByteArray × ByteArray)) × List (Int × Int × List (Int × ByteArray × ByteArray)))) (x5 : Int) : RT S_leqShardS_0.den := (.br (decide (x5 < ((x0.length : Nat) : Int))) (.br (decide (0 ≤ x5 ∧ x5 < ((x0.length : Nat) : Int))) (.br (decide (0 ≤ x5 ∧ x5 < ((x1.length : Nat) : Int))) (.br (q_leqShard ((x0.getD x5.toNat ((0 : Int), ([], ((0 : Int), ([], []))))).1) (((x0.getD x5.toNat ((0 : Int), ([], ((0 : Int), ([], []))))).2).1) ((((x0.getD x5.toNat ((0 : Int), ([], ((0 : Int), ([], []))))).2).2).1) (((((x0.getD x5.toNat ((0 : Int), ([], ((0 : Int), ([], []))))).2).2).2).1) (((((x0.getD x5.toNat ((0 : Int), ([], ((0 : Int), ([], []))))).2).2).2).2) ((x1.getD x5.toNat ((0 : Int), ([], ((0 : Int), ([], []))))).1) (((x1.getD x5.toNat ((0 : Int), ([], ((0 : Int), ([], []))))).2).1) ((((x1.getD x5.toNat ((0 : Int), ([], ((0 : Int), ([], []))))).2).2).1) (((((x1.getD x5.toNat ((0 : Int), ([], ((0 : Int), ([], []))))).2).2).2).1) (((((x1.getD x5.toNat ((0 : Int), ([], ((0 : Int), ([], []))))).2).2).2).2)) (.br (!(leqShard ((x0.getD x5.toNat ((0 : Int), ([], ((0 : Int), ([], []))))).1) (((x0.getD x5.toNat ((0 : Int), ([], ((0 : Int), ([], []))))).2).1) ((((x0.getD x5.toNat ((0 : Int), ([], ((0 : Int), ([], []))))).2).2).1) (((((x0.getD x5.toNat ((0 : Int), ([], ((0 : Int), ([], []))))).2).2).2).1) (((((x0.getD x5.toNat ((0 : Int), ([], ((0 : Int), ([], []))))).2).2).2).2) ((x1.getD x5.toNat ((0 : Int), ([], ((0 : Int), ([], []))))).1) (((x1.getD x5.toNat ((0 : Int), ([], ((0 : Int), ([], []))))).2).1) ((((x1.getD x5.toNat ((0 : Int), ([], ((0 : Int), ([], []))))).2).2).1) (((((x1.getD x5.toNat ((0 : Int), ([], ((0 : Int), ([], []))))).2).2).2).1) (((((x1.getD x5.toNat ((0 : Int), ([], ((0 : Int), ([], []))))).2).2).2).2))) (.done .ret E_leqShardS_0_0 (((), (), (), (), false, (), (), (), (), (), (), (), (), (), (), (), (), (), (), (), (), (), (), (), (), (), (), ()), ())) (.next ((x0, x1, (), (), (), IntKind.wrap .i64 (x5 + (1 : Int)), (), (), (), (), (), (), (), (), (), (), (), (), (), (), (), (), (), (), (), (), (), ()), ()))) .fail) .fail) .fail) (.done (.exit 0) E_leqShardS_0_1 (((), (), (), (), (), (), (), (), (), (), (), (), (), (), (), (), (), (), (), (), (), (), (), (), (), (), (), ()), ())))
noncomputable abbrev V_leqShardS_0 := (List (Int × (List (Int × Int × List (Int × ByteArray × ByteArray))) × Int × (List (ByteArray × ByteArray)) × List (Int × Int × List (Int × ByteArray × ByteArray)))) × (List (Int × (List (Int × Int × List (Int × ByteArray × ByteArray))) × Int × (List (ByteArray × ByteArray)) × List (Int × Int × List (Int × ByteArray × ByteArray)))) × (Int)
noncomputable abbrev A_leqShardS_0 := Nat × (Bool)
noncomputable def fl_leqShardS_0 : A_leqShardS_0 := (99, (false : Bool))
noncomputable def ss_leqShardS_0 (x0 : List (Int × (List (Int × Int × List (Int × ByteArray × ByteArray))) × Int × (List (ByteArray × ByteArray)) × List (Int × Int × List (Int × ByteArray × ByteArray)))) (x1 : List (Int × (List (Int × Int × List (Int × ByteArray × ByteArray))) × Int × (List (ByteArray × ByteArray)) × List (Int × Int × List (Int × ByteArray × ByteArray)))) (x5 : Int) : V_leqShardS_0 ⊕ A_leqShardS_0 := (cond (decide (x5 < ((x0.length : Nat) : Int))) (cond (decide (0 ≤ x5 ∧ x5 < ((x0.length : Nat) : Int))) (cond (decide (0 ≤ x5 ∧ x5 < ((x1.length : Nat) : Int))) (cond (q_leqShard ((x0.getD x5.toNat ((0 : Int), ([], ((0 : Int), ([], []))))).1) (((x0.getD x5.toNat ((0 : Int), ([], ((0 : Int), ([], []))))).2).1) ((((x0.getD x5.toNat ((0 : Int), ([], ((0 : Int), ([], []))))).2).2).1) (((((x0.getD x5.toNat ((0 : Int), ([], ((0 : Int), ([], []))))).2).2).2).1) (((((x0.getD x5.toNat ((0 : Int), ([], ((0 : Int), ([], []))))).2).2).2).2) ((x1.getD x5.toNat ((0 : Int), ([], ((0 : Int), ([], []))))).1) (((x1.getD x5.toNat ((0 : Int), ([], ((0 : Int), ([], []))))).2).1) ((((x1.getD x5.toNat ((0 : Int), ([], ((0 : Int), ([], []))))).2).2).1) (((((x1.getD x5.toNat ((0 : Int), ([], ((0 : Int), ([], []))))).2).2).2).1) (((((x1.getD x5.toNat ((0 : Int), ([], ((0 : Int), ([], []))))).2).2).2).2)) (cond (!(leqShard ((x0.getD x5.toNat ((0 : Int), ([], ((0 : Int), ([], []))))).1) (((x0.getD x5.toNat ((0 : Int), ([], ((0 : Int), ([], []))))).2).1) ((((x0.getD x5.toNat ((0 : Int), ([], ((0 : Int), ([], []))))).2).2).1) (((((x0.getD x5.toNat ((0 : Int), ([], ((0 : Int), ([], []))))).2).2).2).1) (((((x0.getD x5.toNat ((0 : Int), ([], ((0 : Int), ([], []))))).2).2).2).2) ((x1.getD x5.toNat ((0 : Int), ([], ((0 : Int), ([], []))))).1) (((x1.getD x5.toNat ((0 : Int), ([], ((0 : Int), ([], []))))).2).1) ((((x1.getD x5.toNat ((0 : Int), ([], ((0 : Int), ([], []))))).2).2).1) (((((x1.getD x5.toNat ((0 : Int), ([], ((0 : Int), ([], []))))).2).2).2).1) (((((x1.getD x5.toNat ((0 : Int), ([], ((0 : Int), ([], []))))).2).2).2).2))) (.inr (0, false)) (.inl (x0, x1, IntKind.wrap .i64 (x5 + (1 : Int))))) (.inr fl_leqShardS_0)) (.inr fl_leqShardS_0)) (.inr fl_leqShardS_0)) (.inr (1, (false : Bool))))
noncomputable def it_leqShardS_0 (x0 : List (Int × (List (Int × Int × List (Int × ByteArray × ByteArray))) × Int × (List (ByteArray × ByteArray)) × List (Int × Int × List (Int × ByteArray × ByteArray)))) (x1 : List (Int × (List (Int × Int × List (Int × ByteArray × ByteArray))) × Int × (List (ByteArray × ByteArray)) × List (Int × Int × List (Int × ByteArray × ByteArray)))) (x5 : Int) : A_leqShardS_0 := itX (fun v : V_leqShardS_0 => ss_leqShardS_0 v.1 v.2.1 v.2.2) fl_leqShardS_0 (x0, x1, x5)
noncomputable def ct_leqShardS_0 (a : A_leqShardS_0) : CT := (.br (a.1 == 0) (.done .ret E_leqShardS_0_0 (((), (), (), (), a.2, (), (), (), (), (), (), (), (), (), (), (), (), (), (), (), (), (), (), (), (), (), (), ()), ())) (.br (a.1 == 1) (.done (.exit 0) E_leqShardS_0_1 (((), (), (), (), (), (), (), (), (), (), (), (), (), (), (), (), (), (), (), (), (), (), (), (), (), (), (), ()), ())) .fail))
noncomputable def T_leqShardS_0 (x0 : List (Int × (List (Int × Int × List (Int × ByteArray × ByteArray))) × Int × (List (ByteArray × ByteArray)) × List (Int × Int × List (Int × ByteArray × ByteArray)))) (x1 : List (Int × (List (Int × Int × List (Int × ByteArray × ByteArray))) × Int × (List (ByteArray × ByteArray)) × List (Int × Int × List (Int × ByteArray × ByteArray)))) (x5 : Int) : CT := ct_leqShardS_0 (it_leqShardS_0 x0 x1 x5)
noncomputable abbrev sp_leqShardS_0 : S_leqShardS_0.den → RT S_leqShardS_0.den := fun d => st_leqShardS_0 d.1.1 d.1.2.1 d.1.2.2.2.2.2.1
noncomputable abbrev pk_leqShardS_0 (x0 : List (Int × (List (Int × Int × List (Int × ByteArray × ByteArray))) × Int × (List (ByteArray × ByteArray)) × List (Int × Int × List (Int × ByteArray × ByteArray)))) (x1 : List (Int × (List (Int × Int × List (Int × ByteArray × ByteArray))) × Int × (List (ByteArray × ByteArray)) × List (Int × Int × List (Int × ByteArray × ByteArray)))) (x5 : Int) : S_leqShardS_0.den := ((x0, x1, (), (), (), x5, (), (), (), (), (), (), (), (), (), (), (), (), (), (), (), (), (), (), (), (), (), ()), ())
noncomputable def body_leqShardS_0 : Code := ((loopsIn 0 (bodyOf Try.f27)).getD 0 (0, .skip)).2
theorem R_leqShardS_0 (x0 : List (Int × (List (Int × Int × List (Int × ByteArray × ByteArray))) × Int × (List (ByteArray × ByteArray)) × List (Int × Int × List (Int × ByteArray × ByteArray)))) (x1 : List (Int × (List (Int × Int × List (Int × ByteArray × ByteArray))) × Int × (List (ByteArray × ByteArray)) × List (Int × Int × List (Int × ByteArray × ByteArray)))) (x5 : Int) : (T_leqShardS_0 x0 x1 x5).val (D := S_leqShardS_0.den) = .fail ∨ Runs sp_leqShardS_0 (pk_leqShardS_0 x0 x1 x5) (T_leqShardS_0 x0 x1 x5).val := Runs.ofIt (step := sp_leqShardS_0) (fun v : V_leqShardS_0 => pk_leqShardS_0 v.1 v.2.1 v.2.2) (ct := ct_leqShardS_0) rfl (fun v => ((relB (relB (relB (relB (relB rfl rfl) rfl) rfl) rfl) rfl) : (st_leqShardS_0 v.1 v.2.1 v.2.2).val = relS (fun v : V_leqShardS_0 => pk_leqShardS_0 v.1 v.2.1 v.2.2) ct_leqShardS_0 (ss_leqShardS_0 v.1 v.2.1 v.2.2))) (fun a => ((cendB (cendD (by simp)) (cendB (cendD (by simp)) cendF)) : CEnd _ (ct_leqShardS_0 a))) (x0, x1, x5)
theorem rd_leqShardS_0 : ∀ d, execC Try.prog tt S64 QF64 (fun _ _ => none) 0 body_leqShardS_0 (S_leqShardS_0.st d 0 []) (fun e s' => some (e, S_leqShardS_0.cutE (kepts [4] [(0, [])]) e s')) = (sp_leqShardS_0 d).opt 0 [] := by
  intro d
  kernel_rfl
noncomputable abbrev say_leqShardS_0 : St → Option Tree := S_leqShardS_0.say 0 [] [] (fun d => T_leqShardS_0 d.1.1 d.1.2.1 d.1.2.2.2.2.2.1)
theorem lw_leqShardS_0 : LoopWp Try.prog say_leqShardS_0 body_leqShardS_0 := SS.wp G64 (fun _ _ => none) (by rw [show loopsIn 0 body_leqShardS_0 = [] by kernel_rfl]; simp) S_leqShardS_0 0 [] (kepts [4] [(0, [])]) [] sp_leqShardS_0 rd_leqShardS_0 _ (fun d => R_leqShardS_0 d.1.1 d.1.2.1 d.1.2.2.2.2.2.1)
noncomputable def leqShardS (a0 : List (Int × (List (Int × Int × List (Int × ByteArray × ByteArray))) × Int × (List (ByteArray × ByteArray)) × List (Int × Int × List (Int × ByteArray × ByteArray)))) (a1 : List (Int × (List (Int × Int × List (Int × ByteArray × ByteArray))) × Int × (List (ByteArray × ByteArray)) × List (Int × Int × List (Int × ByteArray × ByteArray)))) : Bool := (cond (((a0.length : Nat) : Int) != ((a1.length : Nat) : Int)) false (cond ((it_leqShardS_0 a0 a1 (0 : Int)).1 == 0) ((it_leqShardS_0 a0 a1 (0 : Int)).2) true))
noncomputable abbrev e_leqShardS (r : Bool) : AV × List AObj := ((.t true .bool r), [])
noncomputable abbrev g_leqShardS : pshsDen P_leqShardS → AV × List AObj := fun d => e_leqShardS (leqShardS d.1 d.2.1)
noncomputable def q_leqShardS (a0 : List (Int × (List (Int × Int × List (Int × ByteArray × ByteArray))) × Int × (List (ByteArray × ByteArray)) × List (Int × Int × List (Int × ByteArray × ByteArray)))) (a1 : List (Int × (List (Int × Int × List (Int × ByteArray × ByteArray))) × Int × (List (ByteArray × ByteArray)) × List (Int × Int × List (Int × ByteArray × ByteArray)))) : Bool := cond (((a0.length : Nat) : Int) != ((a1.length : Nat) : Int)) true (cond ((it_leqShardS_0 a0 a1 (0 : Int)).1 == 0) true ((it_leqShardS_0 a0 a1 (0 : Int)).1 == 1))
noncomputable abbrev pre_leqShardS : pshsDen P_leqShardS → Bool := fun d => q_leqShardS d.1 d.2.1
theorem runA_leqShardS (a0 : List (Int × (List (Int × Int × List (Int × ByteArray × ByteArray))) × Int × (List (ByteArray × ByteArray)) × List (Int × Int × List (Int × ByteArray × ByteArray)))) (a1 : List (Int × (List (Int × Int × List (Int × ByteArray × ByteArray))) × Int × (List (ByteArray × ByteArray)) × List (Int × Int × List (Int × ByteArray × ByteArray)))) (hp : (cond (((a0.length : Nat) : Int) != ((a1.length : Nat) : Int)) true (cond ((it_leqShardS_0 a0 a1 (0 : Int)).1 == 0) true ((it_leqShardS_0 a0 a1 (0 : Int)).1 == 1))) = true) : runP true Try.prog tt S64 QF64 (fun b => match b with | 0 => say_leqShardS_0 | _ => fun _ => none) Try.f27 (argsMk P_leqShardS (a0, (a1, ()))) = some (g_leqShardS (a0, (a1, ()))) := by
  refine Eq.trans (b := (cond (((a0.length : Nat) : Int) != ((a1.length : Nat) : Int)) (some (e_leqShardS false)) (cond ((it_leqShardS_0 a0 a1 (0 : Int)).1 == 0) (some (e_leqShardS ((it_leqShardS_0 a0 a1 (0 : Int)).2))) (cond ((it_leqShardS_0 a0 a1 (0 : Int)).1 == 1) (some (e_leqShardS true)) none)))) (by kernel_rfl) ?_
  exact (cndQ (F := fun r => some (e_leqShardS r)) hp (fun hp => rfl) (fun hp => (cndQ (F := fun r => some (e_leqShardS r)) hp (fun hp => rfl) (fun hp => (cndT hp (fun _h => rfl))))))
theorem run_leqShardS : ∀ d, pre_leqShardS d = true → runP true Try.prog tt S64 QF64 (fun b => match b with | 0 => say_leqShardS_0 | _ => fun _ => none) Try.f27 (argsMk P_leqShardS d) = some (g_leqShardS d) := fun d hp => runA_leqShardS d.1 d.2.1 hp
theorem c_leqShardS : PContract Try.prog 27 (sumOf P_leqShardS pre_leqShardS g_leqShardS) := PContract.of_data true G64 (fn := Try.f27) (by kernel_rfl) (L := fun b => match b with | 0 => say_leqShardS_0 | _ => fun _ => none) (by rw [show loopsIn 0 (bodyOf Try.f27) = [(0, body_leqShardS_0)] by kernel_rfl]; intro p hp; simp only [List.mem_singleton] at hp; subst hp; exact lw_leqShardS_0) P_leqShardS pre_leqShardS g_leqShardS run_leqShardS
noncomputable def S65 : Tab := Tab.add S64 27 (lift (sumOf P_leqShardS pre_leqShardS g_leqShardS))
noncomputable def QF65 : FuncId → Bool := qadd QF64 27
theorem G65 : Good Try.prog tt S65 QF65 := G64.addQ c_leqShardS ⟨Try.f27, by kernel_rfl, by kernel_rfl, by kernel_rfl⟩ (fun _ => rfl)

/-! 59 loop.example/g00244/laws.eqWord -/
noncomputable abbrev P_leqWord : List PSh := [.agg [(.int .i64), (.int .i64), (.int .i64), (.sl (.pair (.int .i64) (.pair .str .str))), .bool], .agg [(.int .i64), (.int .i64), (.int .i64), (.sl (.pair (.int .i64) (.pair .str .str))), .bool]]
noncomputable def leqWord (a0 : Int) (a1 : Int) (a2 : Int) (a3 : List (Int × ByteArray × ByteArray)) (a4 : Bool) (a5 : Int) (a6 : Int) (a7 : Int) (a8 : List (Int × ByteArray × ByteArray)) (a9 : Bool) : Bool := (cond (a0 != a5) false (cond (a1 != a6) false (cond (a2 != a7) false (cond (!(leqOpS a3 a8)) false (cond (!(a4 == a9)) false true)))))
noncomputable abbrev e_leqWord (r : Bool) : AV × List AObj := ((.t true .bool r), [])
noncomputable abbrev g_leqWord : pshsDen P_leqWord → AV × List AObj := fun d => e_leqWord (leqWord d.1.1 d.1.2.1 d.1.2.2.1 d.1.2.2.2.1 d.1.2.2.2.2.1 d.2.1.1 d.2.1.2.1 d.2.1.2.2.1 d.2.1.2.2.2.1 d.2.1.2.2.2.2.1)
noncomputable def q_leqWord (a0 : Int) (a1 : Int) (a2 : Int) (a3 : List (Int × ByteArray × ByteArray)) (a4 : Bool) (a5 : Int) (a6 : Int) (a7 : Int) (a8 : List (Int × ByteArray × ByteArray)) (a9 : Bool) : Bool := okL a3
noncomputable abbrev pre_leqWord : pshsDen P_leqWord → Bool := fun d => q_leqWord d.1.1 d.1.2.1 d.1.2.2.1 d.1.2.2.2.1 d.1.2.2.2.2.1 d.2.1.1 d.2.1.2.1 d.2.1.2.2.1 d.2.1.2.2.2.1 d.2.1.2.2.2.2.1
theorem runA_leqWord (a0 : Int) (a1 : Int) (a2 : Int) (a3 : List (Int × ByteArray × ByteArray)) (a4 : Bool) (a5 : Int) (a6 : Int) (a7 : Int) (a8 : List (Int × ByteArray × ByteArray)) (a9 : Bool) (hp : (okL a3) = true) : runP true Try.prog tt S65 QF65 (fun _ _ => none) Try.f59 (argsMk P_leqWord ((a0, (a1, (a2, (a3, (a4, ()))))), ((a5, (a6, (a7, (a8, (a9, ()))))), ()))) = some (g_leqWord ((a0, (a1, (a2, (a3, (a4, ()))))), ((a5, (a6, (a7, (a8, (a9, ()))))), ()))) := by
  refine Eq.trans (b := (cond (a0 != a5) (some (e_leqWord false)) (cond (a1 != a6) (some (e_leqWord false)) (cond (a2 != a7) (some (e_leqWord false)) (cond (q_leqOpS a3 a8) (cond (!(leqOpS a3 a8)) (some (e_leqWord false)) (cond (!(a4 == a9)) (some (e_leqWord false)) (some (e_leqWord true)))) none))))) (by kernel_rfl) ?_
  exact (cnd (F := fun r => some (e_leqWord r)) (fun _h => rfl) (fun _h => (cnd (F := fun r => some (e_leqWord r)) (fun _h => rfl) (fun _h => (cnd (F := fun r => some (e_leqWord r)) (fun _h => rfl) (fun _h => (cndT (by first | rfl | decide | exact hp | (simp only [Bool.and_eq_true] at hp; simp only [hp]; done) | (simp [*]; done) | (simp [okL] at hp; simp [okL, MAXB]; omega) | (simp_all; done) | (simp at *; omega)) (fun _h => (cnd (F := fun r => some (e_leqWord r)) (fun _h => rfl) (fun _h => (cnd (F := fun r => some (e_leqWord r)) (fun _h => rfl) (fun _h => rfl))))))))))))
theorem run_leqWord : ∀ d, pre_leqWord d = true → runP true Try.prog tt S65 QF65 (fun _ _ => none) Try.f59 (argsMk P_leqWord d) = some (g_leqWord d) := fun d hp => runA_leqWord d.1.1 d.1.2.1 d.1.2.2.1 d.1.2.2.2.1 d.1.2.2.2.2.1 d.2.1.1 d.2.1.2.1 d.2.1.2.2.1 d.2.1.2.2.2.1 d.2.1.2.2.2.2.1 hp
theorem c_leqWord : PContract Try.prog 59 (sumOf P_leqWord pre_leqWord g_leqWord) := PContract.of_data true G65 (fn := Try.f59) (by kernel_rfl) (L := fun _ _ => none) (by rw [show loopsIn 0 (bodyOf Try.f59) = [] by kernel_rfl]; simp) P_leqWord pre_leqWord g_leqWord run_leqWord
noncomputable def S66 : Tab := Tab.add S65 59 (lift (sumOf P_leqWord pre_leqWord g_leqWord))
noncomputable def QF66 : FuncId → Bool := qadd QF65 59
theorem G66 : Good Try.prog tt S66 QF66 := G65.addQ c_leqWord ⟨Try.f59, by kernel_rfl, by kernel_rfl, by kernel_rfl⟩ (fun _ => rfl)

/-! 28 loop.example/g00244/laws.eqWordS -/
noncomputable abbrev P_leqWordS : List PSh := [.t (.sl (.pair (.int .i64) (.pair (.int .i64) (.pair (.int .i64) (.pair (.sl (.pair (.int .i64) (.pair .str .str))) .bool))))), .t (.sl (.pair (.int .i64) (.pair (.int .i64) (.pair (.int .i64) (.pair (.sl (.pair (.int .i64) (.pair .str .str))) .bool)))))]
noncomputable abbrev S_leqWordS_0 : SS := ⟨[.t false (.sl (.pair (.int .i64) (.pair (.int .i64) (.pair (.int .i64) (.pair (.sl (.pair (.int .i64) (.pair .str .str))) .bool))))), .t false (.sl (.pair (.int .i64) (.pair (.int .i64) (.pair (.int .i64) (.pair (.sl (.pair (.int .i64) (.pair .str .str))) .bool))))), .junk, .junk, .junk, .t true (.int .i64), .junk, .junk, .junk, .junk, .junk, .junk, .junk, .junk, .junk, .junk, .junk, .junk, .junk, .junk, .junk, .junk, .junk, .junk, .junk, .junk, .junk], []⟩
noncomputable abbrev E_leqWordS_0_0 : SS := ⟨[.junk, .junk, .junk, .junk, .t true .bool, .junk, .junk, .junk, .junk, .junk, .junk, .junk, .junk, .junk, .junk, .junk, .junk, .junk, .junk, .junk, .junk, .junk, .junk, .junk, .junk, .junk, .junk], []⟩
noncomputable abbrev E_leqWordS_0_1 : SS := ⟨[.junk, .junk, .junk, .junk, .junk, .junk, .junk, .junk, .junk, .junk, .junk, .junk, .junk, .junk, .junk, .junk, .junk, .junk, .junk, .junk, .junk, .junk, .junk, .junk, .junk, .junk, .junk], []⟩
noncomputable def st_leqWordS_0 (x0 : List (Int × Int × Int × (List (Int × ByteArray × ByteArray)) × Bool)) (x1 : List (Int × Int × Int × (List (Int × ByteArray × ByteArray)) × Bool)) (x5 : Int) : RT S_leqWordS_0.den := (.br (decide (x5 < ((x0.length : Nat) : Int))) (.br (decide (0 ≤ x5 ∧ x5 < ((x0.length : Nat) : Int))) (.br (decide (0 ≤ x5 ∧ x5 < ((x1.length : Nat) : Int))) (.br (q_leqWord ((x0.getD x5.toNat ((0 : Int), ((0 : Int), ((0 : Int), ([], false))))).1) (((x0.getD x5.toNat ((0 : Int), ((0 : Int), ((0 : Int), ([], false))))).2).1) ((((x0.getD x5.toNat ((0 : Int), ((0 : Int), ((0 : Int), ([], false))))).2).2).1) (((((x0.getD x5.toNat ((0 : Int), ((0 : Int), ((0 : Int), ([], false))))).2).2).2).1) (((((x0.getD x5.toNat ((0 : Int), ((0 : Int), ((0 : Int), ([], false))))).2).2).2).2) ((x1.getD x5.toNat ((0 : Int), ((0 : Int), ((0 : Int), ([], false))))).1) (((x1.getD x5.toNat ((0 : Int), ((0 : Int), ((0 : Int), ([], false))))).2).1) ((((x1.getD x5.toNat ((0 : Int), ((0 : Int), ((0 : Int), ([], false))))).2).2).1) (((((x1.getD x5.toNat ((0 : Int), ((0 : Int), ((0 : Int), ([], false))))).2).2).2).1) (((((x1.getD x5.toNat ((0 : Int), ((0 : Int), ((0 : Int), ([], false))))).2).2).2).2)) (.br (!(leqWord ((x0.getD x5.toNat ((0 : Int), ((0 : Int), ((0 : Int), ([], false))))).1) (((x0.getD x5.toNat ((0 : Int), ((0 : Int), ((0 : Int), ([], false))))).2).1) ((((x0.getD x5.toNat ((0 : Int), ((0 : Int), ((0 : Int), ([], false))))).2).2).1) (((((x0.getD x5.toNat ((0 : Int), ((0 : Int), ((0 : Int), ([], false))))).2).2).2).1) (((((x0.getD x5.toNat ((0 : Int), ((0 : Int), ((0 : Int), ([], false))))).2).2).2).2) ((x1.getD x5.toNat ((0 : Int), ((0 : Int), ((0 : Int), ([], false))))).1) (((x1.getD x5.toNat ((0 : Int), ((0 : Int), ((0 : Int), ([], false))))).2).1) ((((x1.getD x5.toNat ((0 : Int), ((0 : Int), ((0 : Int), ([], false))))).2).2).1) (((((x1.getD x5.toNat ((0 : Int), ((0 : Int), ((0 : Int), ([], false))))).2).2).2).1) (((((x1.getD x5.toNat ((0 : Int), ((0 : Int), ((0 : Int), ([], false))))).2).2).2).2))) (.done .ret E_leqWordS_0_0 (((), (), (), (), false, (), (), (), (), (), (), (), (), (), (), (), (), (), (), (), (), (), (), (), (), (), (), ()), ())) (.next ((x0, x1, (), (), (), IntKind.wrap .i64 (x5 + (1 : Int)), (), (), (), (), (), (), (), (), (), (), (), (), (), (), (), (), (), (), (), (), (), ()), ()))) .fail) .fail) .fail) (.done (.exit 0) E_leqWordS_0_1 (((), (), (), (), (), (), (), (), (), (), (), (), (), (), (), (), (), (), (), (), (), (), (), (), (), (), (), ()), ())))
noncomputable abbrev V_leqWordS_0 := (List (Int × Int × Int × (List (Int × ByteArray × ByteArray)) × Bool)) × (List (Int × Int × Int × (List (Int × ByteArray × ByteArray)) × Bool)) × (Int)
noncomputable abbrev A_leqWordS_0 := Nat × (Bool)
noncomputable def fl_leqWordS_0 : A_leqWordS_0 := (99, (false : Bool))
noncomputable def ss_leqWordS_0 (x0 : List (Int × Int × Int × (List (Int × ByteArray × ByteArray)) × Bool)) (x1 : List (Int × Int × Int × (List (Int × ByteArray × ByteArray)) × Bool)) (x5 : Int) : V_leqWordS_0 ⊕ A_leqWordS_0 := (cond (decide (x5 < ((x0.length : Nat) : Int))) (cond (decide (0 ≤ x5 ∧ x5 < ((x0.length : Nat) : Int))) (cond (decide (0 ≤ x5 ∧ x5 < ((x1.length : Nat) : Int))) (cond (q_leqWord ((x0.getD x5.toNat ((0 : Int), ((0 : Int), ((0 : Int), ([], false))))).1) (((x0.getD x5.toNat ((0 : Int), ((0 : Int), ((0 : Int), ([], false))))).2).1) ((((x0.getD x5.toNat ((0 : Int), ((0 : Int), ((0 : Int), ([], false))))).2).2).1) (((((x0.getD x5.toNat ((0 : Int), ((0 : Int), ((0 : Int), ([], false))))).2).2).2).1) (((((x0.getD x5.toNat ((0 : Int), ((0 : Int), ((0 : Int), ([], false))))).2).2).2).2) ((x1.getD x5.toNat ((0 : Int), ((0 : Int), ((0 : Int), ([], false))))).1) (((x1.getD x5.toNat ((0 : Int), ((0 : Int), ((0 : Int), ([], false))))).2).1) ((((x1.getD x5.toNat ((0 : Int), ((0 : Int), ((0 : Int), ([], false))))).2).2).1) (((((x1.getD x5.toNat ((0 : Int), ((0 : Int), ((0 : Int), ([], false))))).2).2).2).1) (((((x1.getD x5.toNat ((0 : Int), ((0 : Int), ((0 : Int), ([], false))))).2).2).2).2)) (cond (!(leqWord ((x0.getD x5.toNat ((0 : Int), ((0 : Int), ((0 : Int), ([], false))))).1) (((x0.getD x5.toNat ((0 : Int), ((0 : Int), ((0 : Int), ([], false))))).2).1) ((((x0.getD x5.toNat ((0 : Int), ((0 : Int), ((0 : Int), ([], false))))).2).2).1) (((((x0.getD x5.toNat ((0 : Int), ((0 : Int), ((0 : Int), ([], false))))).2).2).2).1) (((((x0.getD x5.toNat ((0 : Int), ((0 : Int), ((0 : Int), ([], false))))).2).2).2).2) ((x1.getD x5.toNat ((0 : Int), ((0 : Int), ((0 : Int), ([], false))))).1) (((x1.getD x5.toNat ((0 : Int), ((0 : Int), ((0 : Int), ([], false))))).2).1) ((((x1.getD x5.toNat ((0 : Int), ((0 : Int), ((0 : Int), ([], false))))).2).2).1) (((((x1.getD x5.toNat ((0 : Int), ((0 : Int), ((0 : Int), ([], false))))).2).2).2).1) (((((x1.getD x5.toNat ((0 : Int), ((0 : Int), ((0 : Int), ([], false))))).2).2).2).2))) (.inr (0, false)) (.inl (x0, x1, IntKind.wrap .i64 (x5 + (1 : Int))))) (.inr fl_leqWordS_0)) (.inr fl_leqWordS_0)) (.inr fl_leqWordS_0)) (.inr (1, (false : Bool))))
noncomputable def it_leqWordS_0 (x0 : List (Int × Int × Int × (List (Int × ByteArray × ByteArray)) × Bool)) (x1 : List (Int × Int × Int × (List (Int × ByteArray × ByteArray)) × Bool)) (x5 : Int) : A_leqWordS_0 := itX (fun v : V_leqWordS_0 => ss_leqWordS_0 v.1 v.2.1 v.2.2) fl_leqWordS_0 (x0, x1, x5)
noncomputable def ct_leqWordS_0 (a : A_leqWordS_0) : CT := (.br (a.1 == 0) (.done .ret E_leqWordS_0_0 (((), (), (), (), a.2, (), (), (), (), (), (), (), (), (), (), (), (), (), (), (), (), (), (), (), (), (), (), ()), ())) (.br (a.1 == 1) (.done (.exit 0) E_leqWordS_0_1 (((), (), (), (), (), (), (), (), (), (), (), (), (), (), (), (), (), (), (), (), (), (), (), (), (), (), (), ()), ())) .fail))
noncomputable def T_leqWordS_0 (x0 : List (Int × Int × Int × (List (Int × ByteArray × ByteArray)) × Bool)) (x1 : List (Int × Int × Int × (List (Int × ByteArray × ByteArray)) × Bool)) (x5 : Int) : CT := ct_leqWordS_0 (it_leqWordS_0 x0 x1 x5)
noncomputable abbrev sp_leqWordS_0 : S_leqWordS_0.den → RT S_leqWordS_0.den := fun d => st_leqWordS_0 d.1.1 d.1.2.1 d.1.2.2.2.2.2.1
noncomputable abbrev pk_leqWordS_0 (x0 : List (Int × Int × Int × (List (Int × ByteArray × ByteArray)) × Bool)) (x1 : List (Int × Int × Int × (List (Int × ByteArray × ByteArray)) × Bool)) (x5 : Int) : S_leqWordS_0.den := ((x0, x1, (), (), (), x5, (), (), (), (), (), (), (), (), (), (), (), (), (), (), (), (), (), (), (), (), (), ()), ())
noncomputable def body_leqWordS_0 : Code := ((loopsIn 0 (bodyOf Try.f28)).getD 0 (0, .skip)).2
theorem R_leqWordS_0 (x0 : List (Int × Int × Int × (List (Int × ByteArray × ByteArray)) × Bool)) (x1 : List (Int × Int × Int × (List (Int × ByteArray × ByteArray)) × Bool)) (x5 : Int) : (T_leqWordS_0 x0 x1 x5).val (D := S_leqWordS_0.den) = .fail ∨ Runs sp_leqWordS_0 (pk_leqWordS_0 x0 x1 x5) (T_leqWordS_0 x0 x1 x5).val := Runs.ofIt (step := sp_leqWordS_0) (fun v : V_leqWordS_0 => pk_leqWordS_0 v.1 v.2.1 v.2.2) (ct := ct_leqWordS_0) rfl (fun v => ((relB (relB (relB (relB (relB rfl rfl) rfl) rfl) rfl) rfl) : (st_leqWordS_0 v.1 v.2.1 v.2.2).val = relS (fun v : V_leqWordS_0 => pk_leqWordS_0 v.1 v.2.1 v.2.2) ct_leqWordS_0 (ss_leqWordS_0 v.1 v.2.1 v.2.2))) (fun a => ((cendB (cendD (by simp)) (cendB (cendD (by simp)) cendF)) : CEnd _ (ct_leqWordS_0 a))) (x0, x1, x5)
theorem rd_leqWordS_0 : ∀ d, execC Try.prog tt S66 QF66 (fun _ _ => none) 0 body_leqWordS_0 (S_leqWordS_0.st d 0 []) (fun e s' => some (e, S_leqWordS_0.cutE (kepts [4] [(0, [])]) e s')) = (sp_leqWordS_0 d).opt 0 [] := by
  intro d
  kernel_rfl
noncomputable abbrev say_leqWordS_0 : St → Option Tree := S_leqWordS_0.say 0 [] [] (fun d => T_leqWordS_0 d.1.1 d.1.2.1 d.1.2.2.2.2.2.1)
theorem lw_leqWordS_0 : LoopWp Try.prog say_leqWordS_0 body_leqWordS_0 := SS.wp G66 (fun _ _ => none) (by rw [show loopsIn 0 body_leqWordS_0 = [] by kernel_rfl]; simp) S_leqWordS_0 0 [] (kepts [4] [(0, [])]) [] sp_leqWordS_0 rd_leqWordS_0 _ (fun d => R_leqWordS_0 d.1.1 d.1.2.1 d.1.2.2.2.2.2.1)
noncomputable def leqWordS (a0 : List (Int × Int × Int × (List (Int × ByteArray × ByteArray)) × Bool)) (a1 : List (Int × Int × Int × (List (Int × ByteArray × ByteArray)) × Bool)) : Bool := (cond (((a0.length : Nat) : Int) != ((a1.length : Nat) : Int)) false (cond ((it_leqWordS_0 a0 a1 (0 : Int)).1 == 0) ((it_leqWordS_0 a0 a1 (0 : Int)).2) true))
noncomputable abbrev e_leqWordS (r : Bool) : AV × List AObj := ((.t true .bool r), [])
noncomputable abbrev g_leqWordS : pshsDen P_leqWordS → AV × List AObj := fun d => e_leqWordS (leqWordS d.1 d.2.1)
noncomputable def q_leqWordS (a0 : List (Int × Int × Int × (List (Int × ByteArray × ByteArray)) × Bool)) (a1 : List (Int × Int × Int × (List (Int × ByteArray × ByteArray)) × Bool)) : Bool := cond (((a0.length : Nat) : Int) != ((a1.length : Nat) : Int)) true (cond ((it_leqWordS_0 a0 a1 (0 : Int)).1 == 0) true ((it_leqWordS_0 a0 a1 (0 : Int)).1 == 1))
noncomputable abbrev pre_leqWordS : pshsDen P_leqWordS → Bool := fun d => q_leqWordS d.1 d.2.1
theorem runA_leqWordS (a0 : List (Int × Int × Int × (List (Int × ByteArray × ByteArray)) × Bool)) (a1 : List (Int × Int × Int × (List (Int × ByteArray × ByteArray)) × Bool)) (hp : (cond (((a0.length : Nat) : Int) != ((a1.length : Nat) : Int)) true (cond ((it_leqWordS_0 a0 a1 (0 : Int)).1 == 0) true ((it_leqWordS_0 a0 a1 (0 : Int)).1 == 1))) = true) : runP true Try.prog tt S66 QF66 (fun b => match b with | 0 => say_leqWordS_0 | _ => fun _ => none) Try.f28 (argsMk P_leqWordS (a0, (a1, ()))) = some (g_leqWordS (a0, (a1, ()))) := by
  refine Eq.trans (b := (cond (((a0.length : Nat) : Int) != ((a1.length : Nat) : Int)) (some (e_leqWordS false)) (cond ((it_leqWordS_0 a0 a1 (0 : Int)).1 == 0) (some (e_leqWordS ((it_leqWordS_0 a0 a1 (0 : Int)).2))) (cond ((it_leqWordS_0 a0 a1 (0 : Int)).1 == 1) (some (e_leqWordS true)) none)))) (by kernel_rfl) ?_
  exact (cndQ (F := fun r => some (e_leqWordS r)) hp (fun hp => rfl) (fun hp => (cndQ (F := fun r => some (e_leqWordS r)) hp (fun hp => rfl) (fun hp => (cndT hp (fun _h => rfl))))))
theorem run_leqWordS : ∀ d, pre_leqWordS d = true → runP true Try.prog tt S66 QF66 (fun b => match b with | 0 => say_leqWordS_0 | _ => fun _ => none) Try.f28 (argsMk P_leqWordS d) = some (g_leqWordS d) := fun d hp => runA_leqWordS d.1 d.2.1 hp
theorem c_leqWordS : PContract Try.prog 28 (sumOf P_leqWordS pre_leqWordS g_leqWordS) := PContract.of_data true G66 (fn := Try.f28) (by kernel_rfl) (L := fun b => match b with | 0 => say_leqWordS_0 | _ => fun _ => none) (by rw [show loopsIn 0 (bodyOf Try.f28) = [(0, body_leqWordS_0)] by kernel_rfl]; intro p hp; simp only [List.mem_singleton] at hp; subst hp; exact lw_leqWordS_0) P_leqWordS pre_leqWordS g_leqWordS run_leqWordS
noncomputable def S67 : Tab := Tab.add S66 28 (lift (sumOf P_leqWordS pre_leqWordS g_leqWordS))
noncomputable def QF67 : FuncId → Bool := qadd QF66 28
theorem G67 : Good Try.prog tt S67 QF67 := G66.addQ c_leqWordS ⟨Try.f28, by kernel_rfl, by kernel_rfl, by kernel_rfl⟩ (fun _ => rfl)

/-! 60 loop.example/g00244/laws.eqOrder -/
noncomputable abbrev P_leqOrder : List PSh := [.agg [(.int .i64), (.sl (.pair (.int .i64) (.pair .str .str)))], .agg [(.int .i64), (.sl (.pair (.int .i64) (.pair .str .str)))]]
noncomputable def leqOrder (a0 : Int) (a1 : List (Int × ByteArray × ByteArray)) (a2 : Int) (a3 : List (Int × ByteArray × ByteArray)) : Bool := (cond (a0 != a2) false (cond (!(leqOpS a1 a3)) false true))
noncomputable abbrev e_leqOrder (r : Bool) : AV × List AObj := ((.t true .bool r), [])
noncomputable abbrev g_leqOrder : pshsDen P_leqOrder → AV × List AObj := fun d => e_leqOrder (leqOrder d.1.1 d.1.2.1 d.2.1.1 d.2.1.2.1)
noncomputable def q_leqOrder (a0 : Int) (a1 : List (Int × ByteArray × ByteArray)) (a2 : Int) (a3 : List (Int × ByteArray × ByteArray)) : Bool := cond (a0 != a2) true (q_leqOpS a1 a3)
noncomputable abbrev pre_leqOrder : pshsDen P_leqOrder → Bool := fun d => q_leqOrder d.1.1 d.1.2.1 d.2.1.1 d.2.1.2.1
theorem runA_leqOrder (a0 : Int) (a1 : List (Int × ByteArray × ByteArray)) (a2 : Int) (a3 : List (Int × ByteArray × ByteArray)) (hp : (cond (a0 != a2) true (q_leqOpS a1 a3)) = true) : runP true Try.prog tt S67 QF67 (fun _ _ => none) Try.f60 (argsMk P_leqOrder ((a0, (a1, ())), ((a2, (a3, ())), ()))) = some (g_leqOrder ((a0, (a1, ())), ((a2, (a3, ())), ()))) := by
  refine Eq.trans (b := (cond (a0 != a2) (some (e_leqOrder false)) (cond (q_leqOpS a1 a3) (cond (!(leqOpS a1 a3)) (some (e_leqOrder false)) (some (e_leqOrder true))) none))) (by kernel_rfl) ?_
  exact (cndQ (F := fun r => some (e_leqOrder r)) hp (fun hp => rfl) (fun hp => (cndT hp (fun _h => (cnd (F := fun r => some (e_leqOrder r)) (fun _h => rfl) (fun _h => rfl))))))
theorem run_leqOrder : ∀ d, pre_leqOrder d = true → runP true Try.prog tt S67 QF67 (fun _ _ => none) Try.f60 (argsMk P_leqOrder d) = some (g_leqOrder d) := fun d hp => runA_leqOrder d.1.1 d.1.2.1 d.2.1.1 d.2.1.2.1 hp
theorem c_leqOrder : PContract Try.prog 60 (sumOf P_leqOrder pre_leqOrder g_leqOrder) := PContract.of_data true G67 (fn := Try.f60) (by kernel_rfl) (L := fun _ _ => none) (by rw [show loopsIn 0 (bodyOf Try.f60) = [] by kernel_rfl]; simp) P_leqOrder pre_leqOrder g_leqOrder run_leqOrder
noncomputable def S68 : Tab := Tab.add S67 60 (lift (sumOf P_leqOrder pre_leqOrder g_leqOrder))
noncomputable def QF68 : FuncId → Bool := qadd QF67 60
theorem G68 : Good Try.prog tt S68 QF68 := G67.addQ c_leqOrder ⟨Try.f60, by kernel_rfl, by kernel_rfl, by kernel_rfl⟩ (fun _ => rfl)

/-! 29 loop.example/g00244/laws.eqOrderS -/
noncomputable abbrev P_leqOrderS : List PSh := [.t (.sl (.pair (.int .i64) (.sl (.pair (.int .i64) (.pair .str .str))))), .t (.sl (.pair (.int .i64) (.sl (.pair (.int .i64) (.pair .str .str)))))]
noncomputable abbrev S_leqOrderS_0 : SS := ⟨[.t false (.sl (.pair (.int .i64) (.sl (.pair (.int .i64) (.pair .str .str))))), .t false (.sl (.pair (.int .i64) (.sl (.pair (.int .i64) (.pair .str .str))))), .junk, .junk, .junk, .t true (.int .i64), .junk, .junk, .junk, .junk, .junk, .junk, .junk, .junk, .junk, .junk, .junk, .junk, .junk, .junk, .junk, .junk, .junk, .junk, .junk, .junk, .junk], []⟩
noncomputable abbrev E_leqOrderS_0_0 : SS := ⟨[.junk, .junk, .junk, .junk, .t true .bool, .junk, .junk, .junk, .junk, .junk, .junk, .junk, .junk, .junk, .junk, .junk, .junk, .junk, .junk, .junk, .junk, .junk, .junk, .junk, .junk, .junk, .junk], []⟩
noncomputable abbrev E_leqOrderS_0_1 : SS := ⟨[.junk, .junk, .junk, .junk, .junk, .junk, .junk, .junk, .junk, .junk, .junk, .junk, .junk, .junk, .junk, .junk, .junk, .junk, .junk, .junk, .junk, .junk, .junk, .junk, .junk, .junk, .junk], []⟩
noncomputable def st_leqOrderS_0 (x0 : List (Int × List (Int × ByteArray × ByteArray))) (x1 : List (Int × List (Int × ByteArray × ByteArray))) (x5 : Int) : RT S_leqOrderS_0.den := (.br (decide (x5 < ((x0.length : Nat) : Int))) (.br (decide (0 ≤ x5 ∧ x5 < ((x0.length : Nat) : Int))) (.br (decide (0 ≤ x5 ∧ x5 < ((x1.length : Nat) : Int))) (.br (q_leqOrder ((x0.getD x5.toNat ((0 : Int), [])).1) ((x0.getD x5.toNat ((0 : Int), [])).2) ((x1.getD x5.toNat ((0 : Int), [])).1) ((x1.getD x5.toNat ((0 : Int), [])).2)) (.br (!(leqOrder ((x0.getD x5.toNat ((0 : Int), [])).1) ((x0.getD x5.toNat ((0 : Int), [])).2) ((x1.getD x5.toNat ((0 : Int), [])).1) ((x1.getD x5.toNat ((0 : Int), [])).2))) (.done .ret E_leqOrderS_0_0 (((), (), (), (), false, (), (), (), (), (), (), (), (), (), (), (), (), (), (), (), (), (), (), (), (), (), (), ()), ())) (.next ((x0, x1, (), (), (), IntKind.wrap .i64 (x5 + (1 : Int)), (), (), (), (), (), (), (), (), (), (), (), (), (), (), (), (), (), (), (), (), (), ()), ()))) .fail) .fail) .fail) (.done (.exit 0) E_leqOrderS_0_1 (((), (), (), (), (), (), (), (), (), (), (), (), (), (), (), (), (), (), (), (), (), (), (), (), (), (), (), ()), ())))
noncomputable abbrev V_leqOrderS_0 := (List (Int × List (Int × ByteArray × ByteArray))) × (List (Int × List (Int × ByteArray × ByteArray))) × (Int)
noncomputable abbrev A_leqOrderS_0 := Nat × (Bool)
noncomputable def fl_leqOrderS_0 : A_leqOrderS_0 := (99, (false : Bool))
noncomputable def ss_leqOrderS_0 (x0 : List (Int × List (Int × ByteArray × ByteArray))) (x1 : List (Int × List (Int × ByteArray × ByteArray))) (x5 : Int) : V_leqOrderS_0 ⊕ A_leqOrderS_0 := (cond (decide (x5 < ((x0.length : Nat) : Int))) (cond (decide (0 ≤ x5 ∧ x5 < ((x0.length : Nat) : Int))) (cond (decide (0 ≤ x5 ∧ x5 < ((x1.length : Nat) : Int))) (cond (q_leqOrder ((x0.getD x5.toNat ((0 : Int), [])).1) ((x0.getD x5.toNat ((0 : Int), [])).2) ((x1.getD x5.toNat ((0 : Int), [])).1) ((x1.getD x5.toNat ((0 : Int), [])).2)) (cond (!(leqOrder ((x0.getD x5.toNat ((0 : Int), [])).1) ((x0.getD x5.toNat ((0 : Int), [])).2) ((x1.getD x5.toNat ((0 : Int), [])).1) ((x1.getD x5.toNat ((0 : Int), [])).2))) (.inr (0, false)) (.inl (x0, x1, IntKind.wrap .i64 (x5 + (1 : Int))))) (.inr fl_leqOrderS_0)) (.inr fl_leqOrderS_0)) (.inr fl_leqOrderS_0)) (.inr (1, (false : Bool))))
noncomputable def it_leqOrderS_0 (x0 : List (Int × List (Int × ByteArray × ByteArray))) (x1 : List (Int × List (Int × ByteArray × ByteArray))) (x5 : Int) : A_leqOrderS_0 := itX (fun v : V_leqOrderS_0 => ss_leqOrderS_0 v.1 v.2.1 v.2.2) fl_leqOrderS_0 (x0, x1, x5)
noncomputable def ct_leqOrderS_0 (a : A_leqOrderS_0) : CT := (.br (a.1 == 0) (.done .ret E_leqOrderS_0_0 (((), (), (), (), a.2, (), (), (), (), (), (), (), (), (), (), (), (), (), (), (), (), (), (), (), (), (), (), ()), ())) (.br (a.1 == 1) (.done (.exit 0) E_leqOrderS_0_1 (((), (), (), (), (), (), (), (), (), (), (), (), (), (), (), (), (), (), (), (), (), (), (), (), (), (), (), ()), ())) .fail))
noncomputable def T_leqOrderS_0 (x0 : List (Int × List (Int × ByteArray × ByteArray))) (x1 : List (Int × List (Int × ByteArray × ByteArray))) (x5 : Int) : CT := ct_leqOrderS_0 (it_leqOrderS_0 x0 x1 x5)
noncomputable abbrev sp_leqOrderS_0 : S_leqOrderS_0.den → RT S_leqOrderS_0.den := fun d => st_leqOrderS_0 d.1.1 d.1.2.1 d.1.2.2.2.2.2.1
noncomputable abbrev pk_leqOrderS_0 (x0 : List (Int × List (Int × ByteArray × ByteArray))) (x1 : List (Int × List (Int × ByteArray × ByteArray))) (x5 : Int) : S_leqOrderS_0.den := ((x0, x1, (), (), (), x5, (), (), (), (), (), (), (), (), (), (), (), (), (), (), (), (), (), (), (), (), (), ()), ())
noncomputable def body_leqOrderS_0 : Code := ((loopsIn 0 (bodyOf Try.f29)).getD 0 (0, .skip)).2
theorem R_leqOrderS_0 (x0 : List (Int × List (Int × ByteArray × ByteArray))) (x1 : List (Int × List (Int × ByteArray × ByteArray))) (x5 : Int) : (T_leqOrderS_0 x0 x1 x5).val (D := S_leqOrderS_0.den) = .fail ∨ Runs sp_leqOrderS_0 (pk_leqOrderS_0 x0 x1 x5) (T_leqOrderS_0 x0 x1 x5).val := Runs.ofIt (step := sp_leqOrderS_0) (fun v : V_leqOrderS_0 => pk_leqOrderS_0 v.1 v.2.1 v.2.2) (ct := ct_leqOrderS_0) rfl (fun v => ((relB (relB (relB (relB (relB rfl rfl) rfl) rfl) rfl) rfl) : (st_leqOrderS_0 v.1 v.2.1 v.2.2).val = relS (fun v : V_leqOrderS_0 => pk_leqOrderS_0 v.1 v.2.1 v.2.2) ct_leqOrderS_0 (ss_leqOrderS_0 v.1 v.2.1 v.2.2))) (fun a => ((cendB (cendD (by simp)) (cendB (cendD (by simp)) cendF)) : CEnd _ (ct_leqOrderS_0 a))) (x0, x1, x5)
theorem rd_leqOrderS_0 : ∀ d, execC Try.prog tt S68 QF68 (fun _ _ => none) 0 body_leqOrderS_0 (S_leqOrderS_0.st d 0 []) (fun e s' => some (e, S_leqOrderS_0.cutE (kepts [4] [(0, [])]) e s')) = (sp_leqOrderS_0 d).opt 0 [] := by
  intro d
  kernel_rfl
noncomputable abbrev say_leqOrderS_0 : St → Option Tree := S_leqOrderS_0.say 0 [] [] (fun d => T_leqOrderS_0 d.1.1 d.1.2.1 d.1.2.2.2.2.2.1)
theorem lw_leqOrderS_0 : LoopWp Try.prog say_leqOrderS_0 body_leqOrderS_0 := SS.wp G68 (fun _ _ => none) (by rw [show loopsIn 0 body_leqOrderS_0 = [] by kernel_rfl]; simp) S_leqOrderS_0 0 [] (kepts [4] [(0, [])]) [] sp_leqOrderS_0 rd_leqOrderS_0 _ (fun d => R_leqOrderS_0 d.1.1 d.1.2.1 d.1.2.2.2.2.2.1)
noncomputable def leqOrderS (a0 : List (Int × List (Int × ByteArray × ByteArray))) (a1 : List (Int × List (Int × ByteArray × ByteArray))) : Bool := (cond (((a0.length : Nat) : Int) != ((a1.length : Nat) : Int)) false (cond ((it_leqOrderS_0 a0 a1 (0 : Int)).1 == 0) ((it_leqOrderS_0 a0 a1 (0 : Int)).2) true))
noncomputable abbrev e_leqOrderS (r : Bool) : AV × List AObj := ((.t true .bool r), [])
noncomputable abbrev g_leqOrderS : pshsDen P_leqOrderS → AV × List AObj := fun d => e_leqOrderS (leqOrderS d.1 d.2.1)
noncomputable def q_leqOrderS (a0 : List (Int × List (Int × ByteArray × ByteArray))) (a1 : List (Int × List (Int × ByteArray × ByteArray))) : Bool := cond (((a0.length : Nat) : Int) != ((a1.length : Nat) : Int)) true (cond ((it_leqOrderS_0 a0 a1 (0 : Int)).1 == 0) true ((it_leqOrderS_0 a0 a1 (0 : Int)).1 == 1))
noncomputable abbrev pre_leqOrderS : pshsDen P_leqOrderS → Bool := fun d => q_leqOrderS d.1 d.2.1
theorem runA_leqOrderS (a0 : List (Int × List (Int × ByteArray × ByteArray))) (a1 : List (Int × List (Int × ByteArray × ByteArray))) (hp : (cond (((a0.length : Nat) : Int) != ((a1.length : Nat) : Int)) true (cond ((it_leqOrderS_0 a0 a1 (0 : Int)).1 == 0) true ((it_leqOrderS_0 a0 a1 (0 : Int)).1 == 1))) = true) : runP true Try.prog tt S68 QF68 (fun b => match b with | 0 => say_leqOrderS_0 | _ => fun _ => none) Try.f29 (argsMk P_leqOrderS (a0, (a1, ()))) = some (g_leqOrderS (a0, (a1, ()))) := by
  refine Eq.trans (b := (cond (((a0.length : Nat) : Int) != ((a1.length : Nat) : Int)) (some (e_leqOrderS false)) (cond ((it_leqOrderS_0 a0 a1 (0 : Int)).1 == 0) (some (e_leqOrderS ((it_leqOrderS_0 a0 a1 (0 : Int)).2))) (cond ((it_leqOrderS_0 a0 a1 (0 : Int)).1 == 1) (some (e_leqOrderS true)) none)))) (by kernel_rfl) ?_
  exact (cndQ (F := fun r => some (e_leqOrderS r)) hp (fun hp => rfl) (fun hp => (cndQ (F := fun r => some (e_leqOrderS r)) hp (fun hp => rfl) (fun hp => (cndT hp (fun _h => rfl))))))
theorem run_leqOrderS : ∀ d, pre_leqOrderS d = true → runP true Try.prog tt S68 QF68 (fun b => match b with | 0 => say_leqOrderS_0 | _ => fun _ => none) Try.f29 (argsMk P_leqOrderS d) = some (g_leqOrderS d) := fun d hp => runA_leqOrderS d.1 d.2.1 hp
theorem c_leqOrderS : PContract Try.prog 29 (sumOf P_leqOrderS pre_leqOrderS g_leqOrderS) := PContract.of_data true G68 (fn := Try.f29) (by kernel_rfl) (L := fun b => match b with | 0 => say_leqOrderS_0 | _ => fun _ => none) (by rw [show loopsIn 0 (bodyOf Try.f29) = [(0, body_leqOrderS_0)] by kernel_rfl]; intro p hp; simp only [List.mem_singleton] at hp; subst hp; exact lw_leqOrderS_0) P_leqOrderS pre_leqOrderS g_leqOrderS run_leqOrderS
noncomputable def S69 : Tab := Tab.add S68 29 (lift (sumOf P_leqOrderS pre_leqOrderS g_leqOrderS))
noncomputable def QF69 : FuncId → Bool := qadd QF68 29
theorem G69 : Good Try.prog tt S69 QF69 := G68.addQ c_leqOrderS ⟨Try.f29, by kernel_rfl, by kernel_rfl, by kernel_rfl⟩ (fun _ => rfl)

/-! 9 loop.example/g00244/laws.eqWorld -/
noncomputable abbrev P_leqWorld : List PSh := [.agg [(.int .i64), (.int .i64), (.int .i64), (.sl (.pair (.int .i64) (.pair (.sl (.pair (.int .i64) (.pair .str .str))) (.pair (.int .i64) (.sl (.int .i64)))))), (.sl (.pair (.int .i64) .bool)), (.int .i64), (.sl (.pair (.int .i64) (.pair (.sl (.pair (.int .i64) (.pair (.int .i64) (.sl (.pair (.int .i64) (.pair .str .str)))))) (.pair (.int .i64) (.pair (.sl (.pair .str .str)) (.sl (.pair (.int .i64) (.pair (.int .i64) (.sl (.pair (.int .i64) (.pair .str .str))))))))))), (.sl (.pair (.int .i64) (.pair (.int .i64) (.pair (.int .i64) (.pair (.sl (.pair (.int .i64) (.pair .str .str))) .bool))))), (.sl (.pair (.int .i64) (.pair (.int .i64) (.pair (.int .i64) (.pair (.sl (.pair (.int .i64) (.pair .str .str))) .bool))))), (.sl (.pair (.int .i64) (.sl (.pair (.int .i64) (.pair .str .str)))))], .agg [(.int .i64), (.int .i64), (.int .i64), (.sl (.pair (.int .i64) (.pair (.sl (.pair (.int .i64) (.pair .str .str))) (.pair (.int .i64) (.sl (.int .i64)))))), (.sl (.pair (.int .i64) .bool)), (.int .i64), (.sl (.pair (.int .i64) (.pair (.sl (.pair (.int .i64) (.pair (.int .i64) (.sl (.pair (.int .i64) (.pair .str .str)))))) (.pair (.int .i64) (.pair (.sl (.pair .str .str)) (.sl (.pair (.int .i64) (.pair (.int .i64) (.sl (.pair (.int .i64) (.pair .str .str))))))))))), (.sl (.pair (.int .i64) (.pair (.int .i64) (.pair (.int .i64) (.pair (.sl (.pair (.int .i64) (.pair .str .str))) .bool))))), (.sl (.pair (.int .i64) (.pair (.int .i64) (.pair (.int .i64) (.pair (.sl (.pair (.int .i64) (.pair .str .str))) .bool))))), (.sl (.pair (.int .i64) (.sl (.pair (.int .i64) (.pair .str .str)))))]]
noncomputable def leqWorld (a0 : Int) (a1 : Int) (a2 : Int) (a3 : List (Int × (List (Int × ByteArray × ByteArray)) × Int × List Int)) (a4 : List (Int × Bool)) (a5 : Int) (a6 : List (Int × (List (Int × Int × List (Int × ByteArray × ByteArray))) × Int × (List (ByteArray × ByteArray)) × List (Int × Int × List (Int × ByteArray × ByteArray)))) (a7 : List (Int × Int × Int × (List (Int × ByteArray × ByteArray)) × Bool)) (a8 : List (Int × Int × Int × (List (Int × ByteArray × ByteArray)) × Bool)) (a9 : List (Int × List (Int × ByteArray × ByteArray))) (a10 : Int) (a11 : Int) (a12 : Int) (a13 : List (Int × (List (Int × ByteArray × ByteArray)) × Int × List Int)) (a14 : List (Int × Bool)) (a15 : Int) (a16 : List (Int × (List (Int × Int × List (Int × ByteArray × ByteArray))) × Int × (List (ByteArray × ByteArray)) × List (Int × Int × List (Int × ByteArray × ByteArray)))) (a17 : List (Int × Int × Int × (List (Int × ByteArray × ByteArray)) × Bool)) (a18 : List (Int × Int × Int × (List (Int × ByteArray × ByteArray)) × Bool)) (a19 : List (Int × List (Int × ByteArray × ByteArray))) : Bool := (cond (!(leqCoord a0 a1 a2 a3 a4 a5 a10 a11 a12 a13 a14 a15)) false (cond (!(leqShardS a6 a16)) false (cond (!(leqWordS a7 a17)) false (cond (!(leqWordS a8 a18)) false (cond (!(leqOrderS a9 a19)) false true)))))
noncomputable abbrev e_leqWorld (r : Bool) : AV × List AObj := ((.t true .bool r), [])
noncomputable abbrev g_leqWorld : pshsDen P_leqWorld → AV × List AObj := fun d => e_leqWorld (leqWorld d.1.1 d.1.2.1 d.1.2.2.1 d.1.2.2.2.1 d.1.2.2.2.2.1 d.1.2.2.2.2.2.1 d.1.2.2.2.2.2.2.1 d.1.2.2.2.2.2.2.2.1 d.1.2.2.2.2.2.2.2.2.1 d.1.2.2.2.2.2.2.2.2.2.1 d.2.1.1 d.2.1.2.1 d.2.1.2.2.1 d.2.1.2.2.2.1 d.2.1.2.2.2.2.1 d.2.1.2.2.2.2.2.1 d.2.1.2.2.2.2.2.2.1 d.2.1.2.2.2.2.2.2.2.1 d.2.1.2.2.2.2.2.2.2.2.1 d.2.1.2.2.2.2.2.2.2.2.2.1)
noncomputable def q_leqWorld (a0 : Int) (a1 : Int) (a2 : Int) (a3 : List (Int × (List (Int × ByteArray × ByteArray)) × Int × List Int)) (a4 : List (Int × Bool)) (a5 : Int) (a6 : List (Int × (List (Int × Int × List (Int × ByteArray × ByteArray))) × Int × (List (ByteArray × ByteArray)) × List (Int × Int × List (Int × ByteArray × ByteArray)))) (a7 : List (Int × Int × Int × (List (Int × ByteArray × ByteArray)) × Bool)) (a8 : List (Int × Int × Int × (List (Int × ByteArray × ByteArray)) × Bool)) (a9 : List (Int × List (Int × ByteArray × ByteArray))) (a10 : Int) (a11 : Int) (a12 : Int) (a13 : List (Int × (List (Int × ByteArray × ByteArray)) × Int × List Int)) (a14 : List (Int × Bool)) (a15 : Int) (a16 : List (Int × (List (Int × Int × List (Int × ByteArray × ByteArray))) × Int × (List (ByteArray × ByteArray)) × List (Int × Int × List (Int × ByteArray × ByteArray)))) (a17 : List (Int × Int × Int × (List (Int × ByteArray × ByteArray)) × Bool)) (a18 : List (Int × Int × Int × (List (Int × ByteArray × ByteArray)) × Bool)) (a19 : List (Int × List (Int × ByteArray × ByteArray))) : Bool := (q_leqCoord a0 a1 a2 a3 a4 a5 a10 a11 a12 a13 a14 a15) && (cond (!(leqCoord a0 a1 a2 a3 a4 a5 a10 a11 a12 a13 a14 a15)) true ((q_leqShardS a6 a16) && (cond (!(leqShardS a6 a16)) true ((q_leqWordS a7 a17) && (cond (!(leqWordS a7 a17)) true ((q_leqWordS a8 a18) && (cond (!(leqWordS a8 a18)) true (q_leqOrderS a9 a19))))))))
noncomputable abbrev pre_leqWorld : pshsDen P_leqWorld → Bool := fun d => q_leqWorld d.1.1 d.1.2.1 d.1.2.2.1 d.1.2.2.2.1 d.1.2.2.2.2.1 d.1.2.2.2.2.2.1 d.1.2.2.2.2.2.2.1 d.1.2.2.2.2.2.2.2.1 d.1.2.2.2.2.2.2.2.2.1 d.1.2.2.2.2.2.2.2.2.2.1 d.2.1.1 d.2.1.2.1 d.2.1.2.2.1 d.2.1.2.2.2.1 d.2.1.2.2.2.2.1 d.2.1.2.2.2.2.2.1 d.2.1.2.2.2.2.2.2.1 d.2.1.2.2.2.2.2.2.2.1 d.2.1.2.2.2.2.2.2.2.2.1 d.2.1.2.2.2.2.2.2.2.2.2.1
theorem runA_leqWorld (a0 : Int) (a1 : Int) (a2 : Int) (a3 : List (Int × (List (Int × ByteArray × ByteArray)) × Int × List Int)) (a4 : List (Int × Bool)) (a5 : Int) (a6 : List (Int × (List (Int × Int × List (Int × ByteArray × ByteArray))) × Int × (List (ByteArray × ByteArray)) × List (Int × Int × List (Int × ByteArray × ByteArray)))) (a7 : List (Int × Int × Int × (List (Int × ByteArray × ByteArray)) × Bool)) (a8 : List (Int × Int × Int × (List (Int × ByteArray × ByteArray)) × Bool)) (a9 : List (Int × List (Int × ByteArray × ByteArray))) (a10 : Int) (a11 : Int) (a12 : Int) (a13 : List (Int × (List (Int × ByteArray × ByteArray)) × Int × List Int)) (a14 : List (Int × Bool)) (a15 : Int) (a16 : List (Int × (List (Int × Int × List (Int × ByteArray × ByteArray))) × Int × (List (ByteArray × ByteArray)) × List (Int × Int × List (Int × ByteArray × ByteArray)))) (a17 : List (Int × Int × Int × (List (Int × ByteArray × ByteArray)) × Bool)) (a18 : List (Int × Int × Int × (List (Int × ByteArray × ByteArray)) × Bool)) (a19 : List (Int × List (Int × ByteArray × ByteArray))) (hp : ((q_leqCoord a0 a1 a2 a3 a4 a5 a10 a11 a12 a13 a14 a15) && (cond (!(leqCoord a0 a1 a2 a3 a4 a5 a10 a11 a12 a13 a14 a15)) true ((q_leqShardS a6 a16) && (cond (!(leqShardS a6 a16)) true ((q_leqWordS a7 a17) && (cond (!(leqWordS a7 a17)) true ((q_leqWordS a8 a18) && (cond (!(leqWordS a8 a18)) true (q_leqOrderS a9 a19))))))))) = true) : runP true Try.prog tt S69 QF69 (fun _ _ => none) Try.f9 (argsMk P_leqWorld ((a0, (a1, (a2, (a3, (a4, (a5, (a6, (a7, (a8, (a9, ())))))))))), ((a10, (a11, (a12, (a13, (a14, (a15, (a16, (a17, (a18, (a19, ())))))))))), ()))) = some (g_leqWorld ((a0, (a1, (a2, (a3, (a4, (a5, (a6, (a7, (a8, (a9, ())))))))))), ((a10, (a11, (a12, (a13, (a14, (a15, (a16, (a17, (a18, (a19, ())))))))))), ()))) := by
  refine Eq.trans (b := (cond (q_leqCoord a0 a1 a2 a3 a4 a5 a10 a11 a12 a13 a14 a15) (cond (!(leqCoord a0 a1 a2 a3 a4 a5 a10 a11 a12 a13 a14 a15)) (some (e_leqWorld false)) (cond (q_leqShardS a6 a16) (cond (!(leqShardS a6 a16)) (some (e_leqWorld false)) (cond (q_leqWordS a7 a17) (cond (!(leqWordS a7 a17)) (some (e_leqWorld false)) (cond (q_leqWordS a8 a18) (cond (!(leqWordS a8 a18)) (some (e_leqWorld false)) (cond (q_leqOrderS a9 a19) (cond (!(leqOrderS a9 a19)) (some (e_leqWorld false)) (some (e_leqWorld true))) none)) none)) none)) none)) none)) (by kernel_rfl) ?_
  exact (cndT (andL hp) (fun _h => (fun hp => (cndQ (F := fun r => some (e_leqWorld r)) hp (fun hp => rfl) (fun hp => (cndT (andL hp) (fun _h => (fun hp => (cndQ (F := fun r => some (e_leqWorld r)) hp (fun hp => rfl) (fun hp => (cndT (andL hp) (fun _h => (fun hp => (cndQ (F := fun r => some (e_leqWorld r)) hp (fun hp => rfl) (fun hp => (cndT (andL hp) (fun _h => (fun hp => (cndQ (F := fun r => some (e_leqWorld r)) hp (fun hp => rfl) (fun hp => (cndT hp (fun _h => (cnd (F := fun r => some (e_leqWorld r)) (fun _h => rfl) (fun _h => rfl))))))) (andR hp)))))) (andR hp)))))) (andR hp)))))) (andR hp)))
theorem run_leqWorld : ∀ d, pre_leqWorld d = true → runP true Try.prog tt S69 QF69 (fun _ _ => none) Try.f9 (argsMk P_leqWorld d) = some (g_leqWorld d) := fun d hp => runA_leqWorld d.1.1 d.1.2.1 d.1.2.2.1 d.1.2.2.2.1 d.1.2.2.2.2.1 d.1.2.2.2.2.2.1 d.1.2.2.2.2.2.2.1 d.1.2.2.2.2.2.2.2.1 d.1.2.2.2.2.2.2.2.2.1 d.1.2.2.2.2.2.2.2.2.2.1 d.2.1.1 d.2.1.2.1 d.2.1.2.2.1 d.2.1.2.2.2.1 d.2.1.2.2.2.2.1 d.2.1.2.2.2.2.2.1 d.2.1.2.2.2.2.2.2.1 d.2.1.2.2.2.2.2.2.2.1 d.2.1.2.2.2.2.2.2.2.2.1 d.2.1.2.2.2.2.2.2.2.2.2.1 hp
theorem c_leqWorld : PContract Try.prog 9 (sumOf P_leqWorld pre_leqWorld g_leqWorld) := PContract.of_data true G69 (fn := Try.f9) (by kernel_rfl) (L := fun _ _ => none) (by rw [show loopsIn 0 (bodyOf Try.f9) = [] by kernel_rfl]; simp) P_leqWorld pre_leqWorld g_leqWorld run_leqWorld
noncomputable def S70 : Tab := Tab.add S69 9 (lift (sumOf P_leqWorld pre_leqWorld g_leqWorld))
noncomputable def QF70 : FuncId → Bool := qadd QF69 9
theorem G70 : Good Try.prog tt S70 QF70 := G69.addQ c_leqWorld ⟨Try.f9, by kernel_rfl, by kernel_rfl, by kernel_rfl⟩ (fun _ => rfl)

/-! 6 loop.example/g00244/laws.FnExactWhole -/
noncomputable abbrev P_lFnExactWhole : List PSh := [.agg [(.int .i64), (.int .i64), (.int .i64), (.sl (.pair (.int .i64) (.pair (.sl (.pair (.int .i64) (.pair .str .str))) (.pair (.int .i64) (.sl (.int .i64)))))), (.sl (.pair (.int .i64) .bool)), (.int .i64), (.sl (.pair (.int .i64) (.pair (.sl (.pair (.int .i64) (.pair (.int .i64) (.sl (.pair (.int .i64) (.pair .str .str)))))) (.pair (.int .i64) (.pair (.sl (.pair .str .str)) (.sl (.pair (.int .i64) (.pair (.int .i64) (.sl (.pair (.int .i64) (.pair .str .str))))))))))), (.sl (.pair (.int .i64) (.pair (.int .i64) (.pair (.int .i64) (.pair (.sl (.pair (.int .i64) (.pair .str .str))) .bool))))), (.sl (.pair (.int .i64) (.pair (.int .i64) (.pair (.int .i64) (.pair (.sl (.pair (.int .i64) (.pair .str .str))) .bool))))), (.sl (.pair (.int .i64) (.sl (.pair (.int .i64) (.pair .str .str)))))]]
noncomputable def k1_lFnExactWhole (a0 : Int) (a1 : Int) (a2 : Int) (a3 : List (Int × (List (Int × ByteArray × ByteArray)) × Int × List Int)) (a4 : List (Int × Bool)) (a5 : Int) (a6 : List (Int × (List (Int × Int × List (Int × ByteArray × ByteArray))) × Int × (List (ByteArray × ByteArray)) × List (Int × Int × List (Int × ByteArray × ByteArray)))) (a7 : List (Int × Int × Int × (List (Int × ByteArray × ByteArray)) × Bool)) (a8 : List (Int × Int × Int × (List (Int × ByteArray × ByteArray)) × Bool)) (a9 : List (Int × List (Int × ByteArray × ByteArray))) := sWhole ((ltoWorld a0 a1 a2 a3 a4 a5 a6 a7 a8 a9).1) ((ltoWorld a0 a1 a2 a3 a4 a5 a6 a7 a8 a9).2.1) ((ltoWorld a0 a1 a2 a3 a4 a5 a6 a7 a8 a9).2.2.1) ((ltoWorld a0 a1 a2 a3 a4 a5 a6 a7 a8 a9).2.2.2.1) ((ltoWorld a0 a1 a2 a3 a4 a5 a6 a7 a8 a9).2.2.2.2.1) ((ltoWorld a0 a1 a2 a3 a4 a5 a6 a7 a8 a9).2.2.2.2.2.1) ((ltoWorld a0 a1 a2 a3 a4 a5 a6 a7 a8 a9).2.2.2.2.2.2.1) ((ltoWorld a0 a1 a2 a3 a4 a5 a6 a7 a8 a9).2.2.2.2.2.2.2.1) ((ltoWorld a0 a1 a2 a3 a4 a5 a6 a7 a8 a9).2.2.2.2.2.2.2.2.1) ((ltoWorld a0 a1 a2 a3 a4 a5 a6 a7 a8 a9).2.2.2.2.2.2.2.2.2)
noncomputable def k2_lFnExactWhole (a0 : Int) (a1 : Int) (a2 : Int) (a3 : List (Int × (List (Int × ByteArray × ByteArray)) × Int × List Int)) (a4 : List (Int × Bool)) (a5 : Int) (a6 : List (Int × (List (Int × Int × List (Int × ByteArray × ByteArray))) × Int × (List (ByteArray × ByteArray)) × List (Int × Int × List (Int × ByteArray × ByteArray)))) (a7 : List (Int × Int × Int × (List (Int × ByteArray × ByteArray)) × Bool)) (a8 : List (Int × Int × Int × (List (Int × ByteArray × ByteArray)) × Bool)) (a9 : List (Int × List (Int × ByteArray × ByteArray))) := iWhole ((ltoWorld a0 a1 a2 a3 a4 a5 a6 a7 a8 a9).1) ((ltoWorld a0 a1 a2 a3 a4 a5 a6 a7 a8 a9).2.1) ((ltoWorld a0 a1 a2 a3 a4 a5 a6 a7 a8 a9).2.2.1) ((ltoWorld a0 a1 a2 a3 a4 a5 a6 a7 a8 a9).2.2.2.1) ((ltoWorld a0 a1 a2 a3 a4 a5 a6 a7 a8 a9).2.2.2.2.1) ((ltoWorld a0 a1 a2 a3 a4 a5 a6 a7 a8 a9).2.2.2.2.2.1) ((ltoWorld a0 a1 a2 a3 a4 a5 a6 a7 a8 a9).2.2.2.2.2.2.1) ((ltoWorld a0 a1 a2 a3 a4 a5 a6 a7 a8 a9).2.2.2.2.2.2.2.1) ((ltoWorld a0 a1 a2 a3 a4 a5 a6 a7 a8 a9).2.2.2.2.2.2.2.2.1) ((ltoWorld a0 a1 a2 a3 a4 a5 a6 a7 a8 a9).2.2.2.2.2.2.2.2.2)
noncomputable def k3_lFnExactWhole (a0 : Int) (a1 : Int) (a2 : Int) (a3 : List (Int × (List (Int × ByteArray × ByteArray)) × Int × List Int)) (a4 : List (Int × Bool)) (a5 : Int) (a6 : List (Int × (List (Int × Int × List (Int × ByteArray × ByteArray))) × Int × (List (ByteArray × ByteArray)) × List (Int × Int × List (Int × ByteArray × ByteArray)))) (a7 : List (Int × Int × Int × (List (Int × ByteArray × ByteArray)) × Bool)) (a8 : List (Int × Int × Int × (List (Int × ByteArray × ByteArray)) × Bool)) (a9 : List (Int × List (Int × ByteArray × ByteArray))) := leqWorld ((ltoWorld a0 a1 a2 a3 a4 a5 a6 a7 a8 a9).1) ((ltoWorld a0 a1 a2 a3 a4 a5 a6 a7 a8 a9).2.1) ((ltoWorld a0 a1 a2 a3 a4 a5 a6 a7 a8 a9).2.2.1) ((ltoWorld a0 a1 a2 a3 a4 a5 a6 a7 a8 a9).2.2.2.1) ((ltoWorld a0 a1 a2 a3 a4 a5 a6 a7 a8 a9).2.2.2.2.1) ((ltoWorld a0 a1 a2 a3 a4 a5 a6 a7 a8 a9).2.2.2.2.2.1) ((ltoWorld a0 a1 a2 a3 a4 a5 a6 a7 a8 a9).2.2.2.2.2.2.1) ((ltoWorld a0 a1 a2 a3 a4 a5 a6 a7 a8 a9).2.2.2.2.2.2.2.1) ((ltoWorld a0 a1 a2 a3 a4 a5 a6 a7 a8 a9).2.2.2.2.2.2.2.2.1) ((ltoWorld a0 a1 a2 a3 a4 a5 a6 a7 a8 a9).2.2.2.2.2.2.2.2.2) ((ltoWorld a0 a1 a2 a3 a4 a5 a6 a7 a8 a9).1) ((ltoWorld a0 a1 a2 a3 a4 a5 a6 a7 a8 a9).2.1) ((ltoWorld a0 a1 a2 a3 a4 a5 a6 a7 a8 a9).2.2.1) ((ltoWorld a0 a1 a2 a3 a4 a5 a6 a7 a8 a9).2.2.2.1) ((ltoWorld a0 a1 a2 a3 a4 a5 a6 a7 a8 a9).2.2.2.2.1) ((ltoWorld a0 a1 a2 a3 a4 a5 a6 a7 a8 a9).2.2.2.2.2.1) ((ltoWorld a0 a1 a2 a3 a4 a5 a6 a7 a8 a9).2.2.2.2.2.2.1) ((ltoWorld a0 a1 a2 a3 a4 a5 a6 a7 a8 a9).2.2.2.2.2.2.2.1) ((ltoWorld a0 a1 a2 a3 a4 a5 a6 a7 a8 a9).2.2.2.2.2.2.2.2.1) ((ltoWorld a0 a1 a2 a3 a4 a5 a6 a7 a8 a9).2.2.2.2.2.2.2.2.2)
noncomputable def lFnExactWhole (a0 : Int) (a1 : Int) (a2 : Int) (a3 : List (Int × (List (Int × ByteArray × ByteArray)) × Int × List Int)) (a4 : List (Int × Bool)) (a5 : Int) (a6 : List (Int × (List (Int × Int × List (Int × ByteArray × ByteArray))) × Int × (List (ByteArray × ByteArray)) × List (Int × Int × List (Int × ByteArray × ByteArray)))) (a7 : List (Int × Int × Int × (List (Int × ByteArray × ByteArray)) × Bool)) (a8 : List (Int × Int × Int × (List (Int × ByteArray × ByteArray)) × Bool)) (a9 : List (Int × List (Int × ByteArray × ByteArray))) : Bool := (cond (decide ((lszWorld a0 a1 a2 a3 a4 a5 a6 a7 a8 a9 (1048576 : Int)) < (0 : Int))) true (cond (!((k2_lFnExactWhole a0 a1 a2 a3 a4 a5 a6 a7 a8 a9) == (k1_lFnExactWhole a0 a1 a2 a3 a4 a5 a6 a7 a8 a9))) false (cond (!(k3_lFnExactWhole a0 a1 a2 a3 a4 a5 a6 a7 a8 a9)) false true)))
noncomputable abbrev e_lFnExactWhole (r : Bool) : AV × List AObj := ((.t true .bool r), [])
noncomputable abbrev g_lFnExactWhole : pshsDen P_lFnExactWhole → AV × List AObj := fun d => e_lFnExactWhole (lFnExactWhole d.1.1 d.1.2.1 d.1.2.2.1 d.1.2.2.2.1 d.1.2.2.2.2.1 d.1.2.2.2.2.2.1 d.1.2.2.2.2.2.2.1 d.1.2.2.2.2.2.2.2.1 d.1.2.2.2.2.2.2.2.2.1 d.1.2.2.2.2.2.2.2.2.2.1)
noncomputable def q_lFnExactWhole (a0 : Int) (a1 : Int) (a2 : Int) (a3 : List (Int × (List (Int × ByteArray × ByteArray)) × Int × List Int)) (a4 : List (Int × Bool)) (a5 : Int) (a6 : List (Int × (List (Int × Int × List (Int × ByteArray × ByteArray))) × Int × (List (ByteArray × ByteArray)) × List (Int × Int × List (Int × ByteArray × ByteArray)))) (a7 : List (Int × Int × Int × (List (Int × ByteArray × ByteArray)) × Bool)) (a8 : List (Int × Int × Int × (List (Int × ByteArray × ByteArray)) × Bool)) (a9 : List (Int × List (Int × ByteArray × ByteArray))) : Bool := (q_lszWorld a0 a1 a2 a3 a4 a5 a6 a7 a8 a9 (1048576 : Int)) && (cond (decide ((lszWorld a0 a1 a2 a3 a4 a5 a6 a7 a8 a9 (1048576 : Int)) < (0 : Int))) true ((q_ltoWorld a0 a1 a2 a3 a4 a5 a6 a7 a8 a9) && ((q_sWhole ((ltoWorld a0 a1 a2 a3 a4 a5 a6 a7 a8 a9).1) ((ltoWorld a0 a1 a2 a3 a4 a5 a6 a7 a8 a9).2.1) ((ltoWorld a0 a1 a2 a3 a4 a5 a6 a7 a8 a9).2.2.1) ((ltoWorld a0 a1 a2 a3 a4 a5 a6 a7 a8 a9).2.2.2.1) ((ltoWorld a0 a1 a2 a3 a4 a5 a6 a7 a8 a9).2.2.2.2.1) ((ltoWorld a0 a1 a2 a3 a4 a5 a6 a7 a8 a9).2.2.2.2.2.1) ((ltoWorld a0 a1 a2 a3 a4 a5 a6 a7 a8 a9).2.2.2.2.2.2.1) ((ltoWorld a0 a1 a2 a3 a4 a5 a6 a7 a8 a9).2.2.2.2.2.2.2.1) ((ltoWorld a0 a1 a2 a3 a4 a5 a6 a7 a8 a9).2.2.2.2.2.2.2.2.1) ((ltoWorld a0 a1 a2 a3 a4 a5 a6 a7 a8 a9).2.2.2.2.2.2.2.2.2)) && ((q_ltoWorld a0 a1 a2 a3 a4 a5 a6 a7 a8 a9) && ((q_iWhole ((ltoWorld a0 a1 a2 a3 a4 a5 a6 a7 a8 a9).1) ((ltoWorld a0 a1 a2 a3 a4 a5 a6 a7 a8 a9).2.1) ((ltoWorld a0 a1 a2 a3 a4 a5 a6 a7 a8 a9).2.2.1) ((ltoWorld a0 a1 a2 a3 a4 a5 a6 a7 a8 a9).2.2.2.1) ((ltoWorld a0 a1 a2 a3 a4 a5 a6 a7 a8 a9).2.2.2.2.1) ((ltoWorld a0 a1 a2 a3 a4 a5 a6 a7 a8 a9).2.2.2.2.2.1) ((ltoWorld a0 a1 a2 a3 a4 a5 a6 a7 a8 a9).2.2.2.2.2.2.1) ((ltoWorld a0 a1 a2 a3 a4 a5 a6 a7 a8 a9).2.2.2.2.2.2.2.1) ((ltoWorld a0 a1 a2 a3 a4 a5 a6 a7 a8 a9).2.2.2.2.2.2.2.2.1) ((ltoWorld a0 a1 a2 a3 a4 a5 a6 a7 a8 a9).2.2.2.2.2.2.2.2.2)) && (cond (!((k2_lFnExactWhole a0 a1 a2 a3 a4 a5 a6 a7 a8 a9) == (k1_lFnExactWhole a0 a1 a2 a3 a4 a5 a6 a7 a8 a9))) true ((q_ltoWorld a0 a1 a2 a3 a4 a5 a6 a7 a8 a9) && (q_leqWorld ((ltoWorld a0 a1 a2 a3 a4 a5 a6 a7 a8 a9).1) ((ltoWorld a0 a1 a2 a3 a4 a5 a6 a7 a8 a9).2.1) ((ltoWorld a0 a1 a2 a3 a4 a5 a6 a7 a8 a9).2.2.1) ((ltoWorld a0 a1 a2 a3 a4 a5 a6 a7 a8 a9).2.2.2.1) ((ltoWorld a0 a1 a2 a3 a4 a5 a6 a7 a8 a9).2.2.2.2.1) ((ltoWorld a0 a1 a2 a3 a4 a5 a6 a7 a8 a9).2.2.2.2.2.1) ((ltoWorld a0 a1 a2 a3 a4 a5 a6 a7 a8 a9).2.2.2.2.2.2.1) ((ltoWorld a0 a1 a2 a3 a4 a5 a6 a7 a8 a9).2.2.2.2.2.2.2.1) ((ltoWorld a0 a1 a2 a3 a4 a5 a6 a7 a8 a9).2.2.2.2.2.2.2.2.1) ((ltoWorld a0 a1 a2 a3 a4 a5 a6 a7 a8 a9).2.2.2.2.2.2.2.2.2) ((ltoWorld a0 a1 a2 a3 a4 a5 a6 a7 a8 a9).1) ((ltoWorld a0 a1 a2 a3 a4 a5 a6 a7 a8 a9).2.1) ((ltoWorld a0 a1 a2 a3 a4 a5 a6 a7 a8 a9).2.2.1) ((ltoWorld a0 a1 a2 a3 a4 a5 a6 a7 a8 a9).2.2.2.1) ((ltoWorld a0 a1 a2 a3 a4 a5 a6 a7 a8 a9).2.2.2.2.1) ((ltoWorld a0 a1 a2 a3 a4 a5 a6 a7 a8 a9).2.2.2.2.2.1) ((ltoWorld a0 a1 a2 a3 a4 a5 a6 a7 a8 a9).2.2.2.2.2.2.1) ((ltoWorld a0 a1 a2 a3 a4 a5 a6 a7 a8 a9).2.2.2.2.2.2.2.1) ((ltoWorld a0 a1 a2 a3 a4 a5 a6 a7 a8 a9).2.2.2.2.2.2.2.2.1) ((ltoWorld a0 a1 a2 a3 a4 a5 a6 a7 a8 a9).2.2.2.2.2.2.2.2.2)))))))))
noncomputable abbrev pre_lFnExactWhole : pshsDen P_lFnExactWhole → Bool := fun d => q_lFnExactWhole d.1.1 d.1.2.1 d.1.2.2.1 d.1.2.2.2.1 d.1.2.2.2.2.1 d.1.2.2.2.2.2.1 d.1.2.2.2.2.2.2.1 d.1.2.2.2.2.2.2.2.1 d.1.2.2.2.2.2.2.2.2.1 d.1.2.2.2.2.2.2.2.2.2.1
theorem runA_lFnExactWhole (a0 : Int) (a1 : Int) (a2 : Int) (a3 : List (Int × (List (Int × ByteArray × ByteArray)) × Int × List Int)) (a4 : List (Int × Bool)) (a5 : Int) (a6 : List (Int × (List (Int × Int × List (Int × ByteArray × ByteArray))) × Int × (List (ByteArray × ByteArray)) × List (Int × Int × List (Int × ByteArray × ByteArray)))) (a7 : List (Int × Int × Int × (List (Int × ByteArray × ByteArray)) × Bool)) (a8 : List (Int × Int × Int × (List (Int × ByteArray × ByteArray)) × Bool)) (a9 : List (Int × List (Int × ByteArray × ByteArray))) (hp : ((q_lszWorld a0 a1 a2 a3 a4 a5 a6 a7 a8 a9 (1048576 : Int)) && (cond (decide ((lszWorld a0 a1 a2 a3 a4 a5 a6 a7 a8 a9 (1048576 : Int)) < (0 : Int))) true ((q_ltoWorld a0 a1 a2 a3 a4 a5 a6 a7 a8 a9) && ((q_sWhole ((ltoWorld a0 a1 a2 a3 a4 a5 a6 a7 a8 a9).1) ((ltoWorld a0 a1 a2 a3 a4 a5 a6 a7 a8 a9).2.1) ((ltoWorld a0 a1 a2 a3 a4 a5 a6 a7 a8 a9).2.2.1) ((ltoWorld a0 a1 a2 a3 a4 a5 a6 a7 a8 a9).2.2.2.1) ((ltoWorld a0 a1 a2 a3 a4 a5 a6 a7 a8 a9).2.2.2.2.1) ((ltoWorld a0 a1 a2 a3 a4 a5 a6 a7 a8 a9).2.2.2.2.2.1) ((ltoWorld a0 a1 a2 a3 a4 a5 a6 a7 a8 a9).2.2.2.2.2.2.1) ((ltoWorld a0 a1 a2 a3 a4 a5 a6 a7 a8 a9).2.2.2.2.2.2.2.1) ((ltoWorld a0 a1 a2 a3 a4 a5 a6 a7 a8 a9).2.2.2.2.2.2.2.2.1) ((ltoWorld a0 a1 a2 a3 a4 a5 a6 a7 a8 a9).2.2.2.2.2.2.2.2.2)) && ((q_ltoWorld a0 a1 a2 a3 a4 a5 a6 a7 a8 a9) && ((q_iWhole ((ltoWorld a0 a1 a2 a3 a4 a5 a6 a7 a8 a9).1) ((ltoWorld a0 a1 a2 a3 a4 a5 a6 a7 a8 a9).2.1) ((ltoWorld a0 a1 a2 a3 a4 a5 a6 a7 a8 a9).2.2.1) ((ltoWorld a0 a1 a2 a3 a4 a5 a6 a7 a8 a9).2.2.2.1) ((ltoWorld a0 a1 a2 a3 a4 a5 a6 a7 a8 a9).2.2.2.2.1) ((ltoWorld a0 a1 a2 a3 a4 a5 a6 a7 a8 a9).2.2.2.2.2.1) ((ltoWorld a0 a1 a2 a3 a4 a5 a6 a7 a8 a9).2.2.2.2.2.2.1) ((ltoWorld a0 a1 a2 a3 a4 a5 a6 a7 a8 a9).2.2.2.2.2.2.2.1) ((ltoWorld a0 a1 a2 a3 a4 a5 a6 a7 a8 a9).2.2.2.2.2.2.2.2.1) ((ltoWorld a0 a1 a2 a3 a4 a5 a6 a7 a8 a9).2.2.2.2.2.2.2.2.2)) && (cond (!((k2_lFnExactWhole a0 a1 a2 a3 a4 a5 a6 a7 a8 a9) == (k1_lFnExactWhole a0 a1 a2 a3 a4 a5 a6 a7 a8 a9))) true ((q_ltoWorld a0 a1 a2 a3 a4 a5 a6 a7 a8 a9) && (q_leqWorld ((ltoWorld a0 a1 a2 a3 a4 a5 a6 a7 a8 a9).1) ((ltoWorld a0 a1 a2 a3 a4 a5 a6 a7 a8 a9).2.1) ((ltoWorld a0 a1 a2 a3 a4 a5 a6 a7 a8 a9).2.2.1) ((ltoWorld a0 a1 a2 a3 a4 a5 a6 a7 a8 a9).2.2.2.1) ((ltoWorld a0 a1 a2 a3 a4 a5 a6 a7 a8 a9).2.2.2.2.1) ((ltoWorld a0 a1 a2 a3 a4 a5 a6 a7 a8 a9).2.2.2.2.2.1) ((ltoWorld a0 a1 a2 a3 a4 a5 a6 a7 a8 a9).2.2.2.2.2.2.1) ((ltoWorld a0 a1 a2 a3 a4 a5 a6 a7 a8 a9).2.2.2.2.2.2.2.1) ((ltoWorld a0 a1 a2 a3 a4 a5 a6 a7 a8 a9).2.2.2.2.2.2.2.2.1) ((ltoWorld a0 a1 a2 a3 a4 a5 a6 a7 a8 a9).2.2.2.2.2.2.2.2.2) ((ltoWorld a0 a1 a2 a3 a4 a5 a6 a7 a8 a9).1) ((ltoWorld a0 a1 a2 a3 a4 a5 a6 a7 a8 a9).2.1) ((ltoWorld a0 a1 a2 a3 a4 a5 a6 a7 a8 a9).2.2.1) ((ltoWorld a0 a1 a2 a3 a4 a5 a6 a7 a8 a9).2.2.2.1) ((ltoWorld a0 a1 a2 a3 a4 a5 a6 a7 a8 a9).2.2.2.2.1) ((ltoWorld a0 a1 a2 a3 a4 a5 a6 a7 a8 a9).2.2.2.2.2.1) ((ltoWorld a0 a1 a2 a3 a4 a5 a6 a7 a8 a9).2.2.2.2.2.2.1) ((ltoWorld a0 a1 a2 a3 a4 a5 a6 a7 a8 a9).2.2.2.2.2.2.2.1) ((ltoWorld a0 a1 a2 a3 a4 a5 a6 a7 a8 a9).2.2.2.2.2.2.2.2.1) ((ltoWorld a0 a1 a2 a3 a4 a5 a6 a7 a8 a9).2.2.2.2.2.2.2.2.2)))))))))) = true) : runP true Try.prog tt S70 QF70 (fun _ _ => none) Try.f6 (argsMk P_lFnExactWhole ((a0, (a1, (a2, (a3, (a4, (a5, (a6, (a7, (a8, (a9, ())))))))))), ())) = some (g_lFnExactWhole ((a0, (a1, (a2, (a3, (a4, (a5, (a6, (a7, (a8, (a9, ())))))))))), ())) := by
  refine Eq.trans (b := (cond (q_lszWorld a0 a1 a2 a3 a4 a5 a6 a7 a8 a9 (1048576 : Int)) (cond (decide ((lszWorld a0 a1 a2 a3 a4 a5 a6 a7 a8 a9 (1048576 : Int)) < (0 : Int))) (some (e_lFnExactWhole true)) (cond (q_ltoWorld a0 a1 a2 a3 a4 a5 a6 a7 a8 a9) (cond (q_sWhole ((ltoWorld a0 a1 a2 a3 a4 a5 a6 a7 a8 a9).1) ((ltoWorld a0 a1 a2 a3 a4 a5 a6 a7 a8 a9).2.1) ((ltoWorld a0 a1 a2 a3 a4 a5 a6 a7 a8 a9).2.2.1) ((ltoWorld a0 a1 a2 a3 a4 a5 a6 a7 a8 a9).2.2.2.1) ((ltoWorld a0 a1 a2 a3 a4 a5 a6 a7 a8 a9).2.2.2.2.1) ((ltoWorld a0 a1 a2 a3 a4 a5 a6 a7 a8 a9).2.2.2.2.2.1) ((ltoWorld a0 a1 a2 a3 a4 a5 a6 a7 a8 a9).2.2.2.2.2.2.1) ((ltoWorld a0 a1 a2 a3 a4 a5 a6 a7 a8 a9).2.2.2.2.2.2.2.1) ((ltoWorld a0 a1 a2 a3 a4 a5 a6 a7 a8 a9).2.2.2.2.2.2.2.2.1) ((ltoWorld a0 a1 a2 a3 a4 a5 a6 a7 a8 a9).2.2.2.2.2.2.2.2.2)) (cond (q_ltoWorld a0 a1 a2 a3 a4 a5 a6 a7 a8 a9) (cond (q_iWhole ((ltoWorld a0 a1 a2 a3 a4 a5 a6 a7 a8 a9).1) ((ltoWorld a0 a1 a2 a3 a4 a5 a6 a7 a8 a9).2.1) ((ltoWorld a0 a1 a2 a3 a4 a5 a6 a7 a8 a9).2.2.1) ((ltoWorld a0 a1 a2 a3 a4 a5 a6 a7 a8 a9).2.2.2.1) ((ltoWorld a0 a1 a2 a3 a4 a5 a6 a7 a8 a9).2.2.2.2.1) ((ltoWorld a0 a1 a2 a3 a4 a5 a6 a7 a8 a9).2.2.2.2.2.1) ((ltoWorld a0 a1 a2 a3 a4 a5 a6 a7 a8 a9).2.2.2.2.2.2.1) ((ltoWorld a0 a1 a2 a3 a4 a5 a6 a7 a8 a9).2.2.2.2.2.2.2.1) ((ltoWorld a0 a1 a2 a3 a4 a5 a6 a7 a8 a9).2.2.2.2.2.2.2.2.1) ((ltoWorld a0 a1 a2 a3 a4 a5 a6 a7 a8 a9).2.2.2.2.2.2.2.2.2)) (cond (!((k2_lFnExactWhole a0 a1 a2 a3 a4 a5 a6 a7 a8 a9) == (k1_lFnExactWhole a0 a1 a2 a3 a4 a5 a6 a7 a8 a9))) (some (e_lFnExactWhole false)) (cond (q_ltoWorld a0 a1 a2 a3 a4 a5 a6 a7 a8 a9) (cond (q_leqWorld ((ltoWorld a0 a1 a2 a3 a4 a5 a6 a7 a8 a9).1) ((ltoWorld a0 a1 a2 a3 a4 a5 a6 a7 a8 a9).2.1) ((ltoWorld a0 a1 a2 a3 a4 a5 a6 a7 a8 a9).2.2.1) ((ltoWorld a0 a1 a2 a3 a4 a5 a6 a7 a8 a9).2.2.2.1) ((ltoWorld a0 a1 a2 a3 a4 a5 a6 a7 a8 a9).2.2.2.2.1) ((ltoWorld a0 a1 a2 a3 a4 a5 a6 a7 a8 a9).2.2.2.2.2.1) ((ltoWorld a0 a1 a2 a3 a4 a5 a6 a7 a8 a9).2.2.2.2.2.2.1) ((ltoWorld a0 a1 a2 a3 a4 a5 a6 a7 a8 a9).2.2.2.2.2.2.2.1) ((ltoWorld a0 a1 a2 a3 a4 a5 a6 a7 a8 a9).2.2.2.2.2.2.2.2.1) ((ltoWorld a0 a1 a2 a3 a4 a5 a6 a7 a8 a9).2.2.2.2.2.2.2.2.2) ((ltoWorld a0 a1 a2 a3 a4 a5 a6 a7 a8 a9).1) ((ltoWorld a0 a1 a2 a3 a4 a5 a6 a7 a8 a9).2.1) ((ltoWorld a0 a1 a2 a3 a4 a5 a6 a7 a8 a9).2.2.1) ((ltoWorld a0 a1 a2 a3 a4 a5 a6 a7 a8 a9).2.2.2.1) ((ltoWorld a0 a1 a2 a3 a4 a5 a6 a7 a8 a9).2.2.2.2.1) ((ltoWorld a0 a1 a2 a3 a4 a5 a6 a7 a8 a9).2.2.2.2.2.1) ((ltoWorld a0 a1 a2 a3 a4 a5 a6 a7 a8 a9).2.2.2.2.2.2.1) ((ltoWorld a0 a1 a2 a3 a4 a5 a6 a7 a8 a9).2.2.2.2.2.2.2.1) ((ltoWorld a0 a1 a2 a3 a4 a5 a6 a7 a8 a9).2.2.2.2.2.2.2.2.1) ((ltoWorld a0 a1 a2 a3 a4 a5 a6 a7 a8 a9).2.2.2.2.2.2.2.2.2)) (cond (!(k3_lFnExactWhole a0 a1 a2 a3 a4 a5 a6 a7 a8 a9)) (some (e_lFnExactWhole false)) (some (e_lFnExactWhole true))) none) none)) none) none) none) none)) none)) (by kernel_rfl) ?_
  exact (cndT (andL hp) (fun _h => (fun hp => (cndQ (F := fun r => some (e_lFnExactWhole r)) hp (fun hp => rfl) (fun hp => (cndT (andL hp) (fun _h => (fun hp => (cndT (andL hp) (fun _h => (fun hp => (cndT (andL hp) (fun _h => (fun hp => (cndT (andL hp) (fun _h => (fun hp => (cndQ (F := fun r => some (e_lFnExactWhole r)) hp (fun hp => rfl) (fun hp => (cndT (andL hp) (fun _h => (fun hp => (cndT hp (fun _h => (cnd (F := fun r => some (e_lFnExactWhole r)) (fun _h => rfl) (fun _h => rfl))))) (andR hp)))))) (andR hp)))) (andR hp)))) (andR hp)))) (andR hp)))))) (andR hp)))
theorem run_lFnExactWhole : ∀ d, pre_lFnExactWhole d = true → runP true Try.prog tt S70 QF70 (fun _ _ => none) Try.f6 (argsMk P_lFnExactWhole d) = some (g_lFnExactWhole d) := fun d hp => runA_lFnExactWhole d.1.1 d.1.2.1 d.1.2.2.1 d.1.2.2.2.1 d.1.2.2.2.2.1 d.1.2.2.2.2.2.1 d.1.2.2.2.2.2.2.1 d.1.2.2.2.2.2.2.2.1 d.1.2.2.2.2.2.2.2.2.1 d.1.2.2.2.2.2.2.2.2.2.1 hp
theorem c_lFnExactWhole : PContract Try.prog 6 (sumOf P_lFnExactWhole pre_lFnExactWhole g_lFnExactWhole) := PContract.of_data true G70 (fn := Try.f6) (by kernel_rfl) (L := fun _ _ => none) (by rw [show loopsIn 0 (bodyOf Try.f6) = [] by kernel_rfl]; simp) P_lFnExactWhole pre_lFnExactWhole g_lFnExactWhole run_lFnExactWhole
noncomputable def S71 : Tab := Tab.add S70 6 (lift (sumOf P_lFnExactWhole pre_lFnExactWhole g_lFnExactWhole))
noncomputable def QF71 : FuncId → Bool := qadd QF70 6
theorem G71 : Good Try.prog tt S71 QF71 := G70.addQ c_lFnExactWhole ⟨Try.f6, by kernel_rfl, by kernel_rfl, by kernel_rfl⟩ (fun _ => rfl)
noncomputable abbrev JobD := Int × List (Int × ByteArray × ByteArray) × Int × List Int
noncomputable abbrev RecD := (Int) × (Int) × List (Int × ByteArray × ByteArray)
noncomputable abbrev ShardD := (Int) × (List RecD) × (Int) × (List (ByteArray × ByteArray)) × List RecD
noncomputable abbrev WordD := (Int) × (Int) × (Int) × (List (Int × ByteArray × ByteArray)) × Bool
noncomputable abbrev OrderD := (Int) × List (Int × ByteArray × ByteArray)
noncomputable def bigJob (j : JobD) : Prop := bigOps j.2.1 = true ∧ j.2.2.2.length ≤ 9223372036854775807
noncomputable def bigJobs (l : List JobD) : Prop := l.length ≤ 9223372036854775807 ∧ ∀ j ∈ l, bigJob j
noncomputable def bigOpS (l : List (Int × ByteArray × ByteArray)) : Prop := bigOps l = true
noncomputable def bigRec (x : RecD) : Prop := bigOpS x.2.2
noncomputable def bigRecS (l : List RecD) : Prop := l.length ≤ 9223372036854775807 ∧ ∀ x ∈ l, bigRec x
noncomputable abbrev PairD := ByteArray × ByteArray
noncomputable def bigPairS (l : List PairD) : Prop := l.length ≤ 9223372036854775807 ∧ ∀ p ∈ l, bigS p.1 = true ∧ bigS p.2 = true
noncomputable def bigShard (x : ShardD) : Prop := bigRecS x.2.1 ∧ bigPairS x.2.2.2.1 ∧ bigRecS x.2.2.2.2
noncomputable def bigShardS (l : List ShardD) : Prop := l.length ≤ 9223372036854775807 ∧ ∀ x ∈ l, bigShard x
noncomputable def bigWord (x : WordD) : Prop := bigOpS x.2.2.2.1
noncomputable def bigWordS (l : List WordD) : Prop := l.length ≤ 9223372036854775807 ∧ ∀ x ∈ l, bigWord x
noncomputable def bigOrder (x : OrderD) : Prop := bigOpS x.2
noncomputable def bigOrderS (l : List OrderD) : Prop := l.length ≤ 9223372036854775807 ∧ ∀ x ∈ l, bigOrder x
noncomputable def bigWorld (a3 : List JobD) (a4 : List (Int × Bool)) (a6 : List ShardD) (a7 a8 : List WordD) (a9 : List OrderD) : Prop := bigJobs a3 ∧ a4.length ≤ 9223372036854775807 ∧ bigShardS a6 ∧ bigWordS a7 ∧ bigWordS a8 ∧ bigOrderS a9
noncomputable def okJob (j : JobD) : Prop := okOps j.2.1 = true ∧ j.2.2.2.length ≤ 1048576
noncomputable def okOpS (l : List (Int × ByteArray × ByteArray)) : Prop := okOps l = true
noncomputable def okRec (x : RecD) : Prop := okOpS x.2.2
noncomputable def okRecS (l : List RecD) : Prop := l.length ≤ 1048576 ∧ ∀ x ∈ l, okRec x
noncomputable def okPairS (l : List PairD) : Prop := l.length ≤ 1048576 ∧ ∀ p ∈ l, okS p.1 = true ∧ okS p.2 = true
noncomputable def okShard (x : ShardD) : Prop := okRecS x.2.1 ∧ okPairS x.2.2.2.1 ∧ okRecS x.2.2.2.2
noncomputable def okShardS (l : List ShardD) : Prop := l.length ≤ 1048576 ∧ ∀ x ∈ l, okShard x
noncomputable def okWord (x : WordD) : Prop := okOpS x.2.2.2.1
noncomputable def okWordS (l : List WordD) : Prop := l.length ≤ 1048576 ∧ ∀ x ∈ l, okWord x
noncomputable def okOrder (x : OrderD) : Prop := okOpS x.2
noncomputable def okOrderS (l : List OrderD) : Prop := l.length ≤ 1048576 ∧ ∀ x ∈ l, okOrder x
/-- A world that is not too large. -/
noncomputable def okWorld (a3 : List JobD) (a4 : List (Int × Bool)) (a6 : List ShardD) (a7 a8 : List WordD) (a9 : List OrderD) : Prop := a3.length ≤ 1048576 ∧ (∀ j ∈ a3, okJob j) ∧ a4.length ≤ 1048576 ∧ okShardS a6 ∧ okWordS a7 ∧ okWordS a8 ∧ okOrderS a9
theorem szOp_spec (k : Int) (s v : ByteArray) (b : Int) (h0 : 0 ≤ b) (h1 : b ≤ 1048576) (hs : bigS s = true) (hv : bigS v = true) (h : 0 ≤ lszOp k s v b) : lszOp k s v b ≤ b ∧ okS s = true ∧ okS v = true := by
  simp only [bigS, decide_eq_true_eq] at hs hv
  have e1 := wrap64 (n := b - ((s.size : Nat) : Int)) (by omega) (by omega)
  simp only [lszOp, e1] at h ⊢
  cases hd : decide (b - ((s.size : Nat) : Int) < 0) with
  | true => rw [hd] at h; simp at h
  | false =>
    rw [hd] at h
    have := of_decide_eq_false hd
    have e2 := wrap64 (n := b - ((s.size : Nat) : Int) - ((v.size : Nat) : Int)) (by omega) (by omega)
    simp only [cond_false, e2] at h ⊢
    cases hd2 : decide (b - ((s.size : Nat) : Int) - ((v.size : Nat) : Int) < 0) with
    | true => rw [hd2] at h; simp at h
    | false =>
      have := of_decide_eq_false hd2
      simp only [cond_false, okS, decide_eq_true_eq]
      omega
theorem szOpS_spec (l : List (Int × ByteArray × ByteArray)) (b : Int) (h0 : 0 ≤ b) (h1 : b ≤ 1048576) (hb : bigOps l = true) (h : 0 ≤ lszOpS l b) : lszOpS l b ≤ b ∧ okOps l = true := by
  have hl : l.length ≤ 9223372036854775807 := by simp only [bigOps, Bool.and_eq_true, decide_eq_true_eq] at hb; exact hb.1
  have e1 := wrap64 (n := b - ((l.length : Nat) : Int)) (by omega) (by omega)
  simp only [lszOpS, e1, Int.toNat_zero, Nat.sub_zero] at h ⊢
  cases hd : decide (b - ((l.length : Nat) : Int) < 0) with
  | true => rw [hd] at h; simp at h
  | false =>
    rw [hd] at h
    have := of_decide_eq_false hd
    simp only [cond_false] at h ⊢
    cases hi : isInl (szN (f_lszOpS_0 l) l.length 0 (b - ((l.length : Nat) : Int))) with
    | false => rw [hi] at h; simp at h
    | true =>
      obtain ⟨r1, r2, r3⟩ := szN_all (M := 1048576) (Q := fun i => okS (l.getD i dOp).2.1 = true ∧ okS (l.getD i dOp).2.2 = true) l.length 0 (b - ((l.length : Nat) : Int)) (fun j b' _ hj q0 q1 hf => by
        obtain ⟨p1, p2⟩ := bigOps_at hb j (by omega)
        obtain ⟨s1, s2, s3⟩ := szOp_spec _ _ _ b' q0 q1 p1 p2 hf
        exact ⟨⟨s2, s3⟩, s1⟩) (by omega) (by omega) hi
      simp only [cond_true]
      exact ⟨by omega, okOps_of (by omega) (fun i hi => r1 i (Nat.zero_le _) (by omega))⟩
theorem szInts_spec {l : List Int} {b : Int} (hl : l.length ≤ 9223372036854775807) (h0 : 0 ≤ b) (h1 : b ≤ 1048576) (h : 0 ≤ lszIntS l b) : lszIntS l b ≤ b ∧ l.length ≤ 1048576 := by
  have e1 := wrap64 (n := b - ((l.length : Nat) : Int)) (by omega) (by omega)
  simp only [lszIntS, e1] at h ⊢
  by_cases hd : b - ((l.length : Nat) : Int) < 0
  · rw [decide_eq_true hd] at h; simp at h
  · rw [decide_eq_false hd]; simp only [cond_false]; omega
theorem szJob_spec {j : JobD} {b : Int} (hj : bigJob j) (h0 : 0 ≤ b) (h1 : b ≤ 1048576) : q_lszJob j.1 j.2.1 j.2.2.1 j.2.2.2 b = true ∧ (0 ≤ lszJob j.1 j.2.1 j.2.2.1 j.2.2.2 b → lszJob j.1 j.2.1 j.2.2.1 j.2.2.2 b ≤ b ∧ okJob j) := by
  obtain ⟨h2, h3⟩ := hj
  refine ⟨decide_eq_true ⟨h0, h1, bigOps_len h2⟩, fun h => ?_⟩
  simp only [lszJob] at h ⊢
  by_cases hd : lszOpS j.2.1 b < 0
  · rw [decide_eq_true hd] at h; simp at h
  · obtain ⟨s1, s2⟩ := szOpS_spec _ b h0 h1 h2 (by omega)
    rw [decide_eq_false hd] at h ⊢
    simp only [cond_false] at h ⊢
    by_cases hd2 : lszIntS j.2.2.2 (lszOpS j.2.1 b) < 0
    · rw [decide_eq_true hd2] at h; simp at h
    · obtain ⟨t1, t2⟩ := szInts_spec h3 (by omega) (by omega) (by omega : 0 ≤ lszIntS j.2.2.2 (lszOpS j.2.1 b))
      rw [decide_eq_false hd2]
      simp only [cond_false]
      exact ⟨by omega, s2, t2⟩
theorem getD_mem {α : Type} {l : List α} {i : Nat} (h : i < l.length) (d : α) : l.getD i d ∈ l := by
  simp [List.getD_eq_getElem?_getD, h]
noncomputable def dJob : JobD := (0, [], 0, [])
theorem take_succ_getD {α : Type} {l : List α} {i : Nat} (hi : i < l.length) (d : α) : l.take (i + 1) = l.take i ++ [l.getD i d] := by
  rw [List.take_add_one, List.getElem?_eq_getElem hi]; simp [List.getD_eq_getElem?_getD, hi]
theorem szJobs_spec {l : List JobD} {b : Int} (hl : bigJobs l) (h0 : 0 ≤ b) (h1 : b ≤ 1048576) : q_lszJobS l b = true ∧ (0 ≤ lszJobS l b → lszJobS l b ≤ b ∧ l.length ≤ 1048576 ∧ ∀ j ∈ l, okJob j) := by
  obtain ⟨h2, h3⟩ := hl
  have e1 := wrap64 (n := b - ((l.length : Nat) : Int)) (by omega) (by omega)
  simp only [q_lszJobS, lszJobS, e1]
  by_cases hd : b - ((l.length : Nat) : Int) < 0
  · rw [decide_eq_true hd]; simp
  · rw [decide_eq_false hd]
    simp only [cond_false]
    have key : (it_lszJobS_0 l (b - ((l.length : Nat) : Int)) 0 = (0, -1, 0)) ∨ ∃ c, it_lszJobS_0 l (b - ((l.length : Nat) : Int)) 0 = (1, 0, c) ∧ 0 ≤ c ∧ c ≤ b ∧ ∀ j ∈ l, okJob j := by
      refine itX_inv (fun v : V_lszJobS_0 => ∃ (i : Nat) (c : Int), v = (l, c, (i : Int)) ∧ i ≤ l.length ∧ 0 ≤ c ∧ c ≤ b ∧ ∀ j ∈ l.take i, okJob j) (fun a : A_lszJobS_0 => a = (0, -1, 0) ∨ ∃ c, a = (1, 0, c) ∧ 0 ≤ c ∧ c ≤ b ∧ ∀ j ∈ l, okJob j) (fun v => l.length - v.2.2.toNat) ?_ ⟨0, _, rfl, Nat.zero_le _, by omega, by omega, by simp⟩ (by simp; omega)
      rintro v ⟨i, c, rfl, hi, c0, c1, hj⟩
      by_cases hlt : i < l.length
      · have e1 : decide ((i : Int) < ((l.length : Nat) : Int)) = true := decide_eq_true (by omega)
        have e2 : decide (0 ≤ (i : Int) ∧ (i : Int) < ((l.length : Nat) : Int)) = true := decide_eq_true (by omega)
        obtain ⟨q1, q2⟩ := szJob_spec (h3 _ (getD_mem hlt dJob)) c0 (by omega)
        have hdj : ((0 : Int), (([] : List (Int × ByteArray × ByteArray)), ((0 : Int), ([] : List Int)))) = dJob := rfl
        simp only [ss_lszJobS_0, hdj, e1, e2, cond_true, Int.toNat_natCast, q1, wrapU i (by omega)]
        by_cases hn : lszJob (l.getD i dJob).1 (l.getD i dJob).2.1 (l.getD i dJob).2.2.1 (l.getD i dJob).2.2.2 c < 0
        · simp only [decide_eq_true hn, cond_true]
          exact .inr ⟨_, rfl, .inl rfl⟩
        · simp only [decide_eq_false hn, cond_false]
          obtain ⟨r1, r2⟩ := q2 (by omega)
          refine .inl ⟨_, rfl, ⟨i + 1, _, rfl, by omega, by omega, by omega, fun j hj2 => ?_⟩, by simp only [Int.toNat_natCast]; omega⟩
          rw [take_succ_getD hlt dJob] at hj2
          rcases List.mem_append.1 hj2 with h | h
          · exact hj j h
          · simp only [List.mem_singleton] at h; rw [h]; exact r2
      · obtain rfl : i = l.length := by omega
        have e1 : decide ((l.length : Int) < ((l.length : Nat) : Int)) = false := decide_eq_false (by omega)
        simp only [ss_lszJobS_0, e1, cond_false]
        rw [List.take_length] at hj
        exact .inr ⟨_, rfl, .inr ⟨c, rfl, c0, c1, hj⟩⟩
    rcases key with h | ⟨c, h, c0, c1, hj⟩
    · rw [h]; exact ⟨rfl, fun h => by simp at h⟩
    · rw [h]; exact ⟨rfl, fun _ => ⟨c1, by omega, hj⟩⟩
/-- What a coordinator is whose size does. -/
theorem szCoord_spec {a3 : List JobD} {a4 : List (Int × Bool)} (hb : bigJobs a3) (h4 : a4.length ≤ 9223372036854775807) (a0 a1 a2 a5 : Int) : q_lszCoord a0 a1 a2 a3 a4 a5 1048576 = true ∧ (0 ≤ lszCoord a0 a1 a2 a3 a4 a5 1048576 → a3.length ≤ 1048576 ∧ (∀ j ∈ a3, okJob j) ∧ a4.length ≤ 1048576) := by
  obtain ⟨z1, z2⟩ := szJobs_spec hb (b := 1048576) (by decide) (by decide)
  refine ⟨z1, fun h => ?_⟩
  simp only [lszCoord] at h
  by_cases hd : lszJobS a3 1048576 < 0
  · rw [decide_eq_true hd] at h; simp at h
  · obtain ⟨y1, y2, y3⟩ := z2 (by omega)
    rw [decide_eq_false hd] at h
    simp only [cond_false] at h
    by_cases hd2 : lszChoiceS a4 (lszJobS a3 1048576) < 0
    · rw [decide_eq_true hd2] at h; simp at h
    · refine ⟨y2, y3, ?_⟩
      generalize lszJobS a3 1048576 = c at *
      have e1 := wrap64 (n := c - ((a4.length : Nat) : Int)) (by omega) (by omega)
      simp only [lszChoiceS, e1] at hd2
      by_cases hd3 : c - ((a4.length : Nat) : Int) < 0
      · rw [decide_eq_true hd3] at hd2; simp at hd2
      · omega
theorem szCoordI {a3 : List JobD} {a4 : List (Int × Bool)} (hb : bigJobs a3) (h4 : a4.length ≤ 9223372036854775807) (a0 a1 a2 a5 : Int) : q_lszCoord a0 a1 a2 a3 a4 a5 1048576 = true ∧ (0 ≤ lszCoord a0 a1 a2 a3 a4 a5 1048576 → lszCoord a0 a1 a2 a3 a4 a5 1048576 ≤ 1048576 ∧ a3.length ≤ 1048576 ∧ (∀ j ∈ a3, okJob j) ∧ a4.length ≤ 1048576) := by
  obtain ⟨z1, z2⟩ := szCoord_spec hb h4 a0 a1 a2 a5
  refine ⟨z1, fun h => ⟨?_, z2 h⟩⟩
  obtain ⟨_, y⟩ := szJobs_spec hb (b := 1048576) (by decide) (by decide)
  simp only [lszCoord] at h ⊢
  by_cases hd : lszJobS a3 1048576 < 0
  · rw [decide_eq_true hd] at h; simp at h
  · obtain ⟨y1, _⟩ := y (by omega)
    rw [decide_eq_false hd] at h ⊢
    simp only [cond_false] at h ⊢
    generalize lszJobS a3 1048576 = c at *
    have e1 := wrap64 (n := c - ((a4.length : Nat) : Int)) (by omega) (by omega)
    simp only [lszChoiceS, e1] at h ⊢
    by_cases hd3 : c - ((a4.length : Nat) : Int) < 0
    · simp only [decide_eq_true hd3, cond_true] at h ⊢; simp
    · simp only [decide_eq_false hd3, cond_false] at h ⊢; omega
noncomputable def dShard : ShardD := ((0 : Int), (([] : List RecD), ((0 : Int), (([] : List (ByteArray × ByteArray)), ([] : List RecD)))))
theorem itX_sz {V A α : Type} {ss : V → V ⊕ A} {fa : A} (pk : Int → Nat → V) (l : List α) (d : α) (sz : α → Int → Int) (Q : α → Prop) (bad : A) (good : Int → A) (M : Int) (hn : l.length < 4611686018427387904) {b : Int} (h0 : 0 ≤ b) (h1 : b ≤ M)
    (hstep : ∀ i c, i < l.length → 0 ≤ c → c ≤ M → ss (pk c i) = cond (decide (sz (l.getD i d) c < 0)) (.inr bad) (.inl (pk (sz (l.getD i d) c) (i + 1))))
    (hQ : ∀ x ∈ l, ∀ c, 0 ≤ c → c ≤ M → 0 ≤ sz x c → sz x c ≤ c ∧ Q x) (hlast : ∀ c, ss (pk c l.length) = .inr (good c)) :
    itX ss fa (pk b 0) = bad ∨ ∃ c, itX ss fa (pk b 0) = good c ∧ 0 ≤ c ∧ c ≤ b ∧ ∀ x ∈ l, Q x := by
  rw [itX_eq]
  have key : ∀ k N i c, i + k = l.length → k < N → 0 ≤ c → c ≤ b → (∀ x ∈ l.take i, Q x) → itN ss fa N (pk c i) = bad ∨ ∃ c', itN ss fa N (pk c i) = good c' ∧ 0 ≤ c' ∧ c' ≤ b ∧ ∀ x ∈ l, Q x := by
    intro k
    induction k with
    | zero =>
      intro N i c hi hN c0 c1 hq
      obtain ⟨N, rfl⟩ : ∃ M, N = M + 1 := ⟨N - 1, by omega⟩
      obtain rfl : i = l.length := by omega
      rw [itN_one, hlast c]
      rw [List.take_length] at hq
      exact .inr ⟨c, rfl, c0, c1, hq⟩
    | succ k ih =>
      intro N i c hi hN c0 c1 hq
      obtain ⟨N, rfl⟩ : ∃ M, N = M + 1 := ⟨N - 1, by omega⟩
      have hlt : i < l.length := by omega
      rw [itN_one, hstep i c hlt c0 (by omega)]
      by_cases hneg : sz (l.getD i d) c < 0
      · rw [decide_eq_true hneg]; exact .inl rfl
      · rw [decide_eq_false hneg]
        obtain ⟨q1, q2⟩ := hQ _ (getD_mem hlt d) c c0 (by omega) (by omega)
        refine ih N (i + 1) _ (by omega) (by omega) (by omega) (by omega) (fun x hx => ?_)
        rw [take_succ_getD hlt d] at hx
        rcases List.mem_append.1 hx with hx | hx
        · exact hq x hx
        · simp only [List.mem_singleton] at hx; rw [hx]; exact q2
  exact key l.length _ 0 b (by omega) hn h0 (Int.le_refl _) (by simp)
noncomputable def dRec : RecD := ((0 : Int), ((0 : Int), ([] : List (Int × ByteArray × ByteArray))))
theorem szOpSI {l : List (Int × ByteArray × ByteArray)} {b : Int} (hb : bigOpS l) (h0 : 0 ≤ b) (h1 : b ≤ 1048576) : q_lszOpS l b = true ∧ (0 ≤ lszOpS l b → lszOpS l b ≤ b ∧ okOpS l) := ⟨decide_eq_true ⟨h0, h1, bigOps_len hb⟩, fun h => szOpS_spec l b h0 h1 hb h⟩
theorem szRec_el {x : RecD} {b : Int} (hx : bigRec x) (h0 : 0 ≤ b) (h1 : b ≤ 1048576) : q_lszRec x.1 x.2.1 x.2.2 b = true ∧ (0 ≤ lszRec x.1 x.2.1 x.2.2 b → lszRec x.1 x.2.1 x.2.2 b ≤ b ∧ okRec x) := by
  obtain ⟨a1, a2⟩ := szOpSI hx h0 h1
  refine ⟨a1, fun h => ?_⟩
  simp only [lszRec] at h ⊢
  by_cases hd : lszOpS x.2.2 b < 0
  · rw [decide_eq_true hd] at h; simp at h
  · rw [decide_eq_false hd]; exact a2 (by omega)
theorem szRecSI {l : List RecD} {b : Int} (hb : bigRecS l) (h0 : 0 ≤ b) (h1 : b ≤ 1048576) : q_lszRecS l b = true ∧ (0 ≤ lszRecS l b → lszRecS l b ≤ b ∧ okRecS l) := by
  obtain ⟨h2, h3⟩ := hb
  have hdj : (((0 : Int), ((0 : Int), ([] : List (Int × ByteArray × ByteArray)))) : RecD) = dRec := rfl
  have e1 := wrap64 (n := b - ((l.length : Nat) : Int)) (by omega) (by omega)
  simp only [q_lszRecS, lszRecS, e1]
  by_cases hd : b - ((l.length : Nat) : Int) < 0
  · rw [decide_eq_true hd]; simp
  rw [decide_eq_false hd]
  simp only [cond_false]
  have key : it_lszRecS_0 l (b - ((l.length : Nat) : Int)) 0 = (0, -1, 0) ∨ ∃ c, it_lszRecS_0 l (b - ((l.length : Nat) : Int)) 0 = (1, 0, c) ∧ 0 ≤ c ∧ c ≤ b - ((l.length : Nat) : Int) ∧ ∀ x ∈ l, okRec x := by
    refine itX_sz (fun c i => (l, c, (i : Int))) l dRec (fun x c => lszRec x.1 x.2.1 x.2.2 c) okRec (0, -1, 0) (fun c => (1, 0, c)) b (by omega) (by omega) (by omega) (fun i c hi c0 c1 => ?_) (fun x hx c c0 c1 h => (szRec_el (h3 x hx) c0 (by omega)).2 h) (fun c => ?_)
    · have q1 := (szRec_el (h3 _ (getD_mem hi dRec)) c0 (by omega)).1
      have e1 : decide ((i : Int) < ((l.length : Nat) : Int)) = true := decide_eq_true (by omega)
      have e2 : decide (0 ≤ (i : Int) ∧ (i : Int) < ((l.length : Nat) : Int)) = true := decide_eq_true (by omega)
      simp only [ss_lszRecS_0, hdj, e1, e2, cond_true, Int.toNat_natCast, q1, wrapU i (by omega)]
    · have e1 : decide ((l.length : Int) < ((l.length : Nat) : Int)) = false := decide_eq_false (by omega)
      simp only [ss_lszRecS_0, e1, cond_false]
  rcases key with h | ⟨c, h, c0, c1, hj⟩
  · rw [h]; exact ⟨rfl, fun h => by simp at h⟩
  · rw [h]; exact ⟨rfl, fun _ => ⟨by show c ≤ b; omega, by omega, hj⟩⟩
noncomputable def dPair : PairD := ((⟨#[]⟩ : ByteArray), (⟨#[]⟩ : ByteArray))
theorem szPair_spec (s v : ByteArray) (b : Int) (h0 : 0 ≤ b) (h1 : b ≤ 1048576) (hs : bigS s = true) (hv : bigS v = true) (h : 0 ≤ lszPair s v b) : lszPair s v b ≤ b ∧ okS s = true ∧ okS v = true := by
  simp only [bigS, decide_eq_true_eq] at hs hv
  have e1 := wrap64 (n := b - ((s.size : Nat) : Int)) (by omega) (by omega)
  simp only [lszPair, e1] at h ⊢
  cases hd : decide (b - ((s.size : Nat) : Int) < 0) with
  | true => rw [hd] at h; simp at h
  | false =>
    rw [hd] at h
    have := of_decide_eq_false hd
    have e2 := wrap64 (n := b - ((s.size : Nat) : Int) - ((v.size : Nat) : Int)) (by omega) (by omega)
    simp only [cond_false, e2] at h ⊢
    cases hd2 : decide (b - ((s.size : Nat) : Int) - ((v.size : Nat) : Int) < 0) with
    | true => rw [hd2] at h; simp at h
    | false =>
      have := of_decide_eq_false hd2
      simp only [cond_false, okS, decide_eq_true_eq]
      omega
theorem szPairSI {l : List PairD} {b : Int} (hb : bigPairS l) (h0 : 0 ≤ b) (h1 : b ≤ 1048576) : q_lszPairS l b = true ∧ (0 ≤ lszPairS l b → lszPairS l b ≤ b ∧ okPairS l) := by
  obtain ⟨hl, hp⟩ := hb
  refine ⟨decide_eq_true ⟨h0, h1, hl⟩, fun h => ?_⟩
  have e1 := wrap64 (n := b - ((l.length : Nat) : Int)) (by omega) (by omega)
  simp only [lszPairS, e1, Int.toNat_zero, Nat.sub_zero] at h ⊢
  cases hd : decide (b - ((l.length : Nat) : Int) < 0) with
  | true => rw [hd] at h; simp at h
  | false =>
    rw [hd] at h
    have := of_decide_eq_false hd
    simp only [cond_false] at h ⊢
    cases hi : isInl (szN (f_lszPairS_0 l) l.length 0 (b - ((l.length : Nat) : Int))) with
    | false => rw [hi] at h; simp at h
    | true =>
      obtain ⟨r1, r2, r3⟩ := szN_all (M := 1048576) (Q := fun i => okS (l.getD i dPair).1 = true ∧ okS (l.getD i dPair).2 = true) l.length 0 (b - ((l.length : Nat) : Int)) (fun j b' _ hj q0 q1 hf => by
        obtain ⟨p1, p2⟩ := hp _ (getD_mem (show j < l.length by omega) dPair)
        obtain ⟨s1, s2, s3⟩ := szPair_spec _ _ b' q0 q1 p1 p2 hf
        exact ⟨⟨s2, s3⟩, s1⟩) (by omega) (by omega) hi
      simp only [cond_true]
      refine ⟨by omega, by omega, fun p hm => ?_⟩
      obtain ⟨i, hi, e⟩ := List.getElem_of_mem hm
      have := r1 i (Nat.zero_le _) (by omega)
      rw [List.getD_eq_getElem?_getD, List.getElem?_eq_getElem hi, Option.getD_some, e] at this
      exact this
theorem szShard_el {x : ShardD} {b : Int} (hx : bigShard x) (h0 : 0 ≤ b) (h1 : b ≤ 1048576) : q_lszShard x.1 x.2.1 x.2.2.1 x.2.2.2.1 x.2.2.2.2 b = true ∧ (0 ≤ lszShard x.1 x.2.1 x.2.2.1 x.2.2.2.1 x.2.2.2.2 b → lszShard x.1 x.2.1 x.2.2.1 x.2.2.2.1 x.2.2.2.2 b ≤ b ∧ okShard x) := by
  simp only [q_lszShard, lszShard]
  obtain ⟨q0, a0⟩ := szRecSI (b := b) (hx.1) (by omega) (by omega)
  generalize hc0 : lszRecS x.2.1 b = c0 at *
  by_cases hd0 : c0 < 0
  · simp only [q0, decide_eq_true hd0, cond_true, Bool.true_and]
    exact ⟨trivial, fun h => by simp at h⟩
  obtain ⟨m0, k0⟩ := a0 (by omega)
  simp only [q0, decide_eq_false hd0, cond_false, Bool.true_and]
  obtain ⟨q1, a1⟩ := szPairSI (b := c0) (hx.2.1) (by omega) (by omega)
  generalize hc1 : lszPairS x.2.2.2.1 c0 = c1 at *
  by_cases hd1 : c1 < 0
  · simp only [q1, decide_eq_true hd1, cond_true, Bool.true_and]
    exact ⟨trivial, fun h => by simp at h⟩
  obtain ⟨m1, k1⟩ := a1 (by omega)
  simp only [q1, decide_eq_false hd1, cond_false, Bool.true_and]
  obtain ⟨q2, a2⟩ := szRecSI (b := c1) (hx.2.2) (by omega) (by omega)
  generalize hc2 : lszRecS x.2.2.2.2 c1 = c2 at *
  by_cases hd2 : c2 < 0
  · rw [decide_eq_true hd2]
    exact ⟨q2, fun h => by simp at h⟩
  obtain ⟨m2, k2⟩ := a2 (by omega)
  rw [decide_eq_false hd2]
  exact ⟨q2, fun _ => ⟨by simp only [cond_false]; omega, k0, k1, k2⟩⟩
theorem szShardSI {l : List ShardD} {b : Int} (hb : bigShardS l) (h0 : 0 ≤ b) (h1 : b ≤ 1048576) : q_lszShardS l b = true ∧ (0 ≤ lszShardS l b → lszShardS l b ≤ b ∧ okShardS l) := by
  obtain ⟨h2, h3⟩ := hb
  have hdj : (((0 : Int), (([] : List RecD), ((0 : Int), (([] : List (ByteArray × ByteArray)), ([] : List RecD))))) : ShardD) = dShard := rfl
  have e1 := wrap64 (n := b - ((l.length : Nat) : Int)) (by omega) (by omega)
  simp only [q_lszShardS, lszShardS, e1]
  by_cases hd : b - ((l.length : Nat) : Int) < 0
  · rw [decide_eq_true hd]; simp
  rw [decide_eq_false hd]
  simp only [cond_false]
  have key : it_lszShardS_0 l (b - ((l.length : Nat) : Int)) 0 = (0, -1, 0) ∨ ∃ c, it_lszShardS_0 l (b - ((l.length : Nat) : Int)) 0 = (1, 0, c) ∧ 0 ≤ c ∧ c ≤ b - ((l.length : Nat) : Int) ∧ ∀ x ∈ l, okShard x := by
    refine itX_sz (fun c i => (l, c, (i : Int))) l dShard (fun x c => lszShard x.1 x.2.1 x.2.2.1 x.2.2.2.1 x.2.2.2.2 c) okShard (0, -1, 0) (fun c => (1, 0, c)) b (by omega) (by omega) (by omega) (fun i c hi c0 c1 => ?_) (fun x hx c c0 c1 h => (szShard_el (h3 x hx) c0 (by omega)).2 h) (fun c => ?_)
    · have q1 := (szShard_el (h3 _ (getD_mem hi dShard)) c0 (by omega)).1
      have e1 : decide ((i : Int) < ((l.length : Nat) : Int)) = true := decide_eq_true (by omega)
      have e2 : decide (0 ≤ (i : Int) ∧ (i : Int) < ((l.length : Nat) : Int)) = true := decide_eq_true (by omega)
      simp only [ss_lszShardS_0, hdj, e1, e2, cond_true, Int.toNat_natCast, q1, wrapU i (by omega)]
    · have e1 : decide ((l.length : Int) < ((l.length : Nat) : Int)) = false := decide_eq_false (by omega)
      simp only [ss_lszShardS_0, e1, cond_false]
  rcases key with h | ⟨c, h, c0, c1, hj⟩
  · rw [h]; exact ⟨rfl, fun h => by simp at h⟩
  · rw [h]; exact ⟨rfl, fun _ => ⟨by show c ≤ b; omega, by omega, hj⟩⟩
noncomputable def dWord : WordD := ((0 : Int), ((0 : Int), ((0 : Int), (([] : List (Int × ByteArray × ByteArray)), false))))
theorem szWord_el {x : WordD} {b : Int} (hx : bigWord x) (h0 : 0 ≤ b) (h1 : b ≤ 1048576) : q_lszWord x.1 x.2.1 x.2.2.1 x.2.2.2.1 x.2.2.2.2 b = true ∧ (0 ≤ lszWord x.1 x.2.1 x.2.2.1 x.2.2.2.1 x.2.2.2.2 b → lszWord x.1 x.2.1 x.2.2.1 x.2.2.2.1 x.2.2.2.2 b ≤ b ∧ okWord x) := by
  obtain ⟨a1, a2⟩ := szOpSI hx h0 h1
  refine ⟨a1, fun h => ?_⟩
  simp only [lszWord] at h ⊢
  by_cases hd : lszOpS x.2.2.2.1 b < 0
  · rw [decide_eq_true hd] at h; simp at h
  · rw [decide_eq_false hd]; exact a2 (by omega)
theorem szWordSI {l : List WordD} {b : Int} (hb : bigWordS l) (h0 : 0 ≤ b) (h1 : b ≤ 1048576) : q_lszWordS l b = true ∧ (0 ≤ lszWordS l b → lszWordS l b ≤ b ∧ okWordS l) := by
  obtain ⟨h2, h3⟩ := hb
  have hdj : (((0 : Int), ((0 : Int), ((0 : Int), (([] : List (Int × ByteArray × ByteArray)), false)))) : WordD) = dWord := rfl
  have e1 := wrap64 (n := b - ((l.length : Nat) : Int)) (by omega) (by omega)
  simp only [q_lszWordS, lszWordS, e1]
  by_cases hd : b - ((l.length : Nat) : Int) < 0
  · rw [decide_eq_true hd]; simp
  rw [decide_eq_false hd]
  simp only [cond_false]
  have key : it_lszWordS_0 l (b - ((l.length : Nat) : Int)) 0 = (0, -1, 0) ∨ ∃ c, it_lszWordS_0 l (b - ((l.length : Nat) : Int)) 0 = (1, 0, c) ∧ 0 ≤ c ∧ c ≤ b - ((l.length : Nat) : Int) ∧ ∀ x ∈ l, okWord x := by
    refine itX_sz (fun c i => (l, c, (i : Int))) l dWord (fun x c => lszWord x.1 x.2.1 x.2.2.1 x.2.2.2.1 x.2.2.2.2 c) okWord (0, -1, 0) (fun c => (1, 0, c)) b (by omega) (by omega) (by omega) (fun i c hi c0 c1 => ?_) (fun x hx c c0 c1 h => (szWord_el (h3 x hx) c0 (by omega)).2 h) (fun c => ?_)
    · have q1 := (szWord_el (h3 _ (getD_mem hi dWord)) c0 (by omega)).1
      have e1 : decide ((i : Int) < ((l.length : Nat) : Int)) = true := decide_eq_true (by omega)
      have e2 : decide (0 ≤ (i : Int) ∧ (i : Int) < ((l.length : Nat) : Int)) = true := decide_eq_true (by omega)
      simp only [ss_lszWordS_0, hdj, e1, e2, cond_true, Int.toNat_natCast, q1, wrapU i (by omega)]
    · have e1 : decide ((l.length : Int) < ((l.length : Nat) : Int)) = false := decide_eq_false (by omega)
      simp only [ss_lszWordS_0, e1, cond_false]
  rcases key with h | ⟨c, h, c0, c1, hj⟩
  · rw [h]; exact ⟨rfl, fun h => by simp at h⟩
  · rw [h]; exact ⟨rfl, fun _ => ⟨by show c ≤ b; omega, by omega, hj⟩⟩
noncomputable def dOrder : OrderD := ((0 : Int), ([] : List (Int × ByteArray × ByteArray)))
theorem szOrder_el {x : OrderD} {b : Int} (hx : bigOrder x) (h0 : 0 ≤ b) (h1 : b ≤ 1048576) : q_lszOrder x.1 x.2 b = true ∧ (0 ≤ lszOrder x.1 x.2 b → lszOrder x.1 x.2 b ≤ b ∧ okOrder x) := by
  obtain ⟨a1, a2⟩ := szOpSI hx h0 h1
  refine ⟨a1, fun h => ?_⟩
  simp only [lszOrder] at h ⊢
  by_cases hd : lszOpS x.2 b < 0
  · rw [decide_eq_true hd] at h; simp at h
  · rw [decide_eq_false hd]; exact a2 (by omega)
theorem szOrderSI {l : List OrderD} {b : Int} (hb : bigOrderS l) (h0 : 0 ≤ b) (h1 : b ≤ 1048576) : q_lszOrderS l b = true ∧ (0 ≤ lszOrderS l b → lszOrderS l b ≤ b ∧ okOrderS l) := by
  obtain ⟨h2, h3⟩ := hb
  have hdj : (((0 : Int), ([] : List (Int × ByteArray × ByteArray))) : OrderD) = dOrder := rfl
  have e1 := wrap64 (n := b - ((l.length : Nat) : Int)) (by omega) (by omega)
  simp only [q_lszOrderS, lszOrderS, e1]
  by_cases hd : b - ((l.length : Nat) : Int) < 0
  · rw [decide_eq_true hd]; simp
  rw [decide_eq_false hd]
  simp only [cond_false]
  have key : it_lszOrderS_0 l (b - ((l.length : Nat) : Int)) 0 = (0, -1, 0) ∨ ∃ c, it_lszOrderS_0 l (b - ((l.length : Nat) : Int)) 0 = (1, 0, c) ∧ 0 ≤ c ∧ c ≤ b - ((l.length : Nat) : Int) ∧ ∀ x ∈ l, okOrder x := by
    refine itX_sz (fun c i => (l, c, (i : Int))) l dOrder (fun x c => lszOrder x.1 x.2 c) okOrder (0, -1, 0) (fun c => (1, 0, c)) b (by omega) (by omega) (by omega) (fun i c hi c0 c1 => ?_) (fun x hx c c0 c1 h => (szOrder_el (h3 x hx) c0 (by omega)).2 h) (fun c => ?_)
    · have q1 := (szOrder_el (h3 _ (getD_mem hi dOrder)) c0 (by omega)).1
      have e1 : decide ((i : Int) < ((l.length : Nat) : Int)) = true := decide_eq_true (by omega)
      have e2 : decide (0 ≤ (i : Int) ∧ (i : Int) < ((l.length : Nat) : Int)) = true := decide_eq_true (by omega)
      simp only [ss_lszOrderS_0, hdj, e1, e2, cond_true, Int.toNat_natCast, q1, wrapU i (by omega)]
    · have e1 : decide ((l.length : Int) < ((l.length : Nat) : Int)) = false := decide_eq_false (by omega)
      simp only [ss_lszOrderS_0, e1, cond_false]
  rcases key with h | ⟨c, h, c0, c1, hj⟩
  · rw [h]; exact ⟨rfl, fun h => by simp at h⟩
  · rw [h]; exact ⟨rfl, fun _ => ⟨by show c ≤ b; omega, by omega, hj⟩⟩
theorem szWorld_spec {a3 : List JobD} {a4 : List (Int × Bool)} {a6 : List ShardD} {a7 a8 : List WordD} {a9 : List OrderD} (hb : bigWorld a3 a4 a6 a7 a8 a9) (a0 a1 a2 a5 : Int) : q_lszWorld a0 a1 a2 a3 a4 a5 a6 a7 a8 a9 1048576 = true ∧ (0 ≤ lszWorld a0 a1 a2 a3 a4 a5 a6 a7 a8 a9 1048576 → okWorld a3 a4 a6 a7 a8 a9) := by
  obtain ⟨b1, b2, b3, b4, b5, b6⟩ := hb
  obtain ⟨q0, x0⟩ := szCoordI b1 b2 a0 a1 a2 a5
  simp only [q_lszWorld, lszWorld]
  generalize lszCoord a0 a1 a2 a3 a4 a5 1048576 = c0 at *
  by_cases d0 : c0 < 0
  · simp only [q0, decide_eq_true d0, cond_true, Bool.true_and]
    exact ⟨trivial, fun h => by simp at h⟩
  obtain ⟨m0, k0⟩ := x0 (by omega)
  simp only [q0, decide_eq_false d0, cond_false, Bool.true_and]
  obtain ⟨q1, x1⟩ := szShardSI (b := c0) b3 (by omega) (by omega)
  generalize lszShardS a6 c0 = c1 at *
  by_cases d1 : c1 < 0
  · simp only [q1, decide_eq_true d1, cond_true, Bool.true_and]
    exact ⟨trivial, fun h => by simp at h⟩
  obtain ⟨m1, k1⟩ := x1 (by omega)
  simp only [q1, decide_eq_false d1, cond_false, Bool.true_and]
  obtain ⟨q2, x2⟩ := szWordSI (b := c1) b4 (by omega) (by omega)
  generalize lszWordS a7 c1 = c2 at *
  by_cases d2 : c2 < 0
  · simp only [q2, decide_eq_true d2, cond_true, Bool.true_and]
    exact ⟨trivial, fun h => by simp at h⟩
  obtain ⟨m2, k2⟩ := x2 (by omega)
  simp only [q2, decide_eq_false d2, cond_false, Bool.true_and]
  obtain ⟨q3, x3⟩ := szWordSI (b := c2) b5 (by omega) (by omega)
  generalize lszWordS a8 c2 = c3 at *
  by_cases d3 : c3 < 0
  · simp only [q3, decide_eq_true d3, cond_true, Bool.true_and]
    exact ⟨trivial, fun h => by simp at h⟩
  obtain ⟨m3, k3⟩ := x3 (by omega)
  simp only [q3, decide_eq_false d3, cond_false, Bool.true_and]
  obtain ⟨q4, x4⟩ := szOrderSI (b := c3) b6 (by omega) (by omega)
  generalize lszOrderS a9 c3 = c4 at *
  by_cases d4 : c4 < 0
  · rw [decide_eq_true d4]
    exact ⟨q4, fun h => by simp at h⟩
  obtain ⟨m4, k4⟩ := x4 (by omega)
  exact ⟨q4, fun _ => ⟨k0.1, k0.2.1, k0.2.2, k1, k2, k3, k4⟩⟩
/-- The first answer of places in order. -/
noncomputable def scanA {A : Type} (f : Nat → Option A) (last : A) : Nat → Nat → A
  | 0, _ => last
  | k + 1, i => match f i with
    | some a => a
    | none => scanA f last k (i + 1)
theorem itX_scan {V A : Type} {ss : V → V ⊕ A} {fa : A} (pk : Nat → V) (n : Nat) (f : Nat → Option A) (last : A) (hn : n < 4611686018427387904)
    (h : ∀ i, i < n → ss (pk i) = (match f i with | some a => .inr a | none => .inl (pk (i + 1)))) (hl : ss (pk n) = .inr last) : itX ss fa (pk 0) = scanA f last n 0 := by
  rw [itX_eq]
  have key : ∀ k N i, i + k = n → k < N → itN ss fa N (pk i) = scanA f last k i := by
    intro k
    induction k with
    | zero =>
      intro N i hi hN
      obtain ⟨M, rfl⟩ : ∃ M, N = M + 1 := ⟨N - 1, by omega⟩
      obtain rfl : i = n := by omega
      rw [itN_one, hl]; rfl
    | succ k ih =>
      intro N i hi hN
      obtain ⟨M, rfl⟩ : ∃ M, N = M + 1 := ⟨N - 1, by omega⟩
      rw [itN_one, h i (by omega)]
      simp only [scanA]
      cases hf : f i with
      | some a => rfl
      | none => exact ih M (i + 1) (by omega) (by omega)
  exact key n _ 0 (by omega) hn
theorem eqOp_same (k : Int) (s v : ByteArray) : leqOp k s v k s v = true := by simp [leqOp]
theorem eqOpS_same (l : List (Int × ByteArray × ByteArray)) : leqOpS l l = true := by
  have e : allF (f_leqOpS_0 l l) (l.length - (0 : Int).toNat) (0 : Int).toNat = true := allF_same _ _ (fun j _ _ => by simp [f_leqOpS_0, eqOp_same])
  simp only [leqOpS, e, cond_true]
  simp
theorem eqInts_same (l : List Int) : leqIntS l l = true := by
  have e : allF (f_leqIntS_0 l l) (l.length - (0 : Int).toNat) (0 : Int).toNat = true := allF_same _ _ fun j _ _ => by simp [f_leqIntS_0]
  simp only [leqIntS, e, cond_true]
  simp
theorem scanA_cases {A : Type} (f : Nat → Option A) (last : A) : ∀ k i, (∃ j a, i ≤ j ∧ j < i + k ∧ f j = some a ∧ (∀ m, i ≤ m → m < j → f m = none) ∧ scanA f last k i = a) ∨ ((∀ j, i ≤ j → j < i + k → f j = none) ∧ scanA f last k i = last) := by
  intro k
  induction k with
  | zero => intro i; exact .inr ⟨fun j h1 h2 => by omega, rfl⟩
  | succ k ih =>
    intro i
    simp only [scanA]
    cases hf : f i with
    | some a => exact .inl ⟨i, a, Nat.le_refl _, by omega, hf, fun m h1 h2 => by omega, rfl⟩
    | none =>
      rcases ih (i + 1) with ⟨j, a, h1, h2, h3, h4, h5⟩ | ⟨h1, h2⟩
      · refine .inl ⟨j, a, by omega, by omega, h3, fun m m1 m2 => ?_, h5⟩
        by_cases hm : m = i
        · rw [hm]; exact hf
        · exact h4 m (by omega) m2
      · refine .inr ⟨fun j j1 j2 => ?_, h2⟩
        by_cases hj : j = i
        · rw [hj]; exact hf
        · exact h1 j (by omega) (by omega)
theorem eqJobs_same {l : List JobD} (hl : l.length ≤ 1048576) (h : ∀ j ∈ l, okJob j) : q_leqJobS l l = true ∧ leqJobS l l = true := by
  have key : it_leqJobS_0 l l 0 = scanA (fun _ => none) (1, false) l.length 0 := by
    refine itX_scan (fun i => (l, l, (i : Int))) l.length _ _ (by omega) (fun i hi => ?_) ?_
    · have e1 : decide ((i : Int) < ((l.length : Nat) : Int)) = true := decide_eq_true (by omega)
      have e2 : decide (0 ≤ (i : Int) ∧ (i : Int) < ((l.length : Nat) : Int)) = true := decide_eq_true (by omega)
      obtain ⟨o1, o2⟩ := h _ (getD_mem hi dJob)
      have hdj : ((0 : Int), (([] : List (Int × ByteArray × ByteArray)), ((0 : Int), ([] : List Int)))) = dJob := rfl
      have q1 : okL (l.getD i dJob).2.2.2 = true := decide_eq_true o2
      have e0 : ∀ x : Int, (x != x) = false := fun x => by simp
      simp only [ss_leqJobS_0, hdj, e1, e2, cond_true, Int.toNat_natCast, q_leqJob, leqJob, q_leqOpS, q_leqIntS, e0, eqOpS_same, eqInts_same, okOps_okL o1, q1, cond_false, Bool.not_true, Bool.true_and, wrapU i (by omega)]
    · have e1 : decide ((l.length : Int) < ((l.length : Nat) : Int)) = false := decide_eq_false (by omega)
      simp only [ss_leqJobS_0, e1, cond_false]
  have k2 : scanA (fun _ => none) ((1, false) : A_leqJobS_0) l.length 0 = (1, false) := by
    rcases scanA_cases (fun _ => none) ((1, false) : A_leqJobS_0) l.length 0 with ⟨j, a, _, _, h3, _⟩ | ⟨_, h⟩
    · cases h3
    · exact h
  rw [k2] at key
  have e0 : ∀ x : Int, (x != x) = false := fun x => by simp
  simp only [q_leqJobS, leqJobS, key, e0, cond_false]
  exact ⟨rfl, rfl⟩
theorem toOpS_same (l : List (Int × ByteArray × ByteArray)) : ltoOpS l = l := by
  have e := mapN (fun o : Int × ByteArray × ByteArray => (ltoOp o.1 o.2.1 o.2.2)) dOp l l.length 0 (List.replicate l.length dOp) (by simp) (by simp)
  simp only [List.take_zero, List.nil_append, List.drop_zero] at e
  have e2 : l.map (fun o : Int × ByteArray × ByteArray => (ltoOp o.1 o.2.1 o.2.2)) = l := by
    rw [show (fun o : Int × ByteArray × ByteArray => (ltoOp o.1 o.2.1 o.2.2)) = id from funext fun _ => rfl, List.map_id]
  rw [e2] at e
  exact e
theorem toInts_same (l : List Int) : ltoIntS l = l := by
  have e := mapN (fun o : Int => o) (0 : Int) l l.length 0 (List.replicate l.length 0) (by simp) (by simp)
  simp only [List.take_zero, List.nil_append, List.drop_zero] at e
  have e2 : l.map (fun o : Int => o) = l := by
    rw [show (fun o : Int => o) = id from funext fun _ => rfl, List.map_id]
  rw [e2] at e
  exact e
theorem getD_set {α : Type} {l : List α} {i : Nat} (hi : i < l.length) (x d : α) : (l.set i x).getD i d = x := by
  simp [List.getD_eq_getElem?_getD, hi]
theorem toJobs_same {l : List JobD} (hl : l.length ≤ 1048576) (h : ∀ j ∈ l, okJob j) : q_ltoJobS l = true ∧ ltoJobS l = l := by
  have key : it_ltoJobS_0 l 0 (List.replicate l.length dJob) = (0, l) := by
    refine itX_inv (fun v : V_ltoJobS_0 => ∃ (i : Nat) (r : List JobD), v = (l, (i : Int), r) ∧ i ≤ l.length ∧ r.length = l.length ∧ r.take i = l.take i) (fun a : A_ltoJobS_0 => a = (0, l)) (fun v => l.length - v.2.1.toNat) ?_ ⟨0, _, rfl, Nat.zero_le _, by simp, by simp⟩ (by simp; omega)
    rintro v ⟨i, r, rfl, hi, hr, ht⟩
    by_cases hlt : i < l.length
    · have e1 : decide ((i : Int) < ((l.length : Nat) : Int)) = true := decide_eq_true (by omega)
      have e2 : decide (0 ≤ (i : Int) ∧ (i : Int) < ((l.length : Nat) : Int)) = true := decide_eq_true (by omega)
      have e3 : decide (0 ≤ (i : Int) ∧ (i : Int) < ((r.length : Nat) : Int)) = true := decide_eq_true (by omega)
      obtain ⟨o1, o2⟩ := h _ (getD_mem hlt dJob)
      have hdj : ((0 : Int), (([] : List (Int × ByteArray × ByteArray)), ((0 : Int), ([] : List Int)))) = dJob := rfl
      have q1 : q_ltoJob (l.getD i dJob).1 (l.getD i dJob).2.1 (l.getD i dJob).2.2.1 (l.getD i dJob).2.2.2 = true := by
        simp only [q_ltoJob, q_ltoOpS, q_ltoIntS, okOps_okL o1, Bool.true_and]
        exact decide_eq_true o2
      simp only [ss_ltoJobS_0, hdj, e1, e2, e3, cond_true, Int.toNat_natCast, q1, wrapU i (by omega), ltoJob, toOpS_same, toInts_same]
      refine .inl ⟨_, rfl, ⟨i + 1, _, rfl, by omega, by rw [List.length_set]; exact hr, ?_⟩, by simp only [Int.toNat_natCast]; omega⟩
      rw [take_succ_getD (by rw [List.length_set]; omega) dJob, take_succ_getD hlt dJob, getD_set (by omega), List.take_set_of_le (Nat.le_refl _), ht]
    · obtain rfl : i = l.length := by omega
      have e1 : decide ((l.length : Int) < ((l.length : Nat) : Int)) = false := decide_eq_false (by omega)
      simp only [ss_ltoJobS_0, e1, cond_false]
      rw [← hr, List.take_length, hr, List.take_length] at ht
      exact .inr ⟨_, rfl, by rw [ht]⟩
  have hdj : ((0 : Int), (([] : List (Int × ByteArray × ByteArray)), ((0 : Int), ([] : List Int)))) = dJob := rfl
  simp only [q_ltoJobS, ltoJobS, hdj, Int.toNat_natCast, key]
  refine ⟨?_, trivial⟩
  rw [Bool.and_eq_true]
  exact ⟨decide_eq_true ⟨by omega, trivial, by simp only [MAXB]; omega, by omega⟩, rfl⟩
theorem toChoices_same (l : List (Int × Bool)) : ltoChoiceS l = l := by
  have e := mapN (fun o : Int × Bool => (ltoChoice o.1 o.2)) ((0 : Int), false) l l.length 0 (List.replicate l.length ((0 : Int), false)) (by simp) (by simp)
  simp only [List.take_zero, List.nil_append, List.drop_zero] at e
  have e2 : l.map (fun o : Int × Bool => (ltoChoice o.1 o.2)) = l := by
    rw [show (fun o : Int × Bool => (ltoChoice o.1 o.2)) = id from funext fun _ => rfl, List.map_id]
  rw [e2] at e
  exact e
theorem eqChoices_same (l : List (Int × Bool)) : leqChoiceS l l = true := by
  have e : allF (f_leqChoiceS_0 l l) (l.length - (0 : Int).toNat) (0 : Int).toNat = true := allF_same _ _ fun j _ _ => by simp [f_leqChoiceS_0, leqChoice]
  simp only [leqChoiceS, e, cond_true]
  simp
theorem eqCoord_same {a3 : List JobD} {a4 : List (Int × Bool)} (h3 : a3.length ≤ 1048576) (hj : ∀ j ∈ a3, okJob j) (h4 : a4.length ≤ 1048576) (a0 a1 a2 a5 : Int) : q_leqCoord a0 a1 a2 a3 a4 a5 a0 a1 a2 a3 a4 a5 = true ∧ leqCoord a0 a1 a2 a3 a4 a5 a0 a1 a2 a3 a4 a5 = true ∧ q_ltoCoord a0 a1 a2 a3 a4 a5 = true ∧ ltoCoord a0 a1 a2 a3 a4 a5 = (a0, a1, a2, a3, a4, a5) := by
  obtain ⟨e1, e2⟩ := eqJobs_same h3 hj
  obtain ⟨t1, t2⟩ := toJobs_same h3 hj
  have e0 : ∀ x : Int, (x != x) = false := fun x => by simp
  have e3 : okL a4 = true := decide_eq_true h4
  simp only [q_leqCoord, leqCoord, q_ltoCoord, ltoCoord, e0, e1, e2, t1, t2, toChoices_same, eqChoices_same, q_leqChoiceS, q_ltoChoiceS, e3, cond_false, Bool.not_true, Bool.and_self]
  exact ⟨trivial, trivial, trivial, trivial⟩
theorem eqOpSI {l : List (Int × ByteArray × ByteArray)} (h : okOpS l) : q_leqOpS l l = true ∧ leqOpS l l = true := ⟨okOps_okL h, eqOpS_same l⟩
theorem eqRecSI {l : List RecD} (h : okRecS l) : q_leqRecS l l = true ∧ leqRecS l l = true := by
  obtain ⟨hl, h3⟩ := h
  have hdj : (((0 : Int), ((0 : Int), ([] : List (Int × ByteArray × ByteArray)))) : RecD) = dRec := rfl
  have e0 : ∀ x : Int, (x != x) = false := fun x => by simp
  have e9 : ∀ x : Bool, (x == x) = true := fun x => by simp
  have key : it_leqRecS_0 l l 0 = scanA (fun _ => none) (1, false) l.length 0 := by
    refine itX_scan (fun i => (l, l, (i : Int))) l.length _ _ (by omega) (fun i hi => ?_) ?_
    · have e1 : decide ((i : Int) < ((l.length : Nat) : Int)) = true := decide_eq_true (by omega)
      have e2 : decide (0 ≤ (i : Int) ∧ (i : Int) < ((l.length : Nat) : Int)) = true := decide_eq_true (by omega)
      have ho := h3 _ (getD_mem hi dRec)
      have o2 := ho
      obtain ⟨qE2, toE2⟩ := eqOpSI o2
      have q1 : q_leqRec (l.getD i dRec).1 (l.getD i dRec).2.1 (l.getD i dRec).2.2 (l.getD i dRec).1 (l.getD i dRec).2.1 (l.getD i dRec).2.2 = true := by
        first | exact qE2 | (simp only [q_leqRec, e0, cond_false]; exact qE2)
      have q2 : leqRec (l.getD i dRec).1 (l.getD i dRec).2.1 (l.getD i dRec).2.2 (l.getD i dRec).1 (l.getD i dRec).2.1 (l.getD i dRec).2.2 = true := by
        simp only [leqRec, e0, e9, toE2, cond_false, Bool.not_true]
      simp only [ss_leqRecS_0, hdj, e1, e2, cond_true, cond_false, Bool.not_true, Int.toNat_natCast, q1, q2, wrapU i (by omega)]
    · have e1 : decide ((l.length : Int) < ((l.length : Nat) : Int)) = false := decide_eq_false (by omega)
      simp only [ss_leqRecS_0, e1, cond_false]
  have k2 : scanA (fun _ => none) ((1, false) : A_leqRecS_0) l.length 0 = (1, false) := by
    rcases scanA_cases (fun _ => none) ((1, false) : A_leqRecS_0) l.length 0 with ⟨j, a, _, _, h3, _⟩ | ⟨_, h⟩
    · cases h3
    · exact h
  rw [k2] at key
  simp only [q_leqRecS, leqRecS, key, e0, cond_false]
  exact ⟨rfl, rfl⟩
theorem eqPairSI {l : List PairD} (h : okPairS l) : q_leqPairS l l = true ∧ leqPairS l l = true := by
  refine ⟨decide_eq_true h.1, ?_⟩
  have e : allF (f_leqPairS_0 l l) (l.length - (0 : Int).toNat) (0 : Int).toNat = true := allF_same _ _ (fun j _ _ => by simp [f_leqPairS_0, leqPair])
  simp only [leqPairS, e, cond_true]
  simp
theorem eqShardSI {l : List ShardD} (h : okShardS l) : q_leqShardS l l = true ∧ leqShardS l l = true := by
  obtain ⟨hl, h3⟩ := h
  have hdj : (((0 : Int), (([] : List RecD), ((0 : Int), (([] : List (ByteArray × ByteArray)), ([] : List RecD))))) : ShardD) = dShard := rfl
  have e0 : ∀ x : Int, (x != x) = false := fun x => by simp
  have e9 : ∀ x : Bool, (x == x) = true := fun x => by simp
  have key : it_leqShardS_0 l l 0 = scanA (fun _ => none) (1, false) l.length 0 := by
    refine itX_scan (fun i => (l, l, (i : Int))) l.length _ _ (by omega) (fun i hi => ?_) ?_
    · have e1 : decide ((i : Int) < ((l.length : Nat) : Int)) = true := decide_eq_true (by omega)
      have e2 : decide (0 ≤ (i : Int) ∧ (i : Int) < ((l.length : Nat) : Int)) = true := decide_eq_true (by omega)
      have ho := h3 _ (getD_mem hi dShard)
      obtain ⟨o1, o3, o4⟩ := ho
      obtain ⟨qE1, toE1⟩ := eqRecSI o1
      obtain ⟨qE3, toE3⟩ := eqPairSI o3
      obtain ⟨qE4, toE4⟩ := eqRecSI o4
      have q1 : q_leqShard (l.getD i dShard).1 (l.getD i dShard).2.1 (l.getD i dShard).2.2.1 (l.getD i dShard).2.2.2.1 (l.getD i dShard).2.2.2.2 (l.getD i dShard).1 (l.getD i dShard).2.1 (l.getD i dShard).2.2.1 (l.getD i dShard).2.2.2.1 (l.getD i dShard).2.2.2.2 = true := by
        simp only [q_leqShard, e0, qE1, toE1, qE3, toE3, qE4, toE4, cond_false, Bool.not_true, Bool.and_self]
      have q2 : leqShard (l.getD i dShard).1 (l.getD i dShard).2.1 (l.getD i dShard).2.2.1 (l.getD i dShard).2.2.2.1 (l.getD i dShard).2.2.2.2 (l.getD i dShard).1 (l.getD i dShard).2.1 (l.getD i dShard).2.2.1 (l.getD i dShard).2.2.2.1 (l.getD i dShard).2.2.2.2 = true := by
        simp only [leqShard, e0, e9, toE1, toE3, toE4, cond_false, Bool.not_true]
      simp only [ss_leqShardS_0, hdj, e1, e2, cond_true, cond_false, Bool.not_true, Int.toNat_natCast, q1, q2, wrapU i (by omega)]
    · have e1 : decide ((l.length : Int) < ((l.length : Nat) : Int)) = false := decide_eq_false (by omega)
      simp only [ss_leqShardS_0, e1, cond_false]
  have k2 : scanA (fun _ => none) ((1, false) : A_leqShardS_0) l.length 0 = (1, false) := by
    rcases scanA_cases (fun _ => none) ((1, false) : A_leqShardS_0) l.length 0 with ⟨j, a, _, _, h3, _⟩ | ⟨_, h⟩
    · cases h3
    · exact h
  rw [k2] at key
  simp only [q_leqShardS, leqShardS, key, e0, cond_false]
  exact ⟨rfl, rfl⟩
theorem itX_map {V A α β : Type} {ss : V → V ⊕ A} {fa : A} (pk : Nat → List β → V) (l : List α) (d : α) (e : β) (f : α → β) (last : List β → A) (hn : l.length < 4611686018427387904)
    (h : ∀ i r, i < l.length → r.length = l.length → ss (pk i r) = .inl (pk (i + 1) (r.set i (f (l.getD i d))))) (hl : ∀ r, r.length = l.length → ss (pk l.length r) = .inr (last r)) : itX ss fa (pk 0 (List.replicate l.length e)) = last (l.map f) := by
  rw [itX_eq]
  have key : ∀ k N i r, i + k = l.length → k < N → r.length = l.length → r.take i = (l.map f).take i → itN ss fa N (pk i r) = last (l.map f) := by
    intro k
    induction k with
    | zero =>
      intro N i r hi hN hr ht
      obtain ⟨M, rfl⟩ : ∃ M, N = M + 1 := ⟨N - 1, by omega⟩
      obtain rfl : i = l.length := by omega
      rw [itN_one, hl r hr]
      have e1 : r.take l.length = r := List.take_of_length_le (by omega)
      have e2 : (l.map f).take l.length = l.map f := List.take_of_length_le (by simp)
      rw [e1, e2] at ht
      rw [ht]
    | succ k ih =>
      intro N i r hi hN hr ht
      obtain ⟨M, rfl⟩ : ∃ M, N = M + 1 := ⟨N - 1, by omega⟩
      rw [itN_one, h i r (by omega) hr]
      refine ih M (i + 1) _ (by omega) (by omega) (by rw [List.length_set]; exact hr) ?_
      have hlt : i < l.length := by omega
      rw [List.take_add_one, List.take_add_one, List.take_set_of_le (Nat.le_refl _), ht]
      congr 1
      simp [List.getElem?_set, hr, hlt, List.getD_eq_getElem?_getD]
  exact key l.length _ 0 _ (by omega) hn (by simp) (by simp)
theorem toOpSI {l : List (Int × ByteArray × ByteArray)} (h : okOpS l) : q_ltoOpS l = true ∧ ltoOpS l = l := ⟨okOps_okL h, toOpS_same l⟩
theorem toRecSI {l : List RecD} (h : okRecS l) : q_ltoRecS l = true ∧ ltoRecS l = l := by
  obtain ⟨hl, h3⟩ := h
  have hdj : (((0 : Int), ((0 : Int), ([] : List (Int × ByteArray × ByteArray)))) : RecD) = dRec := rfl
  have key : it_ltoRecS_0 l 0 (List.replicate l.length dRec) = (0, l.map fun x => x) := by
    refine itX_map (fun i r => (l, (i : Int), r)) l dRec dRec (fun x => x) (fun r => (0, r)) (by omega) (fun i r hi hr => ?_) (fun r hr => ?_)
    · have e1 : decide ((i : Int) < ((l.length : Nat) : Int)) = true := decide_eq_true (by omega)
      have e2 : decide (0 ≤ (i : Int) ∧ (i : Int) < ((l.length : Nat) : Int)) = true := decide_eq_true (by omega)
      have e3 : decide (0 ≤ (i : Int) ∧ (i : Int) < ((r.length : Nat) : Int)) = true := decide_eq_true (by omega)
      have ho := h3 _ (getD_mem hi dRec)
      have o2 := ho
      obtain ⟨qE2, toE2⟩ := toOpSI o2
      have q1 : q_ltoRec (l.getD i dRec).1 (l.getD i dRec).2.1 (l.getD i dRec).2.2 = true := by
        exact qE2
      simp only [ss_ltoRecS_0, hdj, e1, e2, e3, cond_true, Int.toNat_natCast, q1, wrapU i (by omega), ltoRec, toE2]
    · have e1 : decide ((l.length : Int) < ((l.length : Nat) : Int)) = false := decide_eq_false (by omega)
      simp only [ss_ltoRecS_0, e1, cond_false]
  rw [List.map_id'] at key
  simp only [q_ltoRecS, ltoRecS, hdj, Int.toNat_natCast, key]
  refine ⟨?_, trivial⟩
  rw [Bool.and_eq_true]
  exact ⟨decide_eq_true ⟨by omega, trivial, by simp only [MAXB]; omega, by omega⟩, rfl⟩
theorem toPairSI {l : List PairD} (h : okPairS l) : q_ltoPairS l = true ∧ ltoPairS l = l := by
  refine ⟨decide_eq_true h.1, ?_⟩
  have e := mapN (fun o : PairD => (ltoPair o.1 o.2)) dPair l l.length 0 (List.replicate l.length dPair) (by simp) (by simp)
  simp only [List.take_zero, List.nil_append, List.drop_zero] at e
  have e2 : l.map (fun o : PairD => (ltoPair o.1 o.2)) = l := by
    rw [show (fun o : PairD => (ltoPair o.1 o.2)) = id from funext fun _ => rfl, List.map_id]
  rw [e2] at e
  exact e
theorem toShardSI {l : List ShardD} (h : okShardS l) : q_ltoShardS l = true ∧ ltoShardS l = l := by
  obtain ⟨hl, h3⟩ := h
  have hdj : (((0 : Int), (([] : List RecD), ((0 : Int), (([] : List (ByteArray × ByteArray)), ([] : List RecD))))) : ShardD) = dShard := rfl
  have key : it_ltoShardS_0 l 0 (List.replicate l.length dShard) = (0, l.map fun x => x) := by
    refine itX_map (fun i r => (l, (i : Int), r)) l dShard dShard (fun x => x) (fun r => (0, r)) (by omega) (fun i r hi hr => ?_) (fun r hr => ?_)
    · have e1 : decide ((i : Int) < ((l.length : Nat) : Int)) = true := decide_eq_true (by omega)
      have e2 : decide (0 ≤ (i : Int) ∧ (i : Int) < ((l.length : Nat) : Int)) = true := decide_eq_true (by omega)
      have e3 : decide (0 ≤ (i : Int) ∧ (i : Int) < ((r.length : Nat) : Int)) = true := decide_eq_true (by omega)
      have ho := h3 _ (getD_mem hi dShard)
      obtain ⟨o1, o3, o4⟩ := ho
      obtain ⟨qE1, toE1⟩ := toRecSI o1
      obtain ⟨qE3, toE3⟩ := toPairSI o3
      obtain ⟨qE4, toE4⟩ := toRecSI o4
      have q1 : q_ltoShard (l.getD i dShard).1 (l.getD i dShard).2.1 (l.getD i dShard).2.2.1 (l.getD i dShard).2.2.2.1 (l.getD i dShard).2.2.2.2 = true := by
        simp only [q_ltoShard, qE1, qE3, qE4, Bool.and_self]
      simp only [ss_ltoShardS_0, hdj, e1, e2, e3, cond_true, Int.toNat_natCast, q1, wrapU i (by omega), ltoShard, toE1, toE3, toE4]
    · have e1 : decide ((l.length : Int) < ((l.length : Nat) : Int)) = false := decide_eq_false (by omega)
      simp only [ss_ltoShardS_0, e1, cond_false]
  rw [List.map_id'] at key
  simp only [q_ltoShardS, ltoShardS, hdj, Int.toNat_natCast, key]
  refine ⟨?_, trivial⟩
  rw [Bool.and_eq_true]
  exact ⟨decide_eq_true ⟨by omega, trivial, by simp only [MAXB]; omega, by omega⟩, rfl⟩
theorem eqWordSI {l : List WordD} (h : okWordS l) : q_leqWordS l l = true ∧ leqWordS l l = true := by
  obtain ⟨hl, h3⟩ := h
  have hdj : (((0 : Int), ((0 : Int), ((0 : Int), (([] : List (Int × ByteArray × ByteArray)), false)))) : WordD) = dWord := rfl
  have e0 : ∀ x : Int, (x != x) = false := fun x => by simp
  have e9 : ∀ x : Bool, (x == x) = true := fun x => by simp
  have key : it_leqWordS_0 l l 0 = scanA (fun _ => none) (1, false) l.length 0 := by
    refine itX_scan (fun i => (l, l, (i : Int))) l.length _ _ (by omega) (fun i hi => ?_) ?_
    · have e1 : decide ((i : Int) < ((l.length : Nat) : Int)) = true := decide_eq_true (by omega)
      have e2 : decide (0 ≤ (i : Int) ∧ (i : Int) < ((l.length : Nat) : Int)) = true := decide_eq_true (by omega)
      have ho := h3 _ (getD_mem hi dWord)
      have o3 := ho
      obtain ⟨qE3, toE3⟩ := eqOpSI o3
      have q1 : q_leqWord (l.getD i dWord).1 (l.getD i dWord).2.1 (l.getD i dWord).2.2.1 (l.getD i dWord).2.2.2.1 (l.getD i dWord).2.2.2.2 (l.getD i dWord).1 (l.getD i dWord).2.1 (l.getD i dWord).2.2.1 (l.getD i dWord).2.2.2.1 (l.getD i dWord).2.2.2.2 = true := by
        first | exact qE3 | (simp only [q_leqWord, e0, cond_false]; exact qE3)
      have q2 : leqWord (l.getD i dWord).1 (l.getD i dWord).2.1 (l.getD i dWord).2.2.1 (l.getD i dWord).2.2.2.1 (l.getD i dWord).2.2.2.2 (l.getD i dWord).1 (l.getD i dWord).2.1 (l.getD i dWord).2.2.1 (l.getD i dWord).2.2.2.1 (l.getD i dWord).2.2.2.2 = true := by
        simp only [leqWord, e0, e9, toE3, cond_false, Bool.not_true]
      simp only [ss_leqWordS_0, hdj, e1, e2, cond_true, cond_false, Bool.not_true, Int.toNat_natCast, q1, q2, wrapU i (by omega)]
    · have e1 : decide ((l.length : Int) < ((l.length : Nat) : Int)) = false := decide_eq_false (by omega)
      simp only [ss_leqWordS_0, e1, cond_false]
  have k2 : scanA (fun _ => none) ((1, false) : A_leqWordS_0) l.length 0 = (1, false) := by
    rcases scanA_cases (fun _ => none) ((1, false) : A_leqWordS_0) l.length 0 with ⟨j, a, _, _, h3, _⟩ | ⟨_, h⟩
    · cases h3
    · exact h
  rw [k2] at key
  simp only [q_leqWordS, leqWordS, key, e0, cond_false]
  exact ⟨rfl, rfl⟩
theorem toWordSI {l : List WordD} (h : okWordS l) : q_ltoWordS l = true ∧ ltoWordS l = l := by
  obtain ⟨hl, h3⟩ := h
  have hdj : (((0 : Int), ((0 : Int), ((0 : Int), (([] : List (Int × ByteArray × ByteArray)), false)))) : WordD) = dWord := rfl
  have key : it_ltoWordS_0 l 0 (List.replicate l.length dWord) = (0, l.map fun x => x) := by
    refine itX_map (fun i r => (l, (i : Int), r)) l dWord dWord (fun x => x) (fun r => (0, r)) (by omega) (fun i r hi hr => ?_) (fun r hr => ?_)
    · have e1 : decide ((i : Int) < ((l.length : Nat) : Int)) = true := decide_eq_true (by omega)
      have e2 : decide (0 ≤ (i : Int) ∧ (i : Int) < ((l.length : Nat) : Int)) = true := decide_eq_true (by omega)
      have e3 : decide (0 ≤ (i : Int) ∧ (i : Int) < ((r.length : Nat) : Int)) = true := decide_eq_true (by omega)
      have ho := h3 _ (getD_mem hi dWord)
      have o3 := ho
      obtain ⟨qE3, toE3⟩ := toOpSI o3
      have q1 : q_ltoWord (l.getD i dWord).1 (l.getD i dWord).2.1 (l.getD i dWord).2.2.1 (l.getD i dWord).2.2.2.1 (l.getD i dWord).2.2.2.2 = true := by
        exact qE3
      simp only [ss_ltoWordS_0, hdj, e1, e2, e3, cond_true, Int.toNat_natCast, q1, wrapU i (by omega), ltoWord, toE3]
    · have e1 : decide ((l.length : Int) < ((l.length : Nat) : Int)) = false := decide_eq_false (by omega)
      simp only [ss_ltoWordS_0, e1, cond_false]
  rw [List.map_id'] at key
  simp only [q_ltoWordS, ltoWordS, hdj, Int.toNat_natCast, key]
  refine ⟨?_, trivial⟩
  rw [Bool.and_eq_true]
  exact ⟨decide_eq_true ⟨by omega, trivial, by simp only [MAXB]; omega, by omega⟩, rfl⟩
theorem eqOrderSI {l : List OrderD} (h : okOrderS l) : q_leqOrderS l l = true ∧ leqOrderS l l = true := by
  obtain ⟨hl, h3⟩ := h
  have hdj : (((0 : Int), ([] : List (Int × ByteArray × ByteArray))) : OrderD) = dOrder := rfl
  have e0 : ∀ x : Int, (x != x) = false := fun x => by simp
  have e9 : ∀ x : Bool, (x == x) = true := fun x => by simp
  have key : it_leqOrderS_0 l l 0 = scanA (fun _ => none) (1, false) l.length 0 := by
    refine itX_scan (fun i => (l, l, (i : Int))) l.length _ _ (by omega) (fun i hi => ?_) ?_
    · have e1 : decide ((i : Int) < ((l.length : Nat) : Int)) = true := decide_eq_true (by omega)
      have e2 : decide (0 ≤ (i : Int) ∧ (i : Int) < ((l.length : Nat) : Int)) = true := decide_eq_true (by omega)
      have ho := h3 _ (getD_mem hi dOrder)
      have o1 := ho
      obtain ⟨qE1, toE1⟩ := eqOpSI o1
      have q1 : q_leqOrder (l.getD i dOrder).1 (l.getD i dOrder).2 (l.getD i dOrder).1 (l.getD i dOrder).2 = true := by
        first | exact qE1 | (simp only [q_leqOrder, e0, cond_false]; exact qE1)
      have q2 : leqOrder (l.getD i dOrder).1 (l.getD i dOrder).2 (l.getD i dOrder).1 (l.getD i dOrder).2 = true := by
        simp only [leqOrder, e0, e9, toE1, cond_false, Bool.not_true]
      simp only [ss_leqOrderS_0, hdj, e1, e2, cond_true, cond_false, Bool.not_true, Int.toNat_natCast, q1, q2, wrapU i (by omega)]
    · have e1 : decide ((l.length : Int) < ((l.length : Nat) : Int)) = false := decide_eq_false (by omega)
      simp only [ss_leqOrderS_0, e1, cond_false]
  have k2 : scanA (fun _ => none) ((1, false) : A_leqOrderS_0) l.length 0 = (1, false) := by
    rcases scanA_cases (fun _ => none) ((1, false) : A_leqOrderS_0) l.length 0 with ⟨j, a, _, _, h3, _⟩ | ⟨_, h⟩
    · cases h3
    · exact h
  rw [k2] at key
  simp only [q_leqOrderS, leqOrderS, key, e0, cond_false]
  exact ⟨rfl, rfl⟩
theorem toOrderSI {l : List OrderD} (h : okOrderS l) : q_ltoOrderS l = true ∧ ltoOrderS l = l := by
  obtain ⟨hl, h3⟩ := h
  have hdj : (((0 : Int), ([] : List (Int × ByteArray × ByteArray))) : OrderD) = dOrder := rfl
  have key : it_ltoOrderS_0 l 0 (List.replicate l.length dOrder) = (0, l.map fun x => x) := by
    refine itX_map (fun i r => (l, (i : Int), r)) l dOrder dOrder (fun x => x) (fun r => (0, r)) (by omega) (fun i r hi hr => ?_) (fun r hr => ?_)
    · have e1 : decide ((i : Int) < ((l.length : Nat) : Int)) = true := decide_eq_true (by omega)
      have e2 : decide (0 ≤ (i : Int) ∧ (i : Int) < ((l.length : Nat) : Int)) = true := decide_eq_true (by omega)
      have e3 : decide (0 ≤ (i : Int) ∧ (i : Int) < ((r.length : Nat) : Int)) = true := decide_eq_true (by omega)
      have ho := h3 _ (getD_mem hi dOrder)
      have o1 := ho
      obtain ⟨qE1, toE1⟩ := toOpSI o1
      have q1 : q_ltoOrder (l.getD i dOrder).1 (l.getD i dOrder).2 = true := by
        exact qE1
      simp only [ss_ltoOrderS_0, hdj, e1, e2, e3, cond_true, Int.toNat_natCast, q1, wrapU i (by omega), ltoOrder, toE1]
    · have e1 : decide ((l.length : Int) < ((l.length : Nat) : Int)) = false := decide_eq_false (by omega)
      simp only [ss_ltoOrderS_0, e1, cond_false]
  rw [List.map_id'] at key
  simp only [q_ltoOrderS, ltoOrderS, hdj, Int.toNat_natCast, key]
  refine ⟨?_, trivial⟩
  rw [Bool.and_eq_true]
  exact ⟨decide_eq_true ⟨by omega, trivial, by simp only [MAXB]; omega, by omega⟩, rfl⟩
theorem eqWorld_same {a3 : List JobD} {a4 : List (Int × Bool)} {a6 : List ShardD} {a7 a8 : List WordD} {a9 : List OrderD} (h : okWorld a3 a4 a6 a7 a8 a9) (a0 a1 a2 a5 : Int) :
    q_leqWorld a0 a1 a2 a3 a4 a5 a6 a7 a8 a9 a0 a1 a2 a3 a4 a5 a6 a7 a8 a9 = true ∧ leqWorld a0 a1 a2 a3 a4 a5 a6 a7 a8 a9 a0 a1 a2 a3 a4 a5 a6 a7 a8 a9 = true ∧ q_ltoWorld a0 a1 a2 a3 a4 a5 a6 a7 a8 a9 = true ∧ ltoWorld a0 a1 a2 a3 a4 a5 a6 a7 a8 a9 = (a0, a1, a2, a3, a4, a5, a6, a7, a8, a9) := by
  obtain ⟨h3, hj, h4, h6, h7, h8, h9⟩ := h
  obtain ⟨c1, c2, c3, c4⟩ := eqCoord_same h3 hj h4 a0 a1 a2 a5
  obtain ⟨s1, s2⟩ := eqShardSI h6
  obtain ⟨s3, s4⟩ := toShardSI h6
  obtain ⟨w1, w2⟩ := eqWordSI h7
  obtain ⟨w3, w4⟩ := toWordSI h7
  obtain ⟨u1, u2⟩ := eqWordSI h8
  obtain ⟨u3, u4⟩ := toWordSI h8
  obtain ⟨o1, o2⟩ := eqOrderSI h9
  obtain ⟨o3, o4⟩ := toOrderSI h9
  simp only [q_leqWorld, leqWorld, q_ltoWorld, ltoWorld, c1, c2, c3, c4, s1, s2, s3, s4, w1, w2, w3, w4, u1, u2, u3, u4, o1, o2, o3, o4, cond_false, Bool.not_true, Bool.and_self]
  exact ⟨trivial, trivial, trivial, trivial⟩
/-- Where an order begins. -/
noncomputable def boP (l : List OrderD) (tx : Int) : Nat × Int := scanA (fun i => cond ((l.getD i dOrder).1 == tx) (some (0, (i : Int))) none) (1, 0) l.length 0
noncomputable def boAt (l : List OrderD) (tx : Int) : Int := cond ((boP l tx).1 == 0) (boP l tx).2 (-1)
/-- Are two ops the same? -/
noncomputable def eqO (x y : Int × ByteArray × ByteArray) : Bool := (x.1 == y.1) && ((x.2.1.toList == y.2.1.toList) && ((x.2.2.toList == y.2.2.toList) && true))
noncomputable def sameO (l m : List (Int × ByteArray × ByteArray)) : Bool := cond (((l.length : Nat) : Int) != ((m.length : Nat) : Int)) false (!((List.range l.length).any fun i => !eqO (l.getD i dOp) (m.getD i dOp)))
noncomputable def shO (n : Int) (o : Int × ByteArray × ByteArray) : Int := iShardOf o.2.1 n
/-- A record that holds what was not ordered so. -/
noncomputable def wrongR (begun : List OrderD) (n id : Int) (r : RecD) : Bool := (r.1 == 1) && (decide (boAt begun r.2.1 < 0) || !sameO r.2.2 ((begun.getD (boAt begun r.2.1).toNat dOrder).2.filter (fun o => shO n o == id)))
noncomputable def wrongL (begun : List OrderD) (n id : Int) (l : List RecD) : Bool := (List.range l.length).any fun i => wrongR begun n id (l.getD i dRec)
theorem scan_bool {A : Type} (p : Nat → Bool) (a last : A) (n : Nat) : scanA (fun i => cond (p i) (some a) none) last n 0 = cond ((List.range n).any p) a last := by
  rcases scanA_cases (fun i => cond (p i) (some a) none) last n 0 with ⟨j, b, _, h2, h3, _, h5⟩ | ⟨h1, h2⟩
  · cases hp : p j with
    | true =>
      simp only [hp, cond_true, Option.some.injEq] at h3
      rw [h5, ← h3, List.any_eq_true.2 ⟨j, by simpa using h2, hp⟩]; rfl
    | false => simp only [hp, cond_false] at h3; cases h3
  · rw [h2]
    have : (List.range n).any p = false := by
      rw [List.any_eq_false]
      intro j hj
      have := h1 j (Nat.zero_le _) (by simpa using hj)
      cases hp : p j with
      | true => simp only [hp, cond_true] at this; cases this
      | false => simp
    rw [this]; rfl
theorem boP_cases (l : List OrderD) (tx : Int) : (∃ j : Nat, j < l.length ∧ boP l tx = (0, (j : Int))) ∨ boP l tx = (1, 0) := by
  rcases scanA_cases (fun i => cond ((l.getD i dOrder).1 == tx) (some ((0 : Nat), (i : Int))) none) (1, 0) l.length 0 with ⟨j, a, _, h2, h3, _, h5⟩ | ⟨_, h⟩
  · refine .inl ⟨j, by omega, ?_⟩
    rw [boP, h5]
    cases hc : ((l.getD j dOrder).1 == tx) with
    | true => simp only [hc, cond_true, Option.some.injEq] at h3; exact h3.symm
    | false => simp only [hc, cond_false] at h3; cases h3
  · exact .inr h
theorem boP_q (l : List OrderD) (tx : Int) : (cond ((boP l tx).1 == 0) true ((boP l tx).1 == 1)) = true := by
  rcases boP_cases l tx with ⟨j, h1, h2⟩ | h
  · rw [h2]; rfl
  · rw [h]; rfl
theorem sBegun_is (a0 a1 a2 : Int) (a3 : List JobD) (a4 : List (Int × Bool)) (a5 : Int) (a6 : List ShardD) (a7 a8 : List WordD) {a9 : List OrderD} (hl : a9.length ≤ 1048576) (tx : Int) : q_sl12Begun a0 a1 a2 a3 a4 a5 a6 a7 a8 a9 tx = true ∧ sl12Begun a0 a1 a2 a3 a4 a5 a6 a7 a8 a9 tx = boAt a9 tx := by
  have hdo : ((0 : Int), ([] : List (Int × ByteArray × ByteArray))) = dOrder := rfl
  have e : it_sl12Begun_0 tx 0 a0 a1 a2 a3 a4 a5 a6 a7 a8 a9 = boP a9 tx := by
    refine itX_scan (fun i => (tx, (i : Int))) a9.length _ _ (by omega) (fun i hi => ?_) ?_
    · have e1 : decide ((i : Int) < ((a9.length : Nat) : Int)) = true := decide_eq_true (by omega)
      have e2 : decide (0 ≤ (i : Int) ∧ (i : Int) < ((a9.length : Nat) : Int)) = true := decide_eq_true (by omega)
      simp only [ss_sl12Begun_0, hdo, e1, e2, cond_true, Int.toNat_natCast, wrapU i (by omega)]
      cases ((a9.getD i dOrder).1 == tx) <;> rfl
    · have e1 : decide ((a9.length : Int) < ((a9.length : Nat) : Int)) = false := decide_eq_false (by omega)
      simp only [ss_sl12Begun_0, e1, cond_false]
  simp only [q_sl12Begun, sl12Begun, e]
  exact ⟨boP_q a9 tx, rfl⟩
theorem boAt_range (l : List OrderD) (tx : Int) : boAt l tx = -1 ∨ 0 ≤ boAt l tx ∧ boAt l tx < (l.length : Int) := by
  rcases boP_cases l tx with ⟨j, h1, h2⟩ | h
  · right; simp only [boAt, h2]; show 0 ≤ (j : Int) ∧ (j : Int) < _; omega
  · left; simp only [boAt, h]; rfl
theorem okOps_key {l : List (Int × ByteArray × ByteArray)} (h : okOps l = true) {o : Int × ByteArray × ByteArray} (ho : o ∈ l) : o.2.1.size ≤ 1048576 := (okOps_mem h o ho).1
theorem bt_nat (s : ByteArray) (i : Int) : ∃ n : Nat, bt s i = (n : Int) ∧ n < 256 := by
  unfold bt
  split
  · exact ⟨_, rfl, UInt8.toNat_lt _⟩
  · exact ⟨0, rfl, by decide⟩
theorem wrapU32 (n : Nat) : IntKind.wrap .u32 (n : Int) = ((n % 4294967296 : Nat) : Int) := by
  show (if (false && decide ((n : Int) % (2 ^ 32 : Int) ≥ (2 ^ 31 : Int))) = true then (n : Int) % (2 ^ 32 : Int) - (2 ^ 32 : Int) else (n : Int) % (2 ^ 32 : Int)) = _
  simp only [Bool.false_and, Bool.false_eq_true, if_false]; omega
theorem xor_lt32 {a b : Nat} (ha : a < 4294967296) (hb : b < 4294967296) : a ^^^ b < 4294967296 := Nat.xor_lt_two_pow (n := 32) ha hb
theorem ofInt32 (n : Nat) (h : n < 4294967296) : (BitVec.ofInt 32 (n : Int)).toNat = n := by
  simp [BitVec.toNat_ofInt]; omega
theorem ixor32 {a b : Nat} (ha : a < 4294967296) (hb : b < 4294967296) : ixor .u32 (a : Int) (b : Int) = ((a ^^^ b : Nat) : Int) := by
  have h := xor_lt32 ha hb
  show IntKind.wrap .u32 (((BitVec.ofInt 32 (a : Int) ^^^ BitVec.ofInt 32 (b : Int)).toNat : Nat) : Int) = _
  rw [BitVec.toNat_xor, ofInt32 a ha, ofInt32 b hb, wrapU32, Nat.mod_eq_of_lt h]
theorem ofInt_nat (n : Nat) (h : n < 18446744073709551616) : (BitVec.ofInt 64 (n : Int)).toNat = n := by
  simp [BitVec.toNat_ofInt]; omega
theorem ixor64 {a b : Nat} (ha : a < 4294967296) (hb : b < 4294967296) : ixor .i64 (a : Int) (b : Int) = ((a ^^^ b : Nat) : Int) := by
  have h := xor_lt32 ha hb
  show IntKind.wrap .i64 (((BitVec.ofInt 64 (a : Int) ^^^ BitVec.ofInt 64 (b : Int)).toNat : Nat) : Int) = _
  rw [BitVec.toNat_xor, ofInt_nat a (by omega), ofInt_nat b (by omega)]
  exact wrap64 (by omega) (by omega)
theorem iand32 (n : Nat) (h : n < 9223372036854775808) : iand .i64 (n : Int) 4294967295 = ((n % 4294967296 : Nat) : Int) := by
  show IntKind.wrap .i64 (((BitVec.ofInt 64 (n : Int) &&& BitVec.ofInt 64 ((4294967295 : Nat) : Int)).toNat : Nat) : Int) = _
  rw [BitVec.toNat_and, ofInt_nat n (by omega), ofInt_nat 4294967295 (by omega), show (4294967295 : Nat) = 2 ^ 32 - 1 from rfl, Nat.and_two_pow_sub_one_eq_mod]
  exact wrap64 (by omega) (by omega)
/-- The two hashes, side by side. -/
theorem hash_sim {s : ByteArray} (hs : s.size ≤ 1048576) : ∃ h : Nat, h < 4294967296 ∧ it_iHash_0 s 2166136261 0 = (0, (h : Int)) ∧ it_sHash_0 s 2166136261 0 = (0, (h : Int)) := by
  have key := itX_sim (ss := fun v : V_iHash_0 => ss_iHash_0 v.1 v.2.1 v.2.2) (fa := fl_iHash_0) (tt := fun v : V_sHash_0 => ss_sHash_0 v.1 v.2.1 v.2.2) (fb := fl_sHash_0) (v := (s, 2166136261, 0)) (w := (s, 2166136261, 0))
    (fun v w => ∃ h i : Nat, v = (s, (h : Int), (i : Int)) ∧ w = (s, (h : Int), (i : Int)) ∧ h < 4294967296 ∧ i ≤ s.size) (fun a b => ∃ h : Nat, h < 4294967296 ∧ a = (0, (h : Int)) ∧ b = (0, (h : Int))) (fun v => s.size - v.2.2.toNat) (fun v w hr => by
      obtain ⟨h, i, rfl, rfl, h1, h2⟩ := hr
      by_cases hi : i < s.size
      · have e1 : decide ((i : Int) < ((s.size : Nat) : Int)) = true := decide_eq_true (by omega)
        have e2 : decide (0 ≤ (i : Int) ∧ (i : Int) < ((s.size : Nat) : Int)) = true := decide_eq_true (by omega)
        obtain ⟨b, hb, hb2⟩ := bt_nat s (i : Int)
        have w1 : IntKind.wrap .u32 (b : Int) = (b : Int) := by rw [wrapU32]; omega
        have w2 : IntKind.wrap .i64 (b : Int) = (b : Int) := wrap64 (by omega) (by omega)
        have hx := xor_lt32 h1 (show b < 4294967296 by omega)
        have c1 : ((h ^^^ b : Nat) : Int) * 16777619 = (((h ^^^ b) * 16777619 : Nat) : Int) := by simp
        have w3 : IntKind.wrap .i64 ((((h ^^^ b) * 16777619 : Nat) : Int)) = (((h ^^^ b) * 16777619 : Nat) : Int) := wrap64 (by omega) (by omega)
        refine .inl ⟨(s, (((h ^^^ b) * 16777619 % 4294967296 : Nat) : Int), ((i + 1 : Nat) : Int)), (s, (((h ^^^ b) * 16777619 % 4294967296 : Nat) : Int), ((i + 1 : Nat) : Int)), ?_, ?_, ⟨_, i + 1, rfl, rfl, Nat.mod_lt _ (by decide), by omega⟩, by simp only [Int.toNat_natCast]; omega⟩
        · simp only [ss_iHash_0, e1, e2, cond_true, hb, w1, ixor32 h1 (show b < 4294967296 by omega), c1, wrapU32, wrapU i (by omega)]
        · simp only [ss_sHash_0, e1, e2, cond_true, hb, w2, ixor64 h1 (show b < 4294967296 by omega), c1, w3, iand32 _ (show (h ^^^ b) * 16777619 < 9223372036854775808 by omega), wrapU i (by omega)]
      · have e1 : decide ((i : Int) < ((s.size : Nat) : Int)) = false := decide_eq_false (by omega)
        exact .inr ⟨_, _, by simp only [ss_iHash_0, e1, cond_false], by simp only [ss_sHash_0, e1, cond_false], h, h1, rfl, rfl⟩) ⟨2166136261, 0, rfl, rfl, by decide, Nat.zero_le _⟩ (by simp; omega)
  obtain ⟨h, h1, h2, h3⟩ := key
  exact ⟨h, h1, h2, h3⟩
/-- The shard of a key. -/
theorem shardOf_spec {s : ByteArray} (hs : s.size ≤ 1048576) (n : Int) : q_iShardOf s n = true ∧ q_sShardOf s n = true ∧ iShardOf s n = sShardOf s n ∧ 0 ≤ iShardOf s n ∧ (1 ≤ n → iShardOf s n < n) := by
  obtain ⟨h, h1, h2, h3⟩ := hash_sim hs
  have w : IntKind.wrap .i64 (h : Int) = (h : Int) := wrap64 (by omega) (by omega)
  simp only [q_iShardOf, q_sShardOf, iShardOf, sShardOf, q_iHash, q_sHash, iHash, sHash, h2, h3, w]
  by_cases hn : n < 1
  · simp only [decide_eq_true hn, cond_true]
    exact ⟨trivial, trivial, trivial, Int.le_refl _, fun h => by omega⟩
  · have e : decide (n ≠ 0) = true := decide_eq_true (by omega)
    simp only [decide_eq_false hn, cond_false, e]
    exact ⟨rfl, rfl, trivial, Int.tmod_nonneg _ (by omega), fun _ => Int.tmod_lt_of_pos _ (by omega)⟩
theorem sOpsFor_spec {l : List (Int × ByteArray × ByteArray)} (ho : okOps l = true) (k n : Int) : q_sOpsFor l k n = true ∧ sOpsFor l k n = l.filter (fun o => shO n o == k) := by
  have hl := okOps_len ho
  have key : it_sOpsFor_0 l k n 0 [] = (0, l.filter (fun o => shO n o == k)) := by
    refine itX_inv (fun v : V_sOpsFor_0 => ∃ i : Nat, v = (l, k, n, (i : Int), (l.take i).filter (fun o => shO n o == k)) ∧ i ≤ l.length) (fun a : A_sOpsFor_0 => a = (0, l.filter (fun o => shO n o == k))) (fun v => l.length - v.2.2.2.1.toNat) ?_ ⟨0, by simp, Nat.zero_le _⟩ (by simp; omega)
    rintro v ⟨i, rfl, hi⟩
    by_cases hlt : i < l.length
    · have e1 : decide ((i : Int) < (l.length : Int)) = true := decide_eq_true (by omega)
      have e2 : decide (0 ≤ (i : Int) ∧ (i : Int) < ((l.length : Nat) : Int)) = true := decide_eq_true (by omega)
      have hf : ((l.take i).filter (fun o => shO n o == k)).length ≤ i := Nat.le_trans (List.length_filter_le _ _) (by rw [List.length_take]; omega)
      have hm : ∀ x : Int × ByteArray × ByteArray, decide ((((l.take i).filter (fun o => shO n o == k)).length + [x].length) * 40 ≤ MAXB) = true := fun x => decide_eq_true (by simp only [List.length_singleton, MAXB]; omega)
      have hk := okOps_key ho (getD_mem hlt dOp)
      obtain ⟨_, hq, he, _⟩ := shardOf_spec hk n
      have hd : ((0 : Int), ((⟨#[]⟩ : ByteArray), (⟨#[]⟩ : ByteArray))) = dOp := rfl
      have hsh : sShardOf (l.getD i dOp).2.1 n = shO n (l.getD i dOp) := he.symm
      simp only [ss_sOpsFor_0, hd, e1, e2, cond_true, Int.toNat_natCast, hq, hm, k1_sOpsFor, wrapU i (by omega), hsh]
      left
      cases hc : (shO n (l.getD i dOp) == k) with
      | true =>
        refine ⟨_, rfl, ⟨i + 1, ?_, by omega⟩, by simp only [Int.toNat_natCast]; omega⟩
        rw [take_succ_getD hlt dOp, List.filter_append, List.filter_cons, hc]
        rfl
      | false =>
        refine ⟨_, rfl, ⟨i + 1, ?_, by omega⟩, by simp only [Int.toNat_natCast]; omega⟩
        rw [take_succ_getD hlt dOp, List.filter_append, List.filter_cons, hc]
        simp
    · obtain rfl : i = l.length := by omega
      have e1 : decide ((l.length : Int) < (l.length : Int)) = false := decide_eq_false (by omega)
      simp only [ss_sOpsFor_0, e1, cond_false]
      exact .inr ⟨_, rfl, by rw [List.take_length]⟩
  simp only [q_sOpsFor, sOpsFor, key]
  exact ⟨rfl, trivial⟩
theorem sSame_is {l m : List (Int × ByteArray × ByteArray)} (hl : l.length ≤ 1048576) : q_sl9SameOps l m = true ∧ sl9SameOps l m = sameO l m := by
  have hd : ((0 : Int), ((⟨#[]⟩ : ByteArray), (⟨#[]⟩ : ByteArray))) = dOp := rfl
  simp only [q_sl9SameOps, sl9SameOps, sameO]
  by_cases h : l.length = m.length
  · have e1 : (((l.length : Nat) : Int) != ((m.length : Nat) : Int)) = false := by simp [h]
    have e : it_sl9SameOps_0 l m 0 = cond ((List.range l.length).any fun i => !eqO (l.getD i dOp) (m.getD i dOp)) (0, false) (1, false) := by
      rw [← scan_bool]
      refine itX_scan (fun i => (l, m, (i : Int))) l.length _ _ (by omega) (fun i hi => ?_) ?_
      · have e1 : decide ((i : Int) < ((l.length : Nat) : Int)) = true := decide_eq_true (by omega)
        have e2 : decide (0 ≤ (i : Int) ∧ (i : Int) < ((l.length : Nat) : Int)) = true := decide_eq_true (by omega)
        have e3 : decide (0 ≤ (i : Int) ∧ (i : Int) < ((m.length : Nat) : Int)) = true := decide_eq_true (by omega)
        simp only [ss_sl9SameOps_0, hd, e1, e2, e3, cond_true, Int.toNat_natCast, wrapU i (by omega)]
        show cond (!eqO (l.getD i dOp) (m.getD i dOp)) _ _ = _
        cases eqO (l.getD i dOp) (m.getD i dOp) <;> rfl
      · have e1 : decide ((l.length : Int) < ((l.length : Nat) : Int)) = false := decide_eq_false (by omega)
        simp only [ss_sl9SameOps_0, e1, cond_false]
    rw [e1, e]
    simp only [cond_false]
    cases ((List.range l.length).any fun i => !eqO (l.getD i dOp) (m.getD i dOp)) <;> exact ⟨rfl, rfl⟩
  · have e1 : (((l.length : Nat) : Int) != ((m.length : Nat) : Int)) = true := by simp; omega
    rw [e1]; exact ⟨rfl, rfl⟩
theorem iBegun_is (a0 a1 a2 : Int) (a3 : List JobD) (a4 : List (Int × Bool)) (a5 : Int) (a6 : List ShardD) (a7 a8 : List WordD) {a9 : List OrderD} (hl : a9.length ≤ 1048576) (tx : Int) : q_iWorld_orderAt tx a0 a1 a2 a3 a4 a5 a6 a7 a8 a9 = true ∧ iWorld_orderAt tx a0 a1 a2 a3 a4 a5 a6 a7 a8 a9 = boAt a9 tx := by
  have hdo : ((0 : Int), ([] : List (Int × ByteArray × ByteArray))) = dOrder := rfl
  have e : it_slices_IndexFunc_iOrder_0 a9 ((a9.length : Nat) : Int) 0 tx = boP a9 tx := by
    refine itX_scan (fun i => (a9, ((a9.length : Nat) : Int), (i : Int))) a9.length _ _ (by omega) (fun i hi => ?_) ?_
    · have e1 : decide ((i : Int) < ((a9.length : Nat) : Int)) = true := decide_eq_true (by omega)
      have e2 : decide (0 ≤ (i : Int) ∧ (i : Int) < ((a9.length : Nat) : Int)) = true := decide_eq_true (by omega)
      simp only [ss_slices_IndexFunc_iOrder_0, k1_slices_IndexFunc_iOrder, iWorld_orderAt_1, hdo, e1, e2, cond_true, Int.toNat_natCast, wrapU i (by omega)]
      cases ((a9.getD i dOrder).1 == tx) <;> rfl
    · have e1 : decide ((a9.length : Int) < ((a9.length : Nat) : Int)) = false := decide_eq_false (by omega)
      simp only [ss_slices_IndexFunc_iOrder_0, e1, cond_false]
  simp only [q_iWorld_orderAt, iWorld_orderAt, q_slices_IndexFunc_iOrder, slices_IndexFunc_iOrder, e]
  exact ⟨boP_q a9 tx, rfl⟩
theorem iOpsFor_spec {l : List (Int × ByteArray × ByteArray)} (ho : okOps l = true) (k n : Int) : q_iOpsFor l k n = true ∧ iOpsFor l k n = l.filter (fun o => shO n o == k) := by
  have hl := okOps_len ho
  have key : it_iOpsFor_0 k n l ((l.length : Nat) : Int) 0 [] = (0, l.filter (fun o => shO n o == k)) := by
    refine itX_inv (fun v : V_iOpsFor_0 => ∃ i : Nat, v = (k, n, l, (l.length : Int), (i : Int), (l.take i).filter (fun o => shO n o == k)) ∧ i ≤ l.length) (fun a : A_iOpsFor_0 => a = (0, l.filter (fun o => shO n o == k))) (fun v => l.length - v.2.2.2.2.1.toNat) ?_ ⟨0, by simp, Nat.zero_le _⟩ (by simp; omega)
    rintro v ⟨i, rfl, hi⟩
    by_cases hlt : i < l.length
    · have e1 : decide ((i : Int) < (l.length : Int)) = true := decide_eq_true (by omega)
      have e2 : decide (0 ≤ (i : Int) ∧ (i : Int) < ((l.length : Nat) : Int)) = true := decide_eq_true (by omega)
      have hf : ((l.take i).filter (fun o => shO n o == k)).length ≤ i := Nat.le_trans (List.length_filter_le _ _) (by rw [List.length_take]; omega)
      have hm : ∀ x : Int × ByteArray × ByteArray, decide ((((l.take i).filter (fun o => shO n o == k)).length + [x].length) * 40 ≤ MAXB) = true := fun x => decide_eq_true (by simp only [List.length_singleton, MAXB]; omega)
      have hk := okOps_key ho (getD_mem hlt dOp)
      have hq := (shardOf_spec hk n).1
      have hd : ((0 : Int), ((⟨#[]⟩ : ByteArray), (⟨#[]⟩ : ByteArray))) = dOp := rfl
      have hsh : iShardOf (l.getD i dOp).2.1 n = shO n (l.getD i dOp) := rfl
      simp only [ss_iOpsFor_0, hd, e1, e2, cond_true, Int.toNat_natCast, hq, hm, k1_iOpsFor, wrapU i (by omega), hsh]
      left
      cases hc : (shO n (l.getD i dOp) == k) with
      | true =>
        refine ⟨_, rfl, ⟨i + 1, ?_, by omega⟩, by simp only [Int.toNat_natCast]; omega⟩
        rw [take_succ_getD hlt dOp, List.filter_append, List.filter_cons, hc]
        rfl
      | false =>
        refine ⟨_, rfl, ⟨i + 1, ?_, by omega⟩, by simp only [Int.toNat_natCast]; omega⟩
        rw [take_succ_getD hlt dOp, List.filter_append, List.filter_cons, hc]
        simp
    · obtain rfl : i = l.length := by omega
      have e1 : decide ((l.length : Int) < (l.length : Int)) = false := decide_eq_false (by omega)
      simp only [ss_iOpsFor_0, e1, cond_false]
      exact .inr ⟨_, rfl, by rw [List.take_length]⟩
  simp only [q_iOpsFor, iOpsFor, k2_iOpsFor, key]
  exact ⟨rfl, trivial⟩
theorem iSame_is {l m : List (Int × ByteArray × ByteArray)} (hl : l.length ≤ 1048576) : q_slices_Equal_iOp l m = true ∧ slices_Equal_iOp l m = sameO l m := by
  have hd : ((0 : Int), ((⟨#[]⟩ : ByteArray), (⟨#[]⟩ : ByteArray))) = dOp := rfl
  simp only [q_slices_Equal_iOp, slices_Equal_iOp, sameO]
  by_cases h : l.length = m.length
  · have e1 : (((l.length : Nat) : Int) != ((m.length : Nat) : Int)) = false := by simp [h]
    have e : it_slices_Equal_iOp_0 l m ((l.length : Nat) : Int) 0 = cond ((List.range l.length).any fun i => !eqO (l.getD i dOp) (m.getD i dOp)) (0, false) (1, false) := by
      rw [← scan_bool]
      refine itX_scan (fun i => (l, m, ((l.length : Nat) : Int), (i : Int))) l.length _ _ (by omega) (fun i hi => ?_) ?_
      · have e1 : decide ((i : Int) < ((l.length : Nat) : Int)) = true := decide_eq_true (by omega)
        have e2 : decide (0 ≤ (i : Int) ∧ (i : Int) < ((l.length : Nat) : Int)) = true := decide_eq_true (by omega)
        have e3 : decide (0 ≤ (i : Int) ∧ (i : Int) < ((m.length : Nat) : Int)) = true := decide_eq_true (by omega)
        simp only [ss_slices_Equal_iOp_0, hd, e1, e2, e3, cond_true, Int.toNat_natCast, wrapU i (by omega)]
        show cond (!eqO (l.getD i dOp) (m.getD i dOp)) _ _ = _
        cases eqO (l.getD i dOp) (m.getD i dOp) <;> rfl
      · have e1 : decide ((l.length : Int) < ((l.length : Nat) : Int)) = false := decide_eq_false (by omega)
        simp only [ss_slices_Equal_iOp_0, e1, cond_false]
    rw [e1, e]
    simp only [cond_false]
    cases ((List.range l.length).any fun i => !eqO (l.getD i dOp) (m.getD i dOp)) <;> exact ⟨rfl, rfl⟩
  · have e1 : (((l.length : Nat) : Int) != ((m.length : Nat) : Int)) = true := by simp; omega
    rw [e1]; exact ⟨rfl, rfl⟩
theorem eqO_symm (x y : Int × ByteArray × ByteArray) : eqO x y = eqO y x := by
  have h : ∀ a b : List UInt8, (a == b) = (b == a) := fun a b => by
    cases hc : (a == b) with
    | true => simp only [beq_iff_eq] at hc; subst hc; simp
    | false => simp only [beq_eq_false_iff_ne] at hc; exact (beq_eq_false_iff_ne.2 (Ne.symm hc)).symm
  have h2 : ∀ a b : Int, (a == b) = (b == a) := fun a b => by
    cases hc : (a == b) with
    | true => simp only [beq_iff_eq] at hc; subst hc; simp
    | false => simp only [beq_eq_false_iff_ne] at hc; exact (beq_eq_false_iff_ne.2 (Ne.symm hc)).symm
  simp only [eqO, h x.2.1.toList y.2.1.toList, h x.2.2.toList y.2.2.toList, h2 x.1 y.1]
theorem sameO_symm (l m : List (Int × ByteArray × ByteArray)) : sameO l m = sameO m l := by
  simp only [sameO]
  by_cases h : l.length = m.length
  · have e1 : (((l.length : Nat) : Int) != ((m.length : Nat) : Int)) = false := by simp [h]
    have e2 : (((m.length : Nat) : Int) != ((l.length : Nat) : Int)) = false := by simp [h]
    rw [e1, e2, h]
    simp only [cond_false]
    congr 2
    exact funext fun i => by rw [eqO_symm]
  · have e1 : (((l.length : Nat) : Int) != ((m.length : Nat) : Int)) = true := by simp; omega
    have e2 : (((m.length : Nat) : Int) != ((l.length : Nat) : Int)) = true := by simp; omega
    rw [e1, e2]; rfl
theorem whole_same (a0 a1 a2 : Int) {a3 : List JobD} {a4 : List (Int × Bool)} (a5 : Int) {a6 : List ShardD} {a7 a8 : List WordD} {a9 : List OrderD} (h : okWorld a3 a4 a6 a7 a8 a9) : q_sWhole a0 a1 a2 a3 a4 a5 a6 a7 a8 a9 = true ∧ q_iWhole a0 a1 a2 a3 a4 a5 a6 a7 a8 a9 = true ∧ iWhole a0 a1 a2 a3 a4 a5 a6 a7 a8 a9 = sWhole a0 a1 a2 a3 a4 a5 a6 a7 a8 a9 := by
  obtain ⟨h3, hj, h4, h6, h7, h8, h9⟩ := h
  have hdr : ((0 : Int), dOrder) = dRec := rfl
  have hds : ((0 : Int), (([] : List RecD), ((0 : Int), (([] : List PairD), ([] : List RecD))))) = dShard := rfl
  have hdo : ((0 : Int), ([] : List (Int × ByteArray × ByteArray))) = dOrder := rfl
  have nb : ∀ x : Int, (x != 1) = !(x == 1) := fun _ => rfl
  have inS : ∀ (l : List RecD) (x : Nat), okRecS l → x < a6.length → it_sWhole_1 (x : Int) l 0 a0 a1 a2 a3 a4 a5 a6 a7 a8 a9 = cond (wrongL a9 a0 (a6.getD x dShard).1 l) (0, false, 0) (1, false, (x : Int)) := by
    intro l x hl hx
    rw [wrongL, ← scan_bool]
    have hll := hl.1
    refine itX_scan (fun i => ((x : Int), l, (i : Int))) l.length _ _ (by omega) (fun i hi => ?_) ?_
    · have e1 : decide ((i : Int) < ((l.length : Nat) : Int)) = true := decide_eq_true (by omega)
      have e2 : decide (0 ≤ (i : Int) ∧ (i : Int) < ((l.length : Nat) : Int)) = true := decide_eq_true (by omega)
      have e3 : decide (0 ≤ (x : Int) ∧ (x : Int) < ((a6.length : Nat) : Int)) = true := decide_eq_true (by omega)
      have hro := okOps_len (hl.2 _ (getD_mem hi dRec))
      obtain ⟨y1, y2⟩ := sBegun_is a0 a1 a2 a3 a4 a5 a6 a7 a8 h9.1 (l.getD i dRec).2.1
      have hr := boAt_range a9 (l.getD i dRec).2.1
      simp only [ss_sWhole_1, k1_sWhole, k2_sWhole, k3_sWhole, hdr, hdo, hds, e1, e2, e3, cond_true, Int.toNat_natCast, wrapU i (by omega), y1, y2, nb, wrongR]
      generalize l.getD i dRec = r at *
      by_cases hneg : boAt a9 r.2.1 < 0
      · simp only [decide_eq_true hneg, cond_true, Bool.true_or, Bool.and_true]
        cases (r.1 == 1) <;> rfl
      · have e4 : decide (0 ≤ boAt a9 r.2.1 ∧ boAt a9 r.2.1 < ((a9.length : Nat) : Int)) = true := decide_eq_true (by omega)
        have hbo := h9.2 _ (getD_mem (show (boAt a9 r.2.1).toNat < a9.length by omega) dOrder)
        obtain ⟨f1, f2⟩ := sOpsFor_spec hbo (a6.getD x dShard).1 a0
        obtain ⟨g1, g2⟩ := sSame_is (l := r.2.2) (m := (a9.getD (boAt a9 r.2.1).toNat dOrder).2.filter (fun o => shO a0 o == (a6.getD x dShard).1)) hro
        simp only [decide_eq_false hneg, cond_false, cond_true, e4, f1, f2, g1, g2, Bool.false_or]
        cases (r.1 == 1) <;> cases sameO r.2.2 ((a9.getD (boAt a9 r.2.1).toNat dOrder).2.filter (fun o => shO a0 o == (a6.getD x dShard).1)) <;> rfl
    · have e1 : decide ((l.length : Int) < ((l.length : Nat) : Int)) = false := decide_eq_false (by omega)
      simp only [ss_sWhole_1, e1, cond_false]
  have inI : ∀ (l : List RecD) (x : List ShardD) (y z : Int) (b0 : Int) (b1 : List RecD) (b2 : Int) (b3 : List PairD) (b4 : List RecD), okRecS l → it_iWhole_1 x y z l ((l.length : Nat) : Int) 0 a0 a1 a2 a3 a4 a5 a6 a7 a8 a9 b0 b1 b2 b3 b4 = cond (wrongL a9 a0 b0 l) (0, false, [], 0, 0) (1, false, x, y, z) := by
    intro l x y z b0 b1 b2 b3 b4 hl
    rw [wrongL, ← scan_bool]
    have hll := hl.1
    refine itX_scan (fun i => (x, y, z, l, ((l.length : Nat) : Int), (i : Int))) l.length _ _ (by omega) (fun i hi => ?_) ?_
    · have e1 : decide ((i : Int) < ((l.length : Nat) : Int)) = true := decide_eq_true (by omega)
      have e2 : decide (0 ≤ (i : Int) ∧ (i : Int) < ((l.length : Nat) : Int)) = true := decide_eq_true (by omega)
      obtain ⟨y1, y2⟩ := iBegun_is a0 a1 a2 a3 a4 a5 a6 a7 a8 h9.1 (l.getD i dRec).2.1
      have hr := boAt_range a9 (l.getD i dRec).2.1
      simp only [ss_iWhole_1, k1_iWhole, k2_iWhole, k3_iWhole, hdr, hdo, e1, e2, cond_true, Int.toNat_natCast, wrapU i (by omega), y1, y2, nb, wrongR]
      generalize l.getD i dRec = r at *
      by_cases hneg : boAt a9 r.2.1 < 0
      · simp only [decide_eq_true hneg, cond_true, Bool.true_or, Bool.and_true]
        cases (r.1 == 1) <;> rfl
      · have e4 : decide (0 ≤ boAt a9 r.2.1 ∧ boAt a9 r.2.1 < ((a9.length : Nat) : Int)) = true := decide_eq_true (by omega)
        have hbo := h9.2 _ (getD_mem (show (boAt a9 r.2.1).toNat < a9.length by omega) dOrder)
        obtain ⟨f1, f2⟩ := iOpsFor_spec hbo b0 a0
        have hfl := Nat.le_trans (List.length_filter_le (fun o => shO a0 o == b0) (a9.getD (boAt a9 r.2.1).toNat dOrder).2) (okOps_len hbo)
        obtain ⟨g1, g2⟩ := iSame_is (l := (a9.getD (boAt a9 r.2.1).toNat dOrder).2.filter (fun o => shO a0 o == b0)) (m := r.2.2) hfl
        rw [sameO_symm] at g2
        simp only [decide_eq_false hneg, cond_false, cond_true, e4, f1, f2, g1, g2, Bool.false_or]
        cases (r.1 == 1) <;> cases sameO r.2.2 ((a9.getD (boAt a9 r.2.1).toNat dOrder).2.filter (fun o => shO a0 o == b0)) <;> rfl
    · have e1 : decide ((l.length : Int) < ((l.length : Nat) : Int)) = false := decide_eq_false (by omega)
      simp only [ss_iWhole_1, e1, cond_false]
  have outS : it_sWhole_0 0 a0 a1 a2 a3 a4 a5 a6 a7 a8 a9 = cond ((List.range a6.length).any fun i => wrongL a9 a0 (a6.getD i dShard).1 (a6.getD i dShard).2.1) (0, false) (1, false) := by
    rw [← scan_bool]
    have hl := h6.1
    refine itX_scan (fun i => ((i : Int))) a6.length _ _ (by omega) (fun i hi => ?_) ?_
    · have e1 : decide ((i : Int) < ((a6.length : Nat) : Int)) = true := decide_eq_true (by omega)
      have e2 : decide (0 ≤ (i : Int) ∧ (i : Int) < ((a6.length : Nat) : Int)) = true := decide_eq_true (by omega)
      have ho := (h6.2 _ (getD_mem hi dShard)).1
      simp only [ss_sWhole_0, k4_sWhole, hds, e1, e2, cond_true, Int.toNat_natCast, inS _ i ho hi]
      cases wrongL a9 a0 (a6.getD i dShard).1 (a6.getD i dShard).2.1
      · show Sum.inl (IntKind.wrap .i64 ((i : Int) + 1)) = _
        rw [wrapU i (by omega)]; rfl
      · rfl
    · have e1 : decide ((a6.length : Int) < ((a6.length : Nat) : Int)) = false := decide_eq_false (by omega)
      simp only [ss_sWhole_0, e1, cond_false]
  have outI : it_iWhole_0 a6 ((a6.length : Nat) : Int) 0 a0 a1 a2 a3 a4 a5 a6 a7 a8 a9 = cond ((List.range a6.length).any fun i => wrongL a9 a0 (a6.getD i dShard).1 (a6.getD i dShard).2.1) (0, false) (1, false) := by
    rw [← scan_bool]
    have hl := h6.1
    refine itX_scan (fun i => (a6, ((a6.length : Nat) : Int), (i : Int))) a6.length _ _ (by omega) (fun i hi => ?_) ?_
    · have e1 : decide ((i : Int) < ((a6.length : Nat) : Int)) = true := decide_eq_true (by omega)
      have e2 : decide (0 ≤ (i : Int) ∧ (i : Int) < ((a6.length : Nat) : Int)) = true := decide_eq_true (by omega)
      have ho := (h6.2 _ (getD_mem hi dShard)).1
      simp only [ss_iWhole_0, k4_iWhole, hds, e1, e2, cond_true, Int.toNat_natCast, inI _ _ _ _ _ _ _ _ _ ho]
      cases wrongL a9 a0 (a6.getD i dShard).1 (a6.getD i dShard).2.1
      · show Sum.inl (a6, ((a6.length : Nat) : Int), IntKind.wrap .i64 ((i : Int) + 1)) = _
        rw [wrapU i (by omega)]; rfl
      · rfl
    · have e1 : decide ((a6.length : Int) < ((a6.length : Nat) : Int)) = false := decide_eq_false (by omega)
      simp only [ss_iWhole_0, e1, cond_false]
  simp only [q_sWhole, q_iWhole, sWhole, iWhole, outS, outI]
  cases ((List.range a6.length).any fun i => wrongL a9 a0 (a6.getD i dShard).1 (a6.getD i dShard).2.1) <;> exact ⟨rfl, rfl, trivial⟩
theorem bigJobs_of {l : List JobD} (h : bigT (.sl (.pair (.int .i64) (.pair (.sl (.pair (.int .i64) (.pair .str .str))) (.pair (.int .i64) (.sl (.int .i64)))))) l = true) : bigJobs l := by
  have h : (decide (l.length ≤ maxLen) && l.all fun j => (Lit.int .i64 j.1).wf && (bigT (.sl (.pair (.int .i64) (.pair .str .str))) j.2.1 && ((Lit.int .i64 j.2.2.1).wf && (decide (j.2.2.2.length ≤ maxLen) && j.2.2.2.all fun x => (Lit.int .i64 x).wf)))) = true := h
  have hm : maxLen = 9223372036854775807 := by decide
  rw [hm] at h
  simp only [Bool.and_eq_true, decide_eq_true_eq, List.all_eq_true] at h
  exact ⟨h.1, fun j hj => ⟨bigOps_of (h.2 j hj).2.1, (h.2 j hj).2.2.2.1⟩⟩
theorem bigLog_of {l : List (Int × Bool)} (h : bigT (.sl (.pair (.int .i64) .bool)) l = true) : l.length ≤ 9223372036854775807 := by
  have h : (decide (l.length ≤ maxLen) && l.all fun j => (Lit.int .i64 j.1).wf && true) = true := h
  have hm : maxLen = 9223372036854775807 := by decide
  rw [hm] at h
  simp only [Bool.and_eq_true, decide_eq_true_eq] at h
  exact h.1
theorem bigCoord_of {a0 a1 a2 : Int} {a3 : List JobD} {a4 : List (Int × Bool)} {a5 : Int} (h : bigT (.pair (.int .i64) (.pair (.int .i64) (.pair (.int .i64) (.pair (.sl (.pair (.int .i64) (.pair (.sl (.pair (.int .i64) (.pair .str .str))) (.pair (.int .i64) (.sl (.int .i64)))))) (.pair (.sl (.pair (.int .i64) .bool)) (.int .i64)))))) (a0, (a1, (a2, (a3, (a4, a5))))) = true) : bigJobs a3 ∧ a4.length ≤ 9223372036854775807 := by
  have h : ((Lit.int .i64 a0).wf && ((Lit.int .i64 a1).wf && ((Lit.int .i64 a2).wf && (bigT (.sl (.pair (.int .i64) (.pair (.sl (.pair (.int .i64) (.pair .str .str))) (.pair (.int .i64) (.sl (.int .i64)))))) a3 && (bigT (.sl (.pair (.int .i64) .bool)) a4 && (Lit.int .i64 a5).wf))))) = true := h
  simp only [Bool.and_eq_true] at h
  exact ⟨bigJobs_of h.2.2.2.1, bigLog_of h.2.2.2.2.1⟩
theorem bigOpS_of {l : List (Int × ByteArray × ByteArray)} (h : bigT (.sl (.pair (.int .i64) (.pair .str .str))) l = true) : bigOpS l := bigOps_of h
theorem bigRecS_of {l : List RecD} (h : bigT (.sl (.pair (.int .i64) (.pair (.int .i64) (.sl (.pair (.int .i64) (.pair .str .str)))))) l = true) : bigRecS l := by
  have h : (decide (l.length ≤ maxLen) && l.all fun x => ((Lit.int .i64 x.1).wf && ((Lit.int .i64 x.2.1).wf && bigT (.sl (.pair (.int .i64) (.pair .str .str))) x.2.2))) = true := h
  have hm : maxLen = 9223372036854775807 := by decide
  rw [hm] at h
  simp only [Bool.and_eq_true, decide_eq_true_eq, List.all_eq_true] at h
  exact ⟨h.1, fun x hx => bigOpS_of (h.2 x hx).2.2⟩
theorem bigPairS_of {l : List PairD} (h : bigT (.sl (.pair .str .str)) l = true) : bigPairS l := by
  have h : (decide (l.length ≤ maxLen) && l.all fun o => (decide (o.1.size ≤ maxLen) && decide (o.2.size ≤ maxLen))) = true := h
  have hm : maxLen = 9223372036854775807 := by decide
  rw [hm] at h
  simp only [Bool.and_eq_true, decide_eq_true_eq, List.all_eq_true] at h
  simp only [bigPairS, bigS, decide_eq_true_eq]
  exact ⟨h.1, fun o ho => h.2 o ho⟩
theorem bigShardS_of {l : List ShardD} (h : bigT (.sl (.pair (.int .i64) (.pair (.sl (.pair (.int .i64) (.pair (.int .i64) (.sl (.pair (.int .i64) (.pair .str .str)))))) (.pair (.int .i64) (.pair (.sl (.pair .str .str)) (.sl (.pair (.int .i64) (.pair (.int .i64) (.sl (.pair (.int .i64) (.pair .str .str))))))))))) l = true) : bigShardS l := by
  have h : (decide (l.length ≤ maxLen) && l.all fun x => ((Lit.int .i64 x.1).wf && (bigT (.sl (.pair (.int .i64) (.pair (.int .i64) (.sl (.pair (.int .i64) (.pair .str .str)))))) x.2.1 && ((Lit.int .i64 x.2.2.1).wf && (bigT (.sl (.pair .str .str)) x.2.2.2.1 && bigT (.sl (.pair (.int .i64) (.pair (.int .i64) (.sl (.pair (.int .i64) (.pair .str .str)))))) x.2.2.2.2))))) = true := h
  have hm : maxLen = 9223372036854775807 := by decide
  rw [hm] at h
  simp only [Bool.and_eq_true, decide_eq_true_eq, List.all_eq_true] at h
  exact ⟨h.1, fun x hx => ⟨bigRecS_of (h.2 x hx).2.1, bigPairS_of (h.2 x hx).2.2.2.1, bigRecS_of (h.2 x hx).2.2.2.2⟩⟩
theorem bigWordS_of {l : List WordD} (h : bigT (.sl (.pair (.int .i64) (.pair (.int .i64) (.pair (.int .i64) (.pair (.sl (.pair (.int .i64) (.pair .str .str))) (.bool)))))) l = true) : bigWordS l := by
  have h : (decide (l.length ≤ maxLen) && l.all fun x => ((Lit.int .i64 x.1).wf && ((Lit.int .i64 x.2.1).wf && ((Lit.int .i64 x.2.2.1).wf && (bigT (.sl (.pair (.int .i64) (.pair .str .str))) x.2.2.2.1 && true))))) = true := h
  have hm : maxLen = 9223372036854775807 := by decide
  rw [hm] at h
  simp only [Bool.and_eq_true, decide_eq_true_eq, List.all_eq_true] at h
  exact ⟨h.1, fun x hx => bigOpS_of (h.2 x hx).2.2.2.1⟩
theorem bigOrderS_of {l : List OrderD} (h : bigT (.sl (.pair (.int .i64) (.sl (.pair (.int .i64) (.pair .str .str))))) l = true) : bigOrderS l := by
  have h : (decide (l.length ≤ maxLen) && l.all fun x => ((Lit.int .i64 x.1).wf && bigT (.sl (.pair (.int .i64) (.pair .str .str))) x.2)) = true := h
  have hm : maxLen = 9223372036854775807 := by decide
  rw [hm] at h
  simp only [Bool.and_eq_true, decide_eq_true_eq, List.all_eq_true] at h
  exact ⟨h.1, fun x hx => bigOpS_of (h.2 x hx).2⟩
theorem bigWorld_of {a0 a1 a2 : Int} {a3 : List JobD} {a4 : List (Int × Bool)} {a5 : Int} {a6 : List ShardD} {a7 a8 : List WordD} {a9 : List OrderD} (h : bigT (.pair (.pair (.int .i64) (.pair (.int .i64) (.pair (.int .i64) (.pair (.sl (.pair (.int .i64) (.pair (.sl (.pair (.int .i64) (.pair .str .str))) (.pair (.int .i64) (.sl (.int .i64)))))) (.pair (.sl (.pair (.int .i64) .bool)) (.int .i64)))))) (.pair (.sl (.pair (.int .i64) (.pair (.sl (.pair (.int .i64) (.pair (.int .i64) (.sl (.pair (.int .i64) (.pair .str .str)))))) (.pair (.int .i64) (.pair (.sl (.pair .str .str)) (.sl (.pair (.int .i64) (.pair (.int .i64) (.sl (.pair (.int .i64) (.pair .str .str))))))))))) (.pair (.sl (.pair (.int .i64) (.pair (.int .i64) (.pair (.int .i64) (.pair (.sl (.pair (.int .i64) (.pair .str .str))) .bool))))) (.pair (.sl (.pair (.int .i64) (.pair (.int .i64) (.pair (.int .i64) (.pair (.sl (.pair (.int .i64) (.pair .str .str))) .bool))))) (.sl (.pair (.int .i64) (.sl (.pair (.int .i64) (.pair .str .str))))))))) ((a0, (a1, (a2, (a3, (a4, a5))))), (a6, (a7, (a8, a9)))) = true) : bigWorld a3 a4 a6 a7 a8 a9 := by
  have h : (bigT (.pair (.int .i64) (.pair (.int .i64) (.pair (.int .i64) (.pair (.sl (.pair (.int .i64) (.pair (.sl (.pair (.int .i64) (.pair .str .str))) (.pair (.int .i64) (.sl (.int .i64)))))) (.pair (.sl (.pair (.int .i64) .bool)) (.int .i64)))))) (a0, (a1, (a2, (a3, (a4, a5))))) && (bigT (.sl (.pair (.int .i64) (.pair (.sl (.pair (.int .i64) (.pair (.int .i64) (.sl (.pair (.int .i64) (.pair .str .str)))))) (.pair (.int .i64) (.pair (.sl (.pair .str .str)) (.sl (.pair (.int .i64) (.pair (.int .i64) (.sl (.pair (.int .i64) (.pair .str .str))))))))))) a6 && (bigT (.sl (.pair (.int .i64) (.pair (.int .i64) (.pair (.int .i64) (.pair (.sl (.pair (.int .i64) (.pair .str .str))) .bool))))) a7 && (bigT (.sl (.pair (.int .i64) (.pair (.int .i64) (.pair (.int .i64) (.pair (.sl (.pair (.int .i64) (.pair .str .str))) .bool))))) a8 && bigT (.sl (.pair (.int .i64) (.sl (.pair (.int .i64) (.pair .str .str))))) a9)))) = true := h
  simp only [Bool.and_eq_true] at h
  obtain ⟨c1, c2⟩ := bigCoord_of h.1
  exact ⟨c1, c2, bigShardS_of h.2.1, bigWordS_of h.2.2.1, bigWordS_of h.2.2.2.1, bigOrderS_of h.2.2.2.2⟩
theorem whole_all (a0 a1 a2 : Int) {a3 : List JobD} {a4 : List (Int × Bool)} (a5 : Int) {a6 : List ShardD} {a7 a8 : List WordD} {a9 : List OrderD} (hb : bigWorld a3 a4 a6 a7 a8 a9) : q_lFnExactWhole a0 a1 a2 a3 a4 a5 a6 a7 a8 a9 = true ∧ lFnExactWhole a0 a1 a2 a3 a4 a5 a6 a7 a8 a9 = true := by
  obtain ⟨z1, z2⟩ := szWorld_spec hb a0 a1 a2 a5
  by_cases hd : lszWorld a0 a1 a2 a3 a4 a5 a6 a7 a8 a9 1048576 < 0
  · simp only [q_lFnExactWhole, lFnExactWhole, z1, decide_eq_true hd, cond_true]
    exact ⟨rfl, trivial⟩
  · have hk := z2 (by omega)
    obtain ⟨e1, e2, e3, e4⟩ := eqWorld_same hk a0 a1 a2 a5
    obtain ⟨c1, c2, c3⟩ := whole_same a0 a1 a2 a5 hk
    have e5 : ∀ x : Bool, (x == x) = true := fun x => by simp
    simp only [q_lFnExactWhole, lFnExactWhole, k1_lFnExactWhole, k2_lFnExactWhole, k3_lFnExactWhole, z1, decide_eq_false hd, e3, e4, c1, c2, c3, e1, e2, e5, cond_false, Bool.not_true, Bool.and_self]
    exact ⟨trivial, trivial⟩
theorem pre_of_lFnExactWhole (a0 a1 a2 : Int) (a3 : List JobD) (a4 : List (Int × Bool)) (a5 : Int) (a6 : List ShardD) (a7 a8 : List WordD) (a9 : List OrderD) (h : bigT (.pair (.pair (.int .i64) (.pair (.int .i64) (.pair (.int .i64) (.pair (.sl (.pair (.int .i64) (.pair (.sl (.pair (.int .i64) (.pair .str .str))) (.pair (.int .i64) (.sl (.int .i64)))))) (.pair (.sl (.pair (.int .i64) .bool)) (.int .i64)))))) (.pair (.sl (.pair (.int .i64) (.pair (.sl (.pair (.int .i64) (.pair (.int .i64) (.sl (.pair (.int .i64) (.pair .str .str)))))) (.pair (.int .i64) (.pair (.sl (.pair .str .str)) (.sl (.pair (.int .i64) (.pair (.int .i64) (.sl (.pair (.int .i64) (.pair .str .str))))))))))) (.pair (.sl (.pair (.int .i64) (.pair (.int .i64) (.pair (.int .i64) (.pair (.sl (.pair (.int .i64) (.pair .str .str))) .bool))))) (.pair (.sl (.pair (.int .i64) (.pair (.int .i64) (.pair (.int .i64) (.pair (.sl (.pair (.int .i64) (.pair .str .str))) .bool))))) (.sl (.pair (.int .i64) (.sl (.pair (.int .i64) (.pair .str .str))))))))) ((a0, (a1, (a2, (a3, (a4, a5))))), (a6, (a7, (a8, a9)))) = true) : pre_lFnExactWhole ((a0, a1, a2, a3, a4, a5, a6, a7, a8, a9, ()), ()) = true := (whole_all a0 a1 a2 a5 (bigWorld_of h)).1
theorem exact_lFnExactWhole (a0 a1 a2 : Int) (a3 : List JobD) (a4 : List (Int × Bool)) (a5 : Int) (a6 : List ShardD) (a7 a8 : List WordD) (a9 : List OrderD) (h : bigT (.pair (.pair (.int .i64) (.pair (.int .i64) (.pair (.int .i64) (.pair (.sl (.pair (.int .i64) (.pair (.sl (.pair (.int .i64) (.pair .str .str))) (.pair (.int .i64) (.sl (.int .i64)))))) (.pair (.sl (.pair (.int .i64) .bool)) (.int .i64)))))) (.pair (.sl (.pair (.int .i64) (.pair (.sl (.pair (.int .i64) (.pair (.int .i64) (.sl (.pair (.int .i64) (.pair .str .str)))))) (.pair (.int .i64) (.pair (.sl (.pair .str .str)) (.sl (.pair (.int .i64) (.pair (.int .i64) (.sl (.pair (.int .i64) (.pair .str .str))))))))))) (.pair (.sl (.pair (.int .i64) (.pair (.int .i64) (.pair (.int .i64) (.pair (.sl (.pair (.int .i64) (.pair .str .str))) .bool))))) (.pair (.sl (.pair (.int .i64) (.pair (.int .i64) (.pair (.int .i64) (.pair (.sl (.pair (.int .i64) (.pair .str .str))) .bool))))) (.sl (.pair (.int .i64) (.sl (.pair (.int .i64) (.pair .str .str))))))))) ((a0, (a1, (a2, (a3, (a4, a5))))), (a6, (a7, (a8, a9)))) = true) : lFnExactWhole a0 a1 a2 a3 a4 a5 a6 a7 a8 a9 = true := (whole_all a0 a1 a2 a5 (bigWorld_of h)).2

end Go.Proofs.Ytcofibhklbfgoaa.Eng

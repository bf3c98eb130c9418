/- What the functions that FnExactGetWord reaches compute: further. -/
import Derived.Test.YtoddiofedjnapaaFExactGetWordA
namespace Go.Proofs.Ytoddiofedjnapaa.Eng
open Go Go.RowKit
set_option linter.unusedSimpArgs false
set_option linter.unusedVariables false
set_option maxRecDepth 10000
/-! 48 loop.example/g00244/laws.eqOpS -/

noncomputable def f_leqOpS_0 (x0 x1 : List (Int × ByteArray × ByteArray)) (i : Nat) : Bool := !(!(leqOp ((x0.getD i ((0 : Int), ((⟨#[]⟩ : ByteArray), (⟨#[]⟩ : ByteArray)))).1) (((x0.getD i ((0 : Int), ((⟨#[]⟩ : ByteArray), (⟨#[]⟩ : ByteArray)))).2).1) (((x0.getD i ((0 : Int), ((⟨#[]⟩ : ByteArray), (⟨#[]⟩ : ByteArray)))).2).2) ((x1.getD i ((0 : Int), ((⟨#[]⟩ : ByteArray), (⟨#[]⟩ : ByteArray)))).1) (((x1.getD i ((0 : Int), ((⟨#[]⟩ : ByteArray), (⟨#[]⟩ : ByteArray)))).2).1) (((x1.getD i ((0 : Int), ((⟨#[]⟩ : ByteArray), (⟨#[]⟩ : ByteArray)))).2).2)))
noncomputable abbrev P_leqOpS : List PSh := [.t (.sl (.pair (.int .i64) (.pair .str .str))), .t (.sl (.pair (.int .i64) (.pair .str .str)))]
noncomputable abbrev S_leqOpS_0 : SS := ⟨[.t false (.sl (.pair (.int .i64) (.pair .str .str))), .t false (.sl (.pair (.int .i64) (.pair .str .str))), .junk, .junk, .junk, .t true (.int .i64), .junk, .junk, .junk, .junk, .junk, .junk, .junk, .junk, .junk, .junk, .junk, .junk, .junk, .junk, .junk, .junk, .junk, .junk, .junk, .junk, .junk], []⟩
noncomputable abbrev E_leqOpS_0_0 : SS := ⟨[.junk, .junk, .junk, .junk, .t true .bool, .junk, .junk, .junk, .junk, .junk, .junk, .junk, .junk, .junk, .junk, .junk, .junk, .junk, .junk, .junk, .junk, .junk, .junk, .junk, .junk, .junk, .junk], []⟩
noncomputable abbrev E_leqOpS_0_1 : SS := ⟨[.junk, .junk, .junk, .junk, .junk, .junk, .junk, .junk, .junk, .junk, .junk, .junk, .junk, .junk, .junk, .junk, .junk, .junk, .junk, .junk, .junk, .junk, .junk, .junk, .junk, .junk, .junk], []⟩
noncomputable def st_leqOpS_0 (x0 : List (Int × ByteArray × ByteArray)) (x1 : List (Int × ByteArray × ByteArray)) (x5 : Int) : RT S_leqOpS_0.den := (.br (decide (x5 < ((x0.length : Nat) : Int))) (.br (decide (0 ≤ x5 ∧ x5 < ((x0.length : Nat) : Int))) (.br (decide (0 ≤ x5 ∧ x5 < ((x1.length : Nat) : Int))) (.br (!(leqOp ((x0.getD x5.toNat ((0 : Int), ((⟨#[]⟩ : ByteArray), (⟨#[]⟩ : ByteArray)))).1) (((x0.getD x5.toNat ((0 : Int), ((⟨#[]⟩ : ByteArray), (⟨#[]⟩ : ByteArray)))).2).1) (((x0.getD x5.toNat ((0 : Int), ((⟨#[]⟩ : ByteArray), (⟨#[]⟩ : ByteArray)))).2).2) ((x1.getD x5.toNat ((0 : Int), ((⟨#[]⟩ : ByteArray), (⟨#[]⟩ : ByteArray)))).1) (((x1.getD x5.toNat ((0 : Int), ((⟨#[]⟩ : ByteArray), (⟨#[]⟩ : ByteArray)))).2).1) (((x1.getD x5.toNat ((0 : Int), ((⟨#[]⟩ : ByteArray), (⟨#[]⟩ : ByteArray)))).2).2))) (.done .ret E_leqOpS_0_0 (((), (), (), (), false, (), (), (), (), (), (), (), (), (), (), (), (), (), (), (), (), (), (), (), (), (), (), ()), ())) (.next ((x0, x1, (), (), (), IntKind.wrap .i64 (x5 + (1 : Int)), (), (), (), (), (), (), (), (), (), (), (), (), (), (), (), (), (), (), (), (), (), ()), ()))) .fail) .fail) (.done (.exit 0) E_leqOpS_0_1 (((), (), (), (), (), (), (), (), (), (), (), (), (), (), (), (), (), (), (), (), (), (), (), (), (), (), (), ()), ())))
noncomputable def T_leqOpS_0 (x0 : List (Int × ByteArray × ByteArray)) (x1 : List (Int × ByteArray × ByteArray)) (x5 : Int) : CT := (.br (decide (0 ≤ x5) && (decide (x0.length = x1.length) && okL x0)) (.br (allF (f_leqOpS_0 x0 x1) (x0.length - x5.toNat) x5.toNat) (.done (.exit 0) E_leqOpS_0_1 (((), (), (), (), (), (), (), (), (), (), (), (), (), (), (), (), (), (), (), (), (), (), (), (), (), (), (), ()), ())) (.done .ret E_leqOpS_0_0 (((), (), (), (), false, (), (), (), (), (), (), (), (), (), (), (), (), (), (), (), (), (), (), (), (), (), (), ()), ()))) .fail)
noncomputable abbrev sp_leqOpS_0 : S_leqOpS_0.den → RT S_leqOpS_0.den := fun d => st_leqOpS_0 d.1.1 d.1.2.1 d.1.2.2.2.2.2.1
noncomputable abbrev pk_leqOpS_0 (x0 : List (Int × ByteArray × ByteArray)) (x1 : List (Int × ByteArray × ByteArray)) (x5 : Int) : S_leqOpS_0.den := ((x0, x1, (), (), (), x5, (), (), (), (), (), (), (), (), (), (), (), (), (), (), (), (), (), (), (), (), (), ()), ())
noncomputable def body_leqOpS_0 : Code := ((loopsIn 0 (bodyOf Try.f48)).getD 0 (0, .skip)).2
theorem R_leqOpS_0 (x0 : List (Int × ByteArray × ByteArray)) (x1 : List (Int × ByteArray × ByteArray)) (x5 : Int) : (T_leqOpS_0 x0 x1 x5).val (D := S_leqOpS_0.den) = .fail ∨ Runs sp_leqOpS_0 (pk_leqOpS_0 x0 x1 x5) (T_leqOpS_0 x0 x1 x5).val := by
  cases hc : (decide (0 ≤ x5) && (decide (x0.length = x1.length) && okL x0)) with
  | false => left; simp only [T_leqOpS_0, CT.val, hc, cond_false]
  | true =>
    right
    simp only [T_leqOpS_0, CT.val, hc, cond_true]
    simp only [Bool.and_eq_true, decide_eq_true_eq] at hc
    obtain ⟨i, rfl⟩ := Int.eq_ofNat_of_zero_le hc.1
    have hs := okL_le hc.2.2
    simp only [Int.toNat_natCast]
    refine Runs.scan (fun j => pk_leqOpS_0 x0 x1 (j : Int)) (x0.length) (f_leqOpS_0 x0 x1) (fun i hi => ?_) (fun i hi => ?_) ⟨_, _, _, rfl, by simp⟩ ⟨_, _, _, rfl, by simp⟩ _ _ rfl
    · 
      have h0a : decide ((i : Int) < ((x0.length : Nat) : Int)) = true := decide_eq_true (by omega)
      have h0b : decide (0 ≤ (i : Int) ∧ (i : Int) < ((x0.length : Nat) : Int)) = true := decide_eq_true (by omega)
      simp only [sp_leqOpS_0, st_leqOpS_0, RT.val, h0a, h0b, cond_true, wrapS i (by omega), Int.toNat_natCast]
      have h9 : decide (0 ≤ (i : Int) ∧ (i : Int) < ((x1.length : Nat) : Int)) = true := decide_eq_true (by omega)
      simp only [h9, cond_true]
      simp only [f_leqOpS_0]
      generalize (!(leqOp ((x0.getD i ((0 : Int), ((⟨#[]⟩ : ByteArray), (⟨#[]⟩ : ByteArray)))).1) (((x0.getD i ((0 : Int), ((⟨#[]⟩ : ByteArray), (⟨#[]⟩ : ByteArray)))).2).1) (((x0.getD i ((0 : Int), ((⟨#[]⟩ : ByteArray), (⟨#[]⟩ : ByteArray)))).2).2) ((x1.getD i ((0 : Int), ((⟨#[]⟩ : ByteArray), (⟨#[]⟩ : ByteArray)))).1) (((x1.getD i ((0 : Int), ((⟨#[]⟩ : ByteArray), (⟨#[]⟩ : ByteArray)))).2).1) (((x1.getD i ((0 : Int), ((⟨#[]⟩ : ByteArray), (⟨#[]⟩ : ByteArray)))).2).2))) = c
      cases c <;> rfl
    · have h1 : decide ((i : Int) < ((x0.length : Nat) : Int)) = false := decide_eq_false (by omega)
      simp only [sp_leqOpS_0, st_leqOpS_0, RT.val, h1, cond_false]
theorem rd_leqOpS_0 : ∀ d, execC Try.prog tt S33 QF33 (fun _ _ => none) 0 body_leqOpS_0 (S_leqOpS_0.st d 0 []) (fun e s' => some (e, S_leqOpS_0.cutE (kepts [4] [(0, [])]) e s')) = (sp_leqOpS_0 d).opt 0 [] := by
  intro d
  kernel_rfl
noncomputable abbrev say_leqOpS_0 : St → Option Tree := S_leqOpS_0.say 0 [] [] (fun d => T_leqOpS_0 d.1.1 d.1.2.1 d.1.2.2.2.2.2.1)
theorem lw_leqOpS_0 : LoopWp Try.prog say_leqOpS_0 body_leqOpS_0 := SS.wp G33 (fun _ _ => none) (by rw [show loopsIn 0 body_leqOpS_0 = [] by kernel_rfl]; simp) S_leqOpS_0 0 [] (kepts [4] [(0, [])]) [] sp_leqOpS_0 rd_leqOpS_0 _ (fun d => R_leqOpS_0 d.1.1 d.1.2.1 d.1.2.2.2.2.2.1)
noncomputable def leqOpS (a0 : List (Int × ByteArray × ByteArray)) (a1 : List (Int × ByteArray × ByteArray)) : Bool := (cond (((a0.length : Nat) : Int) != ((a1.length : Nat) : Int)) false (cond (allF (f_leqOpS_0 a0 a1) (a0.length - (0 : Int).toNat) (0 : Int).toNat) true false))
noncomputable abbrev e_leqOpS (r : Bool) : AV × List AObj := ((.t true .bool r), [])
noncomputable abbrev g_leqOpS : pshsDen P_leqOpS → AV × List AObj := fun d => e_leqOpS (leqOpS d.1 d.2.1)
noncomputable def q_leqOpS (a0 : List (Int × ByteArray × ByteArray)) (a1 : List (Int × ByteArray × ByteArray)) : Bool := okL a0
noncomputable abbrev pre_leqOpS : pshsDen P_leqOpS → Bool := fun d => q_leqOpS d.1 d.2.1
theorem runA_leqOpS (a0 : List (Int × ByteArray × ByteArray)) (a1 : List (Int × ByteArray × ByteArray)) (hp : (okL a0) = true) : runP true Try.prog tt S33 QF33 (fun b => match b with | 0 => say_leqOpS_0 | _ => fun _ => none) Try.f48 (argsMk P_leqOpS (a0, (a1, ()))) = some (g_leqOpS (a0, (a1, ()))) := by
  refine Eq.trans (b := (cond (((a0.length : Nat) : Int) != ((a1.length : Nat) : Int)) (some (e_leqOpS false)) (cond (decide (0 ≤ (0 : Int)) && (decide (a0.length = a1.length) && okL a0)) (cond (allF (f_leqOpS_0 a0 a1) (a0.length - (0 : Int).toNat) (0 : Int).toNat) (some (e_leqOpS true)) (some (e_leqOpS false))) none))) (by kernel_rfl) ?_
  exact (cnd (F := fun r => some (e_leqOpS r)) (fun _h => rfl) (fun _h => (cndT (by simp only [okL, Bool.and_eq_true, decide_eq_true_eq] at hp ⊢; simp at _h; exact ⟨Int.le_refl 0, by omega, hp⟩) (fun _h => (cnd (F := fun r => some (e_leqOpS r)) (fun _h => rfl) (fun _h => rfl))))))
theorem run_leqOpS : ∀ d, pre_leqOpS d = true → runP true Try.prog tt S33 QF33 (fun b => match b with | 0 => say_leqOpS_0 | _ => fun _ => none) Try.f48 (argsMk P_leqOpS d) = some (g_leqOpS d) := fun d hp => runA_leqOpS d.1 d.2.1 hp
theorem c_leqOpS : PContract Try.prog 48 (sumOf P_leqOpS pre_leqOpS g_leqOpS) := PContract.of_data true G33 (fn := Try.f48) (by kernel_rfl) (L := fun b => match b with | 0 => say_leqOpS_0 | _ => fun _ => none) (by rw [show loopsIn 0 (bodyOf Try.f48) = [(0, body_leqOpS_0)] by kernel_rfl]; intro p hp; simp only [List.mem_singleton] at hp; subst hp; exact lw_leqOpS_0) P_leqOpS pre_leqOpS g_leqOpS run_leqOpS
noncomputable def S34 : Tab := Tab.add S33 48 (lift (sumOf P_leqOpS pre_leqOpS g_leqOpS))
noncomputable def QF34 : FuncId → Bool := qadd QF33 48
theorem G34 : Good Try.prog tt S34 QF34 := G33.addQ c_leqOpS ⟨Try.f48, by kernel_rfl, by kernel_rfl, by kernel_rfl⟩ (fun _ => rfl)

/-! 24 loop.example/g00244/laws.eqWord -/
noncomputable abbrev P_leqWord : List PSh := [.agg [(.int .i64), (.int .i64), (.int .i64), (.sl (.pair (.int .i64) (.pair .str .str))), .bool], .agg [(.int .i64), (.int .i64), (.int .i64), (.sl (.pair (.int .i64) (.pair .str .str))), .bool]]
noncomputable def leqWord (a0 : Int) (a1 : Int) (a2 : Int) (a3 : List (Int × ByteArray × ByteArray)) (a4 : Bool) (a5 : Int) (a6 : Int) (a7 : Int) (a8 : List (Int × ByteArray × ByteArray)) (a9 : Bool) : Bool := (cond (a0 != a5) false (cond (a1 != a6) false (cond (a2 != a7) false (cond (!(leqOpS a3 a8)) false (cond (!(a4 == a9)) false true)))))
noncomputable abbrev e_leqWord (r : Bool) : AV × List AObj := ((.t true .bool r), [])
noncomputable abbrev g_leqWord : pshsDen P_leqWord → AV × List AObj := fun d => e_leqWord (leqWord d.1.1 d.1.2.1 d.1.2.2.1 d.1.2.2.2.1 d.1.2.2.2.2.1 d.2.1.1 d.2.1.2.1 d.2.1.2.2.1 d.2.1.2.2.2.1 d.2.1.2.2.2.2.1)
noncomputable def q_leqWord (a0 : Int) (a1 : Int) (a2 : Int) (a3 : List (Int × ByteArray × ByteArray)) (a4 : Bool) (a5 : Int) (a6 : Int) (a7 : Int) (a8 : List (Int × ByteArray × ByteArray)) (a9 : Bool) : Bool := okL a3
noncomputable abbrev pre_leqWord : pshsDen P_leqWord → Bool := fun d => q_leqWord d.1.1 d.1.2.1 d.1.2.2.1 d.1.2.2.2.1 d.1.2.2.2.2.1 d.2.1.1 d.2.1.2.1 d.2.1.2.2.1 d.2.1.2.2.2.1 d.2.1.2.2.2.2.1
theorem runA_leqWord (a0 : Int) (a1 : Int) (a2 : Int) (a3 : List (Int × ByteArray × ByteArray)) (a4 : Bool) (a5 : Int) (a6 : Int) (a7 : Int) (a8 : List (Int × ByteArray × ByteArray)) (a9 : Bool) (hp : (okL a3) = true) : runP true Try.prog tt S34 QF34 (fun _ _ => none) Try.f24 (argsMk P_leqWord ((a0, (a1, (a2, (a3, (a4, ()))))), ((a5, (a6, (a7, (a8, (a9, ()))))), ()))) = some (g_leqWord ((a0, (a1, (a2, (a3, (a4, ()))))), ((a5, (a6, (a7, (a8, (a9, ()))))), ()))) := by
  refine Eq.trans (b := (cond (a0 != a5) (some (e_leqWord false)) (cond (a1 != a6) (some (e_leqWord false)) (cond (a2 != a7) (some (e_leqWord false)) (cond (q_leqOpS a3 a8) (cond (!(leqOpS a3 a8)) (some (e_leqWord false)) (cond (!(a4 == a9)) (some (e_leqWord false)) (some (e_leqWord true)))) none))))) (by kernel_rfl) ?_
  exact (cnd (F := fun r => some (e_leqWord r)) (fun _h => rfl) (fun _h => (cnd (F := fun r => some (e_leqWord r)) (fun _h => rfl) (fun _h => (cnd (F := fun r => some (e_leqWord r)) (fun _h => rfl) (fun _h => (cndT (by first | rfl | decide | exact hp | (simp only [Bool.and_eq_true] at hp; simp only [hp]; done) | (simp [*]; done) | (simp [okL] at hp; simp [okL, MAXB]; omega) | (simp_all; done) | (simp at *; omega)) (fun _h => (cnd (F := fun r => some (e_leqWord r)) (fun _h => rfl) (fun _h => (cnd (F := fun r => some (e_leqWord r)) (fun _h => rfl) (fun _h => rfl))))))))))))
theorem run_leqWord : ∀ d, pre_leqWord d = true → runP true Try.prog tt S34 QF34 (fun _ _ => none) Try.f24 (argsMk P_leqWord d) = some (g_leqWord d) := fun d hp => runA_leqWord d.1.1 d.1.2.1 d.1.2.2.1 d.1.2.2.2.1 d.1.2.2.2.2.1 d.2.1.1 d.2.1.2.1 d.2.1.2.2.1 d.2.1.2.2.2.1 d.2.1.2.2.2.2.1 hp
theorem c_leqWord : PContract Try.prog 24 (sumOf P_leqWord pre_leqWord g_leqWord) := PContract.of_data true G34 (fn := Try.f24) (by kernel_rfl) (L := fun _ _ => none) (by rw [show loopsIn 0 (bodyOf Try.f24) = [] by kernel_rfl]; simp) P_leqWord pre_leqWord g_leqWord run_leqWord
noncomputable def S35 : Tab := Tab.add S34 24 (lift (sumOf P_leqWord pre_leqWord g_leqWord))
noncomputable def QF35 : FuncId → Bool := qadd QF34 24
theorem G35 : Good Try.prog tt S35 QF35 := G34.addQ c_leqWord ⟨Try.f24, by kernel_rfl, by kernel_rfl, by kernel_rfl⟩ (fun _ => rfl)

/-! 37 loop.example/g00244/laws.eqByteS -/

noncomputable def f_leqByteS_0 (x0 x1 : List Int) (i : Nat) : Bool := !((x0.getD i (0 : Int)) != (x1.getD i (0 : Int)))
noncomputable abbrev P_leqByteS : List PSh := [.t (.sl (.int .u8)), .t (.sl (.int .u8))]
noncomputable abbrev S_leqByteS_0 : SS := ⟨[.t false (.sl (.int .u8)), .t false (.sl (.int .u8)), .junk, .junk, .junk, .t true (.int .i64), .junk, .junk, .junk, .junk, .junk, .junk, .junk, .junk, .junk, .junk, .junk, .junk, .junk, .junk, .junk, .junk, .junk, .junk, .junk, .junk], []⟩
noncomputable abbrev E_leqByteS_0_0 : SS := ⟨[.junk, .junk, .junk, .junk, .t true .bool, .junk, .junk, .junk, .junk, .junk, .junk, .junk, .junk, .junk, .junk, .junk, .junk, .junk, .junk, .junk, .junk, .junk, .junk, .junk, .junk, .junk], []⟩
noncomputable abbrev E_leqByteS_0_1 : SS := ⟨[.junk, .junk, .junk, .junk, .junk, .junk, .junk, .junk, .junk, .junk, .junk, .junk, .junk, .junk, .junk, .junk, .junk, .junk, .junk, .junk, .junk, .junk, .junk, .junk, .junk, .junk], []⟩
noncomputable def st_leqByteS_0 (x0 : List Int) (x1 : List Int) (x5 : Int) : RT S_leqByteS_0.den := (.br (decide (x5 < ((x0.length : Nat) : Int))) (.br (decide (0 ≤ x5 ∧ x5 < ((x0.length : Nat) : Int))) (.br (decide (0 ≤ x5 ∧ x5 < ((x1.length : Nat) : Int))) (.br ((x0.getD x5.toNat (0 : Int)) != (x1.getD x5.toNat (0 : Int))) (.done .ret E_leqByteS_0_0 (((), (), (), (), false, (), (), (), (), (), (), (), (), (), (), (), (), (), (), (), (), (), (), (), (), (), ()), ())) (.next ((x0, x1, (), (), (), IntKind.wrap .i64 (x5 + (1 : Int)), (), (), (), (), (), (), (), (), (), (), (), (), (), (), (), (), (), (), (), (), ()), ()))) .fail) .fail) (.done (.exit 0) E_leqByteS_0_1 (((), (), (), (), (), (), (), (), (), (), (), (), (), (), (), (), (), (), (), (), (), (), (), (), (), (), ()), ())))
noncomputable def T_leqByteS_0 (x0 : List Int) (x1 : List Int) (x5 : Int) : CT := (.br (decide (0 ≤ x5) && (decide (x0.length = x1.length) && okL x0)) (.br (allF (f_leqByteS_0 x0 x1) (x0.length - x5.toNat) x5.toNat) (.done (.exit 0) E_leqByteS_0_1 (((), (), (), (), (), (), (), (), (), (), (), (), (), (), (), (), (), (), (), (), (), (), (), (), (), (), ()), ())) (.done .ret E_leqByteS_0_0 (((), (), (), (), false, (), (), (), (), (), (), (), (), (), (), (), (), (), (), (), (), (), (), (), (), (), ()), ()))) .fail)
noncomputable abbrev sp_leqByteS_0 : S_leqByteS_0.den → RT S_leqByteS_0.den := fun d => st_leqByteS_0 d.1.1 d.1.2.1 d.1.2.2.2.2.2.1
noncomputable abbrev pk_leqByteS_0 (x0 : List Int) (x1 : List Int) (x5 : Int) : S_leqByteS_0.den := ((x0, x1, (), (), (), x5, (), (), (), (), (), (), (), (), (), (), (), (), (), (), (), (), (), (), (), (), ()), ())
noncomputable def body_leqByteS_0 : Code := ((loopsIn 0 (bodyOf Try.f37)).getD 0 (0, .skip)).2
theorem R_leqByteS_0 (x0 : List Int) (x1 : List Int) (x5 : Int) : (T_leqByteS_0 x0 x1 x5).val (D := S_leqByteS_0.den) = .fail ∨ Runs sp_leqByteS_0 (pk_leqByteS_0 x0 x1 x5) (T_leqByteS_0 x0 x1 x5).val := by
  cases hc : (decide (0 ≤ x5) && (decide (x0.length = x1.length) && okL x0)) with
  | false => left; simp only [T_leqByteS_0, CT.val, hc, cond_false]
  | true =>
    right
    simp only [T_leqByteS_0, CT.val, hc, cond_true]
    simp only [Bool.and_eq_true, decide_eq_true_eq] at hc
    obtain ⟨i, rfl⟩ := Int.eq_ofNat_of_zero_le hc.1
    have hs := okL_le hc.2.2
    simp only [Int.toNat_natCast]
    refine Runs.scan (fun j => pk_leqByteS_0 x0 x1 (j : Int)) (x0.length) (f_leqByteS_0 x0 x1) (fun i hi => ?_) (fun i hi => ?_) ⟨_, _, _, rfl, by simp⟩ ⟨_, _, _, rfl, by simp⟩ _ _ rfl
    · 
      have h0a : decide ((i : Int) < ((x0.length : Nat) : Int)) = true := decide_eq_true (by omega)
      have h0b : decide (0 ≤ (i : Int) ∧ (i : Int) < ((x0.length : Nat) : Int)) = true := decide_eq_true (by omega)
      simp only [sp_leqByteS_0, st_leqByteS_0, RT.val, h0a, h0b, cond_true, wrapS i (by omega), Int.toNat_natCast]
      have h9 : decide (0 ≤ (i : Int) ∧ (i : Int) < ((x1.length : Nat) : Int)) = true := decide_eq_true (by omega)
      simp only [h9, cond_true]
      simp only [f_leqByteS_0]
      generalize ((x0.getD i (0 : Int)) != (x1.getD i (0 : Int))) = c
      cases c <;> rfl
    · have h1 : decide ((i : Int) < ((x0.length : Nat) : Int)) = false := decide_eq_false (by omega)
      simp only [sp_leqByteS_0, st_leqByteS_0, RT.val, h1, cond_false]
theorem rd_leqByteS_0 : ∀ d, execC Try.prog tt S35 QF35 (fun _ _ => none) 0 body_leqByteS_0 (S_leqByteS_0.st d 0 []) (fun e s' => some (e, S_leqByteS_0.cutE (kepts [4] [(0, [])]) e s')) = (sp_leqByteS_0 d).opt 0 [] := by
  intro d
  kernel_rfl
noncomputable abbrev say_leqByteS_0 : St → Option Tree := S_leqByteS_0.say 0 [] [] (fun d => T_leqByteS_0 d.1.1 d.1.2.1 d.1.2.2.2.2.2.1)
theorem lw_leqByteS_0 : LoopWp Try.prog say_leqByteS_0 body_leqByteS_0 := SS.wp G35 (fun _ _ => none) (by rw [show loopsIn 0 body_leqByteS_0 = [] by kernel_rfl]; simp) S_leqByteS_0 0 [] (kepts [4] [(0, [])]) [] sp_leqByteS_0 rd_leqByteS_0 _ (fun d => R_leqByteS_0 d.1.1 d.1.2.1 d.1.2.2.2.2.2.1)
noncomputable def leqByteS (a0 : List Int) (a1 : List Int) : Bool := (cond (((a0.length : Nat) : Int) != ((a1.length : Nat) : Int)) false (cond (allF (f_leqByteS_0 a0 a1) (a0.length - (0 : Int).toNat) (0 : Int).toNat) true false))
noncomputable abbrev e_leqByteS (r : Bool) : AV × List AObj := ((.t true .bool r), [])
noncomputable abbrev g_leqByteS : pshsDen P_leqByteS → AV × List AObj := fun d => e_leqByteS (leqByteS d.1 d.2.1)
noncomputable def q_leqByteS (a0 : List Int) (a1 : List Int) : Bool := okL a0
noncomputable abbrev pre_leqByteS : pshsDen P_leqByteS → Bool := fun d => q_leqByteS d.1 d.2.1
theorem runA_leqByteS (a0 : List Int) (a1 : List Int) (hp : (okL a0) = true) : runP true Try.prog tt S35 QF35 (fun b => match b with | 0 => say_leqByteS_0 | _ => fun _ => none) Try.f37 (argsMk P_leqByteS (a0, (a1, ()))) = some (g_leqByteS (a0, (a1, ()))) := by
  refine Eq.trans (b := (cond (((a0.length : Nat) : Int) != ((a1.length : Nat) : Int)) (some (e_leqByteS false)) (cond (decide (0 ≤ (0 : Int)) && (decide (a0.length = a1.length) && okL a0)) (cond (allF (f_leqByteS_0 a0 a1) (a0.length - (0 : Int).toNat) (0 : Int).toNat) (some (e_leqByteS true)) (some (e_leqByteS false))) none))) (by kernel_rfl) ?_
  exact (cnd (F := fun r => some (e_leqByteS r)) (fun _h => rfl) (fun _h => (cndT (by simp only [okL, Bool.and_eq_true, decide_eq_true_eq] at hp ⊢; simp at _h; exact ⟨Int.le_refl 0, by omega, hp⟩) (fun _h => (cnd (F := fun r => some (e_leqByteS r)) (fun _h => rfl) (fun _h => rfl))))))
theorem run_leqByteS : ∀ d, pre_leqByteS d = true → runP true Try.prog tt S35 QF35 (fun b => match b with | 0 => say_leqByteS_0 | _ => fun _ => none) Try.f37 (argsMk P_leqByteS d) = some (g_leqByteS d) := fun d hp => runA_leqByteS d.1 d.2.1 hp
theorem c_leqByteS : PContract Try.prog 37 (sumOf P_leqByteS pre_leqByteS g_leqByteS) := PContract.of_data true G35 (fn := Try.f37) (by kernel_rfl) (L := fun b => match b with | 0 => say_leqByteS_0 | _ => fun _ => none) (by rw [show loopsIn 0 (bodyOf Try.f37) = [(0, body_leqByteS_0)] by kernel_rfl]; intro p hp; simp only [List.mem_singleton] at hp; subst hp; exact lw_leqByteS_0) P_leqByteS pre_leqByteS g_leqByteS run_leqByteS
noncomputable def S36 : Tab := Tab.add S35 37 (lift (sumOf P_leqByteS pre_leqByteS g_leqByteS))
noncomputable def QF36 : FuncId → Bool := qadd QF35 37
theorem G36 : Good Try.prog tt S36 QF36 := G35.addQ c_leqByteS ⟨Try.f37, by kernel_rfl, by kernel_rfl, by kernel_rfl⟩ (fun _ => rfl)

/-! 39 loop.example/g00244/laws.markByteS -/

noncomputable def f_lmarkByteS_0 (i : Nat) (b : Int × List Int) : Int × List Int := (IntKind.wrap .i64 (b.1 + (1 : Int)), b.2.set i (IntKind.wrap .u8 b.1))
noncomputable abbrev SM_lmarkByteS : SS := ⟨[.all 0 1, .t true (.int .i64)], [.rows 5 true (.int .u8)]⟩
noncomputable abbrev S_lmarkByteS_0 : SS := ⟨[.all 0 1, .t true (.int .i64), .junk, .junk, .junk, .t true (.int .i64), .junk, .junk, .junk, .junk, .junk, .junk, .junk, .junk, .junk, .junk, .junk, .junk, .junk, .junk], [.rows 5 true (.int .u8)]⟩
noncomputable abbrev E_lmarkByteS_0_0 : SS := ⟨[.junk, .t true (.int .i64), .junk, .junk, .junk, .junk, .junk, .junk, .junk, .junk, .junk, .junk, .junk, .junk, .junk, .junk, .junk, .junk, .junk, .junk], [.rows 5 true (.int .u8)]⟩
noncomputable def st_lmarkByteS_0 (x1 : Int) (x5 : Int) (h0 : List Int) : RT S_lmarkByteS_0.den := (.br (decide (x5 < ((h0.length : Nat) : Int))) (.br (decide (0 ≤ x5 ∧ x5 < ((h0.length : Nat) : Int))) (.next (((), IntKind.wrap .i64 (x1 + (1 : Int)), (), (), (), IntKind.wrap .i64 (x5 + (1 : Int)), (), (), (), (), (), (), (), (), (), (), (), (), (), (), ()), (h0.set x5.toNat (IntKind.wrap .u8 x1), ()))) .fail) (.done (.exit 0) E_lmarkByteS_0_0 (((), x1, (), (), (), (), (), (), (), (), (), (), (), (), (), (), (), (), (), (), ()), (h0, ()))))
noncomputable def T_lmarkByteS_0 (x1 : Int) (x5 : Int) (h0 : List Int) : CT := (.br (decide (0 ≤ x5) && (decide (0 ≤ x1 ∧ x1 ≤ 100000 * (x5 + 1)) && okL h0)) (.done (.exit 0) E_lmarkByteS_0_0 (((), ((foldN f_lmarkByteS_0 (h0.length - x5.toNat) x5.toNat (x1, h0)).1), (), (), (), (), (), (), (), (), (), (), (), (), (), (), (), (), (), (), ()), (((foldN f_lmarkByteS_0 (h0.length - x5.toNat) x5.toNat (x1, h0)).2), ()))) .fail)
noncomputable abbrev sp_lmarkByteS_0 : S_lmarkByteS_0.den → RT S_lmarkByteS_0.den := fun d => st_lmarkByteS_0 d.1.2.1 d.1.2.2.2.2.2.1 d.2.1
noncomputable abbrev pk_lmarkByteS_0 (x1 : Int) (x5 : Int) (h0 : List Int) : S_lmarkByteS_0.den := (((), x1, (), (), (), x5, (), (), (), (), (), (), (), (), (), (), (), (), (), (), ()), (h0, ()))
noncomputable def body_lmarkByteS_0 : Code := ((loopsIn 0 (bodyOf Try.f39)).getD 0 (0, .skip)).2
theorem R_lmarkByteS_0 (x1 : Int) (x5 : Int) (h0 : List Int) : (T_lmarkByteS_0 x1 x5 h0).val (D := S_lmarkByteS_0.den) = .fail ∨ Runs sp_lmarkByteS_0 (pk_lmarkByteS_0 x1 x5 h0) (T_lmarkByteS_0 x1 x5 h0).val := by
  cases hc : (decide (0 ≤ x5) && (decide (0 ≤ x1 ∧ x1 ≤ 100000 * (x5 + 1)) && okL h0)) with
  | false => left; simp only [T_lmarkByteS_0, CT.val, hc, cond_false]
  | true =>
    right
    simp only [T_lmarkByteS_0, CT.val, hc, cond_true]
    simp only [Bool.and_eq_true, decide_eq_true_eq] at hc
    obtain ⟨i, rfl⟩ := Int.eq_ofNat_of_zero_le hc.1
    have hs := okL_le hc.2.2
    have hk := hc.2.1
    simp only [Int.toNat_natCast]
    refine Runs.foldN (step := sp_lmarkByteS_0) (fun j b => pk_lmarkByteS_0 b.1 (j : Int) b.2) (fun i b => (0 ≤ b.1 ∧ b.1 ≤ 100000 * ((i : Int) + 1)) ∧ b.2.length = h0.length) (h0.length) f_lmarkByteS_0
      (fin := fun b => ((.done (.exit 0) E_lmarkByteS_0_0 (((), b.1, (), (), (), (), (), (), (), (), (), (), (), (), (), (), (), (), (), (), ()), (b.2, ()))) : CT).val) (fun i b hi hb => ?_) (fun i b hi hb => ?_) (h0.length - i) i (x1, h0) rfl ⟨hk, rfl⟩
    · obtain ⟨k, h⟩ := b
      obtain ⟨hb1, hb2⟩ := hb
      simp only at hb1 hb2
      have w1 : IntKind.wrap .i64 (k + (1 : Int)) = k + (1 : Int) := wrap64 (by omega) (by omega)
      have e0 : (decide (0 ≤ (i : Int) ∧ (i : Int) < ((h.length : Nat) : Int))) = true := decide_eq_true (by (try simp only [List.length_set]); omega)
      have h1 : decide ((i : Int) < ((h.length : Nat) : Int)) = true := decide_eq_true (by omega)
      have v1 : (f_lmarkByteS_0 i (k, h)).1 = k + (1 : Int) := by simp only [f_lmarkByteS_0, w1]
      have v2 : (f_lmarkByteS_0 i (k, h)).2.length = h.length := by simp only [f_lmarkByteS_0, List.length_set]
      refine ⟨⟨by rw [v1]; omega, by rw [v2]; exact hb2⟩, ?_⟩
      simp only [sp_lmarkByteS_0, st_lmarkByteS_0, RT.val, h1, e0, cond_true, wrapS i (by omega), Int.toNat_natCast]
      rfl
    · have h1 : decide ((i : Int) < ((b.2.length : Nat) : Int)) = false := decide_eq_false (by omega)
      exact ⟨by simp only [sp_lmarkByteS_0, st_lmarkByteS_0, RT.val, h1, cond_false]; rfl, _, _, _, rfl, by simp⟩
theorem rd_lmarkByteS_0 : ∀ d, execC Try.prog tt S36 QF36 (fun _ _ => none) 0 body_lmarkByteS_0 (S_lmarkByteS_0.st d 1 []) (fun e s' => some (e, S_lmarkByteS_0.cutE (kepts [] [(0, [1])]) e s')) = (sp_lmarkByteS_0 d).opt 1 [] := by
  intro d
  kernel_rfl
noncomputable abbrev say_lmarkByteS_0 : St → Option Tree := S_lmarkByteS_0.say 1 [] [] (fun d => T_lmarkByteS_0 d.1.2.1 d.1.2.2.2.2.2.1 d.2.1)
theorem lw_lmarkByteS_0 : LoopWp Try.prog say_lmarkByteS_0 body_lmarkByteS_0 := SS.wp G36 (fun _ _ => none) (by rw [show loopsIn 0 body_lmarkByteS_0 = [] by kernel_rfl]; simp) S_lmarkByteS_0 1 [] (kepts [] [(0, [1])]) [] sp_lmarkByteS_0 rd_lmarkByteS_0 _ (fun d => R_lmarkByteS_0 d.1.2.1 d.1.2.2.2.2.2.1 d.2.1)
noncomputable def lmarkByteS (x1 : Int) (h0 : List Int) : Int × List Int := (((foldN f_lmarkByteS_0 (h0.length - (0 : Int).toNat) (0 : Int).toNat (x1, h0)).1), ((foldN f_lmarkByteS_0 (h0.length - (0 : Int).toNat) (0 : Int).toNat (x1, h0)).2))
noncomputable abbrev e_lmarkByteS (r : Int × List Int) : AV × List AObj × List Nat := ((.t true (.int .i64) r.1), [(.rows 5 true (.int .u8) r.2)], [])
noncomputable abbrev g_lmarkByteS : SM_lmarkByteS.den → AV × List AObj × List Nat := fun d => e_lmarkByteS (lmarkByteS d.1.2.1 d.2.1)
noncomputable def q_lmarkByteS (x1 : Int) (h0 : List Int) : Bool := okL h0 && decide (0 ≤ x1 ∧ x1 ≤ 100000)
noncomputable abbrev pre_lmarkByteS : SM_lmarkByteS.den → Bool := fun d => q_lmarkByteS d.1.2.1 d.2.1
theorem runA_lmarkByteS (x1 : Int) (h0 : List Int) (hp : (okL h0 && decide (0 ≤ x1 ∧ x1 ≤ 100000)) = true) : runM Try.prog tt S36 QF36 (fun b => match b with | 0 => say_lmarkByteS_0 | _ => fun _ => none) Try.f39 (shsMk SM_lmarkByteS.sl ((((), x1, ()), (h0, ())) : SM_lmarkByteS.den).1) (ohsMk SM_lmarkByteS.hp ((((), x1, ()), (h0, ())) : SM_lmarkByteS.den).2) = some (g_lmarkByteS (((), x1, ()), (h0, ()))) := by
  refine Eq.trans (b := (cond (decide (0 ≤ (0 : Int)) && (decide (0 ≤ x1 ∧ x1 ≤ 100000 * ((0 : Int) + 1)) && okL h0)) (some (e_lmarkByteS (((foldN f_lmarkByteS_0 (h0.length - (0 : Int).toNat) (0 : Int).toNat (x1, h0)).1), ((foldN f_lmarkByteS_0 (h0.length - (0 : Int).toNat) (0 : Int).toNat (x1, h0)).2)))) none)) (by kernel_rfl) ?_
  exact (cndT (by first | rfl | decide | exact hp | (simp only [Bool.and_eq_true] at hp; simp only [hp]; done) | (simp [*]; done) | (simp [okL] at hp; simp [okL, MAXB]; omega) | (simp_all; done) | (simp at *; omega)) (fun _h => rfl))
theorem run_lmarkByteS : ∀ d : SM_lmarkByteS.den, pre_lmarkByteS d = true → runM Try.prog tt S36 QF36 (fun b => match b with | 0 => say_lmarkByteS_0 | _ => fun _ => none) Try.f39 (shsMk SM_lmarkByteS.sl (d : SM_lmarkByteS.den).1) (ohsMk SM_lmarkByteS.hp (d : SM_lmarkByteS.den).2) = some (g_lmarkByteS d) := fun d hp => runA_lmarkByteS d.1.2.1 d.2.1 hp
theorem c_lmarkByteS : MContract Try.prog 39 (win winIds (msum SM_lmarkByteS pre_lmarkByteS g_lmarkByteS)) := (MContract.of_data G36 (fn := Try.f39) (by kernel_rfl) (L := fun b => match b with | 0 => say_lmarkByteS_0 | _ => fun _ => none) (by rw [show loopsIn 0 (bodyOf Try.f39) = [(0, body_lmarkByteS_0)] by kernel_rfl]; intro p hp; simp only [List.mem_singleton] at hp; subst hp; exact lw_lmarkByteS_0) SM_lmarkByteS pre_lmarkByteS g_lmarkByteS run_lmarkByteS).win winIds
noncomputable def S37 : Tab := Tab.add S36 39 (win winIds (msum SM_lmarkByteS pre_lmarkByteS g_lmarkByteS))
noncomputable def QF37 : FuncId → Bool := QF36
theorem G37 : Good Try.prog tt S37 QF37 := G36.addM c_lmarkByteS (win_local _) ⟨Try.f39, by kernel_rfl, by kernel_rfl, by kernel_rfl⟩ (by kernel_rfl)

/-! 112 loop.example/g00244/laws.markText -/
noncomputable abbrev P_lmarkText : List PSh := [.t (.int .i64)]
noncomputable abbrev S_lmarkText_0 : SS := ⟨[.t true (.int .i64), .junk, .junk, .t true .str, .junk, .junk, .junk, .junk, .junk, .junk, .junk, .junk, .junk, .junk, .junk, .junk, .junk, .junk, .junk, .junk], []⟩
noncomputable abbrev E_lmarkText_0_0 : SS := ⟨[.junk, .junk, .junk, .t true .str, .junk, .junk, .junk, .junk, .junk, .junk, .junk, .junk, .junk, .junk, .junk, .junk, .junk, .junk, .junk, .junk], []⟩
noncomputable def st_lmarkText_0 (x0 : Int) (x3 : ByteArray) : RT S_lmarkText_0.den := (.br (decide (x0 > (0 : Int))) (.br (decide ((((⟨([IntKind.wrap .u8 (IntKind.wrap .i64 ((48 : Int) + (Int.tmod x0 (10 : Int))))].map fun n => UInt8.ofNat n.toNat).toArray⟩ : ByteArray).size + x3.size : Nat) : Int) ≤ IntKind.i64.max)) (.next ((IntKind.wrap .i64 (Int.tdiv x0 (10 : Int)), (), (), (⟨([IntKind.wrap .u8 (IntKind.wrap .i64 ((48 : Int) + (Int.tmod x0 (10 : Int))))].map fun n => UInt8.ofNat n.toNat).toArray⟩ : ByteArray) ++ x3, (), (), (), (), (), (), (), (), (), (), (), (), (), (), (), (), ()), ())) .fail) (.done (.exit 0) E_lmarkText_0_0 (((), (), (), x3, (), (), (), (), (), (), (), (), (), (), (), (), (), (), (), (), ()), ())))
noncomputable def T_lmarkText_0 (x0 : Int) (x3 : ByteArray) : CT := (.br (decide (x0 ≤ 1000000000000) && decide (x3.size ≤ 1000)) (.done (.exit 0) E_lmarkText_0_0 (((), (), (), (txtN 13 x0 x3), (), (), (), (), (), (), (), (), (), (), (), (), (), (), (), (), ()), ())) .fail)
noncomputable abbrev sp_lmarkText_0 : S_lmarkText_0.den → RT S_lmarkText_0.den := fun d => st_lmarkText_0 d.1.1 d.1.2.2.2.1
noncomputable abbrev pk_lmarkText_0 (x0 : Int) (x3 : ByteArray) : S_lmarkText_0.den := ((x0, (), (), x3, (), (), (), (), (), (), (), (), (), (), (), (), (), (), (), (), ()), ())
noncomputable def body_lmarkText_0 : Code := ((loopsIn 0 (bodyOf Try.f112)).getD 0 (0, .skip)).2
theorem R_lmarkText_0 (x0 : Int) (x3 : ByteArray) : (T_lmarkText_0 x0 x3).val (D := S_lmarkText_0.den) = .fail ∨ Runs sp_lmarkText_0 (pk_lmarkText_0 x0 x3) (T_lmarkText_0 x0 x3).val := by
  cases hc : (decide (x0 ≤ 1000000000000) && decide (x3.size ≤ 1000)) with
  | false => left; simp only [T_lmarkText_0, CT.val, hc, cond_false]
  | true =>
    right
    simp only [T_lmarkText_0, CT.val, hc, cond_true]
    simp only [Bool.and_eq_true, decide_eq_true_eq] at hc
    have key : ∀ (k : Nat) (x : Int) (s : ByteArray), x < 10 ^ k → x ≤ 1000000000000 → s.size + k ≤ 2000 → Runs sp_lmarkText_0 (pk_lmarkText_0 x s) (((.done (.exit 0) E_lmarkText_0_0 (((), (), (), (txtN k x s), (), (), (), (), (), (), (), (), (), (), (), (), (), (), (), (), ()), ())) : CT).val (D := S_lmarkText_0.den)) := by
      intro k
      induction k with
      | zero =>
        intro x s h1 h2 h3
        rw [show (10 : Int) ^ 0 = 1 from rfl] at h1
        have e1 : decide (x > (0 : Int)) = false := decide_eq_false (by omega)
        refine .done (by simp) ?_
        simp only [sp_lmarkText_0, st_lmarkText_0, RT.val, e1, cond_false, txtN]
      | succ k ih =>
        intro x s h1 h2 h3
        rw [Int.pow_succ] at h1
        by_cases hx : x > 0
        · have e1 : decide (x > (0 : Int)) = true := decide_eq_true hx
          have e2 : decide ((((digB x).size + s.size : Nat) : Int) ≤ IntKind.i64.max) = true := decide_eq_true (by rw [digB_size, show IntKind.i64.max = 9223372036854775807 from rfl]; omega)
          have e4 : Int.tdiv x (10 : Int) = x / 10 := Int.tdiv_eq_ediv_of_nonneg (by omega)
          have e5 : IntKind.wrap .i64 (Int.tdiv x (10 : Int)) = x / 10 := by rw [e4]; exact wrap64 (by omega) (by omega)
          have := ih (IntKind.wrap .i64 (Int.tdiv x (10 : Int))) (digB x ++ s) (by rw [e5]; omega) (by rw [e5]; omega) (by rw [ByteArray.size_append, digB_size]; omega)
          refine .next (d' := pk_lmarkText_0 (IntKind.wrap .i64 (Int.tdiv x (10 : Int))) (digB x ++ s)) ?_ ?_
          · have e6 : (sp_lmarkText_0 (pk_lmarkText_0 x s)).val = cond (decide ((((digB x).size + s.size : Nat) : Int) ≤ IntKind.i64.max)) (.next (pk_lmarkText_0 (IntKind.wrap .i64 (Int.tdiv x (10 : Int))) (digB x ++ s))) .fail := by
              simp only [sp_lmarkText_0, st_lmarkText_0, RT.val, e1, cond_true]; rfl
            rw [e6, e2]; rfl
          · have e3 : txtN (k + 1) x s = txtN k (IntKind.wrap .i64 (Int.tdiv x (10 : Int))) (digB x ++ s) := by simp only [txtN, e1, cond_true]
            rw [e3]
            exact this
        · have e1 : decide (x > (0 : Int)) = false := decide_eq_false hx
          refine .done (by simp) ?_
          simp only [sp_lmarkText_0, st_lmarkText_0, RT.val, e1, cond_false, txtN]
    exact key 13 x0 x3 (by have := hc.1; rw [show (10 : Int) ^ 13 = 10000000000000 from rfl]; omega) hc.1 (by have := hc.2; omega)
theorem rd_lmarkText_0 : ∀ d, execC Try.prog tt S37 QF37 (fun _ _ => none) 0 body_lmarkText_0 (S_lmarkText_0.st d 0 []) (fun e s' => some (e, S_lmarkText_0.cutE (kepts [] [(0, [3])]) e s')) = (sp_lmarkText_0 d).opt 0 [] := by
  intro d
  kernel_rfl
noncomputable abbrev say_lmarkText_0 : St → Option Tree := S_lmarkText_0.say 0 [] [] (fun d => T_lmarkText_0 d.1.1 d.1.2.2.2.1)
theorem lw_lmarkText_0 : LoopWp Try.prog say_lmarkText_0 body_lmarkText_0 := SS.wp G37 (fun _ _ => none) (by rw [show loopsIn 0 body_lmarkText_0 = [] by kernel_rfl]; simp) S_lmarkText_0 0 [] (kepts [] [(0, [3])]) [] sp_lmarkText_0 rd_lmarkText_0 _ (fun d => R_lmarkText_0 d.1.1 d.1.2.2.2.1)
noncomputable def lmarkText (a0 : Int) : ByteArray := (cond (decide (a0 ≤ (0 : Int))) (⟨#[109, 48]⟩ : ByteArray) ((⟨#[109]⟩ : ByteArray) ++ (txtN 13 a0 (⟨#[]⟩ : ByteArray))))
noncomputable abbrev e_lmarkText (r : ByteArray) : AV × List AObj := ((.t true .str r), [])
noncomputable abbrev g_lmarkText : pshsDen P_lmarkText → AV × List AObj := fun d => e_lmarkText (lmarkText d.1)
noncomputable def q_lmarkText (a0 : Int) : Bool := decide (a0 ≤ 1000000000000)
noncomputable abbrev pre_lmarkText : pshsDen P_lmarkText → Bool := fun d => q_lmarkText d.1
theorem runA_lmarkText (a0 : Int) (hp : (decide (a0 ≤ 1000000000000)) = true) : runP true Try.prog tt S37 QF37 (fun b => match b with | 0 => say_lmarkText_0 | _ => fun _ => none) Try.f112 (argsMk P_lmarkText (a0, ())) = some (g_lmarkText (a0, ())) := by
  refine Eq.trans (b := (cond (decide (a0 ≤ (0 : Int))) (some (e_lmarkText (⟨#[109, 48]⟩ : ByteArray))) (cond (decide (a0 ≤ 1000000000000) && decide ((⟨#[]⟩ : ByteArray).size ≤ 1000)) (cond (decide ((((⟨#[109]⟩ : ByteArray).size + (txtN 13 a0 (⟨#[]⟩ : ByteArray)).size : Nat) : Int) ≤ IntKind.i64.max)) (some (e_lmarkText ((⟨#[109]⟩ : ByteArray) ++ (txtN 13 a0 (⟨#[]⟩ : ByteArray))))) none) none))) (by kernel_rfl) ?_
  exact (cnd (F := fun r => some (e_lmarkText r)) (fun _h => rfl) (fun _h => (cndT (by rw [hp]; rfl) (fun _h => (cndT (by have h1 := txtN_len 13 a0 (⟨#[]⟩ : ByteArray); rw [decide_eq_true_eq]; have h2 : ((⟨#[]⟩ : ByteArray)).size = 0 := rfl; have h3 : ((⟨#[109]⟩ : ByteArray)).size = 1 := rfl; rw [h2] at h1; rw [h3, show IntKind.i64.max = 9223372036854775807 from rfl]; omega) (fun _h => rfl))))))
theorem run_lmarkText : ∀ d, pre_lmarkText d = true → runP true Try.prog tt S37 QF37 (fun b => match b with | 0 => say_lmarkText_0 | _ => fun _ => none) Try.f112 (argsMk P_lmarkText d) = some (g_lmarkText d) := fun d hp => runA_lmarkText d.1 hp
theorem c_lmarkText : PContract Try.prog 112 (sumOf P_lmarkText pre_lmarkText g_lmarkText) := PContract.of_data true G37 (fn := Try.f112) (by kernel_rfl) (L := fun b => match b with | 0 => say_lmarkText_0 | _ => fun _ => none) (by rw [show loopsIn 0 (bodyOf Try.f112) = [(0, body_lmarkText_0)] by kernel_rfl]; intro p hp; simp only [List.mem_singleton] at hp; subst hp; exact lw_lmarkText_0) P_lmarkText pre_lmarkText g_lmarkText run_lmarkText
noncomputable def S38 : Tab := Tab.add S37 112 (lift (sumOf P_lmarkText pre_lmarkText g_lmarkText))
noncomputable def QF38 : FuncId → Bool := qadd QF37 112
theorem G38 : Good Try.prog tt S38 QF38 := G37.addQ c_lmarkText ⟨Try.f112, by kernel_rfl, by kernel_rfl, by kernel_rfl⟩ (fun _ => rfl)

/-! 50 loop.example/g00244/laws.markOpS -/

noncomputable def f_lmarkOpS_0 (i : Nat) (b : Int × List (Int × ByteArray × ByteArray)) : Int × List (Int × ByteArray × ByteArray) := (IntKind.wrap .i64 ((IntKind.wrap .i64 ((IntKind.wrap .i64 (b.1 + (1 : Int))) + (1 : Int))) + (1 : Int)), ((b.2.set i (b.1, (((b.2.getD i ((0 : Int), ((⟨#[]⟩ : ByteArray), (⟨#[]⟩ : ByteArray)))).2).1, ((b.2.getD i ((0 : Int), ((⟨#[]⟩ : ByteArray), (⟨#[]⟩ : ByteArray)))).2).2))).set i (((b.2.set i (b.1, (((b.2.getD i ((0 : Int), ((⟨#[]⟩ : ByteArray), (⟨#[]⟩ : ByteArray)))).2).1, ((b.2.getD i ((0 : Int), ((⟨#[]⟩ : ByteArray), (⟨#[]⟩ : ByteArray)))).2).2))).getD i ((0 : Int), ((⟨#[]⟩ : ByteArray), (⟨#[]⟩ : ByteArray)))).1, ((lmarkText (IntKind.wrap .i64 (b.1 + (1 : Int)))), (((b.2.set i (b.1, (((b.2.getD i ((0 : Int), ((⟨#[]⟩ : ByteArray), (⟨#[]⟩ : ByteArray)))).2).1, ((b.2.getD i ((0 : Int), ((⟨#[]⟩ : ByteArray), (⟨#[]⟩ : ByteArray)))).2).2))).getD i ((0 : Int), ((⟨#[]⟩ : ByteArray), (⟨#[]⟩ : ByteArray)))).2).2))).set i ((((b.2.set i (b.1, (((b.2.getD i ((0 : Int), ((⟨#[]⟩ : ByteArray), (⟨#[]⟩ : ByteArray)))).2).1, ((b.2.getD i ((0 : Int), ((⟨#[]⟩ : ByteArray), (⟨#[]⟩ : ByteArray)))).2).2))).set i (((b.2.set i (b.1, (((b.2.getD i ((0 : Int), ((⟨#[]⟩ : ByteArray), (⟨#[]⟩ : ByteArray)))).2).1, ((b.2.getD i ((0 : Int), ((⟨#[]⟩ : ByteArray), (⟨#[]⟩ : ByteArray)))).2).2))).getD i ((0 : Int), ((⟨#[]⟩ : ByteArray), (⟨#[]⟩ : ByteArray)))).1, ((lmarkText (IntKind.wrap .i64 (b.1 + (1 : Int)))), (((b.2.set i (b.1, (((b.2.getD i ((0 : Int), ((⟨#[]⟩ : ByteArray), (⟨#[]⟩ : ByteArray)))).2).1, ((b.2.getD i ((0 : Int), ((⟨#[]⟩ : ByteArray), (⟨#[]⟩ : ByteArray)))).2).2))).getD i ((0 : Int), ((⟨#[]⟩ : ByteArray), (⟨#[]⟩ : ByteArray)))).2).2))).getD i ((0 : Int), ((⟨#[]⟩ : ByteArray), (⟨#[]⟩ : ByteArray)))).1, (((((b.2.set i (b.1, (((b.2.getD i ((0 : Int), ((⟨#[]⟩ : ByteArray), (⟨#[]⟩ : ByteArray)))).2).1, ((b.2.getD i ((0 : Int), ((⟨#[]⟩ : ByteArray), (⟨#[]⟩ : ByteArray)))).2).2))).set i (((b.2.set i (b.1, (((b.2.getD i ((0 : Int), ((⟨#[]⟩ : ByteArray), (⟨#[]⟩ : ByteArray)))).2).1, ((b.2.getD i ((0 : Int), ((⟨#[]⟩ : ByteArray), (⟨#[]⟩ : ByteArray)))).2).2))).getD i ((0 : Int), ((⟨#[]⟩ : ByteArray), (⟨#[]⟩ : ByteArray)))).1, ((lmarkText (IntKind.wrap .i64 (b.1 + (1 : Int)))), (((b.2.set i (b.1, (((b.2.getD i ((0 : Int), ((⟨#[]⟩ : ByteArray), (⟨#[]⟩ : ByteArray)))).2).1, ((b.2.getD i ((0 : Int), ((⟨#[]⟩ : ByteArray), (⟨#[]⟩ : ByteArray)))).2).2))).getD i ((0 : Int), ((⟨#[]⟩ : ByteArray), (⟨#[]⟩ : ByteArray)))).2).2))).getD i ((0 : Int), ((⟨#[]⟩ : ByteArray), (⟨#[]⟩ : ByteArray)))).2).1, (lmarkText (IntKind.wrap .i64 ((IntKind.wrap .i64 (b.1 + (1 : Int))) + (1 : Int)))))))
noncomputable abbrev SM_lmarkOpS : SS := ⟨[.all 0 3, .t true (.int .i64)], [.rows 85 true (.pair (.int .i64) (.pair .str .str))]⟩
noncomputable abbrev S_lmarkOpS_0 : SS := ⟨[.all 0 3, .t true (.int .i64), .junk, .junk, .junk, .t true (.int .i64), .junk, .junk, .junk, .junk, .junk, .junk, .junk, .junk, .junk, .junk, .junk, .junk, .junk, .junk, .junk, .junk, .junk, .junk, .junk, .junk, .junk, .junk, .junk, .junk, .junk, .junk, .junk, .junk, .junk, .junk], [.rows 85 true (.pair (.int .i64) (.pair .str .str))]⟩
noncomputable abbrev E_lmarkOpS_0_0 : SS := ⟨[.junk, .t true (.int .i64), .junk, .junk, .junk, .junk, .junk, .junk, .junk, .junk, .junk, .junk, .junk, .junk, .junk, .junk, .junk, .junk, .junk, .junk, .junk, .junk, .junk, .junk, .junk, .junk, .junk, .junk, .junk, .junk, .junk, .junk, .junk, .junk, .junk, .junk], [.rows 85 true (.pair (.int .i64) (.pair .str .str))]⟩
noncomputable def st_lmarkOpS_0 (x1 : Int) (x5 : Int) (h0 : List (Int × ByteArray × ByteArray)) : RT S_lmarkOpS_0.den := (.br (decide (x5 < ((h0.length : Nat) : Int))) (.br (decide (0 ≤ x5 ∧ x5 < ((h0.length : Nat) : Int))) (.br (q_lmarkText (IntKind.wrap .i64 (x1 + (1 : Int)))) (.br (decide (0 ≤ x5 ∧ x5 < (((h0.set x5.toNat (x1, (((h0.getD x5.toNat ((0 : Int), ((⟨#[]⟩ : ByteArray), (⟨#[]⟩ : ByteArray)))).2).1, ((h0.getD x5.toNat ((0 : Int), ((⟨#[]⟩ : ByteArray), (⟨#[]⟩ : ByteArray)))).2).2))).length : Nat) : Int))) (.br (q_lmarkText (IntKind.wrap .i64 ((IntKind.wrap .i64 (x1 + (1 : Int))) + (1 : Int)))) (.br (decide (0 ≤ x5 ∧ x5 < ((((h0.set x5.toNat (x1, (((h0.getD x5.toNat ((0 : Int), ((⟨#[]⟩ : ByteArray), (⟨#[]⟩ : ByteArray)))).2).1, ((h0.getD x5.toNat ((0 : Int), ((⟨#[]⟩ : ByteArray), (⟨#[]⟩ : ByteArray)))).2).2))).set x5.toNat (((h0.set x5.toNat (x1, (((h0.getD x5.toNat ((0 : Int), ((⟨#[]⟩ : ByteArray), (⟨#[]⟩ : ByteArray)))).2).1, ((h0.getD x5.toNat ((0 : Int), ((⟨#[]⟩ : ByteArray), (⟨#[]⟩ : ByteArray)))).2).2))).getD x5.toNat ((0 : Int), ((⟨#[]⟩ : ByteArray), (⟨#[]⟩ : ByteArray)))).1, ((lmarkText (IntKind.wrap .i64 (x1 + (1 : Int)))), (((h0.set x5.toNat (x1, (((h0.getD x5.toNat ((0 : Int), ((⟨#[]⟩ : ByteArray), (⟨#[]⟩ : ByteArray)))).2).1, ((h0.getD x5.toNat ((0 : Int), ((⟨#[]⟩ : ByteArray), (⟨#[]⟩ : ByteArray)))).2).2))).getD x5.toNat ((0 : Int), ((⟨#[]⟩ : ByteArray), (⟨#[]⟩ : ByteArray)))).2).2))).length : Nat) : Int))) (.next (((), IntKind.wrap .i64 ((IntKind.wrap .i64 ((IntKind.wrap .i64 (x1 + (1 : Int))) + (1 : Int))) + (1 : Int)), (), (), (), IntKind.wrap .i64 (x5 + (1 : Int)), (), (), (), (), (), (), (), (), (), (), (), (), (), (), (), (), (), (), (), (), (), (), (), (), (), (), (), (), (), (), ()), (((h0.set x5.toNat (x1, (((h0.getD x5.toNat ((0 : Int), ((⟨#[]⟩ : ByteArray), (⟨#[]⟩ : ByteArray)))).2).1, ((h0.getD x5.toNat ((0 : Int), ((⟨#[]⟩ : ByteArray), (⟨#[]⟩ : ByteArray)))).2).2))).set x5.toNat (((h0.set x5.toNat (x1, (((h0.getD x5.toNat ((0 : Int), ((⟨#[]⟩ : ByteArray), (⟨#[]⟩ : ByteArray)))).2).1, ((h0.getD x5.toNat ((0 : Int), ((⟨#[]⟩ : ByteArray), (⟨#[]⟩ : ByteArray)))).2).2))).getD x5.toNat ((0 : Int), ((⟨#[]⟩ : ByteArray), (⟨#[]⟩ : ByteArray)))).1, ((lmarkText (IntKind.wrap .i64 (x1 + (1 : Int)))), (((h0.set x5.toNat (x1, (((h0.getD x5.toNat ((0 : Int), ((⟨#[]⟩ : ByteArray), (⟨#[]⟩ : ByteArray)))).2).1, ((h0.getD x5.toNat ((0 : Int), ((⟨#[]⟩ : ByteArray), (⟨#[]⟩ : ByteArray)))).2).2))).getD x5.toNat ((0 : Int), ((⟨#[]⟩ : ByteArray), (⟨#[]⟩ : ByteArray)))).2).2))).set x5.toNat ((((h0.set x5.toNat (x1, (((h0.getD x5.toNat ((0 : Int), ((⟨#[]⟩ : ByteArray), (⟨#[]⟩ : ByteArray)))).2).1, ((h0.getD x5.toNat ((0 : Int), ((⟨#[]⟩ : ByteArray), (⟨#[]⟩ : ByteArray)))).2).2))).set x5.toNat (((h0.set x5.toNat (x1, (((h0.getD x5.toNat ((0 : Int), ((⟨#[]⟩ : ByteArray), (⟨#[]⟩ : ByteArray)))).2).1, ((h0.getD x5.toNat ((0 : Int), ((⟨#[]⟩ : ByteArray), (⟨#[]⟩ : ByteArray)))).2).2))).getD x5.toNat ((0 : Int), ((⟨#[]⟩ : ByteArray), (⟨#[]⟩ : ByteArray)))).1, ((lmarkText (IntKind.wrap .i64 (x1 + (1 : Int)))), (((h0.set x5.toNat (x1, (((h0.getD x5.toNat ((0 : Int), ((⟨#[]⟩ : ByteArray), (⟨#[]⟩ : ByteArray)))).2).1, ((h0.getD x5.toNat ((0 : Int), ((⟨#[]⟩ : ByteArray), (⟨#[]⟩ : ByteArray)))).2).2))).getD x5.toNat ((0 : Int), ((⟨#[]⟩ : ByteArray), (⟨#[]⟩ : ByteArray)))).2).2))).getD x5.toNat ((0 : Int), ((⟨#[]⟩ : ByteArray), (⟨#[]⟩ : ByteArray)))).1, (((((h0.set x5.toNat (x1, (((h0.getD x5.toNat ((0 : Int), ((⟨#[]⟩ : ByteArray), (⟨#[]⟩ : ByteArray)))).2).1, ((h0.getD x5.toNat ((0 : Int), ((⟨#[]⟩ : ByteArray), (⟨#[]⟩ : ByteArray)))).2).2))).set x5.toNat (((h0.set x5.toNat (x1, (((h0.getD x5.toNat ((0 : Int), ((⟨#[]⟩ : ByteArray), (⟨#[]⟩ : ByteArray)))).2).1, ((h0.getD x5.toNat ((0 : Int), ((⟨#[]⟩ : ByteArray), (⟨#[]⟩ : ByteArray)))).2).2))).getD x5.toNat ((0 : Int), ((⟨#[]⟩ : ByteArray), (⟨#[]⟩ : ByteArray)))).1, ((lmarkText (IntKind.wrap .i64 (x1 + (1 : Int)))), (((h0.set x5.toNat (x1, (((h0.getD x5.toNat ((0 : Int), ((⟨#[]⟩ : ByteArray), (⟨#[]⟩ : ByteArray)))).2).1, ((h0.getD x5.toNat ((0 : Int), ((⟨#[]⟩ : ByteArray), (⟨#[]⟩ : ByteArray)))).2).2))).getD x5.toNat ((0 : Int), ((⟨#[]⟩ : ByteArray), (⟨#[]⟩ : ByteArray)))).2).2))).getD x5.toNat ((0 : Int), ((⟨#[]⟩ : ByteArray), (⟨#[]⟩ : ByteArray)))).2).1, (lmarkText (IntKind.wrap .i64 ((IntKind.wrap .i64 (x1 + (1 : Int))) + (1 : Int)))))), ()))) .fail) .fail) .fail) .fail) .fail) (.done (.exit 0) E_lmarkOpS_0_0 (((), x1, (), (), (), (), (), (), (), (), (), (), (), (), (), (), (), (), (), (), (), (), (), (), (), (), (), (), (), (), (), (), (), (), (), (), ()), (h0, ()))))
noncomputable def T_lmarkOpS_0 (x1 : Int) (x5 : Int) (h0 : List (Int × ByteArray × ByteArray)) : CT := (.br (decide (0 ≤ x5) && (decide (0 ≤ x1 ∧ x1 ≤ 100000 * (x5 + 1)) && okL h0)) (.done (.exit 0) E_lmarkOpS_0_0 (((), ((foldN f_lmarkOpS_0 (h0.length - x5.toNat) x5.toNat (x1, h0)).1), (), (), (), (), (), (), (), (), (), (), (), (), (), (), (), (), (), (), (), (), (), (), (), (), (), (), (), (), (), (), (), (), (), (), ()), (((foldN f_lmarkOpS_0 (h0.length - x5.toNat) x5.toNat (x1, h0)).2), ()))) .fail)
noncomputable abbrev sp_lmarkOpS_0 : S_lmarkOpS_0.den → RT S_lmarkOpS_0.den := fun d => st_lmarkOpS_0 d.1.2.1 d.1.2.2.2.2.2.1 d.2.1
noncomputable abbrev pk_lmarkOpS_0 (x1 : Int) (x5 : Int) (h0 : List (Int × ByteArray × ByteArray)) : S_lmarkOpS_0.den := (((), x1, (), (), (), x5, (), (), (), (), (), (), (), (), (), (), (), (), (), (), (), (), (), (), (), (), (), (), (), (), (), (), (), (), (), (), ()), (h0, ()))
noncomputable def body_lmarkOpS_0 : Code := ((loopsIn 0 (bodyOf Try.f50)).getD 0 (0, .skip)).2
theorem R_lmarkOpS_0 (x1 : Int) (x5 : Int) (h0 : List (Int × ByteArray × ByteArray)) : (T_lmarkOpS_0 x1 x5 h0).val (D := S_lmarkOpS_0.den) = .fail ∨ Runs sp_lmarkOpS_0 (pk_lmarkOpS_0 x1 x5 h0) (T_lmarkOpS_0 x1 x5 h0).val := by
  cases hc : (decide (0 ≤ x5) && (decide (0 ≤ x1 ∧ x1 ≤ 100000 * (x5 + 1)) && okL h0)) with
  | false => left; simp only [T_lmarkOpS_0, CT.val, hc, cond_false]
  | true =>
    right
    simp only [T_lmarkOpS_0, CT.val, hc, cond_true]
    simp only [Bool.and_eq_true, decide_eq_true_eq] at hc
    obtain ⟨i, rfl⟩ := Int.eq_ofNat_of_zero_le hc.1
    have hs := okL_le hc.2.2
    have hk := hc.2.1
    simp only [Int.toNat_natCast]
    refine Runs.foldN (step := sp_lmarkOpS_0) (fun j b => pk_lmarkOpS_0 b.1 (j : Int) b.2) (fun i b => (0 ≤ b.1 ∧ b.1 ≤ 100000 * ((i : Int) + 1)) ∧ b.2.length = h0.length) (h0.length) f_lmarkOpS_0
      (fin := fun b => ((.done (.exit 0) E_lmarkOpS_0_0 (((), b.1, (), (), (), (), (), (), (), (), (), (), (), (), (), (), (), (), (), (), (), (), (), (), (), (), (), (), (), (), (), (), (), (), (), (), ()), (b.2, ()))) : CT).val) (fun i b hi hb => ?_) (fun i b hi hb => ?_) (h0.length - i) i (x1, h0) rfl ⟨hk, rfl⟩
    · obtain ⟨k, h⟩ := b
      obtain ⟨hb1, hb2⟩ := hb
      simp only at hb1 hb2
      have w1 : IntKind.wrap .i64 (k + (1 : Int)) = k + (1 : Int) := wrap64 (by omega) (by omega)
      have w2 : IntKind.wrap .i64 (k + (1 : Int) + (1 : Int)) = k + (1 : Int) + (1 : Int) := wrap64 (by omega) (by omega)
      have w3 : IntKind.wrap .i64 (k + (1 : Int) + (1 : Int) + (1 : Int)) = k + (1 : Int) + (1 : Int) + (1 : Int) := wrap64 (by omega) (by omega)
      have e0 : (decide (0 ≤ (i : Int) ∧ (i : Int) < ((h.length : Nat) : Int))) = true := decide_eq_true (by (try simp only [List.length_set]); omega)
      have e1 : (q_lmarkText (IntKind.wrap .i64 (k + (1 : Int)))) = true := by simp only [q_lmarkText, w1, w2, w3]; exact decide_eq_true (by omega)
      have e2 : (decide (0 ≤ (i : Int) ∧ (i : Int) < (((h.set i (k, (((h.getD i ((0 : Int), ((⟨#[]⟩ : ByteArray), (⟨#[]⟩ : ByteArray)))).2).1, ((h.getD i ((0 : Int), ((⟨#[]⟩ : ByteArray), (⟨#[]⟩ : ByteArray)))).2).2))).length : Nat) : Int))) = true := decide_eq_true (by (try simp only [List.length_set]); omega)
      have e3 : (q_lmarkText (IntKind.wrap .i64 ((IntKind.wrap .i64 (k + (1 : Int))) + (1 : Int)))) = true := by simp only [q_lmarkText, w1, w2, w3]; exact decide_eq_true (by omega)
      have e4 : (decide (0 ≤ (i : Int) ∧ (i : Int) < ((((h.set i (k, (((h.getD i ((0 : Int), ((⟨#[]⟩ : ByteArray), (⟨#[]⟩ : ByteArray)))).2).1, ((h.getD i ((0 : Int), ((⟨#[]⟩ : ByteArray), (⟨#[]⟩ : ByteArray)))).2).2))).set i (((h.set i (k, (((h.getD i ((0 : Int), ((⟨#[]⟩ : ByteArray), (⟨#[]⟩ : ByteArray)))).2).1, ((h.getD i ((0 : Int), ((⟨#[]⟩ : ByteArray), (⟨#[]⟩ : ByteArray)))).2).2))).getD i ((0 : Int), ((⟨#[]⟩ : ByteArray), (⟨#[]⟩ : ByteArray)))).1, ((lmarkText (IntKind.wrap .i64 (k + (1 : Int)))), (((h.set i (k, (((h.getD i ((0 : Int), ((⟨#[]⟩ : ByteArray), (⟨#[]⟩ : ByteArray)))).2).1, ((h.getD i ((0 : Int), ((⟨#[]⟩ : ByteArray), (⟨#[]⟩ : ByteArray)))).2).2))).getD i ((0 : Int), ((⟨#[]⟩ : ByteArray), (⟨#[]⟩ : ByteArray)))).2).2))).length : Nat) : Int))) = true := decide_eq_true (by (try simp only [List.length_set]); omega)
      have h1 : decide ((i : Int) < ((h.length : Nat) : Int)) = true := decide_eq_true (by omega)
      have v1 : (f_lmarkOpS_0 i (k, h)).1 = k + (1 : Int) + (1 : Int) + (1 : Int) := by simp only [f_lmarkOpS_0, w1, w2, w3]
      have v2 : (f_lmarkOpS_0 i (k, h)).2.length = h.length := by simp only [f_lmarkOpS_0, List.length_set]
      refine ⟨⟨by rw [v1]; omega, by rw [v2]; exact hb2⟩, ?_⟩
      simp only [sp_lmarkOpS_0, st_lmarkOpS_0, RT.val, h1, e0, e1, e2, e3, e4, cond_true, wrapS i (by omega), Int.toNat_natCast]
      rfl
    · have h1 : decide ((i : Int) < ((b.2.length : Nat) : Int)) = false := decide_eq_false (by omega)
      exact ⟨by simp only [sp_lmarkOpS_0, st_lmarkOpS_0, RT.val, h1, cond_false]; rfl, _, _, _, rfl, by simp⟩
theorem rd_lmarkOpS_0 : ∀ d, execC Try.prog tt S38 QF38 (fun _ _ => none) 0 body_lmarkOpS_0 (S_lmarkOpS_0.st d 1 []) (fun e s' => some (e, S_lmarkOpS_0.cutE (kepts [] [(0, [1])]) e s')) = (sp_lmarkOpS_0 d).opt 1 [] := by
  intro d
  kernel_rfl
noncomputable abbrev say_lmarkOpS_0 : St → Option Tree := S_lmarkOpS_0.say 1 [] [] (fun d => T_lmarkOpS_0 d.1.2.1 d.1.2.2.2.2.2.1 d.2.1)
theorem lw_lmarkOpS_0 : LoopWp Try.prog say_lmarkOpS_0 body_lmarkOpS_0 := SS.wp G38 (fun _ _ => none) (by rw [show loopsIn 0 body_lmarkOpS_0 = [] by kernel_rfl]; simp) S_lmarkOpS_0 1 [] (kepts [] [(0, [1])]) [] sp_lmarkOpS_0 rd_lmarkOpS_0 _ (fun d => R_lmarkOpS_0 d.1.2.1 d.1.2.2.2.2.2.1 d.2.1)
noncomputable def lmarkOpS (x1 : Int) (h0 : List (Int × ByteArray × ByteArray)) : Int × List (Int × ByteArray × ByteArray) := (((foldN f_lmarkOpS_0 (h0.length - (0 : Int).toNat) (0 : Int).toNat (x1, h0)).1), ((foldN f_lmarkOpS_0 (h0.length - (0 : Int).toNat) (0 : Int).toNat (x1, h0)).2))
noncomputable abbrev e_lmarkOpS (r : Int × List (Int × ByteArray × ByteArray)) : AV × List AObj × List Nat := ((.t true (.int .i64) r.1), [(.rows 85 true (.pair (.int .i64) (.pair .str .str)) r.2)], [])
noncomputable abbrev g_lmarkOpS : SM_lmarkOpS.den → AV × List AObj × List Nat := fun d => e_lmarkOpS (lmarkOpS d.1.2.1 d.2.1)
noncomputable def q_lmarkOpS (x1 : Int) (h0 : List (Int × ByteArray × ByteArray)) : Bool := okL h0 && decide (0 ≤ x1 ∧ x1 ≤ 100000)
noncomputable abbrev pre_lmarkOpS : SM_lmarkOpS.den → Bool := fun d => q_lmarkOpS d.1.2.1 d.2.1
theorem runA_lmarkOpS (x1 : Int) (h0 : List (Int × ByteArray × ByteArray)) (hp : (okL h0 && decide (0 ≤ x1 ∧ x1 ≤ 100000)) = true) : runM Try.prog tt S38 QF38 (fun b => match b with | 0 => say_lmarkOpS_0 | _ => fun _ => none) Try.f50 (shsMk SM_lmarkOpS.sl ((((), x1, ()), (h0, ())) : SM_lmarkOpS.den).1) (ohsMk SM_lmarkOpS.hp ((((), x1, ()), (h0, ())) : SM_lmarkOpS.den).2) = some (g_lmarkOpS (((), x1, ()), (h0, ()))) := by
  refine Eq.trans (b := (cond (decide (0 ≤ (0 : Int)) && (decide (0 ≤ x1 ∧ x1 ≤ 100000 * ((0 : Int) + 1)) && okL h0)) (some (e_lmarkOpS (((foldN f_lmarkOpS_0 (h0.length - (0 : Int).toNat) (0 : Int).toNat (x1, h0)).1), ((foldN f_lmarkOpS_0 (h0.length - (0 : Int).toNat) (0 : Int).toNat (x1, h0)).2)))) none)) (by kernel_rfl) ?_
  exact (cndT (by first | rfl | decide | exact hp | (simp only [Bool.and_eq_true] at hp; simp only [hp]; done) | (simp [*]; done) | (simp [okL] at hp; simp [okL, MAXB]; omega) | (simp_all; done) | (simp at *; omega)) (fun _h => rfl))
theorem run_lmarkOpS : ∀ d : SM_lmarkOpS.den, pre_lmarkOpS d = true → runM Try.prog tt S38 QF38 (fun b => match b with | 0 => say_lmarkOpS_0 | _ => fun _ => none) Try.f50 (shsMk SM_lmarkOpS.sl (d : SM_lmarkOpS.den).1) (ohsMk SM_lmarkOpS.hp (d : SM_lmarkOpS.den).2) = some (g_lmarkOpS d) := fun d hp => runA_lmarkOpS d.1.2.1 d.2.1 hp
theorem c_lmarkOpS : MContract Try.prog 50 (win winIds (msum SM_lmarkOpS pre_lmarkOpS g_lmarkOpS)) := (MContract.of_data G38 (fn := Try.f50) (by kernel_rfl) (L := fun b => match b with | 0 => say_lmarkOpS_0 | _ => fun _ => none) (by rw [show loopsIn 0 (bodyOf Try.f50) = [(0, body_lmarkOpS_0)] by kernel_rfl]; intro p hp; simp only [List.mem_singleton] at hp; subst hp; exact lw_lmarkOpS_0) SM_lmarkOpS pre_lmarkOpS g_lmarkOpS run_lmarkOpS).win winIds
noncomputable def S39 : Tab := Tab.add S38 50 (win winIds (msum SM_lmarkOpS pre_lmarkOpS g_lmarkOpS))
noncomputable def QF39 : FuncId → Bool := QF38
theorem G39 : Good Try.prog tt S39 QF39 := G38.addM c_lmarkOpS (win_local _) ⟨Try.f50, by kernel_rfl, by kernel_rfl, by kernel_rfl⟩ (by kernel_rfl)

/-! 38 loop.example/g00244/laws.markWord -/
noncomputable abbrev SM_lmarkWord : SS := ⟨[.agg [.t true (.int .i64), .t true (.int .i64), .t true (.int .i64), .all 0 3, .t true .bool], .t true (.int .i64)], [.rows 85 true (.pair (.int .i64) (.pair .str .str))]⟩
noncomputable def lmarkWord (x0_0 : Int) (x0_1 : Int) (x0_2 : Int) (x0_4 : Bool) (x1 : Int) (h0 : List (Int × ByteArray × ByteArray)) : Int × List (Int × ByteArray × ByteArray) := (((lmarkOpS x1 h0).1), ((lmarkOpS x1 h0).2))
noncomputable abbrev e_lmarkWord (r : Int × List (Int × ByteArray × ByteArray)) : AV × List AObj × List Nat := ((.t true (.int .i64) r.1), [(.rows 85 true (.pair (.int .i64) (.pair .str .str)) r.2)], [])
noncomputable abbrev g_lmarkWord : SM_lmarkWord.den → AV × List AObj × List Nat := fun d => e_lmarkWord (lmarkWord d.1.1.1 d.1.1.2.1 d.1.1.2.2.1 d.1.1.2.2.2.2.1 d.1.2.1 d.2.1)
noncomputable def q_lmarkWord (x0_0 : Int) (x0_1 : Int) (x0_2 : Int) (x0_4 : Bool) (x1 : Int) (h0 : List (Int × ByteArray × ByteArray)) : Bool := q_lmarkOpS x1 h0
noncomputable abbrev pre_lmarkWord : SM_lmarkWord.den → Bool := fun d => q_lmarkWord d.1.1.1 d.1.1.2.1 d.1.1.2.2.1 d.1.1.2.2.2.2.1 d.1.2.1 d.2.1
theorem runA_lmarkWord (x0_0 : Int) (x0_1 : Int) (x0_2 : Int) (x0_4 : Bool) (x1 : Int) (h0 : List (Int × ByteArray × ByteArray)) (hp : (q_lmarkOpS x1 h0) = true) : runM Try.prog tt S39 QF39 (fun _ _ => none) Try.f38 (shsMk SM_lmarkWord.sl ((((x0_0, x0_1, x0_2, (), x0_4, ()), x1, ()), (h0, ())) : SM_lmarkWord.den).1) (ohsMk SM_lmarkWord.hp ((((x0_0, x0_1, x0_2, (), x0_4, ()), x1, ()), (h0, ())) : SM_lmarkWord.den).2) = some (g_lmarkWord (((x0_0, x0_1, x0_2, (), x0_4, ()), x1, ()), (h0, ()))) := by
  refine Eq.trans (b := (cond (q_lmarkOpS x1 h0) (some (e_lmarkWord (((lmarkOpS x1 h0).1), ((lmarkOpS x1 h0).2)))) none)) (by kernel_rfl) ?_
  exact (cndT hp (fun _h => rfl))
theorem run_lmarkWord : ∀ d : SM_lmarkWord.den, pre_lmarkWord d = true → runM Try.prog tt S39 QF39 (fun _ _ => none) Try.f38 (shsMk SM_lmarkWord.sl (d : SM_lmarkWord.den).1) (ohsMk SM_lmarkWord.hp (d : SM_lmarkWord.den).2) = some (g_lmarkWord d) := fun d hp => runA_lmarkWord d.1.1.1 d.1.1.2.1 d.1.1.2.2.1 d.1.1.2.2.2.2.1 d.1.2.1 d.2.1 hp
theorem c_lmarkWord : MContract Try.prog 38 (win winIds (msum SM_lmarkWord pre_lmarkWord g_lmarkWord)) := (MContract.of_data G39 (fn := Try.f38) (by kernel_rfl) (L := fun _ _ => none) (by rw [show loopsIn 0 (bodyOf Try.f38) = [] by kernel_rfl]; simp) SM_lmarkWord pre_lmarkWord g_lmarkWord run_lmarkWord).win winIds
noncomputable def S40 : Tab := Tab.add S39 38 (win winIds (msum SM_lmarkWord pre_lmarkWord g_lmarkWord))
noncomputable def QF40 : FuncId → Bool := QF39
theorem G40 : Good Try.prog tt S40 QF40 := G39.addM c_lmarkWord (win_local _) ⟨Try.f38, by kernel_rfl, by kernel_rfl, by kernel_rfl⟩ (by kernel_rfl)

/-! 128 loop.example/g00244/laws.heldOpS -/

noncomputable def f_lheldOpS_0 (x0 : List (Int × ByteArray × ByteArray)) (i : Nat) (k : Int) : Int ⊕ Unit := (cond (((x0.getD i ((0 : Int), ((⟨#[]⟩ : ByteArray), (⟨#[]⟩ : ByteArray)))).1) != k) (.inr ()) (cond (!((((x0.getD i ((0 : Int), ((⟨#[]⟩ : ByteArray), (⟨#[]⟩ : ByteArray)))).2).1).toList == (lmarkText (IntKind.wrap .i64 (k + (1 : Int)))).toList)) (.inr ()) (cond (!((((x0.getD i ((0 : Int), ((⟨#[]⟩ : ByteArray), (⟨#[]⟩ : ByteArray)))).2).2).toList == (lmarkText (IntKind.wrap .i64 ((IntKind.wrap .i64 (k + (1 : Int))) + (1 : Int)))).toList)) (.inr ()) (.inl (IntKind.wrap .i64 ((IntKind.wrap .i64 ((IntKind.wrap .i64 (k + (1 : Int))) + (1 : Int))) + (1 : Int)))))))
noncomputable abbrev P_lheldOpS : List PSh := [.t (.sl (.pair (.int .i64) (.pair .str .str))), .t (.int .i64)]
noncomputable abbrev S_lheldOpS_0 : SS := ⟨[.t false (.sl (.pair (.int .i64) (.pair .str .str))), .t true (.int .i64), .junk, .junk, .junk, .t true (.int .i64), .junk, .junk, .junk, .junk, .junk, .junk, .junk, .junk, .junk, .junk, .junk, .junk, .junk, .junk, .junk, .junk, .junk, .junk, .junk, .junk, .junk, .junk, .junk, .junk, .junk, .junk, .junk, .junk, .junk, .junk, .junk, .junk, .junk, .junk, .junk, .junk], []⟩
noncomputable abbrev E_lheldOpS_0_0 : SS := ⟨[.junk, .junk, .junk, .junk, .t true (.int .i64), .junk, .junk, .junk, .junk, .junk, .junk, .junk, .junk, .junk, .junk, .junk, .junk, .junk, .junk, .junk, .junk, .junk, .junk, .junk, .junk, .junk, .junk, .junk, .junk, .junk, .junk, .junk, .junk, .junk, .junk, .junk, .junk, .junk, .junk, .junk, .junk, .junk], []⟩
noncomputable abbrev E_lheldOpS_0_1 : SS := ⟨[.junk, .t true (.int .i64), .junk, .junk, .junk, .junk, .junk, .junk, .junk, .junk, .junk, .junk, .junk, .junk, .junk, .junk, .junk, .junk, .junk, .junk, .junk, .junk, .junk, .junk, .junk, .junk, .junk, .junk, .junk, .junk, .junk, .junk, .junk, .junk, .junk, .junk, .junk, .junk, .junk, .junk, .junk, .junk], []⟩
noncomputable def st_lheldOpS_0 (x0 : List (Int × ByteArray × ByteArray)) (x1 : Int) (x5 : Int) : RT S_lheldOpS_0.den := (.br (decide (x5 < ((x0.length : Nat) : Int))) (.br (decide (0 ≤ x5 ∧ x5 < ((x0.length : Nat) : Int))) (.br (((x0.getD x5.toNat ((0 : Int), ((⟨#[]⟩ : ByteArray), (⟨#[]⟩ : ByteArray)))).1) != x1) (.done .ret E_lheldOpS_0_0 (((), (), (), (), (-1 : Int), (), (), (), (), (), (), (), (), (), (), (), (), (), (), (), (), (), (), (), (), (), (), (), (), (), (), (), (), (), (), (), (), (), (), (), (), (), ()), ())) (.br (decide (0 ≤ x5 ∧ x5 < ((x0.length : Nat) : Int))) (.br (q_lmarkText (IntKind.wrap .i64 (x1 + (1 : Int)))) (.br (!((((x0.getD x5.toNat ((0 : Int), ((⟨#[]⟩ : ByteArray), (⟨#[]⟩ : ByteArray)))).2).1).toList == (lmarkText (IntKind.wrap .i64 (x1 + (1 : Int)))).toList)) (.done .ret E_lheldOpS_0_0 (((), (), (), (), (-1 : Int), (), (), (), (), (), (), (), (), (), (), (), (), (), (), (), (), (), (), (), (), (), (), (), (), (), (), (), (), (), (), (), (), (), (), (), (), (), ()), ())) (.br (decide (0 ≤ x5 ∧ x5 < ((x0.length : Nat) : Int))) (.br (q_lmarkText (IntKind.wrap .i64 ((IntKind.wrap .i64 (x1 + (1 : Int))) + (1 : Int)))) (.br (!((((x0.getD x5.toNat ((0 : Int), ((⟨#[]⟩ : ByteArray), (⟨#[]⟩ : ByteArray)))).2).2).toList == (lmarkText (IntKind.wrap .i64 ((IntKind.wrap .i64 (x1 + (1 : Int))) + (1 : Int)))).toList)) (.done .ret E_lheldOpS_0_0 (((), (), (), (), (-1 : Int), (), (), (), (), (), (), (), (), (), (), (), (), (), (), (), (), (), (), (), (), (), (), (), (), (), (), (), (), (), (), (), (), (), (), (), (), (), ()), ())) (.next ((x0, IntKind.wrap .i64 ((IntKind.wrap .i64 ((IntKind.wrap .i64 (x1 + (1 : Int))) + (1 : Int))) + (1 : Int)), (), (), (), IntKind.wrap .i64 (x5 + (1 : Int)), (), (), (), (), (), (), (), (), (), (), (), (), (), (), (), (), (), (), (), (), (), (), (), (), (), (), (), (), (), (), (), (), (), (), (), (), ()), ()))) .fail) .fail)) .fail) .fail)) .fail) (.done (.exit 0) E_lheldOpS_0_1 (((), x1, (), (), (), (), (), (), (), (), (), (), (), (), (), (), (), (), (), (), (), (), (), (), (), (), (), (), (), (), (), (), (), (), (), (), (), (), (), (), (), (), ()), ())))
noncomputable def T_lheldOpS_0 (x0 : List (Int × ByteArray × ByteArray)) (x1 : Int) (x5 : Int) : CT := (.br (decide (0 ≤ x5) && (decide (0 ≤ x1 ∧ x1 ≤ 100000 * (x5 + 1)) && okL x0)) (.br (isInl (loopN (f_lheldOpS_0 x0) (x0.length - x5.toNat) x5.toNat x1)) (.done (.exit 0) E_lheldOpS_0_1 (((), (getInl (-1) (loopN (f_lheldOpS_0 x0) (x0.length - x5.toNat) x5.toNat x1)), (), (), (), (), (), (), (), (), (), (), (), (), (), (), (), (), (), (), (), (), (), (), (), (), (), (), (), (), (), (), (), (), (), (), (), (), (), (), (), (), ()), ())) (.done .ret E_lheldOpS_0_0 (((), (), (), (), (-1 : Int), (), (), (), (), (), (), (), (), (), (), (), (), (), (), (), (), (), (), (), (), (), (), (), (), (), (), (), (), (), (), (), (), (), (), (), (), (), ()), ()))) .fail)
noncomputable abbrev sp_lheldOpS_0 : S_lheldOpS_0.den → RT S_lheldOpS_0.den := fun d => st_lheldOpS_0 d.1.1 d.1.2.1 d.1.2.2.2.2.2.1
noncomputable abbrev pk_lheldOpS_0 (x0 : List (Int × ByteArray × ByteArray)) (x1 : Int) (x5 : Int) : S_lheldOpS_0.den := ((x0, x1, (), (), (), x5, (), (), (), (), (), (), (), (), (), (), (), (), (), (), (), (), (), (), (), (), (), (), (), (), (), (), (), (), (), (), (), (), (), (), (), (), ()), ())
noncomputable def body_lheldOpS_0 : Code := ((loopsIn 0 (bodyOf Try.f128)).getD 0 (0, .skip)).2
theorem R_lheldOpS_0 (x0 : List (Int × ByteArray × ByteArray)) (x1 : Int) (x5 : Int) : (T_lheldOpS_0 x0 x1 x5).val (D := S_lheldOpS_0.den) = .fail ∨ Runs sp_lheldOpS_0 (pk_lheldOpS_0 x0 x1 x5) (T_lheldOpS_0 x0 x1 x5).val := by
  cases hc : (decide (0 ≤ x5) && (decide (0 ≤ x1 ∧ x1 ≤ 100000 * (x5 + 1)) && okL x0)) with
  | false => left; simp only [T_lheldOpS_0, CT.val, hc, cond_false]
  | true =>
    right
    simp only [T_lheldOpS_0, CT.val, hc, cond_true]
    simp only [Bool.and_eq_true, decide_eq_true_eq] at hc
    obtain ⟨i, rfl⟩ := Int.eq_ofNat_of_zero_le hc.1
    have hs := okL_le hc.2.2
    have hk := hc.2.1
    simp only [Int.toNat_natCast]
    have h := Runs.loopN (step := sp_lheldOpS_0) (fun j b => pk_lheldOpS_0 x0 b (j : Int)) (fun i b => 0 ≤ b ∧ b ≤ 100000 * ((i : Int) + 1)) (x0.length) (f_lheldOpS_0 x0)
      (fin := fun b => ((.done (.exit 0) E_lheldOpS_0_1 (((), b, (), (), (), (), (), (), (), (), (), (), (), (), (), (), (), (), (), (), (), (), (), (), (), (), (), (), (), (), (), (), (), (), (), (), (), (), (), (), (), (), ()), ())) : CT).val) (bad := fun _ => ((.done .ret E_lheldOpS_0_0 (((), (), (), (), (-1 : Int), (), (), (), (), (), (), (), (), (), (), (), (), (), (), (), (), (), (), (), (), (), (), (), (), (), (), (), (), (), (), (), (), (), (), (), (), (), ()), ())) : CT).val)
      (fun i b hi hb => ?_) (fun i b hi hb => ?_) (x0.length - i) i x1 rfl hk
    · revert h
      cases loopN (f_lheldOpS_0 x0) (x0.length - i) i x1 with
      | inl b => exact id
      | inr c => exact id
    · revert hb
      generalize b = k
      intro hb
      have w1 : IntKind.wrap .i64 (k + (1 : Int)) = k + (1 : Int) := wrap64 (by omega) (by omega)
      have w2 : IntKind.wrap .i64 (k + (1 : Int) + (1 : Int)) = k + (1 : Int) + (1 : Int) := wrap64 (by omega) (by omega)
      have w3 : IntKind.wrap .i64 (k + (1 : Int) + (1 : Int) + (1 : Int)) = k + (1 : Int) + (1 : Int) + (1 : Int) := wrap64 (by omega) (by omega)
      have e0 : (decide (0 ≤ (i : Int) ∧ (i : Int) < ((x0.length : Nat) : Int))) = true := decide_eq_true (by omega)
      have e1 : (decide (0 ≤ (i : Int) ∧ (i : Int) < ((x0.length : Nat) : Int))) = true := decide_eq_true (by omega)
      have e2 : (q_lmarkText (IntKind.wrap .i64 (k + (1 : Int)))) = true := by simp only [q_lmarkText, w1, w2, w3]; exact decide_eq_true (by omega)
      have e3 : (decide (0 ≤ (i : Int) ∧ (i : Int) < ((x0.length : Nat) : Int))) = true := decide_eq_true (by omega)
      have e4 : (q_lmarkText (IntKind.wrap .i64 ((IntKind.wrap .i64 (k + (1 : Int))) + (1 : Int)))) = true := by simp only [q_lmarkText, w1, w2, w3]; exact decide_eq_true (by omega)
      have h1 : decide ((i : Int) < ((x0.length : Nat) : Int)) = true := decide_eq_true (by omega)
      have e : (sp_lheldOpS_0 (pk_lheldOpS_0 x0 k (i : Int))).val = (cond (((x0.getD i ((0 : Int), ((⟨#[]⟩ : ByteArray), (⟨#[]⟩ : ByteArray)))).1) != k) ((.done .ret E_lheldOpS_0_0 (((), (), (), (), (-1 : Int), (), (), (), (), (), (), (), (), (), (), (), (), (), (), (), (), (), (), (), (), (), (), (), (), (), (), (), (), (), (), (), (), (), (), (), (), (), ()), ())) : CT).val (cond (!((((x0.getD i ((0 : Int), ((⟨#[]⟩ : ByteArray), (⟨#[]⟩ : ByteArray)))).2).1).toList == (lmarkText (IntKind.wrap .i64 (k + (1 : Int)))).toList)) ((.done .ret E_lheldOpS_0_0 (((), (), (), (), (-1 : Int), (), (), (), (), (), (), (), (), (), (), (), (), (), (), (), (), (), (), (), (), (), (), (), (), (), (), (), (), (), (), (), (), (), (), (), (), (), ()), ())) : CT).val (cond (!((((x0.getD i ((0 : Int), ((⟨#[]⟩ : ByteArray), (⟨#[]⟩ : ByteArray)))).2).2).toList == (lmarkText (IntKind.wrap .i64 ((IntKind.wrap .i64 (k + (1 : Int))) + (1 : Int)))).toList)) ((.done .ret E_lheldOpS_0_0 (((), (), (), (), (-1 : Int), (), (), (), (), (), (), (), (), (), (), (), (), (), (), (), (), (), (), (), (), (), (), (), (), (), (), (), (), (), (), (), (), (), (), (), (), (), ()), ())) : CT).val (.next (pk_lheldOpS_0 x0 (IntKind.wrap .i64 ((IntKind.wrap .i64 ((IntKind.wrap .i64 (k + (1 : Int))) + (1 : Int))) + (1 : Int))) ((i + 1 : Nat) : Int)))))) := by
        simp only [sp_lheldOpS_0, st_lheldOpS_0, RT.val, h1, e0, e1, e2, e3, e4, cond_true, wrapS i (by omega), Int.toNat_natCast]
        rfl
      cases g0 : (((x0.getD i ((0 : Int), ((⟨#[]⟩ : ByteArray), (⟨#[]⟩ : ByteArray)))).1) != k) with
      | true => exact .inr ⟨(), _, _, _, by simp only [f_lheldOpS_0, g0, cond_true, cond_false], by rw [e, g0]; rfl, rfl, by simp⟩
      | false =>
        cases g1 : (!((((x0.getD i ((0 : Int), ((⟨#[]⟩ : ByteArray), (⟨#[]⟩ : ByteArray)))).2).1).toList == (lmarkText (IntKind.wrap .i64 (k + (1 : Int)))).toList)) with
        | true => exact .inr ⟨(), _, _, _, by simp only [f_lheldOpS_0, g0, g1, cond_true, cond_false], by rw [e, g0, g1]; rfl, rfl, by simp⟩
        | false =>
          cases g2 : (!((((x0.getD i ((0 : Int), ((⟨#[]⟩ : ByteArray), (⟨#[]⟩ : ByteArray)))).2).2).toList == (lmarkText (IntKind.wrap .i64 ((IntKind.wrap .i64 (k + (1 : Int))) + (1 : Int)))).toList)) with
          | true => exact .inr ⟨(), _, _, _, by simp only [f_lheldOpS_0, g0, g1, g2, cond_true, cond_false], by rw [e, g0, g1, g2]; rfl, rfl, by simp⟩
          | false =>
            exact .inl ⟨IntKind.wrap .i64 ((IntKind.wrap .i64 ((IntKind.wrap .i64 (k + (1 : Int))) + (1 : Int))) + (1 : Int)), by simp only [f_lheldOpS_0, g0, g1, g2, cond_false], by rw [w1, w2, w3]; omega, by rw [e, g0, g1, g2]; rfl⟩
    · have h1 : decide ((i : Int) < ((x0.length : Nat) : Int)) = false := decide_eq_false (by omega)
      exact ⟨by simp only [sp_lheldOpS_0, st_lheldOpS_0, RT.val, h1, cond_false]; rfl, _, _, _, rfl, by simp⟩
theorem rd_lheldOpS_0 : ∀ d, execC Try.prog tt S40 QF40 (fun _ _ => none) 0 body_lheldOpS_0 (S_lheldOpS_0.st d 0 []) (fun e s' => some (e, S_lheldOpS_0.cutE (kepts [4] [(0, [1])]) e s')) = (sp_lheldOpS_0 d).opt 0 [] := by
  intro d
  kernel_rfl
noncomputable abbrev say_lheldOpS_0 : St → Option Tree := S_lheldOpS_0.say 0 [] [] (fun d => T_lheldOpS_0 d.1.1 d.1.2.1 d.1.2.2.2.2.2.1)
theorem lw_lheldOpS_0 : LoopWp Try.prog say_lheldOpS_0 body_lheldOpS_0 := SS.wp G40 (fun _ _ => none) (by rw [show loopsIn 0 body_lheldOpS_0 = [] by kernel_rfl]; simp) S_lheldOpS_0 0 [] (kepts [4] [(0, [1])]) [] sp_lheldOpS_0 rd_lheldOpS_0 _ (fun d => R_lheldOpS_0 d.1.1 d.1.2.1 d.1.2.2.2.2.2.1)
noncomputable def lheldOpS (a0 : List (Int × ByteArray × ByteArray)) (a1 : Int) : Int := (cond (isInl (loopN (f_lheldOpS_0 a0) (a0.length - (0 : Int).toNat) (0 : Int).toNat a1)) (getInl (-1) (loopN (f_lheldOpS_0 a0) (a0.length - (0 : Int).toNat) (0 : Int).toNat a1)) (-1 : Int))
noncomputable abbrev e_lheldOpS (r : Int) : AV × List AObj := ((.t true (.int .i64) r), [])
noncomputable abbrev g_lheldOpS : pshsDen P_lheldOpS → AV × List AObj := fun d => e_lheldOpS (lheldOpS d.1 d.2.1)
noncomputable def q_lheldOpS (a0 : List (Int × ByteArray × ByteArray)) (a1 : Int) : Bool := okL a0 && decide (0 ≤ a1 ∧ a1 ≤ 100000)
noncomputable abbrev pre_lheldOpS : pshsDen P_lheldOpS → Bool := fun d => q_lheldOpS d.1 d.2.1
theorem runA_lheldOpS (a0 : List (Int × ByteArray × ByteArray)) (a1 : Int) (hp : (okL a0 && decide (0 ≤ a1 ∧ a1 ≤ 100000)) = true) : runP true Try.prog tt S40 QF40 (fun b => match b with | 0 => say_lheldOpS_0 | _ => fun _ => none) Try.f128 (argsMk P_lheldOpS (a0, (a1, ()))) = some (g_lheldOpS (a0, (a1, ()))) := by
  refine Eq.trans (b := (cond (decide (0 ≤ (0 : Int)) && (decide (0 ≤ a1 ∧ a1 ≤ 100000 * ((0 : Int) + 1)) && okL a0)) (cond (isInl (loopN (f_lheldOpS_0 a0) (a0.length - (0 : Int).toNat) (0 : Int).toNat a1)) (some (e_lheldOpS (getInl (-1) (loopN (f_lheldOpS_0 a0) (a0.length - (0 : Int).toNat) (0 : Int).toNat a1)))) (some (e_lheldOpS (-1 : Int)))) none)) (by kernel_rfl) ?_
  exact (cndT (by first | rfl | decide | exact hp | (simp only [Bool.and_eq_true] at hp; simp only [hp]; done) | (simp [*]; done) | (simp [okL] at hp; simp [okL, MAXB]; omega) | (simp_all; done) | (simp at *; omega)) (fun _h => (cnd (F := fun r => some (e_lheldOpS r)) (fun _h => rfl) (fun _h => rfl))))
theorem run_lheldOpS : ∀ d, pre_lheldOpS d = true → runP true Try.prog tt S40 QF40 (fun b => match b with | 0 => say_lheldOpS_0 | _ => fun _ => none) Try.f128 (argsMk P_lheldOpS d) = some (g_lheldOpS d) := fun d hp => runA_lheldOpS d.1 d.2.1 hp
theorem c_lheldOpS : PContract Try.prog 128 (sumOf P_lheldOpS pre_lheldOpS g_lheldOpS) := PContract.of_data true G40 (fn := Try.f128) (by kernel_rfl) (L := fun b => match b with | 0 => say_lheldOpS_0 | _ => fun _ => none) (by rw [show loopsIn 0 (bodyOf Try.f128) = [(0, body_lheldOpS_0)] by kernel_rfl]; intro p hp; simp only [List.mem_singleton] at hp; subst hp; exact lw_lheldOpS_0) P_lheldOpS pre_lheldOpS g_lheldOpS run_lheldOpS
noncomputable def S41 : Tab := Tab.add S40 128 (lift (sumOf P_lheldOpS pre_lheldOpS g_lheldOpS))
noncomputable def QF41 : FuncId → Bool := qadd QF40 128
theorem G41 : Good Try.prog tt S41 QF41 := G40.addQ c_lheldOpS ⟨Try.f128, by kernel_rfl, by kernel_rfl, by kernel_rfl⟩ (fun _ => rfl)

/-! 69 loop.example/g00244/laws.heldWord -/
noncomputable abbrev P_lheldWord : List PSh := [.agg [(.int .i64), (.int .i64), (.int .i64), (.sl (.pair (.int .i64) (.pair .str .str))), .bool], .t (.int .i64)]
noncomputable def lheldWord (a0 : Int) (a1 : Int) (a2 : Int) (a3 : List (Int × ByteArray × ByteArray)) (a4 : Bool) (a5 : Int) : Int := (cond (decide ((lheldOpS a3 a5) < (0 : Int))) (-1 : Int) (lheldOpS a3 a5))
noncomputable abbrev e_lheldWord (r : Int) : AV × List AObj := ((.t true (.int .i64) r), [])
noncomputable abbrev g_lheldWord : pshsDen P_lheldWord → AV × List AObj := fun d => e_lheldWord (lheldWord d.1.1 d.1.2.1 d.1.2.2.1 d.1.2.2.2.1 d.1.2.2.2.2.1 d.2.1)
noncomputable def q_lheldWord (a0 : Int) (a1 : Int) (a2 : Int) (a3 : List (Int × ByteArray × ByteArray)) (a4 : Bool) (a5 : Int) : Bool := q_lheldOpS a3 a5
noncomputable abbrev pre_lheldWord : pshsDen P_lheldWord → Bool := fun d => q_lheldWord d.1.1 d.1.2.1 d.1.2.2.1 d.1.2.2.2.1 d.1.2.2.2.2.1 d.2.1
theorem runA_lheldWord (a0 : Int) (a1 : Int) (a2 : Int) (a3 : List (Int × ByteArray × ByteArray)) (a4 : Bool) (a5 : Int) (hp : (q_lheldOpS a3 a5) = true) : runP true Try.prog tt S41 QF41 (fun _ _ => none) Try.f69 (argsMk P_lheldWord ((a0, (a1, (a2, (a3, (a4, ()))))), (a5, ()))) = some (g_lheldWord ((a0, (a1, (a2, (a3, (a4, ()))))), (a5, ()))) := by
  refine Eq.trans (b := (cond (q_lheldOpS a3 a5) (cond (decide ((lheldOpS a3 a5) < (0 : Int))) (some (e_lheldWord (-1 : Int))) (some (e_lheldWord (lheldOpS a3 a5)))) none)) (by kernel_rfl) ?_
  exact (cndT hp (fun _h => (cnd (F := fun r => some (e_lheldWord r)) (fun _h => rfl) (fun _h => rfl))))
theorem run_lheldWord : ∀ d, pre_lheldWord d = true → runP true Try.prog tt S41 QF41 (fun _ _ => none) Try.f69 (argsMk P_lheldWord d) = some (g_lheldWord d) := fun d hp => runA_lheldWord d.1.1 d.1.2.1 d.1.2.2.1 d.1.2.2.2.1 d.1.2.2.2.2.1 d.2.1 hp
theorem c_lheldWord : PContract Try.prog 69 (sumOf P_lheldWord pre_lheldWord g_lheldWord) := PContract.of_data true G41 (fn := Try.f69) (by kernel_rfl) (L := fun _ _ => none) (by rw [show loopsIn 0 (bodyOf Try.f69) = [] by kernel_rfl]; simp) P_lheldWord pre_lheldWord g_lheldWord run_lheldWord
noncomputable def S42 : Tab := Tab.add S41 69 (lift (sumOf P_lheldWord pre_lheldWord g_lheldWord))
noncomputable def QF42 : FuncId → Bool := qadd QF41 69
theorem G42 : Good Try.prog tt S42 QF42 := G41.addQ c_lheldWord ⟨Try.f69, by kernel_rfl, by kernel_rfl, by kernel_rfl⟩ (fun _ => rfl)

/-! 11 loop.example/g00244/laws.FnExactGetWord -/
noncomputable abbrev P_lFnExactGetWord : List PSh := [.t (.sl (.int .u8))]
noncomputable def k1_lFnExactGetWord (a0 : List Int) := leqWord ((iGetWord (ltoByteS a0)).1) ((iGetWord (ltoByteS a0)).2.1) ((iGetWord (ltoByteS a0)).2.2.1) ((iGetWord (ltoByteS a0)).2.2.2.2.2) ((iGetWord (ltoByteS a0)).2.2.2.1) ((sGetWord (ltoByteS a0)).1) ((sGetWord (ltoByteS a0)).2.1) ((sGetWord (ltoByteS a0)).2.2.1) ((sGetWord (ltoByteS a0)).2.2.2.1) ((sGetWord (ltoByteS a0)).2.2.2.2.1)
noncomputable def k2_lFnExactGetWord (a0 : List Int) := lmarkWord ((iGetWord (ltoByteS a0)).1) ((iGetWord (ltoByteS a0)).2.1) ((iGetWord (ltoByteS a0)).2.2.1) ((iGetWord (ltoByteS a0)).2.2.2.1) (1 : Int) ((iGetWord (ltoByteS a0)).2.2.2.2.2)
noncomputable def k3_lFnExactGetWord (a0 : List Int) := lheldWord ((iGetWord (ltoByteS a0)).1) ((iGetWord (ltoByteS a0)).2.1) ((iGetWord (ltoByteS a0)).2.2.1) ((k2_lFnExactGetWord a0).2) ((iGetWord (ltoByteS a0)).2.2.2.1) (1 : Int)
noncomputable def lFnExactGetWord (a0 : List Int) : Bool := (cond (decide (((a0.length : Nat) : Int) > (1048576 : Int))) true (cond (!(k1_lFnExactGetWord a0)) false (cond (!(((iGetWord (ltoByteS a0)).2.2.2.2.1) == ((sGetWord (ltoByteS a0)).2.2.2.2.2))) false (cond (!(leqByteS (ltoByteS a0) (ltoByteS a0))) false (cond (decide (((lmarkByteS (1 : Int) (ltoByteS a0)).1) < (0 : Int))) false (cond (!(k1_lFnExactGetWord a0)) false (cond (!(((iGetWord (ltoByteS a0)).2.2.2.2.1) == ((sGetWord (ltoByteS a0)).2.2.2.2.2))) false (cond (decide ((k3_lFnExactGetWord a0) < (0 : Int))) false (cond ((k3_lFnExactGetWord a0) != ((k2_lFnExactGetWord a0).1)) false (cond (!(k1_lFnExactGetWord a0)) false (cond (!(((iGetWord (ltoByteS a0)).2.2.2.2.1) == ((sGetWord (ltoByteS a0)).2.2.2.2.2))) false (cond (decide ((k3_lFnExactGetWord a0) < (0 : Int))) false (cond ((k3_lFnExactGetWord a0) != ((k2_lFnExactGetWord a0).1)) false true)))))))))))))
noncomputable abbrev e_lFnExactGetWord (r : Bool) : AV × List AObj := ((.t true .bool r), [])
noncomputable abbrev g_lFnExactGetWord : pshsDen P_lFnExactGetWord → AV × List AObj := fun d => e_lFnExactGetWord (lFnExactGetWord d.1)
noncomputable def q_lFnExactGetWord (a0 : List Int) : Bool := cond (decide (((a0.length : Nat) : Int) > (1048576 : Int))) true ((q_ltoByteS a0) && ((q_sGetWord (ltoByteS a0)) && ((q_ltoByteS a0) && ((q_iGetWord (ltoByteS a0)) && ((q_leqWord ((iGetWord (ltoByteS a0)).1) ((iGetWord (ltoByteS a0)).2.1) ((iGetWord (ltoByteS a0)).2.2.1) ((iGetWord (ltoByteS a0)).2.2.2.2.2) ((iGetWord (ltoByteS a0)).2.2.2.1) ((sGetWord (ltoByteS a0)).1) ((sGetWord (ltoByteS a0)).2.1) ((sGetWord (ltoByteS a0)).2.2.1) ((sGetWord (ltoByteS a0)).2.2.2.1) ((sGetWord (ltoByteS a0)).2.2.2.2.1)) && (cond (!(k1_lFnExactGetWord a0)) true (cond (!(((iGetWord (ltoByteS a0)).2.2.2.2.1) == ((sGetWord (ltoByteS a0)).2.2.2.2.2))) true ((q_ltoByteS a0) && ((q_leqByteS (ltoByteS a0) (ltoByteS a0)) && (cond (!(leqByteS (ltoByteS a0) (ltoByteS a0))) true ((q_lmarkByteS (1 : Int) (ltoByteS a0)) && (cond (decide (((lmarkByteS (1 : Int) (ltoByteS a0)).1) < (0 : Int))) true ((q_leqWord ((iGetWord (ltoByteS a0)).1) ((iGetWord (ltoByteS a0)).2.1) ((iGetWord (ltoByteS a0)).2.2.1) ((iGetWord (ltoByteS a0)).2.2.2.2.2) ((iGetWord (ltoByteS a0)).2.2.2.1) ((sGetWord (ltoByteS a0)).1) ((sGetWord (ltoByteS a0)).2.1) ((sGetWord (ltoByteS a0)).2.2.1) ((sGetWord (ltoByteS a0)).2.2.2.1) ((sGetWord (ltoByteS a0)).2.2.2.2.1)) && (cond (!(k1_lFnExactGetWord a0)) true (cond (!(((iGetWord (ltoByteS a0)).2.2.2.2.1) == ((sGetWord (ltoByteS a0)).2.2.2.2.2))) true ((q_lmarkWord ((iGetWord (ltoByteS a0)).1) ((iGetWord (ltoByteS a0)).2.1) ((iGetWord (ltoByteS a0)).2.2.1) ((iGetWord (ltoByteS a0)).2.2.2.1) (1 : Int) ((iGetWord (ltoByteS a0)).2.2.2.2.2)) && ((q_lheldWord ((iGetWord (ltoByteS a0)).1) ((iGetWord (ltoByteS a0)).2.1) ((iGetWord (ltoByteS a0)).2.2.1) ((k2_lFnExactGetWord a0).2) ((iGetWord (ltoByteS a0)).2.2.2.1) (1 : Int)) && (cond (decide ((k3_lFnExactGetWord a0) < (0 : Int))) true (cond ((k3_lFnExactGetWord a0) != ((k2_lFnExactGetWord a0).1)) true ((q_ltoByteS a0) && ((q_iGetWord (ltoByteS a0)) && ((q_leqWord ((iGetWord (ltoByteS a0)).1) ((iGetWord (ltoByteS a0)).2.1) ((iGetWord (ltoByteS a0)).2.2.1) ((iGetWord (ltoByteS a0)).2.2.2.2.2) ((iGetWord (ltoByteS a0)).2.2.2.1) ((sGetWord (ltoByteS a0)).1) ((sGetWord (ltoByteS a0)).2.1) ((sGetWord (ltoByteS a0)).2.2.1) ((sGetWord (ltoByteS a0)).2.2.2.1) ((sGetWord (ltoByteS a0)).2.2.2.2.1)) && (cond (!(k1_lFnExactGetWord a0)) true (cond (!(((iGetWord (ltoByteS a0)).2.2.2.2.1) == ((sGetWord (ltoByteS a0)).2.2.2.2.2))) true (q_lheldWord ((iGetWord (ltoByteS a0)).1) ((iGetWord (ltoByteS a0)).2.1) ((iGetWord (ltoByteS a0)).2.2.1) ((k2_lFnExactGetWord a0).2) ((iGetWord (ltoByteS a0)).2.2.2.1) (1 : Int))))))))))))))))))))))))))
noncomputable abbrev pre_lFnExactGetWord : pshsDen P_lFnExactGetWord → Bool := fun d => q_lFnExactGetWord d.1
theorem runA_lFnExactGetWord (a0 : List Int) (hp : (cond (decide (((a0.length : Nat) : Int) > (1048576 : Int))) true ((q_ltoByteS a0) && ((q_sGetWord (ltoByteS a0)) && ((q_ltoByteS a0) && ((q_iGetWord (ltoByteS a0)) && ((q_leqWord ((iGetWord (ltoByteS a0)).1) ((iGetWord (ltoByteS a0)).2.1) ((iGetWord (ltoByteS a0)).2.2.1) ((iGetWord (ltoByteS a0)).2.2.2.2.2) ((iGetWord (ltoByteS a0)).2.2.2.1) ((sGetWord (ltoByteS a0)).1) ((sGetWord (ltoByteS a0)).2.1) ((sGetWord (ltoByteS a0)).2.2.1) ((sGetWord (ltoByteS a0)).2.2.2.1) ((sGetWord (ltoByteS a0)).2.2.2.2.1)) && (cond (!(k1_lFnExactGetWord a0)) true (cond (!(((iGetWord (ltoByteS a0)).2.2.2.2.1) == ((sGetWord (ltoByteS a0)).2.2.2.2.2))) true ((q_ltoByteS a0) && ((q_leqByteS (ltoByteS a0) (ltoByteS a0)) && (cond (!(leqByteS (ltoByteS a0) (ltoByteS a0))) true ((q_lmarkByteS (1 : Int) (ltoByteS a0)) && (cond (decide (((lmarkByteS (1 : Int) (ltoByteS a0)).1) < (0 : Int))) true ((q_leqWord ((iGetWord (ltoByteS a0)).1) ((iGetWord (ltoByteS a0)).2.1) ((iGetWord (ltoByteS a0)).2.2.1) ((iGetWord (ltoByteS a0)).2.2.2.2.2) ((iGetWord (ltoByteS a0)).2.2.2.1) ((sGetWord (ltoByteS a0)).1) ((sGetWord (ltoByteS a0)).2.1) ((sGetWord (ltoByteS a0)).2.2.1) ((sGetWord (ltoByteS a0)).2.2.2.1) ((sGetWord (ltoByteS a0)).2.2.2.2.1)) && (cond (!(k1_lFnExactGetWord a0)) true (cond (!(((iGetWord (ltoByteS a0)).2.2.2.2.1) == ((sGetWord (ltoByteS a0)).2.2.2.2.2))) true ((q_lmarkWord ((iGetWord (ltoByteS a0)).1) ((iGetWord (ltoByteS a0)).2.1) ((iGetWord (ltoByteS a0)).2.2.1) ((iGetWord (ltoByteS a0)).2.2.2.1) (1 : Int) ((iGetWord (ltoByteS a0)).2.2.2.2.2)) && ((q_lheldWord ((iGetWord (ltoByteS a0)).1) ((iGetWord (ltoByteS a0)).2.1) ((iGetWord (ltoByteS a0)).2.2.1) ((k2_lFnExactGetWord a0).2) ((iGetWord (ltoByteS a0)).2.2.2.1) (1 : Int)) && (cond (decide ((k3_lFnExactGetWord a0) < (0 : Int))) true (cond ((k3_lFnExactGetWord a0) != ((k2_lFnExactGetWord a0).1)) true ((q_ltoByteS a0) && ((q_iGetWord (ltoByteS a0)) && ((q_leqWord ((iGetWord (ltoByteS a0)).1) ((iGetWord (ltoByteS a0)).2.1) ((iGetWord (ltoByteS a0)).2.2.1) ((iGetWord (ltoByteS a0)).2.2.2.2.2) ((iGetWord (ltoByteS a0)).2.2.2.1) ((sGetWord (ltoByteS a0)).1) ((sGetWord (ltoByteS a0)).2.1) ((sGetWord (ltoByteS a0)).2.2.1) ((sGetWord (ltoByteS a0)).2.2.2.1) ((sGetWord (ltoByteS a0)).2.2.2.2.1)) && (cond (!(k1_lFnExactGetWord a0)) true (cond (!(((iGetWord (ltoByteS a0)).2.2.2.2.1) == ((sGetWord (ltoByteS a0)).2.2.2.2.2))) true (q_lheldWord ((iGetWord (ltoByteS a0)).1) ((iGetWord (ltoByteS a0)).2.1) ((iGetWord (ltoByteS a0)).2.2.1) ((k2_lFnExactGetWord a0).2) ((iGetWord (ltoByteS a0)).2.2.2.1) (1 : Int))))))))))))))))))))))))))) = true) : runP true Try.prog tt S42 QF42 (fun _ _ => none) Try.f11 (argsMk P_lFnExactGetWord (a0, ())) = some (g_lFnExactGetWord (a0, ())) := by
  refine Eq.trans (b := (cond (decide (((a0.length : Nat) : Int) > (1048576 : Int))) (some (e_lFnExactGetWord true)) (cond (q_ltoByteS a0) (cond (q_sGetWord (ltoByteS a0)) (cond (q_ltoByteS a0) (cond (q_iGetWord (ltoByteS a0)) (cond (q_leqWord ((iGetWord (ltoByteS a0)).1) ((iGetWord (ltoByteS a0)).2.1) ((iGetWord (ltoByteS a0)).2.2.1) ((iGetWord (ltoByteS a0)).2.2.2.2.2) ((iGetWord (ltoByteS a0)).2.2.2.1) ((sGetWord (ltoByteS a0)).1) ((sGetWord (ltoByteS a0)).2.1) ((sGetWord (ltoByteS a0)).2.2.1) ((sGetWord (ltoByteS a0)).2.2.2.1) ((sGetWord (ltoByteS a0)).2.2.2.2.1)) (cond (!(k1_lFnExactGetWord a0)) (some (e_lFnExactGetWord false)) (cond (!(((iGetWord (ltoByteS a0)).2.2.2.2.1) == ((sGetWord (ltoByteS a0)).2.2.2.2.2))) (some (e_lFnExactGetWord false)) (cond (q_ltoByteS a0) (cond (q_leqByteS (ltoByteS a0) (ltoByteS a0)) (cond (!(leqByteS (ltoByteS a0) (ltoByteS a0))) (some (e_lFnExactGetWord false)) (cond (q_lmarkByteS (1 : Int) (ltoByteS a0)) (cond (decide (((lmarkByteS (1 : Int) (ltoByteS a0)).1) < (0 : Int))) (some (e_lFnExactGetWord false)) (cond (q_leqWord ((iGetWord (ltoByteS a0)).1) ((iGetWord (ltoByteS a0)).2.1) ((iGetWord (ltoByteS a0)).2.2.1) ((iGetWord (ltoByteS a0)).2.2.2.2.2) ((iGetWord (ltoByteS a0)).2.2.2.1) ((sGetWord (ltoByteS a0)).1) ((sGetWord (ltoByteS a0)).2.1) ((sGetWord (ltoByteS a0)).2.2.1) ((sGetWord (ltoByteS a0)).2.2.2.1) ((sGetWord (ltoByteS a0)).2.2.2.2.1)) (cond (!(k1_lFnExactGetWord a0)) (some (e_lFnExactGetWord false)) (cond (!(((iGetWord (ltoByteS a0)).2.2.2.2.1) == ((sGetWord (ltoByteS a0)).2.2.2.2.2))) (some (e_lFnExactGetWord false)) (cond (q_lmarkWord ((iGetWord (ltoByteS a0)).1) ((iGetWord (ltoByteS a0)).2.1) ((iGetWord (ltoByteS a0)).2.2.1) ((iGetWord (ltoByteS a0)).2.2.2.1) (1 : Int) ((iGetWord (ltoByteS a0)).2.2.2.2.2)) (cond (q_lheldWord ((iGetWord (ltoByteS a0)).1) ((iGetWord (ltoByteS a0)).2.1) ((iGetWord (ltoByteS a0)).2.2.1) ((k2_lFnExactGetWord a0).2) ((iGetWord (ltoByteS a0)).2.2.2.1) (1 : Int)) (cond (decide ((k3_lFnExactGetWord a0) < (0 : Int))) (some (e_lFnExactGetWord false)) (cond ((k3_lFnExactGetWord a0) != ((k2_lFnExactGetWord a0).1)) (some (e_lFnExactGetWord false)) (cond (q_ltoByteS a0) (cond (q_iGetWord (ltoByteS a0)) (cond (q_leqWord ((iGetWord (ltoByteS a0)).1) ((iGetWord (ltoByteS a0)).2.1) ((iGetWord (ltoByteS a0)).2.2.1) ((iGetWord (ltoByteS a0)).2.2.2.2.2) ((iGetWord (ltoByteS a0)).2.2.2.1) ((sGetWord (ltoByteS a0)).1) ((sGetWord (ltoByteS a0)).2.1) ((sGetWord (ltoByteS a0)).2.2.1) ((sGetWord (ltoByteS a0)).2.2.2.1) ((sGetWord (ltoByteS a0)).2.2.2.2.1)) (cond (!(k1_lFnExactGetWord a0)) (some (e_lFnExactGetWord false)) (cond (!(((iGetWord (ltoByteS a0)).2.2.2.2.1) == ((sGetWord (ltoByteS a0)).2.2.2.2.2))) (some (e_lFnExactGetWord false)) (cond (q_lheldWord ((iGetWord (ltoByteS a0)).1) ((iGetWord (ltoByteS a0)).2.1) ((iGetWord (ltoByteS a0)).2.2.1) ((k2_lFnExactGetWord a0).2) ((iGetWord (ltoByteS a0)).2.2.2.1) (1 : Int)) (cond (decide ((k3_lFnExactGetWord a0) < (0 : Int))) (some (e_lFnExactGetWord false)) (cond ((k3_lFnExactGetWord a0) != ((k2_lFnExactGetWord a0).1)) (some (e_lFnExactGetWord false)) (some (e_lFnExactGetWord true)))) none))) none) none) none))) none) none))) none)) none)) none) none))) none) none) none) none) none))) (by kernel_rfl) ?_
  exact (cndQ (F := fun r => some (e_lFnExactGetWord r)) hp (fun hp => rfl) (fun hp => (cndT (andL hp) (fun _h => (fun hp => (cndT (andL hp) (fun _h => (fun hp => (cndT (andL hp) (fun _h => (fun hp => (cndT (andL hp) (fun _h => (fun hp => (cndT (andL hp) (fun _h => (fun hp => (cndQ (F := fun r => some (e_lFnExactGetWord r)) hp (fun hp => rfl) (fun hp => (cndQ (F := fun r => some (e_lFnExactGetWord r)) hp (fun hp => rfl) (fun hp => (cndT (andL hp) (fun _h => (fun hp => (cndT (andL hp) (fun _h => (fun hp => (cndQ (F := fun r => some (e_lFnExactGetWord r)) hp (fun hp => rfl) (fun hp => (cndT (andL hp) (fun _h => (fun hp => (cndQ (F := fun r => some (e_lFnExactGetWord r)) hp (fun hp => rfl) (fun hp => (cndT (andL hp) (fun _h => (fun hp => (cndQ (F := fun r => some (e_lFnExactGetWord r)) hp (fun hp => rfl) (fun hp => (cndQ (F := fun r => some (e_lFnExactGetWord r)) hp (fun hp => rfl) (fun hp => (cndT (andL hp) (fun _h => (fun hp => (cndT (andL hp) (fun _h => (fun hp => (cndQ (F := fun r => some (e_lFnExactGetWord r)) hp (fun hp => rfl) (fun hp => (cndQ (F := fun r => some (e_lFnExactGetWord r)) hp (fun hp => rfl) (fun hp => (cndT (andL hp) (fun _h => (fun hp => (cndT (andL hp) (fun _h => (fun hp => (cndT (andL hp) (fun _h => (fun hp => (cndQ (F := fun r => some (e_lFnExactGetWord r)) hp (fun hp => rfl) (fun hp => (cndQ (F := fun r => some (e_lFnExactGetWord r)) hp (fun hp => rfl) (fun hp => (cndT hp (fun _h => (cnd (F := fun r => some (e_lFnExactGetWord r)) (fun _h => rfl) (fun _h => (cnd (F := fun r => some (e_lFnExactGetWord r)) (fun _h => rfl) (fun _h => rfl))))))))))) (andR hp)))) (andR hp)))) (andR hp)))))))) (andR hp)))) (andR hp)))))))) (andR hp)))))) (andR hp)))))) (andR hp)))) (andR hp)))))))) (andR hp)))) (andR hp)))) (andR hp)))) (andR hp)))) (andR hp)))))
theorem run_lFnExactGetWord : ∀ d, pre_lFnExactGetWord d = true → runP true Try.prog tt S42 QF42 (fun _ _ => none) Try.f11 (argsMk P_lFnExactGetWord d) = some (g_lFnExactGetWord d) := fun d hp => runA_lFnExactGetWord d.1 hp
theorem c_lFnExactGetWord : PContract Try.prog 11 (sumOf P_lFnExactGetWord pre_lFnExactGetWord g_lFnExactGetWord) := PContract.of_data true G42 (fn := Try.f11) (by kernel_rfl) (L := fun _ _ => none) (by rw [show loopsIn 0 (bodyOf Try.f11) = [] by kernel_rfl]; simp) P_lFnExactGetWord pre_lFnExactGetWord g_lFnExactGetWord run_lFnExactGetWord
noncomputable def S43 : Tab := Tab.add S42 11 (lift (sumOf P_lFnExactGetWord pre_lFnExactGetWord g_lFnExactGetWord))
noncomputable def QF43 : FuncId → Bool := qadd QF42 11
theorem G43 : Good Try.prog tt S43 QF43 := G42.addQ c_lFnExactGetWord ⟨Try.f11, by kernel_rfl, by kernel_rfl, by kernel_rfl⟩ (fun _ => rfl)
/-- Bytes, all of them. -/
noncomputable def okB (b : List Int) : Prop := ∀ c ∈ b, 0 ≤ c ∧ c ≤ 255
/-- Yes as a number. -/
noncomputable def bN (y : Bool) : Int := cond y 1 0
/-- The bytes of ops. -/
noncomputable def opsB (l : List (Int × ByteArray × ByteArray)) : List Int := numB (l.length : Int) ++ (l.map opB).flatten
/-- The bytes of a word that is right. -/
noncomputable def wordB (k s t : Int) (l : List (Int × ByteArray × ByteArray)) (y : Bool) : List Int := numB k ++ (numB s ++ (numB t ++ (numB (bN y) ++ cond (k == 1) (opsB l) [])))
/-- A number out of bytes: its value and how many bytes it takes. -/
noncomputable def pN : Nat → Nat → Nat → List Int → Option (Nat × Nat)
  | 0, _, _, _ => none
  | _ + 1, _, _, [] => none
  | f + 1, k, n, c :: r =>
    if c > 127 then pN f (k + 1) (n + c.toNat % 128 * 2 ^ (7 * k)) r
    else if (0 < k ∧ c = 0) ∨ n + c.toNat * 2 ^ (7 * k) > 1000000000 then none else some (n + c.toNat * 2 ^ (7 * k), k + 1)
/-- A number at a place: its value, the place behind, whether there is one. -/
noncomputable def gN (b : List Int) (at' : Int) : Int × Int × Bool :=
  if 0 ≤ at' ∧ at' < b.length then (match pN 5 0 0 (b.drop at'.toNat) with
    | some (n, l) => ((n : Int), at' + l, true)
    | none => (0, 0, false)) else (0, 0, false)
theorem wrapU64 {n : Int} (h1 : 0 ≤ n) (h2 : n < 18446744073709551616) : IntKind.wrap .u64 n = n := by
  show (if (false && decide (n % (2 ^ 64 : Int) ≥ (2 ^ 63 : Int))) = true then n % (2 ^ 64 : Int) - (2 ^ 64 : Int) else n % (2 ^ 64 : Int)) = n
  simp only [Bool.false_and, Bool.false_eq_true, if_false]; omega
theorem drop_cons {b : List Int} {i : Nat} (h : i < b.length) : b.drop i = b.getD i 0 :: b.drop (i + 1) := by
  rw [List.drop_eq_getElem_cons h]; simp [List.getD_eq_getElem?_getD, h]
theorem ofInt_nat (n : Nat) (h : n < 18446744073709551616) : (BitVec.ofInt 64 (n : Int)).toNat = n := by
  simp [BitVec.toNat_ofInt]; omega
theorem iand127 (n : Nat) (h : n < 9223372036854775808) : iand .i64 (n : Int) 127 = ((n % 128 : Nat) : Int) := by
  show IntKind.wrap .i64 (((BitVec.ofInt 64 (n : Int) &&& BitVec.ofInt 64 ((127 : Nat) : Int)).toNat : Nat) : Int) = _
  rw [BitVec.toNat_and, ofInt_nat n (by omega), ofInt_nat 127 (by omega), show (127 : Nat) = 2 ^ 7 - 1 from rfl, Nat.and_two_pow_sub_one_eq_mod]
  exact wrap64 (by omega) (by omega)
theorem shl7 (c k : Nat) (hc : c ≤ 255) (hk : k < 5) : IntKind.wrap .i64 ((iand .i64 (IntKind.wrap .i64 (c : Int)) (127 : Int)) * 2 ^ (min (Int.toNat (IntKind.wrap .u64 (IntKind.wrap .i64 ((7 : Int) * (k : Int))))) (IntKind.bits .i64))) = ((c % 128 * 2 ^ (7 * k) : Nat) : Int) := by
  rw [wrap64 (n := (c : Int)) (by omega) (by omega), iand127 c (by omega), wrap64 (n := (7 : Int) * (k : Int)) (by omega) (by omega), wrapU64 (by omega) (by omega)]
  have e : Int.toNat ((7 : Int) * (k : Int)) = 7 * k := by omega
  have e2 : min (7 * k) (IntKind.bits .i64) = 7 * k := Nat.min_eq_left (by show 7 * k ≤ 64; omega)
  rw [e, e2]
  have h1 : c % 128 * 2 ^ (7 * k) ≤ 128 * 2 ^ 28 := Nat.mul_le_mul (by omega) (Nat.pow_le_pow_right (by decide) (by omega))
  have h2 : (128 : Nat) * 2 ^ 28 = 34359738368 := by decide
  have e3 : ((c % 128 : Nat) : Int) * 2 ^ (7 * k) = ((c % 128 * 2 ^ (7 * k) : Nat) : Int) := by simp
  rw [e3]
  exact wrap64 (by omega) (by omega)
theorem iorAdd (n m j : Nat) (hn : n < 2 ^ j) (h : n + m * 2 ^ j < 9223372036854775808) : ior .i64 (n : Int) ((m * 2 ^ j : Nat) : Int) = ((n + m * 2 ^ j : Nat) : Int) := by
  show IntKind.wrap .i64 (((BitVec.ofInt 64 (n : Int) ||| BitVec.ofInt 64 ((m * 2 ^ j : Nat) : Int)).toNat : Nat) : Int) = _
  rw [BitVec.toNat_or, ofInt_nat n (by omega), ofInt_nat _ (by omega), Nat.or_comm, Nat.mul_comm m, ← Nat.two_pow_add_eq_or_of_lt hn, Nat.add_comm]
  rw [Nat.mul_comm m] at h
  exact wrap64 (by omega) (by omega)
theorem acc7 (n c k : Nat) (hc : c ≤ 255) (hk : k < 5) (hn : n < 2 ^ (7 * k)) : ior .i64 (n : Int) (IntKind.wrap .i64 ((iand .i64 (IntKind.wrap .i64 (c : Int)) (127 : Int)) * 2 ^ (min (Int.toNat (IntKind.wrap .u64 (IntKind.wrap .i64 ((7 : Int) * (k : Int))))) (IntKind.bits .i64)))) = ((n + c % 128 * 2 ^ (7 * k) : Nat) : Int) ∧ n + c % 128 * 2 ^ (7 * k) < 2 ^ (7 * (k + 1)) ∧ n + c % 128 * 2 ^ (7 * k) < 9223372036854775808 := by
  have h3 : n + c % 128 * 2 ^ (7 * k) < 2 ^ (7 * (k + 1)) := by
    rw [show 7 * (k + 1) = 7 * k + 7 by omega, Nat.pow_add, show (2 : Nat) ^ 7 = 128 from rfl]
    have : c % 128 * 2 ^ (7 * k) ≤ 127 * 2 ^ (7 * k) := Nat.mul_le_mul_right _ (by omega)
    omega
  have h4 : (2 : Nat) ^ (7 * (k + 1)) ≤ 2 ^ 35 := Nat.pow_le_pow_right (by decide) (by omega)
  have h5 : (2 : Nat) ^ 35 = 34359738368 := by decide
  refine ⟨?_, h3, by omega⟩
  rw [shl7 c k hc hk]
  exact iorAdd n (c % 128) (7 * k) hn (by omega)
theorem okB.getD {b : List Int} (h : okB b) (i : Nat) : 0 ≤ b.getD i 0 ∧ b.getD i 0 ≤ 255 := by
  rw [List.getD_eq_getElem?_getD]
  cases e : b[i]? with
  | none => simp
  | some c => exact h c (List.mem_of_getElem? e)
theorem okB.drop {b : List Int} (h : okB b) (i : Nat) : okB (b.drop i) := fun c hc => h c (List.mem_of_mem_drop hc)
theorem sGetNum_it {b : List Int} (hb : okB b) (hl : b.length ≤ 1099511627776) {i : Nat} (hi : i < b.length) :
    (match pN 5 0 0 (b.drop i) with
      | some (n, l) => it_sGetNum_0 b (i : Int) 0 0 = (0, (n : Int), (i : Int) + l, true)
      | none => it_sGetNum_0 b (i : Int) 0 0 = (0, 0, 0, false) ∨ (it_sGetNum_0 b (i : Int) 0 0).1 = 1) := by
  refine itX_inv (fun v => ∃ k n : Nat, v = (b, (i : Int), (n : Int), (k : Int)) ∧ k ≤ 5 ∧ n < 2 ^ (7 * k) ∧ pN (5 - k) k n (b.drop (i + k)) = pN 5 0 0 (b.drop i)) (fun a => match pN 5 0 0 (b.drop i) with
      | some (n, l) => a = (0, (n : Int), (i : Int) + l, true)
      | none => a = (0, 0, 0, false) ∨ a.1 = 1) (fun v => 5 - v.2.2.2.toNat) ?_ ⟨0, 0, rfl, by omega, by simp, rfl⟩ (by simp)
  rintro v ⟨k, n, rfl, hk, hn, hp⟩
  by_cases h5 : k < 5
  · have e1 : decide ((k : Int) < 5) = true := decide_eq_true (by omega)
    have e2 : decide ((i : Int) ≥ 0) = true := decide_eq_true (by omega)
    have e3 : decide ((i : Int) < ((b.length : Nat) : Int)) = true := decide_eq_true (by omega)
    have e4 : IntKind.wrap .i64 ((i : Int) + (k : Int)) = ((i + k : Nat) : Int) := by rw [wrap64 (by omega) (by omega)]; omega
    by_cases hik : i + k < b.length
    · have e5 : decide (((i + k : Nat) : Int) < ((b.length : Nat) : Int)) = true := decide_eq_true (by omega)
      have e6 : decide (0 ≤ ((i + k : Nat) : Int) ∧ ((i + k : Nat) : Int) < ((b.length : Nat) : Int)) = true := decide_eq_true (by omega)
      have e7 : decide (0 ≤ (IntKind.wrap .u64 (IntKind.wrap .i64 ((7 : Int) * (k : Int))))) = true := by
        rw [wrap64 (n := (7 : Int) * (k : Int)) (by omega) (by omega), wrapU64 (by omega) (by omega)]; exact decide_eq_true (by omega)
      obtain ⟨hc0, hc1⟩ := hb.getD (i + k)
      have hdc := drop_cons hik
      obtain ⟨c, hc⟩ := Int.eq_ofNat_of_zero_le hc0
      rw [hc] at hc1 hdc
      have hc255 : c ≤ 255 := by omega
      obtain ⟨f1, f2, f3⟩ := acc7 n c k hc255 h5 hn
      have e8 : IntKind.wrap .i64 (c : Int) = (c : Int) := wrap64 (by omega) (by omega)
      rw [hdc, show 5 - k = (4 - k) + 1 by omega, pN] at hp
      simp only [Int.toNat_natCast] at hp
      simp only [ss_sGetNum_0, e1, e2, e3, e4, e5, e6, e7, cond_true, Int.toNat_natCast, hc, f1]
      simp only [e8]
      by_cases h127 : c > 127
      · rw [if_pos (by omega)] at hp
        have e9 : decide ((c : Int) > 127) = true := decide_eq_true (by omega)
        simp only [e9, cond_true]
        refine .inl ⟨_, rfl, ⟨k + 1, n + c % 128 * 2 ^ (7 * k), ?_, by omega, f2, ?_⟩, ?_⟩
        · rw [wrapU k (by omega)]
        · rw [show 5 - (k + 1) = 4 - k by omega, ← hp]; rfl
        · rw [wrapU k (by omega)]; simp; omega
      · rw [if_neg (by omega)] at hp
        have e9 : decide ((c : Int) > 127) = false := decide_eq_false (by omega)
        have hcm : c % 128 = c := by omega
        rw [hcm] at f3 ⊢
        simp only [e9, cond_false]
        right
        by_cases hz : 0 < k ∧ c = 0
        · rw [if_pos (by omega)] at hp
          have e10 : decide ((k : Int) > 0) = true := decide_eq_true (by omega)
          have e11 : ((c : Int) == 0) = true := by rw [beq_iff_eq]; omega
          simp only [e10, e11, cond_true]
          exact ⟨_, rfl, by rw [← hp]; exact .inl rfl⟩
        · by_cases hg : n + c * 2 ^ (7 * k) > 1000000000
          · rw [if_pos (.inr hg)] at hp
            have e12 : decide (((n + c * 2 ^ (7 * k) : Nat) : Int) > 1000000000) = true := decide_eq_true (by omega)
            simp only [e12, cond_true]
            refine ⟨(0, 0, 0, false), ?_, by rw [← hp]; exact .inl rfl⟩
            cases decide ((k : Int) > 0) <;> cases ((c : Int) == 0) <;> rfl
          · rw [if_neg (fun h => h.elim (fun h => hz ⟨h.1, by omega⟩) hg)] at hp
            have e12 : decide (((n + c * 2 ^ (7 * k) : Nat) : Int) > 1000000000) = false := decide_eq_false (by omega)
            have e13 : IntKind.wrap .i64 (((i + k : Nat) : Int) + 1) = ((i + k + 1 : Nat) : Int) := wrapU (i + k) (by omega)
            simp only [e12, cond_false, e13]
            refine ⟨(0, ((n + c * 2 ^ (7 * k) : Nat) : Int), ((i + k + 1 : Nat) : Int), true), ?_, ?_⟩
            · by_cases h0 : 0 < k
              · have e10 : decide ((k : Int) > 0) = true := decide_eq_true (by omega)
                have e11 : ((c : Int) == 0) = false := by rw [beq_eq_false_iff_ne]; intro h; exact hz ⟨h0, by omega⟩
                simp only [e10, e11, cond_true, cond_false]
              · have e10 : decide ((k : Int) > 0) = false := decide_eq_false (by omega)
                simp only [e10, cond_false]
            · rw [← hp]; show _ = _
              congr 3
    · have e5 : decide (((i + k : Nat) : Int) < ((b.length : Nat) : Int)) = false := decide_eq_false (by omega)
      rw [show 5 - k = (4 - k) + 1 by omega, List.drop_eq_nil_of_le (by omega), pN] at hp
      simp only [ss_sGetNum_0, e1, e2, e3, e4, e5, cond_true, cond_false]
      exact .inr ⟨_, rfl, by rw [← hp]; exact .inr rfl⟩
  · obtain rfl : k = 5 := by omega
    have e1 : decide (((5 : Nat) : Int) < 5) = false := by decide
    simp only [ss_sGetNum_0, e1, cond_false]
    exact .inr ⟨_, rfl, by rw [← hp]; exact .inr rfl⟩
theorem sGetNum_spec {b : List Int} (hb : okB b) (hl : b.length ≤ 1099511627776) (a : Int) : sGetNum b a = gN b a ∧ q_sGetNum b a = true := by
  simp only [sGetNum, q_sGetNum, gN]
  by_cases h : 0 ≤ a ∧ a < b.length
  · obtain ⟨i, rfl⟩ := Int.eq_ofNat_of_zero_le h.1
    have hi : i < b.length := by omega
    rw [if_pos h, Int.toNat_natCast]
    have := sGetNum_it hb hl hi
    cases hp : pN 5 0 0 (b.drop i) with
    | some x =>
      rw [hp] at this
      simp only at this
      rw [this]; exact ⟨rfl, rfl⟩
    | none =>
      rw [hp] at this
      rcases this with h1 | h1
      · rw [h1]; exact ⟨rfl, rfl⟩
      · rw [h1]; exact ⟨rfl, rfl⟩
  · rw [if_neg h]
    have : (it_sGetNum_0 b a 0 0).1 = 1 := by
      refine itX_inv (fun v : V_sGetNum_0 => v.1 = b ∧ v.2.1 = a) (fun r : A_sGetNum_0 => r.1 = 1) (fun _ => 0) (fun v hv => ?_) ⟨rfl, rfl⟩ (by simp)
      obtain ⟨x, y, n, k⟩ := v
      obtain ⟨rfl, rfl⟩ := hv
      right
      simp only [ss_sGetNum_0]
      cases decide (k < 5) with
      | false => exact ⟨_, rfl, rfl⟩
      | true =>
        by_cases h1 : y ≥ 0
        · have e2 : decide (y < ((x.length : Nat) : Int)) = false := decide_eq_false (fun h2 => h ⟨h1, h2⟩)
          simp only [decide_eq_true h1, e2, cond_true, cond_false]
          exact ⟨_, rfl, rfl⟩
        · simp only [decide_eq_false h1, cond_true, cond_false]
          exact ⟨_, rfl, rfl⟩
    rw [this]; exact ⟨rfl, rfl⟩
/-- The bytes of a number behind others. -/
noncomputable def hiB (j x : Nat) : List Int := (hiF gNum j (x : Int)).1 ++ [IntKind.wrap .u8 (hiF gNum j (x : Int)).2]
theorem hiF_stop (j x : Nat) (h : ¬ 127 < x) : hiF gNum j (x : Int) = ([], (x : Int)) := by
  cases j with
  | zero => rfl
  | succ j =>
    have e : decide ((x : Int) > 127) = false := decide_eq_false (by omega)
    simp only [hiF, e, cond_false]
theorem wrapU8 {n : Int} (h1 : 0 ≤ n) (h2 : n < 256) : IntKind.wrap .u8 n = n := by
  show (if (false && decide (n % (2 ^ 8 : Int) ≥ (2 ^ 7 : Int))) = true then n % (2 ^ 8 : Int) - (2 ^ 8 : Int) else n % (2 ^ 8 : Int)) = n
  simp only [Bool.false_and, Bool.false_eq_true, if_false]; omega
theorem hiB_stop (j x : Nat) (h : ¬ 127 < x) : hiB j x = [(x : Int)] := by
  simp only [hiB, hiF_stop j x h, List.nil_append]; rw [wrapU8 (by omega) (by omega)]
theorem fdivN (n : Nat) : Int.fdiv (n : Int) (2 ^ 7) = ((n / 128 : Nat) : Int) := by
  rw [Int.fdiv_eq_ediv_of_nonneg _ (by decide)]; rfl
/-- The high bytes of a number, and what is left. -/
theorem hiF_step (j x : Nat) (h : 127 < x) : hiF gNum (j + 1) (x : Int) = (gNum x :: (hiF gNum j ((x / 128 : Nat) : Int)).1, (hiF gNum j ((x / 128 : Nat) : Int)).2) := by
  have e : decide ((x : Int) > 127) = true := decide_eq_true (by omega)
  simp only [hiF, e, cond_true, fdivN]
theorem gNum_val (n : Nat) (h : n < 9223372036854775808) : gNum (n : Int) = ((128 + n % 128 : Nat) : Int) := by
  simp only [gNum]
  rw [iand127 n h]
  have := iorAdd (n % 128) 1 7 (by omega) (by omega)
  have e : ((1 * 2 ^ 7 : Nat) : Int) = 128 := rfl
  rw [e] at this
  rw [this, wrapU8 (by omega) (by omega)]; omega
theorem hiB_step (j x : Nat) (h : 127 < x) (hx : x < 9223372036854775808) : hiB (j + 1) x = ((128 + x % 128 : Nat) : Int) :: hiB j (x / 128) := by
  simp only [hiB, hiF_step j x h, gNum_val x hx, List.cons_append]
theorem pN_inv : ∀ (j k n : Nat) (l : List Int) (m len : Nat), okB l → k + j ≤ 4 → pN (j + 1) k n l = some (m, len) →
    ∃ (x : Nat) (post : List Int), l = hiB j x ++ post ∧ m = n + x * 2 ^ (7 * k) ∧ len = k + (hiB j x).length ∧ (0 < k → 0 < x) ∧ x < 128 ^ (j + 1) ∧ m ≤ 1000000000 := by
  intro j
  induction j with
  | zero =>
    intro k n l m len hb hk h
    cases l with
    | nil => simp [pN] at h
    | cons c r =>
      obtain ⟨hc, _⟩ := hb c (by simp)
      obtain ⟨x, rfl⟩ := Int.eq_ofNat_of_zero_le hc
      simp only [pN, Int.toNat_natCast] at h
      split at h
      · cases h
      · split at h
        · cases h
        · simp only [Option.some.injEq, Prod.mk.injEq] at h
          obtain ⟨rfl, rfl⟩ := h
          exact ⟨x, r, by rw [hiB_stop 0 x (by omega)]; rfl, rfl, by rw [hiB_stop 0 x (by omega)]; rfl, by omega, by simp; omega, by omega⟩
  | succ j ih =>
    intro k n l m len hb hk h
    cases l with
    | nil => simp [pN] at h
    | cons c r =>
      obtain ⟨hc, hc'⟩ := hb c (by simp)
      obtain ⟨y, rfl⟩ := Int.eq_ofNat_of_zero_le hc
      rw [pN] at h
      simp only [Int.toNat_natCast] at h
      split at h
      · rename_i hgt
        obtain ⟨x, post, e1, e2, e3, e4, e5, e6⟩ := ih (k + 1) (n + y % 128 * 2 ^ (7 * k)) r m len (fun c hc => hb c (by simp [hc])) (by omega) h
        have hx0 := e4 (by omega)
        have hxb : y % 128 + 128 * x < 128 ^ (j + 1 + 1) := by rw [Nat.pow_succ]; omega
        have hxs : y % 128 + 128 * x < 9223372036854775808 := by
          have : (128 : Nat) ^ (j + 1 + 1) ≤ 128 ^ 5 := Nat.pow_le_pow_right (by decide) (by omega)
          have h5 : (128 : Nat) ^ 5 = 34359738368 := by decide
          omega
        have hst := hiB_step j (y % 128 + 128 * x) (by omega) hxs
        have q1 : (y % 128 + 128 * x) / 128 = x := by omega
        have q2 : 128 + (y % 128 + 128 * x) % 128 = y := by omega
        rw [q1, q2] at hst
        refine ⟨y % 128 + 128 * x, post, by rw [hst, e1]; rfl, ?_, by rw [hst, e3]; simp; omega, fun _ => by omega, hxb, e6⟩
        rw [e2, show 7 * (k + 1) = 7 * k + 7 by omega, Nat.pow_add, show (2 : Nat) ^ 7 = 128 from rfl, Nat.add_mul, Nat.mul_comm (2 ^ (7 * k)) 128, ← Nat.mul_assoc, Nat.mul_comm x 128]
        omega
      · rename_i hgt
        split at h
        · cases h
        · simp only [Option.some.injEq, Prod.mk.injEq] at h
          obtain ⟨rfl, rfl⟩ := h
          refine ⟨y, r, by rw [hiB_stop _ y (by omega)]; rfl, rfl, by rw [hiB_stop _ y (by omega)]; rfl, by omega, ?_, by omega⟩
          have : (128 : Nat) ^ 1 ≤ 128 ^ (j + 1 + 1) := Nat.pow_le_pow_right (by decide) (by omega)
          omega
theorem numB_hi (x : Nat) : numB (x : Int) = hiB 4 x := by simp only [numB, hiB, nX_eq]
theorem pN_of {l : List Int} (hb : okB l) {m len : Nat} (h : pN 5 0 0 l = some (m, len)) : ∃ post, l = numB (m : Int) ++ post ∧ len = (numB (m : Int)).length ∧ m ≤ 1000000000 := by
  obtain ⟨x, post, e1, e2, e3, e4, e5, e6⟩ := pN_inv 4 0 0 l m len hb (by omega) h
  have : x = m := by simp at e2; omega
  subst this
  exact ⟨post, by rw [numB_hi]; exact e1, by rw [numB_hi]; omega, e6⟩
theorem okB.take {b : List Int} (h : okB b) (i : Nat) : okB (b.take i) := fun c hc => h c (List.mem_of_mem_take hc)
theorem gN_of {b : List Int} (hb : okB b) {a n p : Int} (h : gN b a = (n, p, true)) : ∃ pre post, b = pre ++ (numB n ++ post) ∧ a = pre.length ∧ p = a + (numB n).length ∧ 0 ≤ n ∧ n ≤ 1000000000 := by
  simp only [gN] at h
  split at h
  · rename_i hc
    split at h
    · rename_i m l hp
      simp only [Prod.mk.injEq] at h
      obtain ⟨rfl, rfl, _⟩ := h
      obtain ⟨post, e1, e2, e3⟩ := pN_of (hb.drop _) hp
      refine ⟨b.take a.toNat, post, ?_, by rw [List.length_take]; omega, by rw [e2], by omega, by omega⟩
      rw [← e1, List.take_append_drop]
    · cases h
  · cases h
theorem okB.app {a b : List Int} (h : okB a) (h' : okB b) : okB (a ++ b) := fun c hc => (List.mem_append.1 hc).elim (h c) (h' c)
theorem gN_at {pre rest : List Int} (hb : okB (pre ++ rest)) {n p : Int} (h : gN (pre ++ rest) (pre.length : Int) = (n, p, true)) : ∃ post, rest = numB n ++ post ∧ p = ((pre ++ numB n).length : Int) ∧ 0 ≤ n ∧ n ≤ 1000000000 := by
  obtain ⟨pre', post, e1, e2, e3, e4, e5⟩ := gN_of hb h
  obtain ⟨_, q2⟩ := List.append_inj e1 (by omega)
  exact ⟨post, q2, by rw [e3, List.length_append]; omega, e4, e5⟩
theorem gN_at0 {b : List Int} (hb : okB b) {n p : Int} (h : gN b 0 = (n, p, true)) : ∃ post, b = numB n ++ post ∧ p = ((numB n).length : Int) ∧ 0 ≤ n ∧ n ≤ 1000000000 := gN_at (pre := []) hb h
theorem okB.right {a b : List Int} (h : okB (a ++ b)) : okB b := fun c hc => h c (List.mem_append_right _ hc)
/-- Bytes as a text. -/
noncomputable def strB (l : List Int) : ByteArray := ⟨(l.map fun n => UInt8.ofNat n.toNat).toArray⟩
/-- A text at a place. -/
noncomputable def gT (b : List Int) (a : Int) : ByteArray × Int × Bool :=
  if (gN b a).2.2 = true ∧ (gN b a).1 ≤ (b.length : Int) - (gN b a).2.1 then (strB ((b.drop (gN b a).2.1.toNat).take (gN b a).1.toNat), (gN b a).2.1 + (gN b a).1, true) else (⟨#[]⟩, 0, false)
/-- An op at a place. -/
noncomputable def gO (b : List Int) (p : Int) : (Int × ByteArray × ByteArray) × Int × Bool :=
  (((gN b p).1, (gT b (gN b p).2.1).1, (gT b (gT b (gN b p).2.1).2.1).1), (gT b (gT b (gN b p).2.1).2.1).2.1, (gN b p).2.2 && ((gT b (gN b p).2.1).2.2 && (gT b (gT b (gN b p).2.1).2.1).2.2))
/-- So many ops, one behind the other. -/
noncomputable def pO : Nat → List Int → Int → List (Int × ByteArray × ByteArray) → Option (List (Int × ByteArray × ByteArray) × Int)
  | 0, _, p, acc => some (acc, p)
  | k + 1, b, p, acc => cond (gO b p).2.2 (pO k b (gO b p).2.1 (acc ++ [(gO b p).1])) none
/-- Ops out of all bytes. -/
noncomputable def gOps (b : List Int) : List (Int × ByteArray × ByteArray) × Bool :=
  if (gN b 0).2.2 = true ∧ (gN b 0).1 ≤ 8 then (match pO (gN b 0).1.toNat b (gN b 0).2.1 [] with
    | some (l, q) => if q = (b.length : Int) ∧ sOpsOk l = true then (l, true) else ([], false)
    | none => ([], false)) else ([], false)
theorem gN_range {b : List Int} (hb : okB b) {a : Int} (h : (gN b a).2.2 = true) : 0 ≤ a ∧ a < (gN b a).2.1 ∧ (gN b a).2.1 ≤ b.length ∧ 0 ≤ (gN b a).1 ∧ (gN b a).1 ≤ 1000000000 := by
  obtain ⟨pre, post, e1, e2, e3, e4, e5⟩ := gN_of hb (a := a) (n := (gN b a).1) (p := (gN b a).2.1) (by rw [← h])
  have hlen := congrArg List.length e1
  simp only [List.length_append] at hlen
  have : 1 ≤ (numB (gN b a).1).length := by simp [numB]
  omega
/-- The two ways a text is read. -/
theorem gT_eq {b : List Int} (hb : okB b) (hl : b.length ≤ 1099511627776) (a : Int) :
    gT b a = (cond (!((gN b a).2.2)) ((⟨#[]⟩ : ByteArray), (0 : Int), false) (cond (decide (((gN b a).1) > (IntKind.wrap .i64 (((b.length : Nat) : Int) - ((gN b a).2.1))))) ((⟨#[]⟩ : ByteArray), (0 : Int), false) ((⟨(((b.take (IntKind.wrap .i64 (((gN b a).2.1) + ((gN b a).1))).toNat).drop ((gN b a).2.1).toNat).map fun n => UInt8.ofNat n.toNat).toArray⟩ : ByteArray), IntKind.wrap .i64 (((gN b a).2.1) + ((gN b a).1)), true))) ∧
    (cond (!((gN b a).2.2)) true (cond (decide (((gN b a).1) > (IntKind.wrap .i64 (((b.length : Nat) : Int) - ((gN b a).2.1))))) true (decide (0 ≤ ((gN b a).2.1) ∧ ((gN b a).2.1) ≤ (IntKind.wrap .i64 (((gN b a).2.1) + ((gN b a).1))) ∧ (IntKind.wrap .i64 (((gN b a).2.1) + ((gN b a).1))) ≤ ((b.length : Nat) : Int))))) = true := by
  cases h : (gN b a).2.2 with
  | false => simp only [gT, h, Bool.not_false, cond_true]; exact ⟨by rw [if_neg (by simp)], trivial⟩
  | true =>
    obtain ⟨r1, r2, r3, r4, r5⟩ := gN_range hb h
    have w1 : IntKind.wrap .i64 (((b.length : Nat) : Int) - ((gN b a).2.1)) = ((b.length : Nat) : Int) - (gN b a).2.1 := wrap64 (by omega) (by omega)
    have w2 : IntKind.wrap .i64 (((gN b a).2.1) + ((gN b a).1)) = (gN b a).2.1 + (gN b a).1 := wrap64 (by omega) (by omega)
    simp only [gT, h, Bool.not_true, cond_false, w1, w2]
    by_cases hc : (gN b a).1 ≤ (b.length : Int) - (gN b a).2.1
    · rw [if_pos ⟨trivial, hc⟩, decide_eq_false (by omega), cond_false, cond_false]
      refine ⟨?_, decide_eq_true (by omega)⟩
      simp only [strB]
      congr 4
      have : ((gN b a).2.1 + (gN b a).1).toNat = (gN b a).2.1.toNat + (gN b a).1.toNat := by omega
      rw [this, List.take_drop]
    · rw [if_neg (fun h => hc h.2), decide_eq_true (by omega), cond_true, cond_true]
      exact ⟨rfl, rfl⟩
theorem sGetText_spec {b : List Int} (hb : okB b) (hl : b.length ≤ 1099511627776) (a : Int) : sGetText b a = gT b a ∧ q_sGetText b a = true := by
  obtain ⟨h1, h2⟩ := sGetNum_spec hb hl a
  obtain ⟨h3, h4⟩ := gT_eq hb hl a
  rw [h3]
  simp only [sGetText, q_sGetText, h1, h2, Bool.true_and]
  exact ⟨trivial, h4⟩
theorem strB_size (l : List Int) : (strB l).size = l.length := by simp [strB, ByteArray.size]
theorem gT_size {b : List Int} (hb : okB b) (a : Int) : (gT b a).1.size ≤ b.length := by
  simp only [gT]
  split
  · rw [strB_size, List.length_take, List.length_drop]; omega
  · exact Nat.zero_le _
theorem gO_texts {b : List Int} (hb : okB b) (p : Int) : (gO b p).1.2.1.size ≤ b.length ∧ (gO b p).1.2.2.size ≤ b.length := ⟨gT_size hb _, gT_size hb _⟩
theorem sGetOps_it {b : List Int} (hb : okB b) (hl : b.length ≤ 1048576) (n p : Int) (hn : n ≤ 8) (h0 : 0 ≤ n) :
    (match pO n.toNat b p [] with
      | some (l, q) => it_sGetOps_0 b n p 0 [] [] = (1, false, [], b, q, l) ∧ okOps l = true
      | none => it_sGetOps_0 b n p 0 [] [] = (0, false, [], [], 0, [])) := by
  refine itX_inv (fun v : V_sGetOps_0 => ∃ (i : Nat) (p' : Int) (l : List (Int × ByteArray × ByteArray)), v = (b, n, p', (i : Int), [], l) ∧ (i : Int) ≤ n ∧ l.length = i ∧ okOps l = true ∧ pO (n.toNat - i) b p' l = pO n.toNat b p []) (fun a => match pO n.toNat b p [] with
      | some (l, q) => a = (1, false, [], b, q, l) ∧ okOps l = true
      | none => a = (0, false, [], [], 0, [])) (fun v => 8 - v.2.2.2.1.toNat) ?_ ⟨0, p, [], rfl, h0, rfl, rfl, rfl⟩ (by simp)
  rintro v ⟨i, p', l, rfl, hi, hll, hok, hp⟩
  by_cases h5 : (i : Int) < n
  · have e1 : decide ((i : Int) < n) = true := decide_eq_true h5
    obtain ⟨s1, s2⟩ := sGetNum_spec hb (by omega) p'
    obtain ⟨t1, t2⟩ := sGetText_spec hb (by omega) (gN b p').2.1
    obtain ⟨u1, u2⟩ := sGetText_spec hb (by omega) (gT b (gN b p').2.1).2.1
    have e2 : ∀ o : Int × ByteArray × ByteArray, decide ((l.length + [o].length) * 40 ≤ MAXB) = true := fun o => decide_eq_true (by simp only [List.length_singleton, MAXB]; omega)
    rw [show n.toNat - i = (n.toNat - (i + 1)) + 1 by omega, pO] at hp
    simp only [ss_sGetOps_0, e1, s1, s2, t1, t2, u1, u2, e2, cond_true]
    cases hc : (gO b p').2.2 with
    | true =>
      rw [hc, cond_true] at hp
      have hc' := hc
      simp only [gO, Bool.and_eq_true] at hc'
      simp only [hc'.1, hc'.2.1, hc'.2.2, Bool.not_true, cond_false]
      refine .inl ⟨_, rfl, ⟨i + 1, (gO b p').2.1, l ++ [(gO b p').1], ?_, by omega, by simp [hll], ?_, hp⟩, ?_⟩
      · rw [wrapU i (by omega)]; rfl
      · obtain ⟨x1, x2⟩ := gO_texts hb p'
        simp only [okOps, okL, List.length_append, List.length_singleton, List.all_append, List.all_cons, List.all_nil, Bool.and_true, Bool.and_eq_true, decide_eq_true_eq] at hok ⊢
        exact ⟨by omega, hok.2, by simp only [okOp, okS, Bool.and_eq_true, decide_eq_true_eq]; omega⟩
      · rw [wrapU i (by omega)]; simp; omega
    | false =>
      rw [hc, cond_false] at hp
      right
      rw [← hp]
      simp only [gO] at hc
      cases h1 : (gN b p').2.2 with
      | false => exact ⟨_, rfl, rfl⟩
      | true => cases h2 : (gT b (gN b p').2.1).2.2 with
        | false => exact ⟨_, rfl, rfl⟩
        | true => cases h3 : (gT b (gT b (gN b p').2.1).2.1).2.2 with
          | false => exact ⟨_, rfl, rfl⟩
          | true => rw [h1, h2, h3] at hc; cases hc
  · have e1 : decide ((i : Int) < n) = false := decide_eq_false h5
    have : n.toNat - i = 0 := by omega
    rw [this, pO] at hp
    simp only [ss_sGetOps_0, e1, cond_false]
    exact .inr ⟨_, rfl, by rw [← hp]; exact ⟨rfl, hok⟩⟩
theorem sGetOps_spec {b : List Int} (hb : okB b) (hl : b.length ≤ 1048576) : sGetOps b = gOps b ∧ q_sGetOps b = true := by
  obtain ⟨s1, s2⟩ := sGetNum_spec hb (by omega) 0
  simp only [sGetOps, q_sGetOps, gOps, s1, s2, Bool.true_and, k1_sGetOps]
  cases h : (gN b 0).2.2 with
  | false => simp
  | true =>
    obtain ⟨r1, r2, r3, r4, r5⟩ := gN_range hb h
    by_cases h8 : (gN b 0).1 ≤ 8
    · have e1 : decide ((gN b 0).1 > 8) = false := decide_eq_false (by omega)
      have := sGetOps_it hb hl (gN b 0).1 (gN b 0).2.1 h8 r4
      rw [if_pos ⟨rfl, h8⟩]
      simp only [Bool.not_true, cond_false, e1]
      cases hp : pO (gN b 0).1.toNat b (gN b 0).2.1 [] with
      | none => rw [hp] at this; simp only at this; rw [this]; exact ⟨rfl, rfl⟩
      | some x =>
        obtain ⟨l, q⟩ := x
        rw [hp] at this
        obtain ⟨this, hok⟩ := this
        rw [this]
        have h10 : ((1 : Nat) == 0) = false := rfl
        simp only [h10, cond_false, q_sOpsOk, hok, Nat.reduceBEq, beq_self_eq_true, Bool.true_and]
        by_cases hq : q = (b.length : Int)
        · have e2 : (q != ((b.length : Nat) : Int)) = false := by rw [hq]; simp
          simp only [e2, cond_false]
          cases ho : sOpsOk l with
          | true => rw [if_pos ⟨hq, rfl⟩]; exact ⟨rfl, trivial⟩
          | false => rw [if_neg (fun h => by cases h.2)]; exact ⟨rfl, trivial⟩
        · have e2 : (q != ((b.length : Nat) : Int)) = true := by rw [bne_iff_ne]; exact hq
          simp only [e2, cond_true]
          rw [if_neg (fun h => hq h.1)]; exact ⟨rfl, trivial⟩
    · have e1 : decide ((gN b 0).1 > 8) = true := decide_eq_true (by omega)
      rw [if_neg (fun h => h8 h.2)]
      simp only [Bool.not_true, cond_false, e1, cond_true]
      exact ⟨trivial, trivial⟩
/-- Ops that can be written. -/
noncomputable def fitO (o : Int × ByteArray × ByteArray) : Prop := 0 ≤ o.1 ∧ o.1 ≤ 1000000000 ∧ o.2.1.size ≤ 1000000000 ∧ o.2.2.size ≤ 1000000000
theorem strInts_strB {l : List Int} (h : okB l) : strInts (strB l) = l := by
  simp only [strB, strInts, List.map_map, List.toList_toArray]
  conv => rhs; rw [← List.map_id l]
  apply List.map_congr_left
  intro n hn
  obtain ⟨h0, h1⟩ := h n hn
  simp only [Function.comp_apply, UInt8.toNat_ofNat', id_eq]
  omega
theorem gT_of {b : List Int} (hb : okB b) {a p : Int} {s : ByteArray} (h : gT b a = (s, p, true)) : ∃ pre post, b = pre ++ (textB s ++ post) ∧ a = pre.length ∧ p = a + (textB s).length ∧ s.size ≤ 1000000000 := by
  simp only [gT] at h
  split at h
  · rename_i hc
    obtain ⟨h1, h2⟩ := hc
    obtain ⟨pre, post, e1, e2, e3, e4, e5⟩ := gN_of hb (a := a) (n := (gN b a).1) (p := (gN b a).2.1) (by rw [← h1])
    simp only [Prod.mk.injEq, and_true] at h
    obtain ⟨h3, h4⟩ := h
    have hlen := congrArg List.length e1
    simp only [List.length_append] at hlen
    have ed : b.drop (gN b a).2.1.toNat = post := by
      have hd : ∀ n, b = pre ++ (numB n ++ post) → b.drop (pre.length + (numB n).length) = post := fun n e => by rw [e, ← List.append_assoc, ← List.length_append, List.drop_left]
      have : (gN b a).2.1.toNat = pre.length + (numB (gN b a).1).length := by omega
      rw [this]; exact hd _ e1
    rw [ed] at h3
    have hpl : (gN b a).1.toNat ≤ post.length := by omega
    have hz : s.size = (gN b a).1.toNat := by rw [← h3, strB_size, List.length_take]; omega
    have hpo : okB (post.take (gN b a).1.toNat) := (by rw [← ed]; exact (hb.drop _).take _)
    have hi : strInts s = post.take (gN b a).1.toNat := by rw [← h3, strInts_strB hpo]
    have hsz : (s.size : Int) = (gN b a).1 := by omega
    refine ⟨pre, post.drop (gN b a).1.toNat, ?_, e2, ?_, by omega⟩
    · rw [textB, hsz, hi, List.append_assoc, List.take_append_drop]; exact e1
    · simp only [textB, List.length_append, strInts_len, hsz]; omega
  · cases h
theorem gO_of {b : List Int} (hb : okB b) {p : Int} (h : (gO b p).2.2 = true) : ∃ pre post, b = pre ++ (opB (gO b p).1 ++ post) ∧ p = pre.length ∧ (gO b p).2.1 = p + (opB (gO b p).1).length ∧ fitO (gO b p).1 := by
  simp only [gO, Bool.and_eq_true] at h
  obtain ⟨h1, h2, h3⟩ := h
  obtain ⟨pre1, post1, a1, a2, a3, a4, a5⟩ := gN_of hb (a := p) (n := (gN b p).1) (p := (gN b p).2.1) (by rw [← h1])
  obtain ⟨pre2, post2, b1, b2, b3, b4⟩ := gT_of hb (a := (gN b p).2.1) (s := (gT b (gN b p).2.1).1) (p := (gT b (gN b p).2.1).2.1) (by rw [← h2])
  obtain ⟨pre3, post3, c1, c2, c3, c4⟩ := gT_of hb (a := (gT b (gN b p).2.1).2.1) (s := (gT b (gT b (gN b p).2.1).2.1).1) (p := (gT b (gT b (gN b p).2.1).2.1).2.1) (by rw [← h3])
  have d1 : post1 = b.drop (pre1 ++ numB (gN b p).1).length := by
    have hd : ∀ (u v w x : List Int), x = u ++ (v ++ w) → w = x.drop (u ++ v).length := fun u v w x e => by rw [e, ← List.append_assoc, List.drop_left]
    exact hd _ _ _ _ a1
  have d2 : textB (gT b (gN b p).2.1).1 ++ post2 = b.drop pre2.length := by
    have hd : ∀ (u v x : List Int), x = u ++ v → v = x.drop u.length := fun u v x e => by rw [e, List.drop_left]
    exact hd _ _ _ b1
  have d3 : post2 = b.drop (pre2 ++ textB (gT b (gN b p).2.1).1).length := by
    have hd : ∀ (u v w x : List Int), x = u ++ (v ++ w) → w = x.drop (u ++ v).length := fun u v w x e => by rw [e, ← List.append_assoc, List.drop_left]
    exact hd _ _ _ _ b1
  have d4 : textB (gT b (gT b (gN b p).2.1).2.1).1 ++ post3 = b.drop pre3.length := by
    have hd : ∀ (u v x : List Int), x = u ++ v → v = x.drop u.length := fun u v x e => by rw [e, List.drop_left]
    exact hd _ _ _ c1
  have f1 : post1 = textB (gT b (gN b p).2.1).1 ++ post2 := by rw [d1, d2]; congr 1; simp only [List.length_append]; omega
  have f2 : post2 = textB (gT b (gT b (gN b p).2.1).2.1).1 ++ post3 := by rw [d3, d4]; congr 1; simp only [List.length_append]; omega
  have hk : clampN (gN b p).1 = (gN b p).1 := clampN_of a4 a5
  refine ⟨pre1, post3, ?_, a2, ?_, a4, a5, b4, c4⟩
  · simp only [opB, gO, hk, List.append_assoc]
    rw [← f2, ← f1]; exact a1
  · simp only [opB, gO, hk, List.length_append]; omega
theorem pO_of {b : List Int} (hb : okB b) : ∀ (k : Nat) (p : Int) (acc l : List (Int × ByteArray × ByteArray)) (q : Int), 0 ≤ p → p ≤ b.length → pO k b p acc = some (l, q) →
    ∃ l' pre post, l = acc ++ l' ∧ l'.length = k ∧ b = pre ++ ((l'.map opB).flatten ++ post) ∧ p = pre.length ∧ q = p + (l'.map opB).flatten.length ∧ ∀ o ∈ l', fitO o := by
  intro k
  induction k with
  | zero =>
    intro p acc l q h0 h1 h
    simp only [pO, Option.some.injEq, Prod.mk.injEq] at h
    obtain ⟨rfl, rfl⟩ := h
    exact ⟨[], b.take p.toNat, b.drop p.toNat, by simp, rfl, by simp, by rw [List.length_take]; omega, by simp, by simp⟩
  | succ k ih =>
    intro p acc l q h0 h1 h
    simp only [pO] at h
    cases hc : (gO b p).2.2 with
    | false => rw [hc] at h; cases h
    | true =>
      rw [hc, cond_true] at h
      obtain ⟨pre, post, a1, a2, a3, a4⟩ := gO_of hb hc
      have hlen := congrArg List.length a1
      simp only [List.length_append] at hlen
      obtain ⟨l', pre', post', b1, b2, b3, b4, b5, b6⟩ := ih (gO b p).2.1 (acc ++ [(gO b p).1]) l q (by omega) (by omega) h
      have d1 : post = b.drop (pre ++ opB (gO b p).1).length := by
        have hd : ∀ (u v w x : List Int), x = u ++ (v ++ w) → w = x.drop (u ++ v).length := fun u v w x e => by rw [e, ← List.append_assoc, List.drop_left]
        exact hd _ _ _ _ a1
      have d2 : (l'.map opB).flatten ++ post' = b.drop pre'.length := by
        have hd : ∀ (u v x : List Int), x = u ++ v → v = x.drop u.length := fun u v x e => by rw [e, List.drop_left]
        exact hd _ _ _ b3
      have f1 : post = (l'.map opB).flatten ++ post' := by rw [d1, d2]; congr 1; simp only [List.length_append]; omega
      refine ⟨(gO b p).1 :: l', pre, post', by rw [b1]; simp, by simp [b2], ?_, a2, ?_, ?_⟩
      · simp only [List.map_cons, List.flatten_cons, List.append_assoc]
        rw [← f1]; exact a1
      · simp only [List.map_cons, List.flatten_cons, List.length_append]; omega
      · intro o ho
        rcases List.mem_cons.1 ho with rfl | ho
        · exact a4
        · exact b6 o ho
theorem gOps_of {b : List Int} (hb : okB b) {l : List (Int × ByteArray × ByteArray)} (h : gOps b = (l, true)) : sOpsOk l = true ∧ b = opsB l := by
  simp only [gOps] at h
  split at h
  · rename_i hc
    obtain ⟨c1, c2⟩ := hc
    obtain ⟨post, e1, e2, e3, e4⟩ := gN_at0 hb (n := (gN b 0).1) (p := (gN b 0).2.1) (by rw [← c1])
    have hlen := congrArg List.length e1
    rw [List.length_append] at hlen
    split at h
    · rename_i l' q hp
      split at h
      · rename_i hq
        simp only [Prod.mk.injEq, and_true] at h
        subst h
        obtain ⟨l2, pre, post2, f1, f2, f3, f4, f5, f6⟩ := pO_of hb _ _ _ _ _ (by omega) (by omega) hp
        simp only [List.nil_append] at f1
        subst f1
        refine ⟨hq.2, ?_⟩
        have g1 : (l'.length : Int) = (gN b 0).1 := by omega
        have hlen2 := congrArg List.length f3
        simp only [List.length_append] at hlen2
        have hp2 : post2 = [] := List.eq_nil_of_length_eq_zero (by have := hq.1; omega)
        subst hp2
        have key : ∀ b' : List Int, b' = numB (gN b 0).1 ++ post → b' = pre ++ ((l'.map opB).flatten ++ []) → pre.length = (numB (gN b 0).1).length → b' = numB (gN b 0).1 ++ (l'.map opB).flatten := by
          intro b' x1 x2 x3
          obtain ⟨q1, q2⟩ := List.append_inj (x2.symm.trans x1) x3
          rw [x2, q1, List.append_nil]
        rw [opsB, g1]
        exact key b e1 f3 (by omega)
      · cases h
    · cases h
  · cases h
theorem opsOk_small {l : List (Int × ByteArray × ByteArray)} (h : sOpsOk l = true) : l.length ≤ 8 ∧ ∀ o ∈ l, o.2.1.size ≤ 12 ∧ o.2.2.size ≤ 20 := by
  simp only [sOpsOk] at h
  cases h5 : allF (sOpAt l) (l.length - (0 : Int).toNat) (0 : Int).toNat with
  | false => rw [h5] at h; simp at h
  | true =>
    rw [h5] at h
    simp only [cond_true, sl1In] at h
    constructor
    · cases h6 : decide (((l.length : Nat) : Int) ≥ 1) with
      | false => simp [h6] at h
      | true => rw [h6] at h; simp only [cond_true, decide_eq_true_eq] at h; omega
    · intro o ho
      obtain ⟨i, hi, rfl⟩ := List.getElem_of_mem ho
      have h6 := (allF_true _ _).1 h5 i (Nat.zero_le _) (by simpa using hi)
      simp only [sOpAt, Bool.and_eq_true, List.getD_eq_getElem?_getD, List.getElem?_eq_getElem hi, Option.getD_some] at h6
      have h7 := h6.1
      simp only [sl7Op] at h7
      have hk : ∀ s : ByteArray, sKeyOk s = true → s.size ≤ 12 := by
        intro s hs
        simp only [sKeyOk] at hs
        cases h8 : allF (sKeyAt s) (s.size - (0 : Int).toNat) (0 : Int).toNat with
        | false => rw [h8] at hs; simp at hs
        | true =>
          rw [h8] at hs
          simp only [cond_true, sl1In] at hs
          cases h9 : decide (((s.size : Nat) : Int) ≥ 1) with
          | false => simp [h9] at hs
          | true => rw [h9] at hs; simp only [cond_true, decide_eq_true_eq] at hs; omega
      cases h8 : sKeyOk (l[i]).2.1 with
      | false => exfalso; revert h7; simp only [h8, cond_false]; cases sl1In (l[i]).1 1 3 <;> cases ((l[i]).1 == 2) <;> simp
      | true =>
        refine ⟨hk _ h8, ?_⟩
        revert h7
        simp only [h8, cond_true]
        cases sl1In (l[i]).1 1 3 <;> cases ((l[i]).1 == 2) <;> simp <;> omega
theorem opsOk_okOps {l : List (Int × ByteArray × ByteArray)} (h : sOpsOk l = true) : okOps l = true := by
  obtain ⟨a1, a2⟩ := opsOk_small h
  simp only [okOps, okL, Bool.and_eq_true, decide_eq_true_eq, List.all_eq_true]
  refine ⟨by omega, fun o ho => ?_⟩
  have := a2 o ho
  simp only [okOp, okS, Bool.and_eq_true, decide_eq_true_eq]; omega
theorem wordOk_ops {k s t : Int} {l : List (Int × ByteArray × ByteArray)} {y : Bool} (h : sWordOk k s t l y = true) : (k == 1) = decide (((l.length : Nat) : Int) > 0) ∧ ((k == 1) = true → sOpsOk l = true) := by
  simp only [sWordOk] at h
  cases h1 : sl1In s 0 7 with
  | false => simp [h1] at h
  | true =>
  cases h2 : sl1In t 1 1000000 with
  | false => simp [h1, h2] at h
  | true =>
  simp only [h1, h2, Bool.not_true, cond_false] at h
  cases h3 : (k == 1) with
  | true =>
    simp only [h3, cond_true] at h
    cases h4 : sOpsOk l with
    | false => simp [h4] at h
    | true =>
      refine ⟨?_, fun _ => rfl⟩
      simp only [sOpsOk] at h4
      cases h5 : allF (sOpAt l) (l.length - (0 : Int).toNat) (0 : Int).toNat with
      | false => rw [h5] at h4; simp at h4
      | true =>
        rw [h5] at h4
        simp only [cond_true, sl1In] at h4
        cases h6 : decide (((l.length : Nat) : Int) ≥ 1) with
        | false => simp [h6] at h4
        | true => have := of_decide_eq_true h6; exact (decide_eq_true (by omega)).symm
  | false =>
    refine ⟨?_, fun h => by cases h⟩
    simp only [h3, cond_false] at h
    have : ((l.length : Nat) : Int) = 0 := by
      cases h4 : (((l.length : Nat) : Int) == 0) with
      | true => simpa using h4
      | false => simp [h4] at h
    exact (decide_eq_false (by omega)).symm
theorem wordOk_is {k s t : Int} {l : List (Int × ByteArray × ByteArray)} {y : Bool} (h : sWordOk k s t l y = true) : 1 ≤ k ∧ k ≤ 4 ∧ 0 ≤ s ∧ s ≤ 7 ∧ 1 ≤ t ∧ t ≤ 1000000 ∧ (k = 1 → sOpsOk l = true) ∧ (k ≠ 1 → l = []) ∧ okOps l = true := by
  obtain ⟨w1, w2⟩ := wordOk_ops h
  have hl : k ≠ 1 → l = [] := fun hk => by
    have : (k == 1) = false := by rw [beq_eq_false_iff_ne]; exact hk
    rw [this] at w1
    have := of_decide_eq_false w1.symm
    exact List.eq_nil_of_length_eq_zero (by omega)
  have ho : k = 1 → sOpsOk l = true := fun hk => w2 (by rw [hk]; rfl)
  have hoo : okOps l = true := by
    by_cases hk : k = 1
    · exact opsOk_okOps (ho hk)
    · rw [hl hk]; rfl
  simp only [sWordOk, sl1In] at h
  cases h1 : decide (s ≥ 0) with
  | false => simp [h1] at h
  | true => cases h2 : decide (s ≤ 7) with
    | false => simp [h1, h2] at h
    | true => cases h3 : decide (t ≥ 1) with
      | false => simp [h1, h2, h3] at h
      | true => cases h4 : decide (t ≤ 1000000) with
        | false => simp [h1, h2, h3, h4] at h
        | true =>
          simp only [h1, h2, h3, h4, cond_true, Bool.not_true, cond_false] at h
          have hk : 1 ≤ k ∧ k ≤ 4 := by
            cases k1 : (k == 1) with
            | true => have := eq_of_beq k1; omega
            | false => cases k2 : (k == 2) with
              | true => have := eq_of_beq k2; omega
              | false => cases k3 : (k == 3) with
                | true => have := eq_of_beq k3; omega
                | false => cases k4 : (k == 4) with
                  | true => have := eq_of_beq k4; omega
                  | false => simp [k1, k2, k3, k4] at h
          have := of_decide_eq_true h1; have := of_decide_eq_true h2; have := of_decide_eq_true h3; have := of_decide_eq_true h4
          exact ⟨hk.1, hk.2, by omega, by omega, by omega, by omega, ho, hl, hoo⟩
theorem sOpsOk_len {l : List (Int × ByteArray × ByteArray)} (h : sOpsOk l = true) : 1 ≤ l.length := by
  simp only [sOpsOk] at h
  cases h5 : allF (sOpAt l) (l.length - (0 : Int).toNat) (0 : Int).toNat with
  | false => rw [h5] at h; simp at h
  | true =>
    rw [h5] at h
    simp only [cond_true, sl1In] at h
    cases h6 : decide (((l.length : Nat) : Int) ≥ 1) with
    | false => simp [h6] at h
    | true => have := of_decide_eq_true h6; omega
theorem sGetWord_of {b : List Int} (hb : okB b) (hl : b.length ≤ 1048576) : q_sGetWord b = true ∧ ((∃ k s t l y, sGetWord b = (k, s, t, l, y, true) ∧ sWordOk k s t l y = true ∧ b = wordB k s t l y) ∨ sGetWord b = (0, 0, 0, [], false, false)) := by
  have sg := fun a => (sGetNum_spec hb (by omega) a)
  simp only [sGetWord, q_sGetWord, sg, Bool.true_and, k1_sGetWord, k2_sGetWord, k3_sGetWord]
  cases h1 : (gN b 0).2.2 with
  | false => exact ⟨rfl, .inr rfl⟩
  | true =>
  cases h2 : (gN b (gN b 0).2.1).2.2 with
  | false => exact ⟨rfl, .inr rfl⟩
  | true =>
  cases h3 : (gN b (gN b (gN b 0).2.1).2.1).2.2 with
  | false => exact ⟨rfl, .inr rfl⟩
  | true =>
  cases h4 : (gN b (gN b (gN b (gN b 0).2.1).2.1).2.1).2.2 with
  | false => exact ⟨rfl, .inr rfl⟩
  | true =>
  cases h5 : decide ((gN b (gN b (gN b (gN b 0).2.1).2.1).2.1).1 > 1) with
  | true => exact ⟨rfl, .inr rfl⟩
  | false =>
  have hv := of_decide_eq_false h5
  generalize e1 : gN b 0 = g1 at *
  obtain ⟨k, p1, o1⟩ := g1
  simp only at h1 h2 h3 h4 h5 hv ⊢
  subst h1
  obtain ⟨r1, x1, y1, z1, z1'⟩ := gN_at0 hb e1
  subst y1
  generalize e2 : gN b ((numB k).length : Int) = g2 at *
  obtain ⟨s, p2, o2⟩ := g2
  simp only at h2 h3 h4 h5 hv ⊢
  subst h2
  obtain ⟨r2, x2, y2, z2, z2'⟩ := gN_at (pre := numB k) (rest := r1) (by rw [← x1]; exact hb) (by rw [← x1]; exact e2)
  subst y2
  generalize e3 : gN b ((numB k ++ numB s).length : Int) = g3 at *
  obtain ⟨t, p3, o3⟩ := g3
  simp only at h3 h4 h5 hv ⊢
  subst h3
  have x2' : b = (numB k ++ numB s) ++ r2 := by rw [x1, x2, List.append_assoc]
  obtain ⟨r3, x3, y3, z3, z3'⟩ := gN_at (pre := numB k ++ numB s) (rest := r2) (by rw [← x2']; exact hb) (by rw [← x2']; exact e3)
  subst y3
  generalize e4 : gN b ((numB k ++ numB s ++ numB t).length : Int) = g4 at *
  obtain ⟨v, p4, o4⟩ := g4
  simp only at h4 h5 hv ⊢
  subst h4
  have x3' : b = (numB k ++ numB s ++ numB t) ++ r3 := by rw [x2', x3]; simp only [List.append_assoc]
  obtain ⟨r4, x4, y4, z4, z4'⟩ := gN_at (pre := numB k ++ numB s ++ numB t) (rest := r3) (by rw [← x3']; exact hb) (by rw [← x3']; exact e4)
  subst y4
  have x4' : b = (numB k ++ numB s ++ numB t ++ numB v) ++ r4 := by rw [x3', x4]; simp only [List.append_assoc]
  have hlen := congrArg List.length x4'
  rw [List.length_append] at hlen
  have hvb : v = bN (v == 1) := by
    have : v = 0 ∨ v = 1 := by omega
    rcases this with rfl | rfl <;> rfl
  have e2 : ([] : List Int) ++ (b.take ((b.length : Nat) : Int).toNat).drop (((numB k ++ numB s ++ numB t ++ numB v).length : Nat) : Int).toNat = r4 := by
    rw [Int.toNat_natCast, Int.toNat_natCast, List.take_length, List.nil_append, x4', List.drop_left]
  have hb4 : okB r4 := okB.right (by rw [← x4']; exact hb)
  simp only [e2, Bool.not_true, cond_false]
  by_cases hr : ((numB k ++ numB s ++ numB t ++ numB v).length : Int) < ((b.length : Nat) : Int)
  · obtain ⟨so1, so2⟩ := sGetOps_spec hb4 (by omega)
    have d1 : decide (0 ≤ ((numB k ++ numB s ++ numB t ++ numB v).length : Int) ∧ ((numB k ++ numB s ++ numB t ++ numB v).length : Int) ≤ ((b.length : Nat) : Int) ∧ ((b.length : Nat) : Int) ≤ ((b.length : Nat) : Int)) = true := decide_eq_true (by omega)
    have d2 : decide ((([] : List Int).length + ((b.take ((b.length : Nat) : Int).toNat).drop (((numB k ++ numB s ++ numB t ++ numB v).length : Nat) : Int).toNat).length) * 1 ≤ MAXB) = true := decide_eq_true (by
      rw [List.nil_append] at e2
      rw [e2]; simp only [List.length_nil, MAXB]; omega)
    simp only [decide_eq_true hr, cond_true, so1, so2, d1, d2, Bool.true_and]
    cases ho : (gOps r4).2 with
    | false => exact ⟨rfl, .inr rfl⟩
    | true =>
      obtain ⟨m1, m2⟩ := gOps_of hb4 (l := (gOps r4).1) (by rw [← ho])
      simp only [Bool.not_true, cond_false, q_sWordOk, opsOk_okOps m1]
      cases hw : sWordOk k s t (gOps r4).1 (v == 1) with
      | false => exact ⟨trivial, .inr rfl⟩
      | true =>
        refine ⟨trivial, .inl ⟨k, s, t, _, _, rfl, hw, ?_⟩⟩
        have hk : (k == 1) = true := by
          cases hk : (k == 1) with
          | true => rfl
          | false =>
            obtain ⟨a1, a2, a3, a4, a5, a6, a7, a8, a9⟩ := wordOk_is hw
            have := a8 (by simpa using hk)
            have := sOpsOk_len m1
            rw [a8 (by simpa using hk)] at this; simp at this
        rw [wordB, hk, cond_true, ← hvb, ← m2, x4']
        simp only [List.append_assoc]
  · simp only [decide_eq_false hr, cond_false, q_sWordOk]
    have hr4 : r4 = [] := List.eq_nil_of_length_eq_zero (by omega)
    cases hw : sWordOk k s t [] (v == 1) with
    | false => exact ⟨rfl, .inr rfl⟩
    | true =>
      refine ⟨rfl, .inl ⟨k, s, t, _, _, rfl, hw, ?_⟩⟩
      have hk : (k == 1) = false := by
        cases hk : (k == 1) with
        | false => rfl
        | true =>
          obtain ⟨a1, a2, a3, a4, a5, a6, a7, a8, a9⟩ := wordOk_is hw
          have := sOpsOk_len (a7 (eq_of_beq hk))
          simp at this
      rw [wordB, hk, cond_false, ← hvb, x4', hr4]
      simp only [List.append_assoc]
theorem iGetNum_it {b : List Int} (hb : okB b) (hl : b.length ≤ 1099511627776) {i : Nat} (hi : i < b.length) :
    (match pN 5 0 0 (b.drop i) with
      | some (n, l) => it_iGetNum_0 b (i : Int) 0 0 = (0, (n : Int), (i : Int) + l, true)
      | none => it_iGetNum_0 b (i : Int) 0 0 = (0, 0, 0, false) ∨ (it_iGetNum_0 b (i : Int) 0 0).1 = 1) := by
  refine itX_inv (fun v => ∃ k n : Nat, v = (b, ((i + k : Nat) : Int), (n : Int), (k : Int)) ∧ k ≤ 5 ∧ n < 2 ^ (7 * k) ∧ pN (5 - k) k n (b.drop (i + k)) = pN 5 0 0 (b.drop i)) (fun a => match pN 5 0 0 (b.drop i) with
      | some (n, l) => a = (0, (n : Int), (i : Int) + l, true)
      | none => a = (0, 0, 0, false) ∨ a.1 = 1) (fun v => 5 - v.2.2.2.toNat) ?_ ⟨0, 0, rfl, by omega, by simp, rfl⟩ (by simp)
  rintro v ⟨k, n, rfl, hk, hn, hp⟩
  by_cases h5 : k < 5
  · have e1 : decide ((k : Int) < 5) = true := decide_eq_true (by omega)
    by_cases hik : i + k < b.length
    · have e5 : decide (((i + k : Nat) : Int) < ((b.length : Nat) : Int)) = true := decide_eq_true (by omega)
      have e6 : decide (0 ≤ ((i + k : Nat) : Int) ∧ ((i + k : Nat) : Int) < ((b.length : Nat) : Int)) = true := decide_eq_true (by omega)
      have e7 : decide (0 ≤ (IntKind.wrap .u64 (IntKind.wrap .i64 ((7 : Int) * (k : Int))))) = true := by
        rw [wrap64 (n := (7 : Int) * (k : Int)) (by omega) (by omega), wrapU64 (by omega) (by omega)]; exact decide_eq_true (by omega)
      obtain ⟨hc0, hc1⟩ := hb.getD (i + k)
      have hdc := drop_cons hik
      obtain ⟨c, hc⟩ := Int.eq_ofNat_of_zero_le hc0
      rw [hc] at hc1 hdc
      have hc255 : c ≤ 255 := by omega
      obtain ⟨f1, f2, f3⟩ := acc7 n c k hc255 h5 hn
      have e8 : IntKind.wrap .i64 (c : Int) = (c : Int) := wrap64 (by omega) (by omega)
      have e13 : IntKind.wrap .i64 (((i + k : Nat) : Int) + 1) = ((i + k + 1 : Nat) : Int) := wrapU (i + k) (by omega)
      rw [hdc, show 5 - k = (4 - k) + 1 by omega, pN] at hp
      simp only [Int.toNat_natCast] at hp
      simp only [ss_iGetNum_0, e1, e5, e6, e7, cond_true, Int.toNat_natCast, hc, f1, e13]
      simp only [e8]
      by_cases h127 : c > 127
      · rw [if_pos (by omega)] at hp
        have e9 : decide ((c : Int) < 128) = false := decide_eq_false (by omega)
        simp only [e9, cond_false]
        refine .inl ⟨_, rfl, ⟨k + 1, n + c % 128 * 2 ^ (7 * k), ?_, by omega, f2, ?_⟩, ?_⟩
        · rw [wrapU k (by omega)]; rfl
        · rw [show 5 - (k + 1) = 4 - k by omega, ← hp]; rfl
        · rw [wrapU k (by omega)]; simp; omega
      · rw [if_neg (by omega)] at hp
        have e9 : decide ((c : Int) < 128) = true := decide_eq_true (by omega)
        have hcm : c % 128 = c := by omega
        rw [hcm] at f3 ⊢
        simp only [e9, cond_true]
        right
        by_cases hz : 0 < k ∧ c = 0
        · rw [if_pos (by omega)] at hp
          have e10 : decide ((k : Int) > 0) = true := decide_eq_true (by omega)
          have e11 : ((c : Int) == 0) = true := by rw [beq_iff_eq]; omega
          simp only [e10, e11, cond_true]
          exact ⟨_, rfl, by rw [← hp]; exact .inl rfl⟩
        · by_cases hg : n + c * 2 ^ (7 * k) > 1000000000
          · rw [if_pos (.inr hg)] at hp
            have e12 : decide (((n + c * 2 ^ (7 * k) : Nat) : Int) > 1000000000) = true := decide_eq_true (by omega)
            simp only [e12, cond_true]
            refine ⟨(0, 0, 0, false), ?_, by rw [← hp]; exact .inl rfl⟩
            cases decide ((k : Int) > 0) <;> cases ((c : Int) == 0) <;> rfl
          · rw [if_neg (fun h => h.elim (fun h => hz ⟨h.1, by omega⟩) hg)] at hp
            have e12 : decide (((n + c * 2 ^ (7 * k) : Nat) : Int) > 1000000000) = false := decide_eq_false (by omega)
            simp only [e12, cond_false]
            refine ⟨(0, ((n + c * 2 ^ (7 * k) : Nat) : Int), ((i + k + 1 : Nat) : Int), true), ?_, ?_⟩
            · by_cases h0 : 0 < k
              · have e10 : decide ((k : Int) > 0) = true := decide_eq_true (by omega)
                have e11 : ((c : Int) == 0) = false := by rw [beq_eq_false_iff_ne]; intro h; exact hz ⟨h0, by omega⟩
                simp only [e10, e11, cond_true, cond_false]
              · have e10 : decide ((k : Int) > 0) = false := decide_eq_false (by omega)
                simp only [e10, cond_false]
                cases ((c : Int) == 0) <;> rfl
            · rw [← hp]; show _ = _
              congr 3
    · have e5 : decide (((i + k : Nat) : Int) < ((b.length : Nat) : Int)) = false := decide_eq_false (by omega)
      rw [show 5 - k = (4 - k) + 1 by omega, List.drop_eq_nil_of_le (by omega), pN] at hp
      simp only [ss_iGetNum_0, e1, e5, cond_true, cond_false]
      exact .inr ⟨_, rfl, by rw [← hp]; exact .inr rfl⟩
  · obtain rfl : k = 5 := by omega
    have e1 : decide (((5 : Nat) : Int) < 5) = false := by decide
    simp only [ss_iGetNum_0, e1, cond_false]
    exact .inr ⟨_, rfl, by rw [← hp]; exact .inr rfl⟩
theorem iGetNum_spec {b : List Int} (hb : okB b) (hl : b.length ≤ 1099511627776) (a : Int) : iGetNum b a = gN b a ∧ q_iGetNum b a = true := by
  have hw : IntKind.wrap .i64 (((b.length : Nat) : Int) - 1) = ((b.length : Nat) : Int) - 1 := wrap64 (by omega) (by omega)
  simp only [iGetNum, q_iGetNum, gN, iinRange, hw]
  by_cases h : 0 ≤ a ∧ a < b.length
  · obtain ⟨i, rfl⟩ := Int.eq_ofNat_of_zero_le h.1
    have hi : i < b.length := by omega
    have e1 : decide ((i : Int) ≥ 0) = true := decide_eq_true (by omega)
    have e2 : decide ((i : Int) ≤ ((b.length : Nat) : Int) - 1) = true := decide_eq_true (by omega)
    rw [if_pos h, Int.toNat_natCast]
    simp only [e1, e2, cond_true, Bool.not_true, cond_false]
    have := iGetNum_it hb hl hi
    cases hp : pN 5 0 0 (b.drop i) with
    | some x =>
      rw [hp] at this
      simp only at this
      rw [this]; exact ⟨rfl, rfl⟩
    | none =>
      rw [hp] at this
      rcases this with h1 | h1
      · rw [h1]; exact ⟨rfl, rfl⟩
      · rw [h1]; exact ⟨rfl, rfl⟩
  · rw [if_neg h]
    have e : cond (decide (a ≥ 0)) (decide (a ≤ ((b.length : Nat) : Int) - 1)) false = false := by
      by_cases h1 : a ≥ 0
      · rw [decide_eq_true h1, cond_true, decide_eq_false (by omega)]
      · rw [decide_eq_false h1, cond_false]
    rw [e]; exact ⟨rfl, rfl⟩
theorem igetter_num_spec {b : List Int} (hb : okB b) (hl : b.length ≤ 1048576) (a : Int) (bad : Bool) : q_igetter_num b a bad = true ∧ igetter_num b a bad = cond bad ((0 : Int), b, a, true) (cond (gN b a).2.2 ((gN b a).1, b, (gN b a).2.1, false) ((0 : Int), b, a, true)) := by
  obtain ⟨h1, h2⟩ := iGetNum_spec hb (by omega) a
  simp only [igetter_num, q_igetter_num, h1, h2]
  cases bad <;> cases (gN b a).2.2 <;> simp
/-- All ops by the getter. -/
noncomputable def gOpsI (b : List Int) (a : Int) : Option (List (Int × ByteArray × ByteArray) × Int) :=
  cond (gN b a).2.2 (cond (decide ((gN b a).1 ≤ 8)) (pO (gN b a).1.toNat b (gN b a).2.1 []) none) none
theorem iGetText_spec {b : List Int} (hb : okB b) (hl : b.length ≤ 1099511627776) (a : Int) : iGetText b a = gT b a ∧ q_iGetText b a = true := by
  obtain ⟨h1, h2⟩ := iGetNum_spec hb hl a
  obtain ⟨h3, h4⟩ := gT_eq hb hl a
  rw [h3]
  simp only [iGetText, q_iGetText, h1, h2, Bool.true_and]
  exact ⟨trivial, h4⟩
theorem igetter_text_spec {b : List Int} (hb : okB b) (hl : b.length ≤ 1048576) (a : Int) (bad : Bool) : q_igetter_text b a bad = true ∧ igetter_text b a bad = cond bad ((⟨#[]⟩ : ByteArray), b, a, true) (cond (gT b a).2.2 ((gT b a).1, b, (gT b a).2.1, false) ((⟨#[]⟩ : ByteArray), b, a, true)) := by
  obtain ⟨h1, h2⟩ := iGetText_spec hb (by omega) a
  simp only [igetter_text, q_igetter_text, h1, h2]
  cases bad <;> cases (gT b a).2.2 <;> simp
/-- One op by the getter. -/
theorem igetter_one {b : List Int} (hb : okB b) (hl : b.length ≤ 1048576) (a : Int) (bad : Bool) :
    q_igetter_num b a bad = true ∧ q_igetter_text (igetter_num b a bad).2.1 (igetter_num b a bad).2.2.1 (igetter_num b a bad).2.2.2 = true ∧
    q_igetter_text (k1_igetter_ops b a bad).2.1 (k1_igetter_ops b a bad).2.2.1 (k1_igetter_ops b a bad).2.2.2 = true ∧
    (k2_igetter_ops b a bad).2.1 = b ∧ (k1_igetter_ops b a bad).1.size ≤ b.length ∧ (k2_igetter_ops b a bad).1.size ≤ b.length ∧
    (bad = true → (k2_igetter_ops b a bad).2.2.2 = true) ∧
    (bad = false → (k2_igetter_ops b a bad).2.2.2 = !(gO b a).2.2) ∧
    (bad = false → (gO b a).2.2 = true → (k2_igetter_ops b a bad).2.2.1 = (gO b a).2.1 ∧ ((igetter_num b a bad).1, (k1_igetter_ops b a bad).1, (k2_igetter_ops b a bad).1) = (gO b a).1) := by
  obtain ⟨n1, n2⟩ := igetter_num_spec hb hl a bad
  have nb : (igetter_num b a bad).2.1 = b := by rw [n2]; cases bad <;> cases (gN b a).2.2 <;> rfl
  have t := fun (x : Int) (y : Bool) => igetter_text_spec hb hl x y
  have tb : ∀ x y, (igetter_text b x y).2.1 = b := fun x y => by rw [(t x y).2]; cases y <;> cases (gT b x).2.2 <;> rfl
  have ts : ∀ x y, (igetter_text b x y).1.size ≤ b.length := fun x y => by
    rw [(t x y).2]
    cases y with
    | true => exact Nat.zero_le _
    | false => cases (gT b x).2.2 with
      | true => exact gT_size hb x
      | false => exact Nat.zero_le _
  refine ⟨n1, by rw [nb]; exact (t _ _).1, ?_, ?_, ?_, ?_, ?_, ?_, ?_⟩
  · simp only [k1_igetter_ops, nb, tb]; exact (t _ _).1
  · simp only [k2_igetter_ops, k1_igetter_ops, nb, tb]
  · simp only [k1_igetter_ops, nb]; exact ts _ _
  · simp only [k2_igetter_ops, k1_igetter_ops, nb, tb]; exact ts _ _
  · rintro rfl
    simp only [k2_igetter_ops, k1_igetter_ops, nb, tb]
    simp only [n2, t, cond_true]
  · rintro rfl
    simp only [k2_igetter_ops, k1_igetter_ops, nb, tb]
    simp only [n2, cond_false, gO]
    cases h1 : (gN b a).2.2 with
    | false => simp only [cond_false, t, cond_true]; rfl
    | true =>
      simp only [cond_true, t, cond_false]
      cases h2 : (gT b (gN b a).2.1).2.2 with
      | false => simp only [cond_false, cond_true]; rfl
      | true =>
        simp only [cond_true, cond_false]
        cases h3 : (gT b (gT b (gN b a).2.1).2.1).2.2 <;> rfl
  · rintro rfl hc
    simp only [k2_igetter_ops, k1_igetter_ops, nb, tb]
    simp only [gO, Bool.and_eq_true] at hc ⊢
    obtain ⟨h1, h2, h3⟩ := hc
    simp only [n2, cond_false, h1, cond_true, t, h2, h3]
    exact ⟨trivial, trivial⟩
theorem igetter_ops_it {b : List Int} (hb : okB b) (hl : b.length ≤ 1048576) (n p : Int) (bad : Bool) (hn : n ≤ 8) (h0 : 0 ≤ n) :
    (it_igetter_ops_0 n 0 b p bad []).1 = 0 ∧ (it_igetter_ops_0 n 0 b p bad []).2.1 = b ∧ okOps (it_igetter_ops_0 n 0 b p bad []).2.2.2.2 = true ∧ (match cond bad none (pO n.toNat b p []) with
      | some (l, q) => it_igetter_ops_0 n 0 b p bad [] = (0, b, q, false, l)
      | none => (it_igetter_ops_0 n 0 b p bad []).2.2.2.1 = true) := by
  refine itX_inv (fun v : V_igetter_ops_0 => ∃ (i : Nat) (p' : Int) (bd : Bool) (l : List (Int × ByteArray × ByteArray)), v = (n, (i : Int), b, p', bd, l) ∧ (i : Int) ≤ n ∧ l.length = i ∧ okOps l = true ∧ cond bd none (pO (n.toNat - i) b p' l) = cond bad none (pO n.toNat b p [])) (fun a : A_igetter_ops_0 => a.1 = 0 ∧ a.2.1 = b ∧ okOps a.2.2.2.2 = true ∧ (match cond bad none (pO n.toNat b p []) with
      | some (l, q) => a = (0, b, q, false, l)
      | none => a.2.2.2.1 = true)) (fun v => 8 - v.2.1.toNat) ?_ ⟨0, p, bad, [], rfl, h0, rfl, rfl, rfl⟩ (by simp)
  rintro v ⟨i, p', bd, l, rfl, hi, hll, hok, hp⟩
  by_cases h5 : (i : Int) < n
  · have e1 : decide ((i : Int) < n) = true := decide_eq_true h5
    obtain ⟨q1, q2, q3, q4, q5, q6, q7, q8, q9⟩ := igetter_one hb hl p' bd
    have e2 : ∀ o : Int × ByteArray × ByteArray, decide ((l.length + [o].length) * 40 ≤ MAXB) = true := fun o => decide_eq_true (by simp only [List.length_singleton, MAXB]; omega)
    simp only [ss_igetter_ops_0, e1, q1, q2, q3, q4, e2, cond_true]
    refine .inl ⟨_, rfl, ⟨i + 1, _, _, l ++ [((igetter_num b p' bd).1, (k1_igetter_ops b p' bd).1, (k2_igetter_ops b p' bd).1)], by rw [wrapU i (by omega)], by omega, by simp [hll], ?_, ?_⟩, ?_⟩
    · simp only [okOps, okL, List.length_append, List.length_singleton, List.all_append, List.all_cons, List.all_nil, Bool.and_true, Bool.and_eq_true, decide_eq_true_eq] at hok ⊢
      exact ⟨by omega, hok.2, by simp only [okOp, okS, Bool.and_eq_true, decide_eq_true_eq]; omega⟩
    · rw [← hp]
      cases bd with
      | true => rw [q7 rfl]; rfl
      | false =>
        rw [q8 rfl, show n.toNat - i = (n.toNat - (i + 1)) + 1 by omega, pO]
        cases hc : (gO b p').2.2 with
        | false => rfl
        | true =>
          obtain ⟨z1, z2⟩ := q9 rfl hc
          rw [z1, z2]; rfl
    · rw [wrapU i (by omega)]; simp; omega
  · have e1 : decide ((i : Int) < n) = false := decide_eq_false h5
    have e3 : n.toNat - i = 0 := by omega
    rw [e3, pO] at hp
    simp only [ss_igetter_ops_0, e1, cond_false]
    refine .inr ⟨_, rfl, rfl, rfl, hok, ?_⟩
    rw [← hp]
    cases bd <;> rfl
theorem igetter_ops_spec {b : List Int} (hb : okB b) (hl : b.length ≤ 1048576) (a : Int) (bad : Bool) : q_igetter_ops b a bad = true ∧ (igetter_ops b a bad).1 = b ∧ okOps (igetter_ops b a bad).2.2.2 = true ∧
    (match cond bad none (gOpsI b a) with
      | some (l, q) => igetter_ops b a bad = (b, q, false, l)
      | none => (igetter_ops b a bad).2.2.1 = true) := by
  obtain ⟨n1, n2⟩ := igetter_num_spec hb hl a bad
  have nb : (igetter_num b a bad).2.1 = b := by rw [n2]; cases bad <;> cases (gN b a).2.2 <;> rfl
  have nr : 0 ≤ (igetter_num b a bad).1 := by
    rw [n2]
    cases bad with
    | true => exact Int.le_refl _
    | false => cases h : (gN b a).2.2 with
      | true => exact (gN_range hb h).2.2.2.1
      | false => exact Int.le_refl _
  simp only [igetter_ops, q_igetter_ops, k3_igetter_ops, n1, nb, Bool.true_and]
  by_cases h8 : (igetter_num b a bad).1 ≤ 8
  · have e1 : decide ((igetter_num b a bad).1 > 8) = false := decide_eq_false (by omega)
    obtain ⟨i1, i2, i3, i4⟩ := igetter_ops_it hb hl (igetter_num b a bad).1 (igetter_num b a bad).2.2.1 (igetter_num b a bad).2.2.2 h8 nr
    simp only [e1, cond_false, i1, i2, i3]
    refine ⟨rfl, trivial, trivial, ?_⟩
    revert i4
    rw [n2]
    cases bad with
    | true => simp
    | false =>
      simp only [cond_false, gOpsI]
      cases h : (gN b a).2.2 with
      | false => simp
      | true =>
        have h9 : decide ((gN b a).1 ≤ 8) = true := by rw [n2] at h8; simp only [cond_false, h, cond_true] at h8; exact decide_eq_true h8
        simp only [cond_true, h9, cond_false]
        cases pO (gN b a).1.toNat b (gN b a).2.1 [] with
        | none => exact id
        | some x => intro i4; simp only at i4 ⊢; rw [i4]
  · have e1 : decide ((igetter_num b a bad).1 > 8) = true := decide_eq_true (by omega)
    simp only [e1, cond_true]
    refine ⟨trivial, trivial, rfl, ?_⟩
    cases bad with
    | true => simp
    | false =>
      simp only [cond_false, gOpsI]
      rw [n2] at h8
      cases h : (gN b a).2.2 with
      | false => rw [h] at h8; simp at h8
      | true =>
        simp only [cond_false, h, cond_true] at h8
        simp only [cond_true, decide_eq_false h8, cond_false]
theorem bytesEqual_ok {a b : List Int} (ha : okB a) (hb : okB b) : bytes_Equal a b = true ↔ a = b := by
  have e : bytes_Equal a b = ((strB a).toList == (strB b).toList) := rfl
  rw [e, beq_iff_eq]
  constructor
  · intro h
    have h2 : strB a = strB b := by
      have h3 := congrArg (fun l => (⟨l.toArray⟩ : ByteArray)) h
      have k : ∀ s : ByteArray, (⟨s.toList.toArray⟩ : ByteArray) = s := fun s => by rw [ByteArray.toList_eq]
      simpa only [k] using h3
    rw [← strInts_strB ha, ← strInts_strB hb, h2]
  · rintro rfl; rfl
theorem keyAt_same (s : ByteArray) (i : Nat) : sKeyAt s i = iKeyAt s i := by
  have hb : 0 ≤ bt s (i : Int) ∧ bt s (i : Int) < 256 := by
    unfold bt
    split
    · have := UInt8.toNat_lt s[(i : Int).toNat]; omega
    · simp
  have e := wrap64 (n := bt s (i : Int)) (by omega) (by omega)
  simp only [sKeyAt, iKeyAt, sl1In, iisKeyByte, e]
  generalize bt s (i : Int) = c
  by_cases h1 : c ≥ 97 <;> by_cases h2 : c ≤ 122 <;> by_cases h3 : c ≥ 48 <;> by_cases h4 : c ≤ 57 <;> simp [h1, h2, h3, h4]
theorem keyOk_same (s : ByteArray) : sKeyOk s = iKeyOk s := by
  have e : allF (sKeyAt s) (s.size - (0 : Int).toNat) (0 : Int).toNat = allF (iKeyAt s) (s.size - (0 : Int).toNat) (0 : Int).toNat := allF_congr _ _ (fun j _ _ => keyAt_same s j)
  simp only [sKeyOk, iKeyOk, iisWord, iinRange, sl1In, e]
  cases allF (iKeyAt s) (s.size - (0 : Int).toNat) (0 : Int).toNat <;> cases decide (((s.size : Nat) : Int) ≥ 1) <;> cases decide (((s.size : Nat) : Int) ≤ 12) <;> rfl
theorem opOk_same (k : Int) (s v : ByteArray) : sl7Op k s v = iopOk k s v := by
  simp only [sl7Op, iopOk, keyOk_same, ba_beq, sl1In]
  cases iKeyOk s with
  | false =>
    by_cases h1 : k = 1 <;> by_cases h2 : k = 2 <;> by_cases h3 : k = 3 <;> by_cases h4 : v = ⟨#[]⟩ <;> by_cases h5 : k ≥ 1 <;> by_cases h6 : k ≤ 3 <;> simp [h1, h2, h3, h4, h5, h6] <;> omega
  | true =>
    by_cases h2 : k = 2
    · subst h2
      by_cases h4 : v = ⟨#[]⟩
      · subst h4; simp [ByteArray.size]
      · simp [h4]
    · by_cases h1 : k = 1
      · subst h1; simp
      · by_cases h3 : k = 3
        · subst h3; simp
        · by_cases h5 : k ≥ 1 <;> by_cases h6 : k ≤ 3 <;> simp [h1, h2, h3, h5, h6] <;> omega
theorem opAt_same (l : List (Int × ByteArray × ByteArray)) (i : Nat) : sOpAt l i = iOpAt l i := by
  simp only [sOpAt, iOpAt, opOk_same]
  rw [← bytesLess_ge, Bool.not_not]
theorem opsOk_same (l : List (Int × ByteArray × ByteArray)) : sOpsOk l = iOpsOk l := by
  have e : allF (sOpAt l) (l.length - (0 : Int).toNat) (0 : Int).toNat = allF (iOpAt l) (l.length - (0 : Int).toNat) (0 : Int).toNat := allF_congr _ _ (fun j _ _ => opAt_same l j)
  simp only [sOpsOk, iOpsOk, e]
  rfl
theorem wordOk_same (k s t : Int) (l : List (Int × ByteArray × ByteArray)) (y : Bool) : sWordOk k s t l y = iWordOk k s t l y := by
  simp only [sWordOk, iWordOk, iisTx, iisId, opsOk_same]
  rfl
theorem iPutWord_eq {k s t : Int} {l : List (Int × ByteArray × ByteArray)} {y : Bool} (ho : okOps l = true) : iPutWord k s t l y = cond (sWordOk k s t l y) (wordB k s t l y) [] := by
  simp only [iPutWord, ← wordOk_same]
  cases hw : sWordOk k s t l y with
  | false => rfl
  | true =>
    obtain ⟨h1, h2⟩ := wordOk_ops hw
    obtain ⟨a1, a2, a3, a4, a5, a6, a7, a8, a9⟩ := wordOk_is hw
    have c1 := clampN_of (n := k) (by omega) (by omega)
    have c2 := clampN_of (n := s) (by omega) (by omega)
    have c3 := clampN_of (n := t) (by omega) (by omega)
    have c4 : clampN 0 = 0 := rfl
    have c5 : clampN 1 = 1 := rfl
    simp only [Bool.not_true, cond_false, cond_true, ← h1, wordB]
    cases hk : (k == 1) with
    | false => cases y <;> simp only [cond_false, cond_true, iputNum_eq, iputNum_nil_eq, c1, c2, c3, c4, c5, bN, List.append_assoc, List.append_nil]
    | true =>
      have hl := (opsOk_small (a7 (eq_of_beq hk))).1
      have c6 := clampN_of (n := (l.length : Int)) (by omega) (by omega)
      cases y <;> simp only [cond_false, cond_true, iputNum_eq, iputNum_nil_eq, iputOps_eq _ _ ho, c1, c2, c3, c4, c5, c6, bN, opsB, List.append_assoc]
theorem bN_range (y : Bool) : 0 ≤ bN y ∧ bN y ≤ 1 := by cases y <;> simp [bN]
theorem opsB_len {l : List (Int × ByteArray × ByteArray)} (h : sOpsOk l = true) : (opsB l).length ≤ 400 := by
  obtain ⟨a1, a2⟩ := opsOk_small h
  have h5 := flat_len (M := 47) l (fun o ho' => by have := a2 o ho'; have := opB_len o; omega)
  have h6 := numB_len (l.length : Int)
  simp only [opsB, List.length_append]; omega
theorem hiB_ok : ∀ (j x : Nat), x < 128 ^ (j + 1) → x < 9223372036854775808 → okB (hiB j x) := by
  intro j
  induction j with
  | zero => intro x h h'; rw [hiB_stop 0 x (by simp at h; omega)]; intro c hc; simp at hc; simp at h; omega
  | succ j ih =>
    intro x h h'
    by_cases hx : 127 < x
    · rw [hiB_step j x hx h']
      rw [Nat.pow_succ] at h
      have hx' : x / 128 < 128 ^ (j + 1) := Nat.div_lt_of_lt_mul (by rw [Nat.mul_comm]; exact h)
      intro c hc
      rcases List.mem_cons.1 hc with rfl | hc
      · omega
      · exact ih (x / 128) hx' (by omega) c hc
    · rw [hiB_stop _ x hx]; intro c hc; simp at hc; omega
theorem numB_ok {x : Int} (h0 : 0 ≤ x) (h1 : x ≤ 1000000000) : okB (numB x) := by
  obtain ⟨n, rfl⟩ := Int.eq_ofNat_of_zero_le h0
  rw [numB_hi]; exact hiB_ok 4 n (by simp; omega) (by omega)
theorem strInts_ok (s : ByteArray) : okB (strInts s) := by
  intro c hc
  simp only [strInts, List.mem_map] at hc
  obtain ⟨x, _, rfl⟩ := hc
  have := x.toNat_lt
  omega
theorem textB_ok {s : ByteArray} (h : s.size ≤ 1000000000) : okB (textB s) := (numB_ok (by omega) (by omega)).app (strInts_ok s)
theorem opB_ok {o : Int × ByteArray × ByteArray} (h : fitO o) : okB (opB o) := by
  obtain ⟨h0, h1, h2, h3⟩ := h
  simp only [opB, clampN_of h0 h1]
  exact (numB_ok h0 h1).app ((textB_ok h2).app (textB_ok h3))
theorem flat_ok : ∀ l : List (Int × ByteArray × ByteArray), (∀ o ∈ l, fitO o) → okB (l.map opB).flatten := by
  intro l
  induction l with
  | nil => intro _ c hc; simp at hc
  | cons o l ih => intro h; simp only [List.map_cons, List.flatten_cons]; exact (opB_ok (h o (by simp))).app (ih fun x hx => h x (by simp [hx]))
theorem opsOk_fit {l : List (Int × ByteArray × ByteArray)} (h : sOpsOk l = true) : ∀ o ∈ l, fitO o := by
  intro o ho
  obtain ⟨_, a2⟩ := opsOk_small h
  have a3 := a2 o ho
  simp only [sOpsOk] at h
  cases h5 : allF (sOpAt l) (l.length - (0 : Int).toNat) (0 : Int).toNat with
  | false => rw [h5] at h; simp at h
  | true =>
    obtain ⟨i, hi, rfl⟩ := List.getElem_of_mem ho
    have h6 := (allF_true _ _).1 h5 i (Nat.zero_le _) (by simpa using hi)
    simp only [sOpAt, Bool.and_eq_true, List.getD_eq_getElem?_getD, List.getElem?_eq_getElem hi, Option.getD_some] at h6
    have h7 := h6.1
    simp only [sl7Op, sl1In] at h7
    cases h8 : decide ((l[i]).1 ≥ 1) with
    | false => simp [h8] at h7
    | true =>
      cases h9 : decide ((l[i]).1 ≤ 3) with
      | false => simp [h8, h9] at h7
      | true =>
        have := of_decide_eq_true h8
        have := of_decide_eq_true h9
        exact ⟨by omega, by omega, by omega, by omega⟩
theorem opsB_ok {l : List (Int × ByteArray × ByteArray)} (h : sOpsOk l = true) : okB (opsB l) := by
  obtain ⟨a1, _⟩ := opsOk_small h
  exact (numB_ok (by omega) (by omega)).app (flat_ok l (opsOk_fit h))
theorem wordB_ok {k s t : Int} {l : List (Int × ByteArray × ByteArray)} {y : Bool} (h : sWordOk k s t l y = true) : okB (wordB k s t l y) ∧ (wordB k s t l y).length ≤ 1000 := by
  obtain ⟨a1, a2, a3, a4, a5, a6, a7, a8, a9⟩ := wordOk_is h
  obtain ⟨b1, b2⟩ := bN_range y
  have l1 := numB_len k; have l2 := numB_len s; have l3 := numB_len t; have l4 := numB_len (bN y)
  cases hk : (k == 1) with
  | true =>
    have ho := a7 (eq_of_beq hk)
    have l5 := opsB_len ho
    refine ⟨?_, by simp only [wordB, hk, cond_true, List.length_append]; omega⟩
    simp only [wordB, hk, cond_true]
    exact (numB_ok (by omega) (by omega)).app ((numB_ok (by omega) (by omega)).app ((numB_ok (by omega) (by omega)).app ((numB_ok (by omega) (by omega)).app (opsB_ok ho))))
  | false =>
    refine ⟨?_, by simp only [wordB, hk, cond_false, List.length_append, List.length_nil]; omega⟩
    simp only [wordB, hk, cond_false]
    exact (numB_ok (by omega) (by omega)).app ((numB_ok (by omega) (by omega)).app ((numB_ok (by omega) (by omega)).app ((numB_ok (by omega) (by omega)).app (fun c hc => by simp at hc))))
theorem putB_ok {k s t : Int} {l : List (Int × ByteArray × ByteArray)} {y : Bool} (ho : okOps l = true) : okB (iPutWord k s t l y) := by
  rw [iPutWord_eq ho]
  cases hw : sWordOk k s t l y with
  | false => intro c hc; simp at hc
  | true => exact (wordB_ok hw).1
theorem iGetWord_of {b : List Int} (hb : okB b) (hl : b.length ≤ 1048576) : q_iGetWord b = true ∧ ((∃ k s t l y, iGetWord b = (k, s, t, y, true, l) ∧ sWordOk k s t l y = true ∧ b = wordB k s t l y) ∨ iGetWord b = (0, 0, 0, false, false, [])) := by
  have gn := fun a bad => igetter_num_spec hb hl a bad
  have nb : ∀ a bad, (igetter_num b a bad).2.1 = b := fun a bad => by rw [(gn a bad).2]; cases bad <;> cases (gN b a).2.2 <;> rfl
  have gq : ∀ a bad, q_igetter_num b a bad = true := fun a bad => (gn a bad).1
  have go := fun a bad => igetter_ops_spec hb hl a bad
  simp only [iGetWord, q_iGetWord, k1_iGetWord, k2_iGetWord, k3_iGetWord, k4_iGetWord, k5_iGetWord, k6_iGetWord, nb, gq, Bool.true_and]
  generalize igetter_num b 0 false = g1
  generalize igetter_num b g1.2.2.1 g1.2.2.2 = g2
  generalize igetter_num b g2.2.2.1 g2.2.2.2 = g3
  generalize igetter_num b g3.2.2.1 g3.2.2.2 = g4
  cases hk : (g1.1 == 1) with
  | true =>
    obtain ⟨o1, o2, o3, o4⟩ := go g4.2.2.1 g4.2.2.2
    simp only [cond_true, o1, Bool.true_and]
    cases hbad : (igetter_ops b g4.2.2.1 g4.2.2.2).2.2.1 with
    | true => exact ⟨rfl, .inr rfl⟩
    | false =>
      simp only [cond_false, q_iWordOk, q_iPutWord, o3, Bool.true_and]
      cases hw : iWordOk g1.1 g2.1 g3.1 (igetter_ops b g4.2.2.1 g4.2.2.2).2.2.2 (g4.1 == 1) with
      | false => exact ⟨rfl, .inr rfl⟩
      | true =>
        cases he : bytes_Equal (iPutWord g1.1 g2.1 g3.1 (igetter_ops b g4.2.2.1 g4.2.2.2).2.2.2 (g4.1 == 1)) b with
        | false => exact ⟨rfl, .inr rfl⟩
        | true =>
          have h2 := (bytesEqual_ok (putB_ok o3) hb).1 he
          rw [iPutWord_eq o3, wordOk_same, hw, cond_true] at h2
          exact ⟨rfl, .inl ⟨_, _, _, _, _, rfl, by rw [wordOk_same]; exact hw, h2.symm⟩⟩
  | false =>
    simp only [cond_false]
    cases hbad : g4.2.2.2 with
    | true => exact ⟨rfl, .inr rfl⟩
    | false =>
      have o3 : okOps [] = true := rfl
      simp only [cond_false, q_iWordOk, q_iPutWord, o3, Bool.true_and]
      cases hw : iWordOk g1.1 g2.1 g3.1 [] (g4.1 == 1) with
      | false => exact ⟨rfl, .inr rfl⟩
      | true =>
        cases he : bytes_Equal (iPutWord g1.1 g2.1 g3.1 [] (g4.1 == 1)) b with
        | false => exact ⟨rfl, .inr rfl⟩
        | true =>
          have h2 := (bytesEqual_ok (putB_ok o3) hb).1 he
          rw [iPutWord_eq o3, wordOk_same, hw, cond_true] at h2
          exact ⟨rfl, .inl ⟨_, _, _, _, _, rfl, by rw [wordOk_same]; exact hw, h2.symm⟩⟩
theorem pN_hiB : ∀ (j k n x : Nat) (post : List Int), x < 128 ^ (j + 1) → (0 < k → 0 < x) → n + x * 2 ^ (7 * k) ≤ 1000000000 → pN (j + 1) k n (hiB j x ++ post) = some (n + x * 2 ^ (7 * k), k + (hiB j x).length) := by
  intro j
  induction j with
  | zero =>
    intro k n x post h1 h2 h3
    have hx : ¬ 127 < x := by simp at h1; omega
    rw [hiB_stop 0 x hx]
    simp only [List.cons_append, List.nil_append, pN, List.length_singleton, Int.toNat_natCast]
    rw [if_neg (by omega), if_neg (by omega)]
  | succ j ih =>
    intro k n x post h1 h2 h3
    by_cases hx : 127 < x
    · have hb : x < 9223372036854775808 := by
        have : x * 1 ≤ x * 2 ^ (7 * k) := Nat.mul_le_mul_left _ (Nat.pow_pos (by decide))
        omega
      rw [hiB_step j x hx hb]
      have hx' : x / 128 < 128 ^ (j + 1) := Nat.div_lt_of_lt_mul (by rw [Nat.pow_succ] at h1; rw [Nat.mul_comm]; exact h1)
      have e : n + x % 128 * 2 ^ (7 * k) + x / 128 * 2 ^ (7 * (k + 1)) = n + x * 2 ^ (7 * k) := by
        rw [show 7 * (k + 1) = 7 * k + 7 by omega, Nat.pow_add]
        have := Nat.div_add_mod x 128
        have h4 : x * 2 ^ (7 * k) = (128 * (x / 128) + x % 128) * 2 ^ (7 * k) := by rw [this]
        rw [h4, Nat.add_mul, show (2 : Nat) ^ 7 = 128 from rfl, Nat.mul_comm 128 (x / 128), Nat.mul_assoc, Nat.mul_comm 128 (2 ^ (7 * k)), ← Nat.mul_assoc]
        omega
      have := ih (k + 1) (n + x % 128 * 2 ^ (7 * k)) (x / 128) post hx' (fun _ => by omega) (by rw [e]; exact h3)
      simp only [List.cons_append, pN]
      rw [if_pos (by omega)]
      have e2 : (((128 + x % 128 : Nat) : Int).toNat % 128) = x % 128 := by omega
      rw [e2, this, e]
      simp only [List.length_cons]
      congr 2; omega
    · rw [hiB_stop _ x hx]
      simp only [List.cons_append, List.nil_append, pN, List.length_singleton, Int.toNat_natCast]
      rw [if_neg (by omega), if_neg (by omega)]
theorem pN_num {n : Int} (h0 : 0 ≤ n) (h1 : n ≤ 1000000000) (post : List Int) : pN 5 0 0 (numB n ++ post) = some (n.toNat, (numB n).length) := by
  obtain ⟨x, rfl⟩ := Int.eq_ofNat_of_zero_le h0
  rw [numB_hi, pN_hiB 4 0 0 x post (by simp; omega) (by omega) (by simp; omega)]
  simp
theorem gN_num {n : Int} (h0 : 0 ≤ n) (h1 : n ≤ 1000000000) (pre post : List Int) : gN (pre ++ (numB n ++ post)) (pre.length : Int) = (n, (pre.length : Int) + (numB n).length, true) := by
  have hl : 1 ≤ (numB n).length := by simp [numB]
  simp only [gN]
  rw [if_pos (by simp only [List.length_append]; omega), Int.toNat_natCast, List.drop_left, pN_num h0 h1]
  show ((n.toNat : Int), _, _) = _
  rw [Int.toNat_of_nonneg h0]
/-- The numbers at a word's head. -/
theorem wordB_nums {k s t v : Int} (hk : 0 ≤ k ∧ k ≤ 1000000000) (hs : 0 ≤ s ∧ s ≤ 1000000000) (ht : 0 ≤ t ∧ t ≤ 1000000000) (hv : 0 ≤ v ∧ v ≤ 1000000000) (r b : List Int) (e : b = numB k ++ (numB s ++ (numB t ++ (numB v ++ r)))) :
    gN b 0 = (k, ((numB k).length : Int), true) ∧ gN b ((numB k).length : Int) = (s, ((numB k ++ numB s).length : Int), true) ∧ gN b ((numB k ++ numB s).length : Int) = (t, ((numB k ++ numB s ++ numB t).length : Int), true) ∧
    gN b ((numB k ++ numB s ++ numB t).length : Int) = (v, ((numB k ++ numB s ++ numB t ++ numB v).length : Int), true) := by
  have h1 := gN_num hk.1 hk.2 [] (numB s ++ (numB t ++ (numB v ++ r)))
  have h2 := gN_num hs.1 hs.2 (numB k) (numB t ++ (numB v ++ r))
  have h3 := gN_num ht.1 ht.2 (numB k ++ numB s) (numB v ++ r)
  have h4 := gN_num hv.1 hv.2 (numB k ++ numB s ++ numB t) r
  simp only [List.append_assoc, List.nil_append] at h1 h2 h3 h4
  rw [← e] at h1 h2 h3 h4
  simp only [List.length_append, Int.natCast_add, List.length_nil] at h1 h2 h3 h4 ⊢
  rw [show (((numB k).length : Int) + (((numB s).length : Int) + ((numB t).length : Int))) = ((numB k).length : Int) + ((numB s).length : Int) + ((numB t).length : Int) by omega] at h4
  exact ⟨by simpa using h1, h2, h3, h4⟩
theorem bN_eq (y : Bool) : (bN y == 1) = y := by cases y <;> rfl
theorem strB_ints (s : ByteArray) : strB (strInts s) = s := by
  cases s with
  | mk a =>
    simp only [strB, strInts, List.map_map]
    congr 1
    apply Array.toList_inj.1
    simp only [List.toList_toArray]
    conv => rhs; rw [← List.map_id a.toList]
    apply List.map_congr_left
    intro b _
    simp
theorem gT_text {s : ByteArray} (h : s.size ≤ 1000000000) (pre post : List Int) : gT (pre ++ (textB s ++ post)) (pre.length : Int) = (s, (pre.length : Int) + (textB s).length, true) := by
  have h1 := gN_num (n := (s.size : Int)) (by omega) (by omega) pre (strInts s ++ post)
  have e : pre ++ (textB s ++ post) = pre ++ (numB (s.size : Int) ++ (strInts s ++ post)) := by simp only [textB, List.append_assoc]
  rw [e]
  simp only [gT, h1]
  have hs := strInts_len s
  rw [if_pos ⟨trivial, by simp only [List.length_append]; omega⟩]
  have e2 : ((pre.length : Int) + ((numB (s.size : Int)).length : Int)).toNat = pre.length + (numB (s.size : Int)).length := by omega
  rw [e2, Int.toNat_natCast, ← List.append_assoc, ← List.length_append, List.drop_left, List.take_left' hs, strB_ints]
  congr 2
  simp only [textB, List.length_append]; omega
theorem gO_op {o : Int × ByteArray × ByteArray} (h : fitO o) (pre post : List Int) : gO (pre ++ (opB o ++ post)) (pre.length : Int) = (o, (pre.length : Int) + (opB o).length, true) := by
  obtain ⟨h0, h1, h2, h3⟩ := h
  have e : opB o = numB o.1 ++ (textB o.2.1 ++ textB o.2.2) := by simp only [opB, clampN_of h0 h1]
  have q1 := gN_num h0 h1 pre (textB o.2.1 ++ (textB o.2.2 ++ post))
  have q2 := gT_text h2 (pre ++ numB o.1) (textB o.2.2 ++ post)
  have q3 := gT_text h3 (pre ++ numB o.1 ++ textB o.2.1) post
  have e1 : pre ++ (opB o ++ post) = pre ++ (numB o.1 ++ (textB o.2.1 ++ (textB o.2.2 ++ post))) := by simp only [e, List.append_assoc]
  have e2 : pre ++ (opB o ++ post) = pre ++ numB o.1 ++ (textB o.2.1 ++ (textB o.2.2 ++ post)) := by simp only [e, List.append_assoc]
  have e3 : pre ++ (opB o ++ post) = pre ++ numB o.1 ++ textB o.2.1 ++ (textB o.2.2 ++ post) := by simp only [e, List.append_assoc]
  rw [← e1] at q1; rw [← e2] at q2; rw [← e3] at q3
  have l1 : ((pre ++ numB o.1).length : Int) = (pre.length : Int) + (numB o.1).length := by simp
  have l2 : ((pre ++ numB o.1 ++ textB o.2.1).length : Int) = ((pre ++ numB o.1).length : Int) + (textB o.2.1).length := by simp; omega
  rw [l1] at q2; rw [l2, l1] at q3
  simp only [gO, q1, q2, q3, Bool.and_true]
  congr 2
  simp only [e, List.length_append]; omega
theorem pO_ops : ∀ (l : List (Int × ByteArray × ByteArray)) (pre post : List Int) (acc : List (Int × ByteArray × ByteArray)), (∀ o ∈ l, fitO o) → pO l.length (pre ++ ((l.map opB).flatten ++ post)) (pre.length : Int) acc = some (acc ++ l, (pre.length : Int) + (l.map opB).flatten.length) := by
  intro l
  induction l with
  | nil => intro pre post acc _; simp [pO]
  | cons o l ih =>
    intro pre post acc h
    have h1 := gO_op (h o (by simp)) pre ((l.map opB).flatten ++ post)
    have h2 := ih (pre ++ opB o) post (acc ++ [o]) (fun x hx => h x (by simp [hx]))
    have e : pre ++ (((o :: l).map opB).flatten ++ post) = pre ++ (opB o ++ ((l.map opB).flatten ++ post)) := by simp
    have e2 : pre ++ opB o ++ ((l.map opB).flatten ++ post) = pre ++ (opB o ++ ((l.map opB).flatten ++ post)) := by simp
    rw [e2, List.length_append, Int.natCast_add] at h2
    rw [e]
    simp only [List.length_cons, pO, h1, cond_true, h2]
    simp only [List.append_assoc, List.singleton_append, List.map_cons, List.flatten_cons, List.length_append, Int.natCast_add]
    congr 2; omega
theorem pO_put {l : List (Int × ByteArray × ByteArray)} (h : sOpsOk l = true) (pre post : List Int) : gN (pre ++ (opsB l ++ post)) (pre.length : Int) = ((l.length : Int), ((pre ++ numB (l.length : Int)).length : Int), true) ∧ pO l.length (pre ++ (opsB l ++ post)) ((pre ++ numB (l.length : Int)).length : Int) [] = some (l, (((pre ++ opsB l).length : Nat) : Int)) := by
  obtain ⟨a1, _⟩ := opsOk_small h
  have e : pre ++ (opsB l ++ post) = pre ++ (numB (l.length : Int) ++ ((l.map opB).flatten ++ post)) := by simp only [opsB, List.append_assoc]
  have h1 := gN_num (n := (l.length : Int)) (by omega) (by omega) pre ((l.map opB).flatten ++ post)
  have h2 := pO_ops l (pre ++ numB (l.length : Int)) post [] (opsOk_fit h)
  rw [List.append_assoc] at h2
  rw [e]
  refine ⟨?_, ?_⟩
  · rw [h1, List.length_append, Int.natCast_add]
  · rw [h2]; simp only [List.nil_append, opsB, List.length_append, Int.natCast_add]; congr 2; omega
theorem iGetWord_put {k s t : Int} {l : List (Int × ByteArray × ByteArray)} {y : Bool} (h : sWordOk k s t l y = true) : iGetWord (wordB k s t l y) = (k, s, t, y, true, l) := by
  obtain ⟨hb, hl⟩ := wordB_ok h
  have hl' : (wordB k s t l y).length ≤ 1048576 := by omega
  obtain ⟨a1, a2, a3, a4, a5, a6, a7, a8, a9⟩ := wordOk_is h
  obtain ⟨b1, b2⟩ := bN_range y
  obtain ⟨n1, n2, n3, n4⟩ := wordB_nums (k := k) (s := s) (t := t) (v := bN y) ⟨by omega, by omega⟩ ⟨by omega, by omega⟩ ⟨by omega, by omega⟩ ⟨by omega, by omega⟩ (cond (k == 1) (opsB l) []) (wordB k s t l y) rfl
  have gn := fun a bad => (igetter_num_spec hb hl' a bad).2
  have hw : iWordOk k s t l y = true := by rw [← wordOk_same]; exact h
  have he : bytes_Equal (iPutWord k s t l y) (wordB k s t l y) = true := (bytesEqual_ok (putB_ok a9) hb).2 (by rw [iPutWord_eq a9, h, cond_true])
  simp only [iGetWord, k1_iGetWord, k2_iGetWord, k3_iGetWord, k4_iGetWord, k5_iGetWord, k6_iGetWord, gn, n1, n2, n3, n4, cond_true, cond_false, bN_eq]
  cases hk : (k == 1) with
  | true =>
    have ho := a7 (eq_of_beq hk)
    have hlo := (opsOk_small ho).1
    obtain ⟨_, _, _, o4⟩ := igetter_ops_spec hb hl' ((numB k ++ numB s ++ numB t ++ numB (bN y)).length : Int) false
    have e : wordB k s t l y = (numB k ++ numB s ++ numB t ++ numB (bN y)) ++ (opsB l ++ []) := by simp only [wordB, hk, cond_true, List.append_assoc, List.append_nil]
    obtain ⟨p1, p2⟩ := pO_put ho (numB k ++ numB s ++ numB t ++ numB (bN y)) []
    rw [← e] at p1 p2
    have e8 : decide ((l.length : Int) ≤ 8) = true := decide_eq_true (by omega)
    simp only [cond_false, gOpsI, p1, cond_true, e8, Int.toNat_natCast, p2] at o4
    simp only [cond_true, o4, cond_false, hw, Bool.not_true, he]
  | false =>
    have hl0 : l = [] := a8 (by simpa using hk)
    subst hl0
    simp only [cond_false, hw, Bool.not_true, he]
theorem gOps_put {l : List (Int × ByteArray × ByteArray)} (h : sOpsOk l = true) : gOps (opsB l) = (l, true) := by
  obtain ⟨a1, _⟩ := opsOk_small h
  obtain ⟨h1, h2⟩ := pO_put h [] []
  simp only [List.nil_append, List.append_nil, List.length_nil] at h1 h2
  have h1' : gN (opsB l) 0 = ((l.length : Int), ((numB (l.length : Int)).length : Int), true) := h1
  simp only [gOps, h1']
  rw [if_pos ⟨trivial, by omega⟩, Int.toNat_natCast, h2]
  simp only
  rw [if_pos ⟨trivial, h⟩]
theorem sGetWord_put {k s t : Int} {l : List (Int × ByteArray × ByteArray)} {y : Bool} (h : sWordOk k s t l y = true) : sGetWord (wordB k s t l y) = (k, s, t, l, y, true) := by
  obtain ⟨hb, hl⟩ := wordB_ok h
  obtain ⟨a1, a2, a3, a4, a5, a6, a7, a8, a9⟩ := wordOk_is h
  obtain ⟨b1, b2⟩ := bN_range y
  obtain ⟨n1, n2, n3, n4⟩ := wordB_nums (k := k) (s := s) (t := t) (v := bN y) ⟨by omega, by omega⟩ ⟨by omega, by omega⟩ ⟨by omega, by omega⟩ ⟨by omega, by omega⟩ (cond (k == 1) (opsB l) []) (wordB k s t l y) rfl
  have sg := fun a => (sGetNum_spec hb (by omega) a).1
  have hv : decide (bN y > 1) = false := decide_eq_false (by omega)
  simp only [sGetWord, sg, n1, n2, n3, n4, Bool.not_true, cond_false, hv, k1_sGetWord, k2_sGetWord, k3_sGetWord, bN_eq]
  cases hk : (k == 1) with
  | true =>
    have ho := a7 (eq_of_beq hk)
    have e : wordB k s t l y = (numB k ++ numB s ++ numB t ++ numB (bN y)) ++ opsB l := by simp only [wordB, hk, cond_true, List.append_assoc]
    have hlen : (wordB k s t l y).length = (numB k ++ numB s ++ numB t ++ numB (bN y)).length + (opsB l).length := by rw [e, List.length_append]
    have hpos : 1 ≤ (opsB l).length := by simp [opsB, numB]; omega
    have e1 : decide (((numB k ++ numB s ++ numB t ++ numB (bN y)).length : Int) < (((wordB k s t l y).length : Nat) : Int)) = true := decide_eq_true (by omega)
    have e2 : ([] : List Int) ++ ((wordB k s t l y).take (((wordB k s t l y).length : Nat) : Int).toNat).drop (((numB k ++ numB s ++ numB t ++ numB (bN y)).length : Nat) : Int).toNat = opsB l := by
      rw [Int.toNat_natCast, Int.toNat_natCast, List.take_length, List.nil_append, e, List.drop_left]
    have g1 := (sGetOps_spec (opsB_ok ho) (by have := opsB_len ho; omega)).1
    rw [gOps_put ho] at g1
    simp only [e1, cond_true, e2, g1, Bool.not_true, cond_false, h]
  | false =>
    have hl0 : l = [] := a8 (by simpa using hk)
    subst hl0
    have e : wordB k s t [] y = (numB k ++ numB s ++ numB t ++ numB (bN y)) := by simp only [wordB, hk, cond_false, List.append_assoc, List.append_nil]
    have e1 : decide (((numB k ++ numB s ++ numB t ++ numB (bN y)).length : Int) < (((wordB k s t [] y).length : Nat) : Int)) = false := decide_eq_false (by rw [e]; omega)
    simp only [e1, cond_false, h, Bool.not_true]
theorem bigB_ok {l : List Int} (h : bigT (.sl (.int .u8)) l = true) : okB l := by
  have hb : (decide (l.length ≤ maxLen) && l.all (fun x => (Lit.int .u8 x).wf)) = true := h
  rw [Bool.and_eq_true, List.all_eq_true] at hb
  intro c hc
  have := hb.2 c hc
  simp only [Lit.wf, Bool.and_eq_true, decide_eq_true_eq] at this
  exact ⟨this.1, this.2⟩
theorem toByteS_same (l : List Int) : ltoByteS l = l := by
  have e := mapN (fun o : Int => o) (0 : Int) l l.length 0 (List.replicate l.length (0 : Int)) (by simp) (by simp)
  simp only [List.take_zero, List.nil_append, List.drop_zero, List.map_id'] at e
  exact e
theorem markN {α : Type} (el : Int → α) (c : Int) (hc : 0 ≤ c ∧ c ≤ 100000) (d : α) (f : Nat → Int × List α → Int × List α)
    (hf : ∀ i k (h : List α), i < h.length → 0 ≤ k → k ≤ 100000 * ((i : Int) + 1) → h.length ≤ 1048576 → f i (k, h) = (k + c, h.set i (el k))) :
    ∀ n i k (h : List α), i + n = h.length → 0 ≤ k → k ≤ 100000 * ((i : Int) + 1) → h.length ≤ 1048576 →
      (foldN f n i (k, h)).1 = k + c * (n : Int) ∧ (foldN f n i (k, h)).2.length = h.length ∧ (∀ j, i ≤ j → j < h.length → (foldN f n i (k, h)).2.getD j d = el (k + c * ((j - i : Nat) : Int))) ∧ ∀ j, j < i → (foldN f n i (k, h)).2.getD j d = h.getD j d := by
  intro n
  induction n with
  | zero => intro i k h hi h0 h1 h2; exact ⟨by simp [foldN], rfl, fun j hj hl => by omega, fun j _ => rfl⟩
  | succ n ih =>
    intro i k h hi h0 h1 h2
    simp only [foldN]
    rw [hf i k h (by omega) h0 h1 h2]
    obtain ⟨q1, q2, q3, q4⟩ := ih (i + 1) (k + c) (h.set i (el k)) (by simp; omega) (by omega) (by omega) (by simpa using h2)
    refine ⟨?_, by rw [q2]; simp, fun j hj hl => ?_, fun j hj => ?_⟩
    · rw [q1, Int.natCast_add, Int.mul_add]; simp; omega
    · by_cases e : j = i
      · subst e
        rw [q4 j (by omega)]
        have : j < h.length := hl
        simp [List.getD_eq_getElem?_getD, this]
      · rw [q3 j (by omega) (by simpa using hl)]
        congr 1
        have : ((j - i : Nat) : Int) = ((j - (i + 1) : Nat) : Int) + 1 := by omega
        rw [this, Int.mul_add]; omega
    · rw [q4 j (by omega)]
      have : i ≠ j := by omega
      simp [List.getD_eq_getElem?_getD, List.getElem?_set_ne this]
theorem heldN {α : Type} (el : Int → α) (c : Int) (hc : 0 ≤ c ∧ c ≤ 100000) (d : α) (x : List α) (hx : x.length ≤ 1048576) (g : Nat → Int → Int ⊕ Unit)
    (hg : ∀ i k, i < x.length → 0 ≤ k → k ≤ 100000 * ((i : Int) + 1) → x.getD i d = el k → g i k = .inl (k + c)) :
    ∀ n i k, i + n = x.length → 0 ≤ k → k ≤ 100000 * ((i : Int) + 1) → (∀ j, i ≤ j → j < x.length → x.getD j d = el (k + c * ((j - i : Nat) : Int))) → loopN g n i k = .inl (k + c * (n : Int)) := by
  intro n
  induction n with
  | zero => intro i k hi h0 h1 he; simp [loopN]
  | succ n ih =>
    intro i k hi h0 h1 he
    have h2 := he i (Nat.le_refl _) (by omega)
    rw [Nat.sub_self] at h2
    simp only [loopN]
    rw [hg i k (by omega) h0 h1 (by simpa using h2)]
    simp only
    rw [ih (i + 1) (k + c) (by omega) (by omega) (by omega) (fun j hj hl => by
      rw [he j (by omega) hl]
      congr 1
      have : ((j - i : Nat) : Int) = ((j - (i + 1) : Nat) : Int) + 1 := by omega
      rw [this, Int.mul_add]; omega)]
    rw [Int.natCast_add, Int.mul_add]; congr 1; simp; omega
theorem heldmark {α : Type} (el : Int → α) (c : Int) (hc : 0 ≤ c ∧ c ≤ 100000) (d : α) (f : Nat → Int × List α → Int × List α) (g : List α → Nat → Int → Int ⊕ Unit)
    (hf : ∀ i k (h : List α), i < h.length → 0 ≤ k → k ≤ 100000 * ((i : Int) + 1) → h.length ≤ 1048576 → f i (k, h) = (k + c, h.set i (el k)))
    (hg : ∀ (x : List α) i k, x.length ≤ 1048576 → i < x.length → 0 ≤ k → k ≤ 100000 * ((i : Int) + 1) → x.getD i d = el k → g x i k = .inl (k + c)) (h : List α) (hh : h.length ≤ 1048576) (k : Int) (h0 : 0 ≤ k) (h1 : k ≤ 100000) :
    (foldN f h.length 0 (k, h)).1 = k + c * (h.length : Int) ∧ (foldN f h.length 0 (k, h)).2.length = h.length ∧ loopN (g (foldN f h.length 0 (k, h)).2) (foldN f h.length 0 (k, h)).2.length 0 k = .inl (k + c * (h.length : Int)) := by
  obtain ⟨q1, q2, q3, _⟩ := markN el c hc d f hf h.length 0 k h (by omega) h0 (by omega) hh
  refine ⟨q1, q2, ?_⟩
  have := heldN el c hc d (foldN f h.length 0 (k, h)).2 (by rw [q2]; exact hh) (g (foldN f h.length 0 (k, h)).2) (fun i k hi => hg _ i k (by rw [q2]; exact hh) hi) (foldN f h.length 0 (k, h)).2.length 0 k (by omega) h0 (by omega) (fun j hj hl => q3 j hj (by rw [q2] at hl; exact hl))
  rw [this, q2]
theorem getD_set {α : Type} {l : List α} {i : Nat} (hi : i < l.length) (x d : α) : (l.set i x).getD i d = x := by
  simp [List.getD_eq_getElem?_getD, hi]
theorem opsS_held (l : List (Int × ByteArray × ByteArray)) (h : l.length ≤ 1048576) : 0 ≤ (lmarkOpS 1 l).1 ∧ (lmarkOpS 1 l).2.length = l.length ∧ lheldOpS (lmarkOpS 1 l).2 1 = (lmarkOpS 1 l).1 := by
  obtain ⟨q1, q2, q3⟩ := heldmark (fun k => (k, lmarkText (k + 1), lmarkText (k + 1 + 1))) 3 (by omega) dOp f_lmarkOpS_0 f_lheldOpS_0 (fun i k h hi h0 h1 h2 => by
    have w1 : IntKind.wrap .i64 (k + (1 : Int)) = k + 1 := wrap64 (by omega) (by omega)
    have w2 : IntKind.wrap .i64 (k + 1 + (1 : Int)) = k + 1 + 1 := wrap64 (by omega) (by omega)
    have w3 : IntKind.wrap .i64 (k + 1 + 1 + (1 : Int)) = k + 3 := by rw [wrap64 (by omega) (by omega)]; omega
    simp only [f_lmarkOpS_0, w1, w2, w3, List.set_set, getD_set hi]) (fun x i k hx hi h0 h1 he => by
    have w1 : IntKind.wrap .i64 (k + (1 : Int)) = k + 1 := wrap64 (by omega) (by omega)
    have w2 : IntKind.wrap .i64 (k + 1 + (1 : Int)) = k + 1 + 1 := wrap64 (by omega) (by omega)
    have w3 : IntKind.wrap .i64 (k + 1 + 1 + (1 : Int)) = k + 3 := by rw [wrap64 (by omega) (by omega)]; omega
    simp only [dOp] at he
    have e : (k != k) = false := by simp
    simp only [f_lheldOpS_0, he, e, cond_false, w1, w2, w3, beq_self_eq_true, Bool.not_true]) l h 1 (by omega) (by omega)
  have e1 : lmarkOpS 1 l = foldN f_lmarkOpS_0 l.length 0 (1, l) := rfl
  rw [e1]
  refine ⟨by rw [q1]; omega, q2, ?_⟩
  have e2 : ∀ x, lheldOpS x 1 = cond (isInl (loopN (f_lheldOpS_0 x) x.length 0 1)) (getInl (-1) (loopN (f_lheldOpS_0 x) x.length 0 1)) (-1 : Int) := fun x => rfl
  rw [e2, q3, q1]; rfl
theorem byteS_mark (l : List Int) (h : l.length ≤ 1048576) : (lmarkByteS 1 l).1 = 1 + (l.length : Int) := by
  have q := (markN (fun k => IntKind.wrap .u8 k) 1 (by omega) (0 : Int) f_lmarkByteS_0 (fun i k h hi h0 h1 h2 => by
    have w1 : IntKind.wrap .i64 (k + (1 : Int)) = k + 1 := wrap64 (by omega) (by omega)
    simp only [f_lmarkByteS_0, w1]) l.length 0 1 l (by omega) (by omega) (by omega) h).1
  rw [Int.one_mul] at q
  have e1 : lmarkByteS 1 l = foldN f_lmarkByteS_0 l.length 0 (1, l) := rfl
  rw [e1, q]
theorem eqOp_same (k : Int) (s v : ByteArray) : leqOp k s v k s v = true := by simp [leqOp]
theorem eqOpS_same (l : List (Int × ByteArray × ByteArray)) : leqOpS l l = true := by
  have e : allF (f_leqOpS_0 l l) (l.length - (0 : Int).toNat) (0 : Int).toNat = true := allF_same _ _ (fun j _ _ => by simp [f_leqOpS_0, eqOp_same])
  simp only [leqOpS, e, cond_true]
  simp
theorem eqByteS_same (l : List Int) : leqByteS l l = true := by
  have e : (((l.length : Nat) : Int) != ((l.length : Nat) : Int)) = false := by simp
  simp only [leqByteS, e, cond_false]
  rw [allF_same]
  · rfl
  · intro j _ _; simp [f_leqByteS_0]
theorem getWord_both {b : List Int} (hb : okB b) (hl : b.length ≤ 1048576) : q_sGetWord b = true ∧ q_iGetWord b = true ∧ ∃ k s t l y ok, sGetWord b = (k, s, t, l, y, ok) ∧ iGetWord b = (k, s, t, y, ok, l) ∧ okOps l = true := by
  obtain ⟨s1, s2⟩ := sGetWord_of hb hl
  obtain ⟨i1, i2⟩ := iGetWord_of hb hl
  refine ⟨s1, i1, ?_⟩
  rcases s2 with ⟨k, s, t, l, y, e1, e2, e3⟩ | e1
  · exact ⟨k, s, t, l, y, true, e1, by rw [e3]; exact iGetWord_put e2, (wordOk_is e2).2.2.2.2.2.2.2.2⟩
  · rcases i2 with ⟨k, s, t, l, y, f1, f2, f3⟩ | f1
    · rw [f3, sGetWord_put f2] at e1
      simp at e1
    · exact ⟨0, 0, 0, [], false, false, e1, f1, rfl⟩
theorem getWord_all {b : List Int} (h : bigT (.sl (.int .u8)) b = true) : q_lFnExactGetWord b = true ∧ lFnExactGetWord b = true := by
  have hb := bigB_ok h
  simp only [lFnExactGetWord, q_lFnExactGetWord, k1_lFnExactGetWord, k2_lFnExactGetWord, k3_lFnExactGetWord, toByteS_same]
  cases hd : decide (((b.length : Nat) : Int) > 1048576) with
  | true => exact ⟨rfl, rfl⟩
  | false =>
    have hl : b.length ≤ 1048576 := by have := of_decide_eq_false hd; omega
    obtain ⟨q1, q2, k, s, t, l, y, ok, e1, e2, e3⟩ := getWord_both hb hl
    have hlo := okL_le (okOps_okL e3)
    obtain ⟨m1, m2, m3⟩ := opsS_held l hlo
    have b1 := byteS_mark b hl
    have c1 : decide ((1 + (b.length : Int)) < 0) = false := decide_eq_false (by omega)
    have c2 : decide ((lmarkOpS 1 l).1 < 0) = false := decide_eq_false (by omega)
    have c3 : okL b = true := decide_eq_true hl
    have c4 : okL l = true := okOps_okL e3
    have c5 : okL (lmarkOpS 1 l).2 = true := decide_eq_true (by rw [m2]; exact hlo)
    have c6 : leqOpS l l = true := eqOpS_same l
    have c7 : ∀ x : Int, (x != x) = false := fun x => by simp
    have c8 : ∀ x : Bool, (x == x) = true := fun x => by simp
    have c9 : decide ((0 : Int) ≤ 1 ∧ (1 : Int) ≤ 100000) = true := by decide
    simp only [e1, e2, q1, q2, q_ltoByteS, q_leqWord, q_leqByteS, q_lmarkByteS, q_lmarkWord, q_lmarkOpS, q_lheldWord, q_lheldOpS, leqWord, c1, c2, c3, c4, c5, c6, c7, c8, c9, lmarkWord, lheldWord, eqByteS_same, b1, m3, cond_false, cond_true, Bool.not_true, Bool.and_true, Bool.and_self]
    exact ⟨trivial, trivial⟩
theorem pre_of_lFnExactGetWord (b : List Int) (h : bigT (.sl (.int .u8)) b = true) : pre_lFnExactGetWord (b, ()) = true := (getWord_all h).1
theorem exact_lFnExactGetWord (b : List Int) (h : bigT (.sl (.int .u8)) b = true) : lFnExactGetWord b = true := (getWord_all h).2

end Go.Proofs.Ytoddiofedjnapaa.Eng

/- What the functions that FnApplied reaches compute: further. -/
import Derived.Test.YtoddiofedjnapaaFAppliedA
namespace Go.Proofs.Ytoddiofedjnapaa.Eng
open Go Go.RowKit
set_option linter.unusedSimpArgs false
set_option linter.unusedVariables false
set_option maxRecDepth 10000
/-! 177 loop.example/g00244/impl.isKeyByte -/
noncomputable abbrev P_iisKeyByte : List PSh := [.t (.int .u8)]
noncomputable def iisKeyByte (a0 : Int) : Bool := (cond (decide (a0 ≥ (97 : Int))) (cond (decide (a0 ≤ (122 : Int))) true (cond (decide (a0 ≥ (48 : Int))) (decide (a0 ≤ (57 : Int))) false)) (cond (decide (a0 ≥ (48 : Int))) (decide (a0 ≤ (57 : Int))) false))
noncomputable abbrev e_iisKeyByte (r : Bool) : AV × List AObj := ((.t true .bool r), [])
noncomputable abbrev g_iisKeyByte : pshsDen P_iisKeyByte → AV × List AObj := fun d => e_iisKeyByte (iisKeyByte d.1)
noncomputable abbrev pre_iisKeyByte : pshsDen P_iisKeyByte → Bool := fun d => true
theorem runA_iisKeyByte (a0 : Int) : runP true Try.prog tt S30 QF30 (fun _ _ => none) Try.f177 (argsMk P_iisKeyByte (a0, ())) = some (g_iisKeyByte (a0, ())) := by
  refine Eq.trans (b := (cond (decide (a0 ≥ (97 : Int))) (cond (decide (a0 ≤ (122 : Int))) (some (e_iisKeyByte true)) (cond (decide (a0 ≥ (48 : Int))) (some (e_iisKeyByte (decide (a0 ≤ (57 : Int))))) (some (e_iisKeyByte false)))) (cond (decide (a0 ≥ (48 : Int))) (some (e_iisKeyByte (decide (a0 ≤ (57 : Int))))) (some (e_iisKeyByte false))))) (by kernel_rfl) ?_
  exact (cnd (F := fun r => some (e_iisKeyByte r)) (fun _h => (cnd (F := fun r => some (e_iisKeyByte r)) (fun _h => rfl) (fun _h => (cnd (F := fun r => some (e_iisKeyByte r)) (fun _h => rfl) (fun _h => rfl))))) (fun _h => (cnd (F := fun r => some (e_iisKeyByte r)) (fun _h => rfl) (fun _h => rfl))))
theorem run_iisKeyByte : ∀ d, pre_iisKeyByte d = true → runP true Try.prog tt S30 QF30 (fun _ _ => none) Try.f177 (argsMk P_iisKeyByte d) = some (g_iisKeyByte d) := fun d hp => runA_iisKeyByte d.1
theorem c_iisKeyByte : PContract Try.prog 177 (sumOf P_iisKeyByte pre_iisKeyByte g_iisKeyByte) := PContract.of_data true G30 (fn := Try.f177) (by kernel_rfl) (L := fun _ _ => none) (by rw [show loopsIn 0 (bodyOf Try.f177) = [] by kernel_rfl]; simp) P_iisKeyByte pre_iisKeyByte g_iisKeyByte run_iisKeyByte
noncomputable def S31 : Tab := Tab.add S30 177 (lift (sumOf P_iisKeyByte pre_iisKeyByte g_iisKeyByte))
noncomputable def QF31 : FuncId → Bool := qadd QF30 177
theorem G31 : Good Try.prog tt S31 QF31 := G30.addQ c_iisKeyByte ⟨Try.f177, by kernel_rfl, by kernel_rfl, by kernel_rfl⟩ (fun _ => rfl)

/-! 164 loop.example/g00244/impl.isWord -/
noncomputable def iKeyAt (s : ByteArray) (i : Nat) : Bool := iisKeyByte (bt s (i : Int))
noncomputable abbrev P_iisWord : List PSh := [.t .str]
noncomputable abbrev S_iisWord_0 : SS := ⟨[.t true .str, .junk, .junk, .t true (.int .i64), .junk, .junk, .junk, .junk, .junk, .junk, .junk, .junk, .junk, .junk, .junk], []⟩
noncomputable abbrev E_iisWord_0_0 : SS := ⟨[.junk, .junk, .t true .bool, .junk, .junk, .junk, .junk, .junk, .junk, .junk, .junk, .junk, .junk, .junk, .junk], []⟩
noncomputable abbrev E_iisWord_0_1 : SS := ⟨[.junk, .junk, .junk, .junk, .junk, .junk, .junk, .junk, .junk, .junk, .junk, .junk, .junk, .junk, .junk], []⟩
noncomputable def st_iisWord_0 (x0 : ByteArray) (x3 : Int) : RT S_iisWord_0.den := (.br (decide (x3 < ((x0.size : Nat) : Int))) (.br (decide (0 ≤ x3 ∧ x3 < ((x0.size : Nat) : Int))) (.br (!(iisKeyByte (bt x0 x3))) (.done .ret E_iisWord_0_0 (((), (), false, (), (), (), (), (), (), (), (), (), (), (), (), ()), ())) (.next ((x0, (), (), IntKind.wrap .i64 (x3 + (1 : Int)), (), (), (), (), (), (), (), (), (), (), (), ()), ()))) .fail) (.done (.exit 0) E_iisWord_0_1 (((), (), (), (), (), (), (), (), (), (), (), (), (), (), (), ()), ())))
noncomputable def T_iisWord_0 (x0 : ByteArray) (x3 : Int) : CT := (.br (decide (0 ≤ x3) && okS x0) (.br (allF (iKeyAt x0) (x0.size - x3.toNat) x3.toNat) (.done (.exit 0) E_iisWord_0_1 (((), (), (), (), (), (), (), (), (), (), (), (), (), (), (), ()), ())) (.done .ret E_iisWord_0_0 (((), (), false, (), (), (), (), (), (), (), (), (), (), (), (), ()), ()))) .fail)
noncomputable abbrev sp_iisWord_0 : S_iisWord_0.den → RT S_iisWord_0.den := fun d => st_iisWord_0 d.1.1 d.1.2.2.2.1
noncomputable abbrev pk_iisWord_0 (x0 : ByteArray) (x3 : Int) : S_iisWord_0.den := ((x0, (), (), x3, (), (), (), (), (), (), (), (), (), (), (), ()), ())
noncomputable def body_iisWord_0 : Code := ((loopsIn 0 (bodyOf Try.f164)).getD 0 (0, .skip)).2
theorem R_iisWord_0 (x0 : ByteArray) (x3 : Int) : (T_iisWord_0 x0 x3).val (D := S_iisWord_0.den) = .fail ∨ Runs sp_iisWord_0 (pk_iisWord_0 x0 x3) (T_iisWord_0 x0 x3).val := by
  cases hc : (decide (0 ≤ x3) && okS x0) with
  | false => left; simp only [T_iisWord_0, CT.val, hc, cond_false]
  | true =>
    right
    simp only [T_iisWord_0, CT.val, hc, cond_true]
    simp only [Bool.and_eq_true, decide_eq_true_eq] at hc
    obtain ⟨i, rfl⟩ := Int.eq_ofNat_of_zero_le hc.1
    have hs := okS_le hc.2
    simp only [Int.toNat_natCast]
    refine Runs.scan (fun j => pk_iisWord_0 x0 (j : Int)) (x0.size) (iKeyAt x0) (fun i hi => ?_) (fun i hi => ?_) ⟨_, _, _, rfl, by simp⟩ ⟨_, _, _, rfl, by simp⟩ _ _ rfl
    · 
      have h0a : decide ((i : Int) < ((x0.size : Nat) : Int)) = true := decide_eq_true (by omega)
      have h0b : decide (0 ≤ (i : Int) ∧ (i : Int) < ((x0.size : Nat) : Int)) = true := decide_eq_true (by omega)
      simp only [sp_iisWord_0, st_iisWord_0, RT.val, h0a, h0b, cond_true, wrapS i (by omega), Int.toNat_natCast]
      simp only [iKeyAt]
      cases iisKeyByte (bt x0 (i : Int)) <;> rfl
    · have h1 : decide ((i : Int) < ((x0.size : Nat) : Int)) = false := decide_eq_false (by omega)
      simp only [sp_iisWord_0, st_iisWord_0, RT.val, h1, cond_false]
theorem rd_iisWord_0 : ∀ d, execC Try.prog tt S31 QF31 (fun _ _ => none) 0 body_iisWord_0 (S_iisWord_0.st d 0 []) (fun e s' => some (e, S_iisWord_0.cutE (kepts [2] [(0, [])]) e s')) = (sp_iisWord_0 d).opt 0 [] := by
  intro d
  kernel_rfl
noncomputable abbrev say_iisWord_0 : St → Option Tree := S_iisWord_0.say 0 [] [] (fun d => T_iisWord_0 d.1.1 d.1.2.2.2.1)
theorem lw_iisWord_0 : LoopWp Try.prog say_iisWord_0 body_iisWord_0 := SS.wp G31 (fun _ _ => none) (by rw [show loopsIn 0 body_iisWord_0 = [] by kernel_rfl]; simp) S_iisWord_0 0 [] (kepts [2] [(0, [])]) [] sp_iisWord_0 rd_iisWord_0 _ (fun d => R_iisWord_0 d.1.1 d.1.2.2.2.1)
noncomputable def iisWord (a0 : ByteArray) : Bool := (cond (allF (iKeyAt a0) (a0.size - (0 : Int).toNat) (0 : Int).toNat) true false)
noncomputable abbrev e_iisWord (r : Bool) : AV × List AObj := ((.t true .bool r), [])
noncomputable abbrev g_iisWord : pshsDen P_iisWord → AV × List AObj := fun d => e_iisWord (iisWord d.1)
noncomputable def q_iisWord (a0 : ByteArray) : Bool := okS a0
noncomputable abbrev pre_iisWord : pshsDen P_iisWord → Bool := fun d => q_iisWord d.1
theorem runA_iisWord (a0 : ByteArray) (hp : (okS a0) = true) : runP true Try.prog tt S31 QF31 (fun b => match b with | 0 => say_iisWord_0 | _ => fun _ => none) Try.f164 (argsMk P_iisWord (a0, ())) = some (g_iisWord (a0, ())) := by
  refine Eq.trans (b := (cond (decide (0 ≤ (0 : Int)) && okS a0) (cond (allF (iKeyAt a0) (a0.size - (0 : Int).toNat) (0 : Int).toNat) (some (e_iisWord true)) (some (e_iisWord false))) none)) (by kernel_rfl) ?_
  exact (cndT (by first | rfl | decide | exact hp | (simp only [Bool.and_eq_true] at hp; simp only [hp]; done) | (simp [*]; done) | (simp [okL] at hp; simp [okL, MAXB]; omega) | (simp_all; done) | (simp at *; omega)) (fun _h => (cnd (F := fun r => some (e_iisWord r)) (fun _h => rfl) (fun _h => rfl))))
theorem run_iisWord : ∀ d, pre_iisWord d = true → runP true Try.prog tt S31 QF31 (fun b => match b with | 0 => say_iisWord_0 | _ => fun _ => none) Try.f164 (argsMk P_iisWord d) = some (g_iisWord d) := fun d hp => runA_iisWord d.1 hp
theorem c_iisWord : PContract Try.prog 164 (sumOf P_iisWord pre_iisWord g_iisWord) := PContract.of_data true G31 (fn := Try.f164) (by kernel_rfl) (L := fun b => match b with | 0 => say_iisWord_0 | _ => fun _ => none) (by rw [show loopsIn 0 (bodyOf Try.f164) = [(0, body_iisWord_0)] by kernel_rfl]; intro p hp; simp only [List.mem_singleton] at hp; subst hp; exact lw_iisWord_0) P_iisWord pre_iisWord g_iisWord run_iisWord
noncomputable def S32 : Tab := Tab.add S31 164 (lift (sumOf P_iisWord pre_iisWord g_iisWord))
noncomputable def QF32 : FuncId → Bool := qadd QF31 164
theorem G32 : Good Try.prog tt S32 QF32 := G31.addQ c_iisWord ⟨Try.f164, by kernel_rfl, by kernel_rfl, by kernel_rfl⟩ (fun _ => rfl)

/-! 150 loop.example/g00244/impl.KeyOk -/
noncomputable abbrev P_iKeyOk : List PSh := [.t .str]
noncomputable def iKeyOk (a0 : ByteArray) : Bool := (cond (iinRange ((a0.size : Nat) : Int) (1 : Int) (12 : Int)) (iisWord a0) false)
noncomputable abbrev e_iKeyOk (r : Bool) : AV × List AObj := ((.t true .bool r), [])
noncomputable abbrev g_iKeyOk : pshsDen P_iKeyOk → AV × List AObj := fun d => e_iKeyOk (iKeyOk d.1)
noncomputable def q_iKeyOk (a0 : ByteArray) : Bool := okS a0
noncomputable abbrev pre_iKeyOk : pshsDen P_iKeyOk → Bool := fun d => q_iKeyOk d.1
theorem runA_iKeyOk (a0 : ByteArray) (hp : (okS a0) = true) : runP true Try.prog tt S32 QF32 (fun _ _ => none) Try.f150 (argsMk P_iKeyOk (a0, ())) = some (g_iKeyOk (a0, ())) := by
  refine Eq.trans (b := (cond (iinRange ((a0.size : Nat) : Int) (1 : Int) (12 : Int)) (cond (q_iisWord a0) (some (e_iKeyOk (iisWord a0))) none) (some (e_iKeyOk false)))) (by kernel_rfl) ?_
  exact (cnd (F := fun r => some (e_iKeyOk r)) (fun _h => (cndT (by first | rfl | decide | exact hp | (simp only [Bool.and_eq_true] at hp; simp only [hp]; done) | (simp [*]; done) | (simp [okL] at hp; simp [okL, MAXB]; omega) | (simp_all; done) | (simp at *; omega)) (fun _h => rfl))) (fun _h => rfl))
theorem run_iKeyOk : ∀ d, pre_iKeyOk d = true → runP true Try.prog tt S32 QF32 (fun _ _ => none) Try.f150 (argsMk P_iKeyOk d) = some (g_iKeyOk d) := fun d hp => runA_iKeyOk d.1 hp
theorem c_iKeyOk : PContract Try.prog 150 (sumOf P_iKeyOk pre_iKeyOk g_iKeyOk) := PContract.of_data true G32 (fn := Try.f150) (by kernel_rfl) (L := fun _ _ => none) (by rw [show loopsIn 0 (bodyOf Try.f150) = [] by kernel_rfl]; simp) P_iKeyOk pre_iKeyOk g_iKeyOk run_iKeyOk
noncomputable def S33 : Tab := Tab.add S32 150 (lift (sumOf P_iKeyOk pre_iKeyOk g_iKeyOk))
noncomputable def QF33 : FuncId → Bool := qadd QF32 150
theorem G33 : Good Try.prog tt S33 QF33 := G32.addQ c_iKeyOk ⟨Try.f150, by kernel_rfl, by kernel_rfl, by kernel_rfl⟩ (fun _ => rfl)

/-! 126 loop.example/g00244/impl.PairOk -/
noncomputable abbrev P_iPairOk : List PSh := [.agg [.str, .str]]
noncomputable def iPairOk (a0 : ByteArray) (a1 : ByteArray) : Bool := (cond (iKeyOk a0) (decide (((a1.size : Nat) : Int) ≤ (20 : Int))) false)
noncomputable abbrev e_iPairOk (r : Bool) : AV × List AObj := ((.t true .bool r), [])
noncomputable abbrev g_iPairOk : pshsDen P_iPairOk → AV × List AObj := fun d => e_iPairOk (iPairOk d.1.1 d.1.2.1)
noncomputable def q_iPairOk (a0 : ByteArray) (a1 : ByteArray) : Bool := q_iKeyOk a0
noncomputable abbrev pre_iPairOk : pshsDen P_iPairOk → Bool := fun d => q_iPairOk d.1.1 d.1.2.1
theorem runA_iPairOk (a0 : ByteArray) (a1 : ByteArray) (hp : (q_iKeyOk a0) = true) : runP true Try.prog tt S33 QF33 (fun _ _ => none) Try.f126 (argsMk P_iPairOk ((a0, (a1, ())), ())) = some (g_iPairOk ((a0, (a1, ())), ())) := by
  refine Eq.trans (b := (cond (q_iKeyOk a0) (cond (iKeyOk a0) (some (e_iPairOk (decide (((a1.size : Nat) : Int) ≤ (20 : Int))))) (some (e_iPairOk false))) none)) (by kernel_rfl) ?_
  exact (cndT hp (fun _h => (cnd (F := fun r => some (e_iPairOk r)) (fun _h => rfl) (fun _h => rfl))))
theorem run_iPairOk : ∀ d, pre_iPairOk d = true → runP true Try.prog tt S33 QF33 (fun _ _ => none) Try.f126 (argsMk P_iPairOk d) = some (g_iPairOk d) := fun d hp => runA_iPairOk d.1.1 d.1.2.1 hp
theorem c_iPairOk : PContract Try.prog 126 (sumOf P_iPairOk pre_iPairOk g_iPairOk) := PContract.of_data true G33 (fn := Try.f126) (by kernel_rfl) (L := fun _ _ => none) (by rw [show loopsIn 0 (bodyOf Try.f126) = [] by kernel_rfl]; simp) P_iPairOk pre_iPairOk g_iPairOk run_iPairOk
noncomputable def S34 : Tab := Tab.add S33 126 (lift (sumOf P_iPairOk pre_iPairOk g_iPairOk))
noncomputable def QF34 : FuncId → Bool := qadd QF33 126
theorem G34 : Good Try.prog tt S34 QF34 := G33.addQ c_iPairOk ⟨Try.f126, by kernel_rfl, by kernel_rfl, by kernel_rfl⟩ (fun _ => rfl)

/-! 65 loop.example/g00244/impl.PairsOk -/
noncomputable abbrev P_iPairsOk : List PSh := [.t (.sl (.pair .str .str))]
noncomputable abbrev S_iPairsOk_0 : SS := ⟨[.t false (.sl (.pair .str .str)), .junk, .junk, .junk, .junk, .t false (.sl (.pair .str .str)), .t true (.int .i64), .t true (.int .i64), .junk, .junk, .junk, .junk, .junk, .junk, .junk, .junk, .junk, .junk, .junk, .junk, .junk, .junk, .junk, .junk, .junk, .junk, .junk, .junk, .junk, .junk, .junk, .junk, .junk, .junk], []⟩
noncomputable abbrev E_iPairsOk_0_0 : SS := ⟨[.junk, .junk, .t true .bool, .junk, .junk, .junk, .junk, .junk, .junk, .junk, .junk, .junk, .junk, .junk, .junk, .junk, .junk, .junk, .junk, .junk, .junk, .junk, .junk, .junk, .junk, .junk, .junk, .junk, .junk, .junk, .junk, .junk, .junk, .junk], []⟩
noncomputable abbrev E_iPairsOk_0_1 : SS := ⟨[.t false (.sl (.pair .str .str)), .junk, .junk, .junk, .junk, .junk, .junk, .junk, .junk, .junk, .junk, .junk, .junk, .junk, .junk, .junk, .junk, .junk, .junk, .junk, .junk, .junk, .junk, .junk, .junk, .junk, .junk, .junk, .junk, .junk, .junk, .junk, .junk, .junk], []⟩
noncomputable def k1_iPairsOk (x5 : List (ByteArray × ByteArray)) (x7 : Int) := iPairOk ((x5.getD x7.toNat ((⟨#[]⟩ : ByteArray), (⟨#[]⟩ : ByteArray))).1) ((x5.getD x7.toNat ((⟨#[]⟩ : ByteArray), (⟨#[]⟩ : ByteArray))).2)
noncomputable def st_iPairsOk_0 (x0 : List (ByteArray × ByteArray)) (x5 : List (ByteArray × ByteArray)) (x6 : Int) (x7 : Int) : RT S_iPairsOk_0.den := (.br (decide (x7 < x6)) (.br (decide (0 ≤ x7 ∧ x7 < ((x5.length : Nat) : Int))) (.br (q_iPairOk ((x5.getD x7.toNat ((⟨#[]⟩ : ByteArray), (⟨#[]⟩ : ByteArray))).1) ((x5.getD x7.toNat ((⟨#[]⟩ : ByteArray), (⟨#[]⟩ : ByteArray))).2)) (.br (!(k1_iPairsOk x5 x7)) (.done .ret E_iPairsOk_0_0 (((), (), false, (), (), (), (), (), (), (), (), (), (), (), (), (), (), (), (), (), (), (), (), (), (), (), (), (), (), (), (), (), (), (), ()), ())) (.br (decide (x7 > (0 : Int))) (.br (decide (0 ≤ (IntKind.wrap .i64 (x7 - (1 : Int))) ∧ (IntKind.wrap .i64 (x7 - (1 : Int))) < ((x0.length : Nat) : Int))) (.br (Op.bytesLess ((x5.getD x7.toNat ((⟨#[]⟩ : ByteArray), (⟨#[]⟩ : ByteArray))).1).toList ((x0.getD ((IntKind.wrap .i64 (x7 - (1 : Int))).toNat) ((⟨#[]⟩ : ByteArray), (⟨#[]⟩ : ByteArray))).1).toList || (((x5.getD x7.toNat ((⟨#[]⟩ : ByteArray), (⟨#[]⟩ : ByteArray))).1).toList == ((x0.getD ((IntKind.wrap .i64 (x7 - (1 : Int))).toNat) ((⟨#[]⟩ : ByteArray), (⟨#[]⟩ : ByteArray))).1).toList)) (.done .ret E_iPairsOk_0_0 (((), (), false, (), (), (), (), (), (), (), (), (), (), (), (), (), (), (), (), (), (), (), (), (), (), (), (), (), (), (), (), (), (), (), ()), ())) (.next ((x0, (), (), (), (), x5, x6, IntKind.wrap .i64 (x7 + (1 : Int)), (), (), (), (), (), (), (), (), (), (), (), (), (), (), (), (), (), (), (), (), (), (), (), (), (), (), ()), ()))) .fail) (.next ((x0, (), (), (), (), x5, x6, IntKind.wrap .i64 (x7 + (1 : Int)), (), (), (), (), (), (), (), (), (), (), (), (), (), (), (), (), (), (), (), (), (), (), (), (), (), (), ()), ())))) .fail) .fail) (.done (.exit 0) E_iPairsOk_0_1 ((x0, (), (), (), (), (), (), (), (), (), (), (), (), (), (), (), (), (), (), (), (), (), (), (), (), (), (), (), (), (), (), (), (), (), ()), ())))
noncomputable abbrev V_iPairsOk_0 := (List (ByteArray × ByteArray)) × (List (ByteArray × ByteArray)) × (Int) × (Int)
noncomputable abbrev A_iPairsOk_0 := Nat × (Bool) × (List (ByteArray × ByteArray))
noncomputable def fl_iPairsOk_0 : A_iPairsOk_0 := (99, (false : Bool), ([] : List (ByteArray × ByteArray)))
noncomputable def ss_iPairsOk_0 (x0 : List (ByteArray × ByteArray)) (x5 : List (ByteArray × ByteArray)) (x6 : Int) (x7 : Int) : V_iPairsOk_0 ⊕ A_iPairsOk_0 := (cond (decide (x7 < x6)) (cond (decide (0 ≤ x7 ∧ x7 < ((x5.length : Nat) : Int))) (cond (q_iPairOk ((x5.getD x7.toNat ((⟨#[]⟩ : ByteArray), (⟨#[]⟩ : ByteArray))).1) ((x5.getD x7.toNat ((⟨#[]⟩ : ByteArray), (⟨#[]⟩ : ByteArray))).2)) (cond (!(k1_iPairsOk x5 x7)) (.inr (0, false, ([] : List (ByteArray × ByteArray)))) (cond (decide (x7 > (0 : Int))) (cond (decide (0 ≤ (IntKind.wrap .i64 (x7 - (1 : Int))) ∧ (IntKind.wrap .i64 (x7 - (1 : Int))) < ((x0.length : Nat) : Int))) (cond (Op.bytesLess ((x5.getD x7.toNat ((⟨#[]⟩ : ByteArray), (⟨#[]⟩ : ByteArray))).1).toList ((x0.getD ((IntKind.wrap .i64 (x7 - (1 : Int))).toNat) ((⟨#[]⟩ : ByteArray), (⟨#[]⟩ : ByteArray))).1).toList || (((x5.getD x7.toNat ((⟨#[]⟩ : ByteArray), (⟨#[]⟩ : ByteArray))).1).toList == ((x0.getD ((IntKind.wrap .i64 (x7 - (1 : Int))).toNat) ((⟨#[]⟩ : ByteArray), (⟨#[]⟩ : ByteArray))).1).toList)) (.inr (0, false, ([] : List (ByteArray × ByteArray)))) (.inl (x0, x5, x6, IntKind.wrap .i64 (x7 + (1 : Int))))) (.inr fl_iPairsOk_0)) (.inl (x0, x5, x6, IntKind.wrap .i64 (x7 + (1 : Int)))))) (.inr fl_iPairsOk_0)) (.inr fl_iPairsOk_0)) (.inr (1, (false : Bool), x0)))
noncomputable def it_iPairsOk_0 (x0 : List (ByteArray × ByteArray)) (x5 : List (ByteArray × ByteArray)) (x6 : Int) (x7 : Int) : A_iPairsOk_0 := itX (fun v : V_iPairsOk_0 => ss_iPairsOk_0 v.1 v.2.1 v.2.2.1 v.2.2.2) fl_iPairsOk_0 (x0, x5, x6, x7)
noncomputable def ct_iPairsOk_0 (a : A_iPairsOk_0) : CT := (.br (a.1 == 0) (.done .ret E_iPairsOk_0_0 (((), (), a.2.1, (), (), (), (), (), (), (), (), (), (), (), (), (), (), (), (), (), (), (), (), (), (), (), (), (), (), (), (), (), (), (), ()), ())) (.br (a.1 == 1) (.done (.exit 0) E_iPairsOk_0_1 ((a.2.2, (), (), (), (), (), (), (), (), (), (), (), (), (), (), (), (), (), (), (), (), (), (), (), (), (), (), (), (), (), (), (), (), (), ()), ())) .fail))
noncomputable def T_iPairsOk_0 (x0 : List (ByteArray × ByteArray)) (x5 : List (ByteArray × ByteArray)) (x6 : Int) (x7 : Int) : CT := ct_iPairsOk_0 (it_iPairsOk_0 x0 x5 x6 x7)
noncomputable abbrev sp_iPairsOk_0 : S_iPairsOk_0.den → RT S_iPairsOk_0.den := fun d => st_iPairsOk_0 d.1.1 d.1.2.2.2.2.2.1 d.1.2.2.2.2.2.2.1 d.1.2.2.2.2.2.2.2.1
noncomputable abbrev pk_iPairsOk_0 (x0 : List (ByteArray × ByteArray)) (x5 : List (ByteArray × ByteArray)) (x6 : Int) (x7 : Int) : S_iPairsOk_0.den := ((x0, (), (), (), (), x5, x6, x7, (), (), (), (), (), (), (), (), (), (), (), (), (), (), (), (), (), (), (), (), (), (), (), (), (), (), ()), ())
noncomputable def body_iPairsOk_0 : Code := ((loopsIn 0 (bodyOf Try.f65)).getD 0 (0, .skip)).2
theorem R_iPairsOk_0 (x0 : List (ByteArray × ByteArray)) (x5 : List (ByteArray × ByteArray)) (x6 : Int) (x7 : Int) : (T_iPairsOk_0 x0 x5 x6 x7).val (D := S_iPairsOk_0.den) = .fail ∨ Runs sp_iPairsOk_0 (pk_iPairsOk_0 x0 x5 x6 x7) (T_iPairsOk_0 x0 x5 x6 x7).val := Runs.ofIt (step := sp_iPairsOk_0) (fun v : V_iPairsOk_0 => pk_iPairsOk_0 v.1 v.2.1 v.2.2.1 v.2.2.2) (ct := ct_iPairsOk_0) rfl (fun v => ((relB (relB (relB (relB rfl (relB (relB (relB rfl rfl) rfl) rfl)) rfl) rfl) rfl) : (st_iPairsOk_0 v.1 v.2.1 v.2.2.1 v.2.2.2).val = relS (fun v : V_iPairsOk_0 => pk_iPairsOk_0 v.1 v.2.1 v.2.2.1 v.2.2.2) ct_iPairsOk_0 (ss_iPairsOk_0 v.1 v.2.1 v.2.2.1 v.2.2.2))) (fun a => ((cendB (cendD (by simp)) (cendB (cendD (by simp)) cendF)) : CEnd _ (ct_iPairsOk_0 a))) (x0, x5, x6, x7)
theorem rd_iPairsOk_0 : ∀ d, execC Try.prog tt S34 QF34 (fun _ _ => none) 0 body_iPairsOk_0 (S_iPairsOk_0.st d 0 []) (fun e s' => some (e, S_iPairsOk_0.cutE (kepts [2] [(0, [0])]) e s')) = (sp_iPairsOk_0 d).opt 0 [] := by
  intro d
  kernel_rfl
noncomputable abbrev say_iPairsOk_0 : St → Option Tree := S_iPairsOk_0.say 0 [] [] (fun d => T_iPairsOk_0 d.1.1 d.1.2.2.2.2.2.1 d.1.2.2.2.2.2.2.1 d.1.2.2.2.2.2.2.2.1)
theorem lw_iPairsOk_0 : LoopWp Try.prog say_iPairsOk_0 body_iPairsOk_0 := SS.wp G34 (fun _ _ => none) (by rw [show loopsIn 0 body_iPairsOk_0 = [] by kernel_rfl]; simp) S_iPairsOk_0 0 [] (kepts [2] [(0, [0])]) [] sp_iPairsOk_0 rd_iPairsOk_0 _ (fun d => R_iPairsOk_0 d.1.1 d.1.2.2.2.2.2.1 d.1.2.2.2.2.2.2.1 d.1.2.2.2.2.2.2.2.1)
noncomputable def iPairsOk (a0 : List (ByteArray × ByteArray)) : Bool := (cond ((it_iPairsOk_0 a0 a0 ((a0.length : Nat) : Int) (0 : Int)).1 == 0) ((it_iPairsOk_0 a0 a0 ((a0.length : Nat) : Int) (0 : Int)).2.1) (decide (((((it_iPairsOk_0 a0 a0 ((a0.length : Nat) : Int) (0 : Int)).2.2).length : Nat) : Int) ≤ (60 : Int))))
noncomputable abbrev e_iPairsOk (r : Bool) : AV × List AObj := ((.t true .bool r), [])
noncomputable abbrev g_iPairsOk : pshsDen P_iPairsOk → AV × List AObj := fun d => e_iPairsOk (iPairsOk d.1)
noncomputable def q_iPairsOk (a0 : List (ByteArray × ByteArray)) : Bool := cond ((it_iPairsOk_0 a0 a0 ((a0.length : Nat) : Int) (0 : Int)).1 == 0) true ((it_iPairsOk_0 a0 a0 ((a0.length : Nat) : Int) (0 : Int)).1 == 1)
noncomputable abbrev pre_iPairsOk : pshsDen P_iPairsOk → Bool := fun d => q_iPairsOk d.1
theorem runA_iPairsOk (a0 : List (ByteArray × ByteArray)) (hp : (cond ((it_iPairsOk_0 a0 a0 ((a0.length : Nat) : Int) (0 : Int)).1 == 0) true ((it_iPairsOk_0 a0 a0 ((a0.length : Nat) : Int) (0 : Int)).1 == 1)) = true) : runP true Try.prog tt S34 QF34 (fun b => match b with | 0 => say_iPairsOk_0 | _ => fun _ => none) Try.f65 (argsMk P_iPairsOk (a0, ())) = some (g_iPairsOk (a0, ())) := by
  refine Eq.trans (b := (cond ((it_iPairsOk_0 a0 a0 ((a0.length : Nat) : Int) (0 : Int)).1 == 0) (some (e_iPairsOk ((it_iPairsOk_0 a0 a0 ((a0.length : Nat) : Int) (0 : Int)).2.1))) (cond ((it_iPairsOk_0 a0 a0 ((a0.length : Nat) : Int) (0 : Int)).1 == 1) (some (e_iPairsOk (decide (((((it_iPairsOk_0 a0 a0 ((a0.length : Nat) : Int) (0 : Int)).2.2).length : Nat) : Int) ≤ (60 : Int))))) none))) (by kernel_rfl) ?_
  exact (cndQ (F := fun r => some (e_iPairsOk r)) hp (fun hp => rfl) (fun hp => (cndT hp (fun _h => rfl))))
theorem run_iPairsOk : ∀ d, pre_iPairsOk d = true → runP true Try.prog tt S34 QF34 (fun b => match b with | 0 => say_iPairsOk_0 | _ => fun _ => none) Try.f65 (argsMk P_iPairsOk d) = some (g_iPairsOk d) := fun d hp => runA_iPairsOk d.1 hp
theorem c_iPairsOk : PContract Try.prog 65 (sumOf P_iPairsOk pre_iPairsOk g_iPairsOk) := PContract.of_data true G34 (fn := Try.f65) (by kernel_rfl) (L := fun b => match b with | 0 => say_iPairsOk_0 | _ => fun _ => none) (by rw [show loopsIn 0 (bodyOf Try.f65) = [(0, body_iPairsOk_0)] by kernel_rfl]; intro p hp; simp only [List.mem_singleton] at hp; subst hp; exact lw_iPairsOk_0) P_iPairsOk pre_iPairsOk g_iPairsOk run_iPairsOk
noncomputable def S35 : Tab := Tab.add S34 65 (lift (sumOf P_iPairsOk pre_iPairsOk g_iPairsOk))
noncomputable def QF35 : FuncId → Bool := qadd QF34 65
theorem G35 : Good Try.prog tt S35 QF35 := G34.addQ c_iPairsOk ⟨Try.f65, by kernel_rfl, by kernel_rfl, by kernel_rfl⟩ (fun _ => rfl)

/-! 10 loop.example/g00244/laws.FnApplied -/
noncomputable abbrev P_lFnApplied : List PSh := [.t (.sl (.int .u8))]
noncomputable abbrev S_lFnApplied_0 : SS := ⟨[.junk, .junk, .junk, .t true (.sl (.pair .str .str)), .t true (.sl (.pair (.int .i64) (.pair .str .str))), .all 0 2, .t true (.int .i64), .junk, .junk, .junk, .junk, .junk, .junk, .junk, .junk, .junk, .junk, .junk, .junk, .junk, .junk, .junk, .junk, .junk, .junk, .junk, .junk, .junk, .junk, .junk, .junk, .junk, .junk, .junk, .junk, .junk, .junk, .junk, .junk, .junk, .junk, .junk, .junk, .junk, .junk, .junk, .junk, .junk, .junk, .junk, .junk, .junk, .junk, .junk, .junk, .junk, .junk, .junk, .junk, .junk, .junk, .junk, .junk, .junk, .junk, .junk, .junk, .junk, .junk, .junk, .junk, .junk, .junk, .junk, .junk, .junk, .junk, .junk, .junk, .junk, .junk, .junk, .junk, .junk, .junk, .junk, .junk, .junk, .junk, .junk, .junk, .junk, .junk, .junk, .junk, .junk, .junk, .junk, .junk, .junk, .junk, .junk, .junk, .junk, .junk, .junk, .junk, .junk, .junk, .junk, .junk], [.rows 118 true (.pair .str .str)]⟩
noncomputable abbrev E_lFnApplied_0_0 : SS := ⟨[.junk, .junk, .t true .bool, .junk, .junk, .junk, .junk, .junk, .junk, .junk, .junk, .junk, .junk, .junk, .junk, .junk, .junk, .junk, .junk, .junk, .junk, .junk, .junk, .junk, .junk, .junk, .junk, .junk, .junk, .junk, .junk, .junk, .junk, .junk, .junk, .junk, .junk, .junk, .junk, .junk, .junk, .junk, .junk, .junk, .junk, .junk, .junk, .junk, .junk, .junk, .junk, .junk, .junk, .junk, .junk, .junk, .junk, .junk, .junk, .junk, .junk, .junk, .junk, .junk, .junk, .junk, .junk, .junk, .junk, .junk, .junk, .junk, .junk, .junk, .junk, .junk, .junk, .junk, .junk, .junk, .junk, .junk, .junk, .junk, .junk, .junk, .junk, .junk, .junk, .junk, .junk, .junk, .junk, .junk, .junk, .junk, .junk, .junk, .junk, .junk, .junk, .junk, .junk, .junk, .junk, .junk, .junk, .junk, .junk, .junk, .junk], []⟩
noncomputable abbrev E_lFnApplied_0_1 : SS := ⟨[.junk, .junk, .junk, .t true (.sl (.pair .str .str)), .t true (.sl (.pair (.int .i64) (.pair .str .str))), .all 0 2, .junk, .junk, .junk, .junk, .junk, .junk, .junk, .junk, .junk, .junk, .junk, .junk, .junk, .junk, .junk, .junk, .junk, .junk, .junk, .junk, .junk, .junk, .junk, .junk, .junk, .junk, .junk, .junk, .junk, .junk, .junk, .junk, .junk, .junk, .junk, .junk, .junk, .junk, .junk, .junk, .junk, .junk, .junk, .junk, .junk, .junk, .junk, .junk, .junk, .junk, .junk, .junk, .junk, .junk, .junk, .junk, .junk, .junk, .junk, .junk, .junk, .junk, .junk, .junk, .junk, .junk, .junk, .junk, .junk, .junk, .junk, .junk, .junk, .junk, .junk, .junk, .junk, .junk, .junk, .junk, .junk, .junk, .junk, .junk, .junk, .junk, .junk, .junk, .junk, .junk, .junk, .junk, .junk, .junk, .junk, .junk, .junk, .junk, .junk, .junk, .junk, .junk, .junk, .junk, .junk], [.rows 118 true (.pair .str .str)]⟩
noncomputable def k1_lFnApplied (x4 : List (Int × ByteArray × ByteArray)) (x6 : Int) (h0 : List (ByteArray × ByteArray)) := iGetKey h0 (((x4.getD x6.toNat ((0 : Int), ((⟨#[]⟩ : ByteArray), (⟨#[]⟩ : ByteArray)))).2).1)
noncomputable def k2_lFnApplied (x3 : List (ByteArray × ByteArray)) (x4 : List (Int × ByteArray × ByteArray)) (x6 : Int) := iGetKey x3 (((x4.getD x6.toNat ((0 : Int), ((⟨#[]⟩ : ByteArray), (⟨#[]⟩ : ByteArray)))).2).1)
noncomputable def st_lFnApplied_0 (x3 : List (ByteArray × ByteArray)) (x4 : List (Int × ByteArray × ByteArray)) (x6 : Int) (h0 : List (ByteArray × ByteArray)) : RT S_lFnApplied_0.den := (.br (decide (x6 < ((x4.length : Nat) : Int))) (.br (decide (0 ≤ x6 ∧ x6 < ((x4.length : Nat) : Int))) (.br (q_iGetKey h0 (((x4.getD x6.toNat ((0 : Int), ((⟨#[]⟩ : ByteArray), (⟨#[]⟩ : ByteArray)))).2).1)) (.br (decide (0 ≤ x6 ∧ x6 < ((x4.length : Nat) : Int))) (.br (q_iGetKey x3 (((x4.getD x6.toNat ((0 : Int), ((⟨#[]⟩ : ByteArray), (⟨#[]⟩ : ByteArray)))).2).1)) (.br (decide (0 ≤ x6 ∧ x6 < ((x4.length : Nat) : Int))) (.br (((x4.getD x6.toNat ((0 : Int), ((⟨#[]⟩ : ByteArray), (⟨#[]⟩ : ByteArray)))).1) == (1 : Int)) (.br (!((k1_lFnApplied x4 x6 h0).2)) (.done .ret E_lFnApplied_0_0 (((), (), false, (), (), (), (), (), (), (), (), (), (), (), (), (), (), (), (), (), (), (), (), (), (), (), (), (), (), (), (), (), (), (), (), (), (), (), (), (), (), (), (), (), (), (), (), (), (), (), (), (), (), (), (), (), (), (), (), (), (), (), (), (), (), (), (), (), (), (), (), (), (), (), (), (), (), (), (), (), (), (), (), (), (), (), (), (), (), (), (), (), (), (), (), (), (), (), (), (), (), (), (), (), (), (), (), (), (), (), (), ()), ())) (.br (decide (0 ≤ x6 ∧ x6 < ((x4.length : Nat) : Int))) (.br (!(((k1_lFnApplied x4 x6 h0).1).toList == (((x4.getD x6.toNat ((0 : Int), ((⟨#[]⟩ : ByteArray), (⟨#[]⟩ : ByteArray)))).2).2).toList)) (.done .ret E_lFnApplied_0_0 (((), (), false, (), (), (), (), (), (), (), (), (), (), (), (), (), (), (), (), (), (), (), (), (), (), (), (), (), (), (), (), (), (), (), (), (), (), (), (), (), (), (), (), (), (), (), (), (), (), (), (), (), (), (), (), (), (), (), (), (), (), (), (), (), (), (), (), (), (), (), (), (), (), (), (), (), (), (), (), (), (), (), (), (), (), (), (), (), (), (), (), (), (), (), (), (), (), (), (), (), (), (), (), (), (), (), (), (), (), (), (), ()), ())) (.br (decide (0 ≤ x6 ∧ x6 < ((x4.length : Nat) : Int))) (.br (((x4.getD x6.toNat ((0 : Int), ((⟨#[]⟩ : ByteArray), (⟨#[]⟩ : ByteArray)))).1) == (2 : Int)) (.br ((k1_lFnApplied x4 x6 h0).2) (.done .ret E_lFnApplied_0_0 (((), (), false, (), (), (), (), (), (), (), (), (), (), (), (), (), (), (), (), (), (), (), (), (), (), (), (), (), (), (), (), (), (), (), (), (), (), (), (), (), (), (), (), (), (), (), (), (), (), (), (), (), (), (), (), (), (), (), (), (), (), (), (), (), (), (), (), (), (), (), (), (), (), (), (), (), (), (), (), (), (), (), (), (), (), (), (), (), (), (), (), (), (), (), (), (), (), (), (), (), (), (), (), (), (), (), (), (), (), (), (), ()), ())) (.br (decide (0 ≤ x6 ∧ x6 < ((x4.length : Nat) : Int))) (.br (((x4.getD x6.toNat ((0 : Int), ((⟨#[]⟩ : ByteArray), (⟨#[]⟩ : ByteArray)))).1) == (3 : Int)) (.br (!(((k1_lFnApplied x4 x6 h0).2) == ((k2_lFnApplied x3 x4 x6).2))) (.done .ret E_lFnApplied_0_0 (((), (), false, (), (), (), (), (), (), (), (), (), (), (), (), (), (), (), (), (), (), (), (), (), (), (), (), (), (), (), (), (), (), (), (), (), (), (), (), (), (), (), (), (), (), (), (), (), (), (), (), (), (), (), (), (), (), (), (), (), (), (), (), (), (), (), (), (), (), (), (), (), (), (), (), (), (), (), (), (), (), (), (), (), (), (), (), (), (), (), (), (), (), (), (), (), (), (), (), (), (), (), (), (), (), (), (), (), (), (), (), ()), ())) (.br (!(((k2_lFnApplied x3 x4 x6).1).toList == ((k1_lFnApplied x4 x6 h0).1).toList)) (.done .ret E_lFnApplied_0_0 (((), (), false, (), (), (), (), (), (), (), (), (), (), (), (), (), (), (), (), (), (), (), (), (), (), (), (), (), (), (), (), (), (), (), (), (), (), (), (), (), (), (), (), (), (), (), (), (), (), (), (), (), (), (), (), (), (), (), (), (), (), (), (), (), (), (), (), (), (), (), (), (), (), (), (), (), (), (), (), (), (), (), (), (), (), (), (), (), (), (), (), (), (), (), (), (), (), (), (), (), (), (), (), (), (), (), (), (), (), (), (), ()), ())) (.next (((), (), (), x3, x4, (), IntKind.wrap .i64 (x6 + (1 : Int)), (), (), (), (), (), (), (), (), (), (), (), (), (), (), (), (), (), (), (), (), (), (), (), (), (), (), (), (), (), (), (), (), (), (), (), (), (), (), (), (), (), (), (), (), (), (), (), (), (), (), (), (), (), (), (), (), (), (), (), (), (), (), (), (), (), (), (), (), (), (), (), (), (), (), (), (), (), (), (), (), (), (), (), (), (), (), (), (), (), (), (), (), (), (), (), (), (), (), (), (), (), (), (), (), ()), (h0, ()))))) (.next (((), (), (), x3, x4, (), IntKind.wrap .i64 (x6 + (1 : Int)), (), (), (), (), (), (), (), (), (), (), (), (), (), (), (), (), (), (), (), (), (), (), (), (), (), (), (), (), (), (), (), (), (), (), (), (), (), (), (), (), (), (), (), (), (), (), (), (), (), (), (), (), (), (), (), (), (), (), (), (), (), (), (), (), (), (), (), (), (), (), (), (), (), (), (), (), (), (), (), (), (), (), (), (), (), (), (), (), (), (), (), (), (), (), (), (), (), (), (), (), (), (), (), (), ()), (h0, ())))) .fail)) (.br (decide (0 ≤ x6 ∧ x6 < ((x4.length : Nat) : Int))) (.br (((x4.getD x6.toNat ((0 : Int), ((⟨#[]⟩ : ByteArray), (⟨#[]⟩ : ByteArray)))).1) == (3 : Int)) (.br (!(((k1_lFnApplied x4 x6 h0).2) == ((k2_lFnApplied x3 x4 x6).2))) (.done .ret E_lFnApplied_0_0 (((), (), false, (), (), (), (), (), (), (), (), (), (), (), (), (), (), (), (), (), (), (), (), (), (), (), (), (), (), (), (), (), (), (), (), (), (), (), (), (), (), (), (), (), (), (), (), (), (), (), (), (), (), (), (), (), (), (), (), (), (), (), (), (), (), (), (), (), (), (), (), (), (), (), (), (), (), (), (), (), (), (), (), (), (), (), (), (), (), (), (), (), (), (), (), (), (), (), (), (), (), (), (), (), (), (), (), (), (), (), (), ()), ())) (.br (!(((k2_lFnApplied x3 x4 x6).1).toList == ((k1_lFnApplied x4 x6 h0).1).toList)) (.done .ret E_lFnApplied_0_0 (((), (), false, (), (), (), (), (), (), (), (), (), (), (), (), (), (), (), (), (), (), (), (), (), (), (), (), (), (), (), (), (), (), (), (), (), (), (), (), (), (), (), (), (), (), (), (), (), (), (), (), (), (), (), (), (), (), (), (), (), (), (), (), (), (), (), (), (), (), (), (), (), (), (), (), (), (), (), (), (), (), (), (), (), (), (), (), (), (), (), (), (), (), (), (), (), (), (), (), (), (), (), (), (), (), (), (), (), (), (), (), ()), ())) (.next (((), (), (), x3, x4, (), IntKind.wrap .i64 (x6 + (1 : Int)), (), (), (), (), (), (), (), (), (), (), (), (), (), (), (), (), (), (), (), (), (), (), (), (), (), (), (), (), (), (), (), (), (), (), (), (), (), (), (), (), (), (), (), (), (), (), (), (), (), (), (), (), (), (), (), (), (), (), (), (), (), (), (), (), (), (), (), (), (), (), (), (), (), (), (), (), (), (), (), (), (), (), (), (), (), (), (), (), (), (), (), (), (), (), (), (), (), (), (), (), (), (), (), (), ()), (h0, ()))))) (.next (((), (), (), x3, x4, (), IntKind.wrap .i64 (x6 + (1 : Int)), (), (), (), (), (), (), (), (), (), (), (), (), (), (), (), (), (), (), (), (), (), (), (), (), (), (), (), (), (), (), (), (), (), (), (), (), (), (), (), (), (), (), (), (), (), (), (), (), (), (), (), (), (), (), (), (), (), (), (), (), (), (), (), (), (), (), (), (), (), (), (), (), (), (), (), (), (), (), (), (), (), (), (), (), (), (), (), (), (), (), (), (), (), (), (), (), (), (), (), (), (), (), (), (), ()), (h0, ())))) .fail)) .fail)) .fail)) (.br (decide (0 ≤ x6 ∧ x6 < ((x4.length : Nat) : Int))) (.br (((x4.getD x6.toNat ((0 : Int), ((⟨#[]⟩ : ByteArray), (⟨#[]⟩ : ByteArray)))).1) == (2 : Int)) (.br ((k1_lFnApplied x4 x6 h0).2) (.done .ret E_lFnApplied_0_0 (((), (), false, (), (), (), (), (), (), (), (), (), (), (), (), (), (), (), (), (), (), (), (), (), (), (), (), (), (), (), (), (), (), (), (), (), (), (), (), (), (), (), (), (), (), (), (), (), (), (), (), (), (), (), (), (), (), (), (), (), (), (), (), (), (), (), (), (), (), (), (), (), (), (), (), (), (), (), (), (), (), (), (), (), (), (), (), (), (), (), (), (), (), (), (), (), (), (), (), (), (), (), (), (), (), (), (), (), (), (), (), ()), ())) (.br (decide (0 ≤ x6 ∧ x6 < ((x4.length : Nat) : Int))) (.br (((x4.getD x6.toNat ((0 : Int), ((⟨#[]⟩ : ByteArray), (⟨#[]⟩ : ByteArray)))).1) == (3 : Int)) (.br (!(((k1_lFnApplied x4 x6 h0).2) == ((k2_lFnApplied x3 x4 x6).2))) (.done .ret E_lFnApplied_0_0 (((), (), false, (), (), (), (), (), (), (), (), (), (), (), (), (), (), (), (), (), (), (), (), (), (), (), (), (), (), (), (), (), (), (), (), (), (), (), (), (), (), (), (), (), (), (), (), (), (), (), (), (), (), (), (), (), (), (), (), (), (), (), (), (), (), (), (), (), (), (), (), (), (), (), (), (), (), (), (), (), (), (), (), (), (), (), (), (), (), (), (), (), (), (), (), (), (), (), (), (), (), (), (), (), (), (), (), (), (), (), (), ()), ())) (.br (!(((k2_lFnApplied x3 x4 x6).1).toList == ((k1_lFnApplied x4 x6 h0).1).toList)) (.done .ret E_lFnApplied_0_0 (((), (), false, (), (), (), (), (), (), (), (), (), (), (), (), (), (), (), (), (), (), (), (), (), (), (), (), (), (), (), (), (), (), (), (), (), (), (), (), (), (), (), (), (), (), (), (), (), (), (), (), (), (), (), (), (), (), (), (), (), (), (), (), (), (), (), (), (), (), (), (), (), (), (), (), (), (), (), (), (), (), (), (), (), (), (), (), (), (), (), (), (), (), (), (), (), (), (), (), (), (), (), (), (), (), (), (), (), (), (), (), ()), ())) (.next (((), (), (), x3, x4, (), IntKind.wrap .i64 (x6 + (1 : Int)), (), (), (), (), (), (), (), (), (), (), (), (), (), (), (), (), (), (), (), (), (), (), (), (), (), (), (), (), (), (), (), (), (), (), (), (), (), (), (), (), (), (), (), (), (), (), (), (), (), (), (), (), (), (), (), (), (), (), (), (), (), (), (), (), (), (), (), (), (), (), (), (), (), (), (), (), (), (), (), (), (), (), (), (), (), (), (), (), (), (), (), (), (), (), (), (), (), (), (), (), (), (), (), (), ()), (h0, ()))))) (.next (((), (), (), x3, x4, (), IntKind.wrap .i64 (x6 + (1 : Int)), (), (), (), (), (), (), (), (), (), (), (), (), (), (), (), (), (), (), (), (), (), (), (), (), (), (), (), (), (), (), (), (), (), (), (), (), (), (), (), (), (), (), (), (), (), (), (), (), (), (), (), (), (), (), (), (), (), (), (), (), (), (), (), (), (), (), (), (), (), (), (), (), (), (), (), (), (), (), (), (), (), (), (), (), (), (), (), (), (), (), (), (), (), (), (), (), (), (), (), (), (), (), (), (), ()), (h0, ())))) .fail)) (.br (decide (0 ≤ x6 ∧ x6 < ((x4.length : Nat) : Int))) (.br (((x4.getD x6.toNat ((0 : Int), ((⟨#[]⟩ : ByteArray), (⟨#[]⟩ : ByteArray)))).1) == (3 : Int)) (.br (!(((k1_lFnApplied x4 x6 h0).2) == ((k2_lFnApplied x3 x4 x6).2))) (.done .ret E_lFnApplied_0_0 (((), (), false, (), (), (), (), (), (), (), (), (), (), (), (), (), (), (), (), (), (), (), (), (), (), (), (), (), (), (), (), (), (), (), (), (), (), (), (), (), (), (), (), (), (), (), (), (), (), (), (), (), (), (), (), (), (), (), (), (), (), (), (), (), (), (), (), (), (), (), (), (), (), (), (), (), (), (), (), (), (), (), (), (), (), (), (), (), (), (), (), (), (), (), (), (), (), (), (), (), (), (), (), (), (), (), (), (), (), (), (), ()), ())) (.br (!(((k2_lFnApplied x3 x4 x6).1).toList == ((k1_lFnApplied x4 x6 h0).1).toList)) (.done .ret E_lFnApplied_0_0 (((), (), false, (), (), (), (), (), (), (), (), (), (), (), (), (), (), (), (), (), (), (), (), (), (), (), (), (), (), (), (), (), (), (), (), (), (), (), (), (), (), (), (), (), (), (), (), (), (), (), (), (), (), (), (), (), (), (), (), (), (), (), (), (), (), (), (), (), (), (), (), (), (), (), (), (), (), (), (), (), (), (), (), (), (), (), (), (), (), (), (), (), (), (), (), (), (), (), (), (), (), (), (), (), (), (), (), (), (), (), (), ()), ())) (.next (((), (), (), x3, x4, (), IntKind.wrap .i64 (x6 + (1 : Int)), (), (), (), (), (), (), (), (), (), (), (), (), (), (), (), (), (), (), (), (), (), (), (), (), (), (), (), (), (), (), (), (), (), (), (), (), (), (), (), (), (), (), (), (), (), (), (), (), (), (), (), (), (), (), (), (), (), (), (), (), (), (), (), (), (), (), (), (), (), (), (), (), (), (), (), (), (), (), (), (), (), (), (), (), (), (), (), (), (), (), (), (), (), (), (), (), (), (), (), (), (), (), (), (), ()), (h0, ()))))) (.next (((), (), (), x3, x4, (), IntKind.wrap .i64 (x6 + (1 : Int)), (), (), (), (), (), (), (), (), (), (), (), (), (), (), (), (), (), (), (), (), (), (), (), (), (), (), (), (), (), (), (), (), (), (), (), (), (), (), (), (), (), (), (), (), (), (), (), (), (), (), (), (), (), (), (), (), (), (), (), (), (), (), (), (), (), (), (), (), (), (), (), (), (), (), (), (), (), (), (), (), (), (), (), (), (), (), (), (), (), (), (), (), (), (), (), (), (), (), (), (), (), (), (), (), ()), (h0, ())))) .fail)) .fail)) .fail) .fail) .fail) .fail) .fail) (.done (.exit 0) E_lFnApplied_0_1 (((), (), (), x3, x4, (), (), (), (), (), (), (), (), (), (), (), (), (), (), (), (), (), (), (), (), (), (), (), (), (), (), (), (), (), (), (), (), (), (), (), (), (), (), (), (), (), (), (), (), (), (), (), (), (), (), (), (), (), (), (), (), (), (), (), (), (), (), (), (), (), (), (), (), (), (), (), (), (), (), (), (), (), (), (), (), (), (), (), (), (), (), (), (), (), (), (), (), (), (), (), (), (), (), (), (), (), (), (), (), (), (), ()), (h0, ()))))
noncomputable abbrev V_lFnApplied_0 := (List (ByteArray × ByteArray)) × (List (Int × ByteArray × ByteArray)) × (Int) × (List (ByteArray × ByteArray))
noncomputable abbrev A_lFnApplied_0 := Nat × (Bool) × (List (ByteArray × ByteArray)) × (List (Int × ByteArray × ByteArray)) × (List (ByteArray × ByteArray))
noncomputable def fl_lFnApplied_0 : A_lFnApplied_0 := (99, (false : Bool), ([] : List (ByteArray × ByteArray)), ([] : List (Int × ByteArray × ByteArray)), ([] : List (ByteArray × ByteArray)))
noncomputable def ss_lFnApplied_0 (x3 : List (ByteArray × ByteArray)) (x4 : List (Int × ByteArray × ByteArray)) (x6 : Int) (h0 : List (ByteArray × ByteArray)) : V_lFnApplied_0 ⊕ A_lFnApplied_0 := (cond (decide (x6 < ((x4.length : Nat) : Int))) (cond (decide (0 ≤ x6 ∧ x6 < ((x4.length : Nat) : Int))) (cond (q_iGetKey h0 (((x4.getD x6.toNat ((0 : Int), ((⟨#[]⟩ : ByteArray), (⟨#[]⟩ : ByteArray)))).2).1)) (cond (decide (0 ≤ x6 ∧ x6 < ((x4.length : Nat) : Int))) (cond (q_iGetKey x3 (((x4.getD x6.toNat ((0 : Int), ((⟨#[]⟩ : ByteArray), (⟨#[]⟩ : ByteArray)))).2).1)) (cond (decide (0 ≤ x6 ∧ x6 < ((x4.length : Nat) : Int))) (cond (((x4.getD x6.toNat ((0 : Int), ((⟨#[]⟩ : ByteArray), (⟨#[]⟩ : ByteArray)))).1) == (1 : Int)) (cond (!((k1_lFnApplied x4 x6 h0).2)) (.inr (0, false, ([] : List (ByteArray × ByteArray)), ([] : List (Int × ByteArray × ByteArray)), ([] : List (ByteArray × ByteArray)))) (cond (decide (0 ≤ x6 ∧ x6 < ((x4.length : Nat) : Int))) (cond (!(((k1_lFnApplied x4 x6 h0).1).toList == (((x4.getD x6.toNat ((0 : Int), ((⟨#[]⟩ : ByteArray), (⟨#[]⟩ : ByteArray)))).2).2).toList)) (.inr (0, false, ([] : List (ByteArray × ByteArray)), ([] : List (Int × ByteArray × ByteArray)), ([] : List (ByteArray × ByteArray)))) (cond (decide (0 ≤ x6 ∧ x6 < ((x4.length : Nat) : Int))) (cond (((x4.getD x6.toNat ((0 : Int), ((⟨#[]⟩ : ByteArray), (⟨#[]⟩ : ByteArray)))).1) == (2 : Int)) (cond ((k1_lFnApplied x4 x6 h0).2) (.inr (0, false, ([] : List (ByteArray × ByteArray)), ([] : List (Int × ByteArray × ByteArray)), ([] : List (ByteArray × ByteArray)))) (cond (decide (0 ≤ x6 ∧ x6 < ((x4.length : Nat) : Int))) (cond (((x4.getD x6.toNat ((0 : Int), ((⟨#[]⟩ : ByteArray), (⟨#[]⟩ : ByteArray)))).1) == (3 : Int)) (cond (!(((k1_lFnApplied x4 x6 h0).2) == ((k2_lFnApplied x3 x4 x6).2))) (.inr (0, false, ([] : List (ByteArray × ByteArray)), ([] : List (Int × ByteArray × ByteArray)), ([] : List (ByteArray × ByteArray)))) (cond (!(((k2_lFnApplied x3 x4 x6).1).toList == ((k1_lFnApplied x4 x6 h0).1).toList)) (.inr (0, false, ([] : List (ByteArray × ByteArray)), ([] : List (Int × ByteArray × ByteArray)), ([] : List (ByteArray × ByteArray)))) (.inl (x3, x4, IntKind.wrap .i64 (x6 + (1 : Int)), h0)))) (.inl (x3, x4, IntKind.wrap .i64 (x6 + (1 : Int)), h0))) (.inr fl_lFnApplied_0))) (cond (decide (0 ≤ x6 ∧ x6 < ((x4.length : Nat) : Int))) (cond (((x4.getD x6.toNat ((0 : Int), ((⟨#[]⟩ : ByteArray), (⟨#[]⟩ : ByteArray)))).1) == (3 : Int)) (cond (!(((k1_lFnApplied x4 x6 h0).2) == ((k2_lFnApplied x3 x4 x6).2))) (.inr (0, false, ([] : List (ByteArray × ByteArray)), ([] : List (Int × ByteArray × ByteArray)), ([] : List (ByteArray × ByteArray)))) (cond (!(((k2_lFnApplied x3 x4 x6).1).toList == ((k1_lFnApplied x4 x6 h0).1).toList)) (.inr (0, false, ([] : List (ByteArray × ByteArray)), ([] : List (Int × ByteArray × ByteArray)), ([] : List (ByteArray × ByteArray)))) (.inl (x3, x4, IntKind.wrap .i64 (x6 + (1 : Int)), h0)))) (.inl (x3, x4, IntKind.wrap .i64 (x6 + (1 : Int)), h0))) (.inr fl_lFnApplied_0))) (.inr fl_lFnApplied_0))) (.inr fl_lFnApplied_0))) (cond (decide (0 ≤ x6 ∧ x6 < ((x4.length : Nat) : Int))) (cond (((x4.getD x6.toNat ((0 : Int), ((⟨#[]⟩ : ByteArray), (⟨#[]⟩ : ByteArray)))).1) == (2 : Int)) (cond ((k1_lFnApplied x4 x6 h0).2) (.inr (0, false, ([] : List (ByteArray × ByteArray)), ([] : List (Int × ByteArray × ByteArray)), ([] : List (ByteArray × ByteArray)))) (cond (decide (0 ≤ x6 ∧ x6 < ((x4.length : Nat) : Int))) (cond (((x4.getD x6.toNat ((0 : Int), ((⟨#[]⟩ : ByteArray), (⟨#[]⟩ : ByteArray)))).1) == (3 : Int)) (cond (!(((k1_lFnApplied x4 x6 h0).2) == ((k2_lFnApplied x3 x4 x6).2))) (.inr (0, false, ([] : List (ByteArray × ByteArray)), ([] : List (Int × ByteArray × ByteArray)), ([] : List (ByteArray × ByteArray)))) (cond (!(((k2_lFnApplied x3 x4 x6).1).toList == ((k1_lFnApplied x4 x6 h0).1).toList)) (.inr (0, false, ([] : List (ByteArray × ByteArray)), ([] : List (Int × ByteArray × ByteArray)), ([] : List (ByteArray × ByteArray)))) (.inl (x3, x4, IntKind.wrap .i64 (x6 + (1 : Int)), h0)))) (.inl (x3, x4, IntKind.wrap .i64 (x6 + (1 : Int)), h0))) (.inr fl_lFnApplied_0))) (cond (decide (0 ≤ x6 ∧ x6 < ((x4.length : Nat) : Int))) (cond (((x4.getD x6.toNat ((0 : Int), ((⟨#[]⟩ : ByteArray), (⟨#[]⟩ : ByteArray)))).1) == (3 : Int)) (cond (!(((k1_lFnApplied x4 x6 h0).2) == ((k2_lFnApplied x3 x4 x6).2))) (.inr (0, false, ([] : List (ByteArray × ByteArray)), ([] : List (Int × ByteArray × ByteArray)), ([] : List (ByteArray × ByteArray)))) (cond (!(((k2_lFnApplied x3 x4 x6).1).toList == ((k1_lFnApplied x4 x6 h0).1).toList)) (.inr (0, false, ([] : List (ByteArray × ByteArray)), ([] : List (Int × ByteArray × ByteArray)), ([] : List (ByteArray × ByteArray)))) (.inl (x3, x4, IntKind.wrap .i64 (x6 + (1 : Int)), h0)))) (.inl (x3, x4, IntKind.wrap .i64 (x6 + (1 : Int)), h0))) (.inr fl_lFnApplied_0))) (.inr fl_lFnApplied_0))) (.inr fl_lFnApplied_0)) (.inr fl_lFnApplied_0)) (.inr fl_lFnApplied_0)) (.inr fl_lFnApplied_0)) (.inr fl_lFnApplied_0)) (.inr (1, (false : Bool), x3, x4, h0)))
noncomputable def it_lFnApplied_0 (x3 : List (ByteArray × ByteArray)) (x4 : List (Int × ByteArray × ByteArray)) (x6 : Int) (h0 : List (ByteArray × ByteArray)) : A_lFnApplied_0 := itX (fun v : V_lFnApplied_0 => ss_lFnApplied_0 v.1 v.2.1 v.2.2.1 v.2.2.2) fl_lFnApplied_0 (x3, x4, x6, h0)
noncomputable def ct_lFnApplied_0 (a : A_lFnApplied_0) : CT := (.br (a.1 == 0) (.done .ret E_lFnApplied_0_0 (((), (), a.2.1, (), (), (), (), (), (), (), (), (), (), (), (), (), (), (), (), (), (), (), (), (), (), (), (), (), (), (), (), (), (), (), (), (), (), (), (), (), (), (), (), (), (), (), (), (), (), (), (), (), (), (), (), (), (), (), (), (), (), (), (), (), (), (), (), (), (), (), (), (), (), (), (), (), (), (), (), (), (), (), (), (), (), (), (), (), (), (), (), (), (), (), (), (), (), (), (), (), (), (), (), (), (), (), (), (), (), (), (), ()), ())) (.br (a.1 == 1) (.done (.exit 0) E_lFnApplied_0_1 (((), (), (), a.2.2.1, a.2.2.2.1, (), (), (), (), (), (), (), (), (), (), (), (), (), (), (), (), (), (), (), (), (), (), (), (), (), (), (), (), (), (), (), (), (), (), (), (), (), (), (), (), (), (), (), (), (), (), (), (), (), (), (), (), (), (), (), (), (), (), (), (), (), (), (), (), (), (), (), (), (), (), (), (), (), (), (), (), (), (), (), (), (), (), (), (), (), (), (), (), (), (), (), (), (), (), (), (), (), (), (), (), (), (), (), (), (), (), ()), (a.2.2.2.2, ()))) .fail))
noncomputable def T_lFnApplied_0 (x3 : List (ByteArray × ByteArray)) (x4 : List (Int × ByteArray × ByteArray)) (x6 : Int) (h0 : List (ByteArray × ByteArray)) : CT := ct_lFnApplied_0 (it_lFnApplied_0 x3 x4 x6 h0)
noncomputable abbrev sp_lFnApplied_0 : S_lFnApplied_0.den → RT S_lFnApplied_0.den := fun d => st_lFnApplied_0 d.1.2.2.2.1 d.1.2.2.2.2.1 d.1.2.2.2.2.2.2.1 d.2.1
noncomputable abbrev pk_lFnApplied_0 (x3 : List (ByteArray × ByteArray)) (x4 : List (Int × ByteArray × ByteArray)) (x6 : Int) (h0 : List (ByteArray × ByteArray)) : S_lFnApplied_0.den := (((), (), (), x3, x4, (), x6, (), (), (), (), (), (), (), (), (), (), (), (), (), (), (), (), (), (), (), (), (), (), (), (), (), (), (), (), (), (), (), (), (), (), (), (), (), (), (), (), (), (), (), (), (), (), (), (), (), (), (), (), (), (), (), (), (), (), (), (), (), (), (), (), (), (), (), (), (), (), (), (), (), (), (), (), (), (), (), (), (), (), (), (), (), (), (), (), (), (), (), (), (), (), (), (), (), (), (), (), (), (), (), (), ()), (h0, ()))
noncomputable def body_lFnApplied_0 : Code := ((loopsIn 0 (bodyOf Try.f10)).getD 0 (0, .skip)).2
theorem R_lFnApplied_0 (x3 : List (ByteArray × ByteArray)) (x4 : List (Int × ByteArray × ByteArray)) (x6 : Int) (h0 : List (ByteArray × ByteArray)) : (T_lFnApplied_0 x3 x4 x6 h0).val (D := S_lFnApplied_0.den) = .fail ∨ Runs sp_lFnApplied_0 (pk_lFnApplied_0 x3 x4 x6 h0) (T_lFnApplied_0 x3 x4 x6 h0).val := Runs.ofIt (step := sp_lFnApplied_0) (fun v : V_lFnApplied_0 => pk_lFnApplied_0 v.1 v.2.1 v.2.2.1 v.2.2.2) (ct := ct_lFnApplied_0) rfl (fun v => ((relB (relB (relB (relB (relB (relB (relB (relB rfl (relB (relB rfl (relB (relB (relB rfl (relB (relB (relB rfl (relB rfl rfl)) rfl) rfl)) (relB (relB (relB rfl (relB rfl rfl)) rfl) rfl)) rfl)) rfl)) (relB (relB (relB rfl (relB (relB (relB rfl (relB rfl rfl)) rfl) rfl)) (relB (relB (relB rfl (relB rfl rfl)) rfl) rfl)) rfl)) rfl) rfl) rfl) rfl) rfl) rfl) : (st_lFnApplied_0 v.1 v.2.1 v.2.2.1 v.2.2.2).val = relS (fun v : V_lFnApplied_0 => pk_lFnApplied_0 v.1 v.2.1 v.2.2.1 v.2.2.2) ct_lFnApplied_0 (ss_lFnApplied_0 v.1 v.2.1 v.2.2.1 v.2.2.2))) (fun a => ((cendB (cendD (by simp)) (cendB (cendD (by simp)) cendF)) : CEnd _ (ct_lFnApplied_0 a))) (x3, x4, x6, h0)
theorem rd_lFnApplied_0 : ∀ d, execC Try.prog tt S35 QF35 (fun _ _ => none) 0 body_lFnApplied_0 (S_lFnApplied_0.st d 0 []) (fun e s' => some (e, S_lFnApplied_0.cutE (kepts [2] [(0, [3, 4, 5])]) e s')) = (sp_lFnApplied_0 d).opt 0 [] := by
  intro d
  kernel_rfl
noncomputable abbrev say_lFnApplied_0 : St → Option Tree := S_lFnApplied_0.say 0 [] [] (fun d => T_lFnApplied_0 d.1.2.2.2.1 d.1.2.2.2.2.1 d.1.2.2.2.2.2.2.1 d.2.1)
theorem lw_lFnApplied_0 : LoopWp Try.prog say_lFnApplied_0 body_lFnApplied_0 := SS.wp G35 (fun _ _ => none) (by rw [show loopsIn 0 body_lFnApplied_0 = [] by kernel_rfl]; simp) S_lFnApplied_0 0 [] (kepts [2] [(0, [3, 4, 5])]) [] sp_lFnApplied_0 rd_lFnApplied_0 _ (fun d => R_lFnApplied_0 d.1.2.2.2.1 d.1.2.2.2.2.1 d.1.2.2.2.2.2.2.1 d.2.1)
noncomputable def k3_lFnApplied (a0 : List Int) := it_lFnApplied_0 ((sDrawOps a0).1) ((sDrawOps a0).2) (0 : Int) (iApply ((sDrawOps a0).1) ((sDrawOps a0).2))
noncomputable def k4_lFnApplied (a0 : List Int) := lsamePairs (iApply ((k3_lFnApplied a0).2.2.2.2) ((k3_lFnApplied a0).2.2.2.1)) ((k3_lFnApplied a0).2.2.2.2)
noncomputable def k5_lFnApplied (a0 : List Int) := lsamePairs ((k3_lFnApplied a0).2.2.2.2) (sApply ((k3_lFnApplied a0).2.2.1) ((k3_lFnApplied a0).2.2.2.1))
noncomputable def lFnApplied (a0 : List Int) : Bool := (cond (lbig a0) true (cond ((k3_lFnApplied a0).1 == 0) ((k3_lFnApplied a0).2.1) (cond (k4_lFnApplied a0) (cond (k5_lFnApplied a0) (iPairsOk ((k3_lFnApplied a0).2.2.2.2)) false) false)))
noncomputable abbrev e_lFnApplied (r : Bool) : AV × List AObj := ((.t true .bool r), [])
noncomputable abbrev g_lFnApplied : pshsDen P_lFnApplied → AV × List AObj := fun d => e_lFnApplied (lFnApplied d.1)
noncomputable def q_lFnApplied (a0 : List Int) : Bool := cond (lbig a0) true ((q_sDrawOps a0) && ((q_iApply ((sDrawOps a0).1) ((sDrawOps a0).2)) && (cond ((k3_lFnApplied a0).1 == 0) true (((k3_lFnApplied a0).1 == 1) && ((q_iApply ((k3_lFnApplied a0).2.2.2.2) ((k3_lFnApplied a0).2.2.2.1)) && ((q_lsamePairs (iApply ((k3_lFnApplied a0).2.2.2.2) ((k3_lFnApplied a0).2.2.2.1)) ((k3_lFnApplied a0).2.2.2.2)) && (cond (k4_lFnApplied a0) ((q_sApply ((k3_lFnApplied a0).2.2.1) ((k3_lFnApplied a0).2.2.2.1)) && ((q_lsamePairs ((k3_lFnApplied a0).2.2.2.2) (sApply ((k3_lFnApplied a0).2.2.1) ((k3_lFnApplied a0).2.2.2.1))) && (cond (k5_lFnApplied a0) (q_iPairsOk ((k3_lFnApplied a0).2.2.2.2)) true))) true)))))))
noncomputable abbrev pre_lFnApplied : pshsDen P_lFnApplied → Bool := fun d => q_lFnApplied d.1
theorem runA_lFnApplied (a0 : List Int) (hp : (cond (lbig a0) true ((q_sDrawOps a0) && ((q_iApply ((sDrawOps a0).1) ((sDrawOps a0).2)) && (cond ((k3_lFnApplied a0).1 == 0) true (((k3_lFnApplied a0).1 == 1) && ((q_iApply ((k3_lFnApplied a0).2.2.2.2) ((k3_lFnApplied a0).2.2.2.1)) && ((q_lsamePairs (iApply ((k3_lFnApplied a0).2.2.2.2) ((k3_lFnApplied a0).2.2.2.1)) ((k3_lFnApplied a0).2.2.2.2)) && (cond (k4_lFnApplied a0) ((q_sApply ((k3_lFnApplied a0).2.2.1) ((k3_lFnApplied a0).2.2.2.1)) && ((q_lsamePairs ((k3_lFnApplied a0).2.2.2.2) (sApply ((k3_lFnApplied a0).2.2.1) ((k3_lFnApplied a0).2.2.2.1))) && (cond (k5_lFnApplied a0) (q_iPairsOk ((k3_lFnApplied a0).2.2.2.2)) true))) true)))))))) = true) : runP true Try.prog tt S35 QF35 (fun b => match b with | 0 => say_lFnApplied_0 | _ => fun _ => none) Try.f10 (argsMk P_lFnApplied (a0, ())) = some (g_lFnApplied (a0, ())) := by
  refine Eq.trans (b := (cond (lbig a0) (some (e_lFnApplied true)) (cond (q_sDrawOps a0) (cond (q_iApply ((sDrawOps a0).1) ((sDrawOps a0).2)) (cond ((k3_lFnApplied a0).1 == 0) (some (e_lFnApplied ((k3_lFnApplied a0).2.1))) (cond ((k3_lFnApplied a0).1 == 1) (cond (q_iApply ((k3_lFnApplied a0).2.2.2.2) ((k3_lFnApplied a0).2.2.2.1)) (cond (q_lsamePairs (iApply ((k3_lFnApplied a0).2.2.2.2) ((k3_lFnApplied a0).2.2.2.1)) ((k3_lFnApplied a0).2.2.2.2)) (cond (k4_lFnApplied a0) (cond (q_sApply ((k3_lFnApplied a0).2.2.1) ((k3_lFnApplied a0).2.2.2.1)) (cond (q_lsamePairs ((k3_lFnApplied a0).2.2.2.2) (sApply ((k3_lFnApplied a0).2.2.1) ((k3_lFnApplied a0).2.2.2.1))) (cond (k5_lFnApplied a0) (cond (q_iPairsOk ((k3_lFnApplied a0).2.2.2.2)) (some (e_lFnApplied (iPairsOk ((k3_lFnApplied a0).2.2.2.2)))) none) (some (e_lFnApplied false))) none) none) (some (e_lFnApplied false))) none) none) none)) none) none))) (by kernel_rfl) ?_
  exact (cndQ (F := fun r => some (e_lFnApplied r)) hp (fun hp => rfl) (fun hp => (cndT (andL hp) (fun _h => (fun hp => (cndT (andL hp) (fun _h => (fun hp => (cndQ (F := fun r => some (e_lFnApplied r)) hp (fun hp => rfl) (fun hp => (cndT (andL hp) (fun _h => (fun hp => (cndT (andL hp) (fun _h => (fun hp => (cndT (andL hp) (fun _h => (fun hp => (cndQ (F := fun r => some (e_lFnApplied r)) hp (fun hp => (cndT (andL hp) (fun _h => (fun hp => (cndT (andL hp) (fun _h => (fun hp => (cndQ (F := fun r => some (e_lFnApplied r)) hp (fun hp => (cndT hp (fun _h => rfl))) (fun hp => rfl))) (andR hp)))) (andR hp)))) (fun hp => rfl))) (andR hp)))) (andR hp)))) (andR hp)))))) (andR hp)))) (andR hp)))))
theorem run_lFnApplied : ∀ d, pre_lFnApplied d = true → runP true Try.prog tt S35 QF35 (fun b => match b with | 0 => say_lFnApplied_0 | _ => fun _ => none) Try.f10 (argsMk P_lFnApplied d) = some (g_lFnApplied d) := fun d hp => runA_lFnApplied d.1 hp
theorem c_lFnApplied : PContract Try.prog 10 (sumOf P_lFnApplied pre_lFnApplied g_lFnApplied) := PContract.of_data true G35 (fn := Try.f10) (by kernel_rfl) (L := fun b => match b with | 0 => say_lFnApplied_0 | _ => fun _ => none) (by rw [show loopsIn 0 (bodyOf Try.f10) = [(0, body_lFnApplied_0)] by kernel_rfl]; intro p hp; simp only [List.mem_singleton] at hp; subst hp; exact lw_lFnApplied_0) P_lFnApplied pre_lFnApplied g_lFnApplied run_lFnApplied
noncomputable def S36 : Tab := Tab.add S35 10 (lift (sumOf P_lFnApplied pre_lFnApplied g_lFnApplied))
noncomputable def QF36 : FuncId → Bool := qadd QF35 10
theorem G36 : Good Try.prog tt S36 QF36 := G35.addQ c_lFnApplied ⟨Try.f10, by kernel_rfl, by kernel_rfl, by kernel_rfl⟩ (fun _ => rfl)
/-- Bytes, all of them. -/
noncomputable def okB (b : List Int) : Prop := ∀ c ∈ b, 0 ≤ c ∧ c ≤ 255
noncomputable def ltP (a b : ByteArray × ByteArray) : Prop := Op.bytesLess a.1.toList b.1.toList = true
/-- The keys that a draw makes. -/
noncomputable def keys7 : List ByteArray := [(⟨#[97]⟩ : ByteArray), (⟨#[98]⟩ : ByteArray), (⟨#[99]⟩ : ByteArray), (⟨#[107, 49]⟩ : ByteArray), (⟨#[107, 50]⟩ : ByteArray), (⟨#[109]⟩ : ByteArray), (⟨#[122]⟩ : ByteArray)]
noncomputable def goodP (l : List (ByteArray × ByteArray)) : Prop := l.Pairwise ltP ∧ ∀ p ∈ l, p.1 ∈ keys7 ∧ p.2.size ≤ 20
/-- One op ahead of another, by its key. -/
noncomputable def ltO (a b : Int × ByteArray × ByteArray) : Prop := Op.bytesLess a.2.1.toList b.2.1.toList = true
/-- An op that a draw makes. -/
noncomputable def goodOp (k : Int) (s v : ByteArray) : Prop := s ∈ keys7 ∧ ((k = 1 ∨ k = 3) ∧ v.size ≤ 1 ∨ k = 2 ∧ v = ⟨#[]⟩)
/-- Ops that a draw makes: in order, each of them right. -/
noncomputable def drawnO (l : List (Int × ByteArray × ByteArray)) : Prop := l.Pairwise ltO ∧ ∀ o ∈ l, goodOp o.1 o.2.1 o.2.2 ∧ o.2.1.size ≤ 20 ∧ o.2.2.size ≤ 20
/-- A draw's cursor that is right. -/
noncomputable def cOk (b : List Int) (i : Int) : Prop := okB b ∧ 0 ≤ i ∧ i ≤ b.length ∧ b.length ≤ 1048576
theorem sl1New_spec {b : List Int} (hb : okB b) (hl : b.length ≤ 1048576) : q_sl1New b = true ∧ (sl1New b).1 = b ∧ cOk b (sl1New b).2.1 := by
  have key : ∀ x : Int, (it_sl1New_0 b x 0).1 = 0 ∧ (it_sl1New_0 b x 0).2.1 = b := by
    intro x
    refine itX_inv (fun v : V_sl1New_0 => v.1 = b ∧ 0 ≤ v.2.2 ∧ v.2.2 ≤ b.length) (fun a : A_sl1New_0 => a.1 = 0 ∧ a.2.1 = b) (fun v => b.length - v.2.2.toNat) ?_ ⟨rfl, Int.le_refl _, by simp⟩ (by simp; omega)
    rintro ⟨y, z, i⟩ ⟨hy, h1, h2⟩
    simp only at hy h1 h2
    subst hy
    by_cases hi : i < (y.length : Int)
    · have e : decide (i < ((y.length : Nat) : Int)) = true := decide_eq_true hi
      have e2 : decide (0 ≤ i ∧ i < ((y.length : Nat) : Int)) = true := decide_eq_true ⟨h1, hi⟩
      have w : IntKind.wrap .i64 (i + 1) = i + 1 := wrap64 (by omega) (by omega)
      by_cases h4 : i < 4000
      · simp only [ss_sl1New_0, e, e2, decide_eq_true h4, cond_true, w]
        exact .inl ⟨_, rfl, ⟨rfl, by simp only; omega, by simp only; omega⟩, by simp only; omega⟩
      · simp only [ss_sl1New_0, e, decide_eq_false h4, cond_true, cond_false]
        exact .inr ⟨_, rfl, rfl, rfl⟩
    · simp only [ss_sl1New_0, decide_eq_false hi, cond_false]
      exact .inr ⟨_, rfl, rfl, rfl⟩
  simp only [q_sl1New, sl1New, key]
  exact ⟨rfl, trivial, hb, Int.le_refl _, by omega, hl⟩
theorem ofInt_nat (n : Nat) (h : n < 18446744073709551616) : (BitVec.ofInt 64 (n : Int)).toNat = n := by
  simp [BitVec.toNat_ofInt]; omega
theorem iand_range (x : Int) (m : Nat) (hm : m < 9223372036854775808) : 0 ≤ iand .i64 x (m : Int) ∧ iand .i64 x (m : Int) ≤ m := by
  have e : iand .i64 x (m : Int) = IntKind.wrap .i64 (((BitVec.ofInt 64 x).toNat &&& m : Nat) : Int) := by
    show IntKind.wrap .i64 (((BitVec.ofInt 64 x &&& BitVec.ofInt 64 (m : Int)).toNat : Nat) : Int) = _
    rw [BitVec.toNat_and, ofInt_nat m (by omega)]
  have h : (BitVec.ofInt 64 x).toNat &&& m ≤ m := Nat.and_le_right
  rw [e, wrap64 (by omega) (by omega)]
  omega
theorem sl1Byte_spec {b : List Int} {i : Int} (hc : cOk b i) (h : Int) : q_sl1Byte b i h = true ∧ 0 ≤ (sl1Byte b i h).1 ∧ (sl1Byte b i h).1 ≤ 255 ∧ (sl1Byte b i h).2.1 = b ∧ cOk b (sl1Byte b i h).2.2.1 := by
  obtain ⟨h0, h1, h2, h3⟩ := hc
  have r := fun x => iand_range x 255 (by decide)
  by_cases hi : i < (b.length : Int)
  · have e : decide (i < ((b.length : Nat) : Int)) = true := decide_eq_true hi
    have w : IntKind.wrap .i64 (i + 1) = i + 1 := wrap64 (by omega) (by omega)
    simp only [q_sl1Byte, sl1Byte, e, cond_true, w]
    exact ⟨decide_eq_true ⟨h1, hi⟩, (r _).1, (r _).2, trivial, h0, by omega, by omega, h3⟩
  · have e : decide (i < ((b.length : Nat) : Int)) = false := decide_eq_false hi
    simp only [q_sl1Byte, sl1Byte, e, cond_false]
    exact ⟨trivial, (r _).1, (r _).2, trivial, h0, h1, h2, h3⟩
theorem sl1Below_spec {b : List Int} {i : Int} (hc : cOk b i) (n : Int) (h : Int) : q_sl1Below n b i h = true ∧ 0 ≤ (sl1Below n b i h).1 ∧ (0 < n → (sl1Below n b i h).1 < n) ∧ (sl1Below n b i h).2.1 = b ∧ cOk b (sl1Below n b i h).2.2.1 := by
  obtain ⟨a1, a2, a3, a4, a5⟩ := sl1Byte_spec hc h
  by_cases h0 : n ≤ 0
  · have e : decide (n ≤ 0) = true := decide_eq_true h0
    simp only [q_sl1Below, sl1Below, e, cond_true]
    exact ⟨trivial, Int.le_refl _, fun h => by omega, trivial, hc⟩
  · have e : decide (n ≤ 0) = false := decide_eq_false h0
    have en : decide (n ≠ 0) = true := decide_eq_true (by omega)
    by_cases h1 : n ≤ 256
    · have e2 : decide (n ≤ 256) = true := decide_eq_true h1
      simp only [q_sl1Below, sl1Below, e, e2, cond_true, cond_false, a1, en, Bool.and_self]
      exact ⟨trivial, Int.tmod_nonneg _ a2, fun h => Int.tmod_lt_of_pos _ h, a4, a5⟩
    · have e2 : decide (n ≤ 256) = false := decide_eq_false h1
      obtain ⟨b1, b2, b3, b4, b5⟩ := sl1Byte_spec a5 (sl1Byte b i h).2.2.2
      obtain ⟨c1, c2, c3, c4, c5⟩ := sl1Byte_spec b5 (sl1Byte b (sl1Byte b i h).2.2.1 (sl1Byte b i h).2.2.2).2.2.2
      simp only [q_sl1Below, sl1Below, e, e2, cond_false, a1, a4, en, k1_sl1Below, k2_sl1Below, b1, b4, c1, Bool.and_self]
      rw [wrap64 (n := (sl1Byte b i h).1 * 65536) (by omega) (by omega), wrap64 (n := (sl1Byte b (sl1Byte b i h).2.2.1 (sl1Byte b i h).2.2.2).1 * 256) (by omega) (by omega), wrap64 (n := (sl1Byte b i h).1 * 65536 + (sl1Byte b (sl1Byte b i h).2.2.1 (sl1Byte b i h).2.2.2).1 * 256) (by omega) (by omega), wrap64 (by omega) (by omega)]
      exact ⟨trivial, Int.tmod_nonneg _ (by omega), fun h => Int.tmod_lt_of_pos _ h, c4, c5⟩
theorem getD_mem {α : Type} {l : List α} {i : Nat} (h : i < l.length) (d : α) : l.getD i d ∈ l := by
  simp [List.getD_eq_getElem?_getD, h]
theorem sl1Str_spec {b : List Int} {i : Int} (hc : cOk b i) (h : Int) {l : List ByteArray} (hl : 0 < l.length) : q_sl1Str b i h l = true ∧ (sl1Str b i h l).1 ∈ l ∧ (sl1Str b i h l).2.1 = b ∧ cOk b (sl1Str b i h l).2.2.1 := by
  obtain ⟨a1, a2, a3, a4, a5⟩ := sl1Below_spec hc (l.length : Int) h
  have := a3 (by omega)
  simp only [q_sl1Str, sl1Str, a1, Bool.true_and]
  exact ⟨decide_eq_true ⟨a2, this⟩, getD_mem (by omega) _, a4, a5⟩
theorem keys7_size {s : ByteArray} (h : s ∈ keys7) : s.size ≤ 2 := by
  simp only [keys7, List.mem_cons, List.not_mem_nil, or_false] at h
  rcases h with rfl | rfl | rfl | rfl | rfl | rfl | rfl <;> decide
theorem sl3Key_spec {b : List Int} {i : Int} (hc : cOk b i) (h : Int) : q_sl3Key b i h = true ∧ (sl3Key b i h).1.size ≤ 2 ∧ (sl3Key b i h).1 ∈ keys7 ∧ (sl3Key b i h).2.1 = b ∧ cOk b (sl3Key b i h).2.2.1 := by
  obtain ⟨a1, a2, a3, a4⟩ := sl1Str_spec hc h (l := keys7) (by decide)
  simp only [keys7] at a1 a2 a3 a4
  simp only [q_sl3Key, sl3Key, k1_sl3Key, a1]
  exact ⟨trivial, keys7_size a2, a2, a3, a4⟩
theorem sl3Val_spec {b : List Int} {i : Int} (hc : cOk b i) (h : Int) : q_sl3Val b i h = true ∧ (sl3Val b i h).1.size ≤ 5 ∧ (sl3Val b i h).2.1 = b ∧ cOk b (sl3Val b i h).2.2.1 := by
  obtain ⟨q, m, e, c⟩ := sl1Str_spec hc h (l := [(⟨#[]⟩ : ByteArray), (⟨#[49]⟩ : ByteArray), (⟨#[50]⟩ : ByteArray), (⟨#[120]⟩ : ByteArray), (⟨#[118, 97, 108, 117, 101]⟩ : ByteArray), (⟨#[0]⟩ : ByteArray)]) (by decide)
  refine ⟨q, ?_, e, c⟩
  show (sl1Str b i h _).1.size ≤ 5
  simp only [List.mem_cons, List.mem_nil_iff, or_false] at m
  rcases m with h | h | h | h | h | h <;> rw [h] <;> decide
noncomputable def isK (k : ByteArray) (p : ByteArray × ByteArray) : Bool := p.1.toList == k.toList
noncomputable def dP : ByteArray × ByteArray := ((⟨#[]⟩ : ByteArray), (⟨#[]⟩ : ByteArray))
noncomputable def overK (k : ByteArray) (p : ByteArray × ByteArray) : Bool := !(Op.bytesLess p.1.toList k.toList || p.1.toList == k.toList)
noncomputable def putL (l : List (ByteArray × ByteArray)) (k v : ByteArray) : List (ByteArray × ByteArray) :=
  cond (decide (l.findIdx (isK k) < l.length)) (l.set (l.findIdx (isK k)) ((l.getD (l.findIdx (isK k)) dP).1, v)) (l.take (l.findIdx (overK k)) ++ ((k, v) :: l.drop (l.findIdx (overK k))))
/-- The first answer of places in order. -/
noncomputable def scanA {A : Type} (f : Nat → Option A) (last : A) : Nat → Nat → A
  | 0, _ => last
  | k + 1, i => match f i with
    | some a => a
    | none => scanA f last k (i + 1)
theorem itX_scan {V A : Type} {ss : V → V ⊕ A} {fa : A} (pk : Nat → V) (n : Nat) (f : Nat → Option A) (last : A) (hn : n < 4611686018427387904)
    (h : ∀ i, i < n → ss (pk i) = (match f i with | some a => .inr a | none => .inl (pk (i + 1)))) (hl : ss (pk n) = .inr last) : itX ss fa (pk 0) = scanA f last n 0 := by
  rw [itX_eq]
  have key : ∀ k N i, i + k = n → k < N → itN ss fa N (pk i) = scanA f last k i := by
    intro k
    induction k with
    | zero =>
      intro N i hi hN
      obtain ⟨M, rfl⟩ : ∃ M, N = M + 1 := ⟨N - 1, by omega⟩
      obtain rfl : i = n := by omega
      rw [itN_one, hl]; rfl
    | succ k ih =>
      intro N i hi hN
      obtain ⟨M, rfl⟩ : ∃ M, N = M + 1 := ⟨N - 1, by omega⟩
      rw [itN_one, h i (by omega)]
      simp only [scanA]
      cases hf : f i with
      | some a => rfl
      | none => exact ih M (i + 1) (by omega) (by omega)
  exact key n _ 0 (by omega) hn
theorem scanA_cases {A : Type} (f : Nat → Option A) (last : A) : ∀ k i, (∃ j a, i ≤ j ∧ j < i + k ∧ f j = some a ∧ (∀ m, i ≤ m → m < j → f m = none) ∧ scanA f last k i = a) ∨ ((∀ j, i ≤ j → j < i + k → f j = none) ∧ scanA f last k i = last) := by
  intro k
  induction k with
  | zero => intro i; exact .inr ⟨fun j h1 h2 => by omega, rfl⟩
  | succ k ih =>
    intro i
    simp only [scanA]
    cases hf : f i with
    | some a => exact .inl ⟨i, a, Nat.le_refl _, by omega, hf, fun m h1 h2 => by omega, rfl⟩
    | none =>
      rcases ih (i + 1) with ⟨j, a, h1, h2, h3, h4, h5⟩ | ⟨h1, h2⟩
      · refine .inl ⟨j, a, by omega, by omega, h3, fun m m1 m2 => ?_, h5⟩
        by_cases hm : m = i
        · rw [hm]; exact hf
        · exact h4 m (by omega) m2
      · refine .inr ⟨fun j j1 j2 => ?_, h2⟩
        by_cases hj : j = i
        · rw [hj]; exact hf
        · exact h1 j (by omega) (by omega)
theorem itX_find {V A α : Type} {ss : V → V ⊕ A} {fa : A} (pk : Nat → V) (l : List α) (d : α) (p : α → Bool) (good : Nat → A) (last : A) (hn : l.length < 4611686018427387904)
    (h : ∀ i, i < l.length → ss (pk i) = cond (p (l.getD i d)) (.inr (good i)) (.inl (pk (i + 1)))) (hl : ss (pk l.length) = .inr last) :
    itX ss fa (pk 0) = cond (decide (l.findIdx p < l.length)) (good (l.findIdx p)) last := by
  rw [itX_scan pk l.length (fun i => cond (p (l.getD i d)) (some (good i)) none) last hn (fun i hi => by rw [h i hi]; cases p (l.getD i d) <;> rfl) hl]
  rcases scanA_cases (fun i => cond (p (l.getD i d)) (some (good i)) none) last l.length 0 with ⟨j, a, h1, h2, h3, h4, h5⟩ | ⟨h1, h2⟩
  · have hj : j < l.length := by omega
    have hg : l.getD j d = l[j] := by simp [List.getD_eq_getElem?_getD, hj]
    have hp : p l[j] = true := by
      cases hc : p (l.getD j d) with
      | true => rw [hg] at hc; exact hc
      | false => simp only [hc, cond_false] at h3; cases h3
    have hf : l.findIdx p = j := by
      rw [List.findIdx_eq hj]
      refine ⟨hp, fun m hm => ?_⟩
      have := h4 m (by omega) hm
      have hgm : l.getD m d = l[m] := by simp [List.getD_eq_getElem?_getD, Nat.lt_trans hm hj]
      rw [← hgm]
      cases hc : p (l.getD m d) with
      | false => rfl
      | true => simp only [hc, cond_true] at this; cases this
    rw [h5, hf, decide_eq_true hj]
    rw [hg, hp] at h3
    exact (Option.some.inj h3).symm
  · have hf : ¬ l.findIdx p < l.length := by
      intro hlt
      have hp := List.findIdx_getElem (w := hlt)
      have := h1 (l.findIdx p) (by omega) (by omega)
      have hg : l.getD (l.findIdx p) d = l[l.findIdx p] := by simp [List.getD_eq_getElem?_getD, hlt]
      rw [hg, hp] at this
      cases this
    rw [h2, decide_eq_false hf]; rfl
theorem getD_dP (l : List (ByteArray × ByteArray)) (i : Nat) : l.getD i ((⟨#[]⟩ : ByteArray), (⟨#[]⟩ : ByteArray)) = l.getD i dP := rfl
theorem findIdx_le' {α : Type} (p : α → Bool) (l : List α) : l.findIdx p ≤ l.length := List.findIdx_le_length
theorem sPutKey_spec (l : List (ByteArray × ByteArray)) (k v : ByteArray) (hl : l.length ≤ 1099511627776) : q_sPutKey l k v = true ∧ sPutKey l k v = putL l k v := by
  have hlt : ∀ i : Nat, i < l.length → decide ((i : Int) < ((l.length : Nat) : Int)) = true ∧ decide (0 ≤ (i : Int) ∧ (i : Int) < ((l.length : Nat) : Int)) = true := fun i hi => ⟨decide_eq_true (by omega), decide_eq_true (by omega)⟩
  have hge : decide (((l.length : Nat) : Int) < ((l.length : Nat) : Int)) = false := decide_eq_false (by omega)
  have e0 : it_sPutKey_0 l k v 0 l = cond (decide (l.findIdx (isK k) < l.length)) (0, l.set (l.findIdx (isK k)) ((l.getD (l.findIdx (isK k)) dP).1, v), ([] : List (ByteArray × ByteArray)), (⟨#[]⟩ : ByteArray), (⟨#[]⟩ : ByteArray)) (1, ([] : List (ByteArray × ByteArray)), l, k, v) := by
    refine itX_find (ss := fun v : V_sPutKey_0 => ss_sPutKey_0 v.1 v.2.1 v.2.2.1 v.2.2.2.1 v.2.2.2.2) (fa := fl_sPutKey_0) (fun i => ((l, k, v, (i : Int), l) : V_sPutKey_0)) l dP (isK k) (fun i => ((0, l.set i ((l.getD i dP).1, v), [], ⟨#[]⟩, ⟨#[]⟩) : A_sPutKey_0)) _ (by omega) (fun i hi => ?_) ?_
    · obtain ⟨h1, h2⟩ := hlt i hi
      simp only [ss_sPutKey_0, h1, h2, cond_true, Int.toNat_natCast, wrapU i (by omega), getD_dP]
      rfl
    · simp only [ss_sPutKey_0, hge, cond_false]
  have e1 : it_sPutKey_1 l k v 0 = (0, l, k, v, ((l.findIdx (overK k) : Nat) : Int)) := by
    have h := itX_find (ss := fun v : V_sPutKey_1 => ss_sPutKey_1 v.1 v.2.1 v.2.2.1 v.2.2.2) (fa := fl_sPutKey_1) (fun i => ((l, k, v, (i : Int)) : V_sPutKey_1)) l dP (overK k) (fun i => (0, l, k, v, (i : Int))) (0, l, k, v, ((l.length : Nat) : Int)) (by omega) (fun i hi => ?_) ?_
    · refine h.trans ?_
      by_cases hc : l.findIdx (overK k) < l.length
      · rw [decide_eq_true hc]; rfl
      · have := findIdx_le' (overK k) l
        have he : l.findIdx (overK k) = l.length := by omega
        rw [decide_eq_false hc, he]; rfl
    · obtain ⟨h1, h2⟩ := hlt i hi
      simp only [ss_sPutKey_1, h1, h2, cond_true, Int.toNat_natCast, wrapU i (by omega), getD_dP, overK]
      cases (Op.bytesLess (l.getD i dP).1.toList k.toList || (l.getD i dP).1.toList == k.toList) <;> rfl
    · simp only [ss_sPutKey_1, hge, cond_false]
  have hle := findIdx_le' (overK k) l
  simp only [q_sPutKey, sPutKey, k1_sPutKey, List.nil_append, e0]
  cases hc : decide (l.findIdx (isK k) < l.length) with
  | true =>
    simp only [cond_true, putL, hc]
    refine ⟨?_, rfl⟩
    have e : decide ((([] : List (ByteArray × ByteArray)).length + l.length) * 32 ≤ MAXB) = true := decide_eq_true (by simp [MAXB]; omega)
    rw [e]; rfl
  | false =>
    have f1 : ((1 : Nat) == 0) = false := rfl
    have f2 : ((1 : Nat) == 1) = true := rfl
    have f3 : ((0 : Nat) == 0) = true := rfl
    simp only [cond_false, f1, f2, f3, e1, putL, hc, Int.toNat_natCast, Bool.true_and, Int.toNat_zero, List.drop_zero, List.take_length]
    refine ⟨?_, by rw [List.append_assoc]; rfl⟩
    simp only [Bool.and_eq_true, decide_eq_true_eq, MAXB, List.length_nil, List.length_take, List.length_append, List.length_cons, List.length_drop]
    refine ⟨decide_eq_true (by omega), ?_, ?_, ?_, ?_, ?_⟩ <;> omega
theorem putL_len (l : List (ByteArray × ByteArray)) (k v : ByteArray) : (putL l k v).length ≤ l.length + 1 := by
  simp only [putL]
  cases decide (l.findIdx (isK k) < l.length)
  · have := findIdx_le' (overK k) l
    simp only [cond_false, List.length_append, List.length_take, List.length_cons, List.length_drop]; omega
  · simp
theorem isK_iff (k : ByteArray) (p : ByteArray × ByteArray) : isK k p = decide (p.1 = k) := ba_beq p.1 k
theorem put_shape (l : List (ByteArray × ByteArray)) (k v : ByteArray) :
    (∃ A B p, l = A ++ p :: B ∧ p.1 = k ∧ (∀ x ∈ A, x.1 ≠ k) ∧ putL l k v = A ++ (k, v) :: B) ∨ (∃ A B, l = A ++ B ∧ (∀ x ∈ l, x.1 ≠ k) ∧ putL l k v = A ++ (k, v) :: B ∧ (∀ x ∈ A, overK k x = false) ∧ (∀ x B', B = x :: B' → overK k x = true)) := by
  by_cases hc : l.findIdx (isK k) < l.length
  · left
    have hp := List.findIdx_getElem (w := hc)
    rw [isK_iff, decide_eq_true_eq] at hp
    have hg : l.getD (l.findIdx (isK k)) dP = l[l.findIdx (isK k)] := by simp [List.getD_eq_getElem?_getD, hc]
    refine ⟨l.take (l.findIdx (isK k)), l.drop (l.findIdx (isK k) + 1), l[l.findIdx (isK k)], ?_, hp, fun x hx => ?_, ?_⟩
    · rw [← List.drop_eq_getElem_cons hc, List.take_append_drop]
    · obtain ⟨i, hi, rfl⟩ := List.mem_iff_getElem.1 hx
      rw [List.length_take] at hi
      have := List.not_of_lt_findIdx (p := isK k) (xs := l) (i := i) (by omega)
      rw [isK_iff] at this
      simpa using this
    · simp only [putL, decide_eq_true hc, cond_true, hg, hp]
      rw [List.set_eq_take_append_cons_drop, if_pos hc]
  · right
    have hall : ∀ x ∈ l, x.1 ≠ k := fun x hx e => by
      have := List.findIdx_eq_length.1 (show l.findIdx (isK k) = l.length by have := findIdx_le' (isK k) l; omega) x hx
      rw [isK_iff] at this
      simp [e] at this
    refine ⟨l.take (l.findIdx (overK k)), l.drop (l.findIdx (overK k)), (List.take_append_drop _ _).symm, hall, ?_, fun x hx => ?_, fun x B' hB => ?_⟩
    · simp only [putL, decide_eq_false hc, cond_false]
    · obtain ⟨i, hi, rfl⟩ := List.mem_iff_getElem.1 hx
      rw [List.length_take] at hi
      have := List.not_of_lt_findIdx (p := overK k) (xs := l) (i := i) (by omega)
      simpa using this
    · have hlt : l.findIdx (overK k) < l.length := by
        have := congrArg List.length hB
        simp only [List.length_drop, List.length_cons] at this; omega
      rw [List.drop_eq_getElem_cons hlt] at hB
      have hp := List.findIdx_getElem (w := hlt)
      rw [← (List.cons.inj hB).1]; exact hp
theorem bytesLess_trans : ∀ a b c : List UInt8, Op.bytesLess a b = true → Op.bytesLess b c = true → Op.bytesLess a c = true := by
  intro a
  induction a with
  | nil => intro b c h1 h2; cases c with
    | nil => cases b <;> simp [Op.bytesLess] at h2
    | cons z c => rfl
  | cons x a ih =>
    intro b c h1 h2
    cases b with
    | nil => simp [Op.bytesLess] at h1
    | cons y b => cases c with
      | nil => simp [Op.bytesLess] at h2
      | cons z c =>
        simp only [Op.bytesLess, Bool.or_eq_true, Bool.and_eq_true, decide_eq_true_eq, beq_iff_eq] at h1 h2 ⊢
        rcases h1 with h1 | ⟨rfl, h1⟩
        · rcases h2 with h2 | ⟨rfl, h2⟩
          · exact .inl (UInt8.lt_trans h1 h2)
          · exact .inl h1
        · rcases h2 with h2 | ⟨rfl, h2⟩
          · exact .inl h2
          · exact .inr ⟨rfl, ih b c h1 h2⟩
theorem put_srt {l : List (ByteArray × ByteArray)} (h : l.Pairwise ltP) (k v : ByteArray) : (putL l k v).Pairwise ltP := by
  rcases put_shape l k v with ⟨A, B, p, rfl, hp, hA, e⟩ | ⟨A, B, rfl, hall, e, hu, ho⟩
  · rw [e]
    rw [List.pairwise_append, List.pairwise_cons] at h ⊢
    obtain ⟨h1, ⟨h2, h3⟩, h4⟩ := h
    refine ⟨h1, ⟨fun y hy => ?_, h3⟩, fun a ha b hb => ?_⟩
    · have := h2 y hy; unfold ltP at this ⊢; rwa [hp] at this
    · rcases List.mem_cons.1 hb with rfl | hb
      · have := h4 a ha p List.mem_cons_self; unfold ltP at this ⊢; rwa [hp] at this
      · exact h4 a ha b (List.mem_cons_of_mem _ hb)
  · rw [e]
    have hle : ∀ x ∈ A, ltP x (k, v) := fun x hx => by
      have h1 := hu x hx
      have h2 := hall x (List.mem_append_left _ hx)
      simp only [overK, Bool.not_eq_false', Bool.or_eq_true] at h1
      rcases h1 with h1 | h1
      · exact h1
      · rw [ba_beq, decide_eq_true_eq] at h1; exact absurd h1 h2
    have hge : ∀ x ∈ B, ltP (k, v) x := by
      cases B with
      | nil => intro x hx; simp at hx
      | cons y B =>
        have h1 := ho y B rfl
        simp only [overK, Bool.not_eq_true', Bool.or_eq_false_iff] at h1
        have h2 := bytesLess_ge y.1.toList k.toList
        rw [h1.1] at h2
        have hy : ltP (k, v) y := by
          unfold ltP
          cases hb : Op.bytesLess k.toList y.1.toList with
          | true => rfl
          | false =>
            rw [hb] at h2
            have h3 : (k.toList == y.1.toList) = true := by simpa using h2.symm
            have h4 : (y.1.toList == k.toList) = true := by rw [beq_iff_eq] at h3 ⊢; exact h3.symm
            rw [h4] at h1; exact absurd h1.2 (by simp)
        intro x hx
        rcases List.mem_cons.1 hx with rfl | hx
        · exact hy
        · have := (List.pairwise_cons.1 (List.pairwise_append.1 h).2.1).1 x hx
          exact bytesLess_trans _ _ _ hy this
    rw [List.pairwise_append] at h
    rw [List.pairwise_append, List.pairwise_cons]
    refine ⟨h.1, ⟨hge, h.2.1⟩, fun a ha b hb => ?_⟩
    rcases List.mem_cons.1 hb with rfl | hb
    · exact hle a ha
    · exact h.2.2 a ha b hb
theorem put_mem {l : List (ByteArray × ByteArray)} {k v : ByteArray} {x : ByteArray × ByteArray} (h : x ∈ putL l k v) : x = (k, v) ∨ x ∈ l := by
  rcases put_shape l k v with ⟨A, B, p, rfl, hp, hA, e⟩ | ⟨A, B, rfl, hall, e, hu, ho⟩ <;> rw [e] at h <;> rcases List.mem_append.1 h with h | h
  · exact .inr (List.mem_append_left _ h)
  · rcases List.mem_cons.1 h with rfl | h
    · exact .inl rfl
    · exact .inr (List.mem_append_right _ (List.mem_cons_of_mem _ h))
  · exact .inr (List.mem_append_left _ h)
  · rcases List.mem_cons.1 h with rfl | h
    · exact .inl rfl
    · exact .inr (List.mem_append_right _ h)
theorem goodP_put {l : List (ByteArray × ByteArray)} (h : goodP l) {k v : ByteArray} (hk : k ∈ keys7) (hv : v.size ≤ 20) : goodP (putL l k v) :=
  ⟨put_srt h.1 k v, fun p hp => (put_mem hp).elim (fun e => by rw [e]; exact ⟨hk, hv⟩) (h.2 p)⟩
theorem sl3Draw_spec {b : List Int} {i : Int} (hc : cOk b i) (h : Int) : q_sl3Draw b i h = true ∧ (sl3Draw b i h).1 = b ∧ cOk b (sl3Draw b i h).2.1 ∧ goodP (sl3Draw b i h).2.2.2 ∧ (sl3Draw b i h).2.2.2.length ≤ 7 := by
  obtain ⟨b1, b2, b3, b4, b5⟩ := sl1Below_spec hc 8 h
  have b3 := b3 (by decide)
  have key : (k2_sl3Draw b i h).1 = 0 ∧ (k2_sl3Draw b i h).2.1 = b ∧ cOk b (k2_sl3Draw b i h).2.2.1 ∧ goodP (k2_sl3Draw b i h).2.2.2.2 ∧ (k2_sl3Draw b i h).2.2.2.2.length ≤ 7 := by
    simp only [k2_sl3Draw, b4]
    generalize hx : (sl1Below 8 b i h).1 = x at *
    refine itX_inv (fun v : V_sl3Draw_0 => ∃ (n : Nat) (j hh : Int) (l : List (ByteArray × ByteArray)), v = ((n : Int), b, j, hh, l) ∧ n + l.length ≤ 7 ∧ cOk b j ∧ goodP l) (fun a : A_sl3Draw_0 => a.1 = 0 ∧ a.2.1 = b ∧ cOk b a.2.2.1 ∧ goodP a.2.2.2.2 ∧ a.2.2.2.2.length ≤ 7) (fun v => v.1.toNat) ?_ ⟨x.toNat, _, _, [], by rw [Int.toNat_of_nonneg b2], by simp; omega, b5, .nil, by simp⟩ (by simp only; omega)
    rintro v ⟨n, j, hh, l, rfl, hn, hj, hl⟩
    cases n with
    | zero =>
      right
      have e : decide (((0 : Nat) : Int) > 0) = false := by decide
      simp only [ss_sl3Draw_0, e, cond_false]
      exact ⟨_, rfl, rfl, rfl, hj, hl, by simpa using hn⟩
    | succ n =>
      left
      have e : decide (((n + 1 : Nat) : Int) > 0) = true := decide_eq_true (by omega)
      obtain ⟨k1, k2, k3, k4, k5⟩ := sl3Key_spec hj hh
      obtain ⟨v1, v2, v3, v4⟩ := sl3Val_spec (i := (sl3Key b j hh).2.2.1) k5 (sl3Key b j hh).2.2.2
      obtain ⟨p1, p2⟩ := sPutKey_spec l (sl3Key b j hh).1 (k1_sl3Draw b j hh).1 (by omega)
      have hpl := putL_len l (sl3Key b j hh).1 (k1_sl3Draw b j hh).1
      have kk : k1_sl3Draw b j hh = sl3Val b (sl3Key b j hh).2.2.1 (sl3Key b j hh).2.2.2 := by simp only [k1_sl3Draw, k4]
      have w : IntKind.wrap .i64 (((n + 1 : Nat) : Int) - 1) = ((n : Nat) : Int) := by rw [wrap64 (by omega) (by omega)]; omega
      rw [kk] at p1 p2 hpl
      refine ⟨((n : Int), b, (sl3Val b (sl3Key b j hh).2.2.1 (sl3Key b j hh).2.2.2).2.2.1, (sl3Val b (sl3Key b j hh).2.2.1 (sl3Key b j hh).2.2.2).2.2.2, putL l (sl3Key b j hh).1 (sl3Val b (sl3Key b j hh).2.2.1 (sl3Key b j hh).2.2.2).1), ?_, ⟨n, _, _, _, rfl, by omega, v4, goodP_put hl k3 (by omega)⟩, by simp only [Int.toNat_natCast]; omega⟩
      simp only [ss_sl3Draw_0, e, k1, cond_true, k4, v1, kk, p1, p2, w, v3]
  obtain ⟨c1, c2, c3, c4, c5⟩ := key
  have e1 : ((0 : Nat) == 0) = true := rfl
  simp only [q_sl3Draw, sl3Draw, b1, c1, Bool.true_and, e1]
  exact ⟨trivial, c2, c3, c4, c5⟩
theorem sl1Int_spec {b : List Int} {i : Int} (hc : cOk b i) (h : Int) {l : List Int} (hl : 0 < l.length) : q_sl1Int b i h l = true ∧ (sl1Int b i h l).1 ∈ l ∧ (sl1Int b i h l).2.1 = b ∧ cOk b (sl1Int b i h l).2.2.1 := by
  obtain ⟨a1, a2, a3, a4, a5⟩ := sl1Below_spec hc (l.length : Int) h
  have := a3 (by omega)
  simp only [q_sl1Int, sl1Int, a1, Bool.true_and]
  exact ⟨decide_eq_true ⟨a2, this⟩, getD_mem (by omega) _, a4, a5⟩
theorem sl7Op1_spec {b : List Int} {i : Int} (hc : cOk b i) (h : Int) : q_sl7Op1 b i h = true ∧ (sl7Op1 b i h).2.1.size ≤ 20 ∧ (sl7Op1 b i h).2.2.1.size ≤ 20 ∧ goodOp (sl7Op1 b i h).1 (sl7Op1 b i h).2.1 (sl7Op1 b i h).2.2.1 ∧ (sl7Op1 b i h).2.2.2.1 = b ∧ cOk b (sl7Op1 b i h).2.2.2.2.1 := by
  obtain ⟨a1, a2, a3, a4⟩ := sl1Int_spec hc h (l := [(1 : Int), (1 : Int), (1 : Int), (2 : Int), (3 : Int)]) (by decide)
  simp only [q_sl7Op1, sl7Op1, k1_sl7Op1, k2_sl7Op1, a1, a3, Bool.true_and]
  generalize sl1Int b i h [(1 : Int), (1 : Int), (1 : Int), (2 : Int), (3 : Int)] = r at *
  obtain ⟨b1, b2, b3, b4, b5⟩ := sl3Key_spec a4 r.2.2.2.1
  simp only [b1, b4, Bool.true_and]
  generalize sl3Key b r.2.2.1 r.2.2.2.1 = t at *
  have hk : r.1 = 1 ∨ r.1 = 2 ∨ r.1 = 3 := by simp only [List.mem_cons, List.not_mem_nil, or_false] at a2; omega
  cases e : (r.1 != 2) with
  | true =>
    obtain ⟨c1, c2, c3, c4⟩ := sl1Str_spec b5 t.2.2.2 (l := [(⟨#[49]⟩ : ByteArray), (⟨#[50]⟩ : ByteArray), (⟨#[120]⟩ : ByteArray), (⟨#[]⟩ : ByteArray), (⟨#[49]⟩ : ByteArray)]) (by decide)
    simp only [cond_true, c1]
    generalize sl1Str b t.2.2.1 t.2.2.2 [(⟨#[49]⟩ : ByteArray), (⟨#[50]⟩ : ByteArray), (⟨#[120]⟩ : ByteArray), (⟨#[]⟩ : ByteArray), (⟨#[49]⟩ : ByteArray)] = u at *
    have hs : u.1.size ≤ 1 := by
      have h0 : ∀ x ∈ [(⟨#[49]⟩ : ByteArray), (⟨#[50]⟩ : ByteArray), (⟨#[120]⟩ : ByteArray), (⟨#[]⟩ : ByteArray), (⟨#[49]⟩ : ByteArray)], x.size ≤ 1 := by
        intro x hx
        simp only [List.mem_cons, List.not_mem_nil, or_false] at hx
        rcases hx with rfl | rfl | rfl | rfl | rfl <;> decide
      exact h0 _ c2
    have hne : r.1 ≠ 2 := by simpa using e
    exact ⟨trivial, by omega, by omega, ⟨b3, .inl ⟨by omega, hs⟩⟩, c3, c4⟩
  | false =>
    have he : r.1 = 2 := by simpa using e
    simp only [cond_false]
    exact ⟨trivial, by omega, by decide, ⟨b3, .inr ⟨he, rfl⟩⟩, trivial, b5⟩
/-- What holds on the way of putting an op in order. -/
noncomputable def oneI (l : List (Int × ByteArray × ByteArray)) (o : Int × ByteArray × ByteArray) (i : Nat) (p : Bool) (h : List (Int × ByteArray × ByteArray)) : Prop :=
  h.Pairwise ltO ∧ (∀ x ∈ h, x = o ∨ x ∈ l) ∧ h.length ≤ i + 1 ∧
  (p = false → h = l.take i ∧ ∀ x ∈ h, ltO x o) ∧
  (p = true → h ≠ [] ∧ ∀ x ∈ h, ∀ y ∈ l.drop i, ltO x y)
theorem pw_take {α : Type} {R : α → α → Prop} {l : List α} (h : l.Pairwise R) (i : Nat) (hi : i < l.length) (d : α) : ∀ x ∈ l.take i, R x (l.getD i d) := by
  intro x hx
  obtain ⟨j, hj, rfl⟩ := List.getElem_of_mem hx
  rw [List.length_take] at hj
  have := List.pairwise_iff_getElem.1 h j i (by omega) hi (by omega)
  simpa [List.getD_eq_getElem?_getD, hi] using this
theorem pw_drop {α : Type} {R : α → α → Prop} {l : List α} (h : l.Pairwise R) (i : Nat) (hi : i < l.length) (d : α) : ∀ y ∈ l.drop (i + 1), R (l.getD i d) y := by
  intro y hy
  obtain ⟨j, hj, rfl⟩ := List.getElem_of_mem hy
  rw [List.length_drop] at hj
  have := List.pairwise_iff_getElem.1 h i (i + 1 + j) hi (by omega) (by omega)
  simpa [List.getD_eq_getElem?_getD, hi] using this
theorem take_succ_getD {α : Type} {l : List α} {i : Nat} (hi : i < l.length) (d : α) : l.take (i + 1) = l.take i ++ [l.getD i d] := by
  rw [List.take_add_one, List.getElem?_eq_getElem hi]; simp [List.getD_eq_getElem?_getD, hi]
theorem pw_snoc {α : Type} {R : α → α → Prop} {h : List α} {x : α} (h1 : h.Pairwise R) (h2 : ∀ y ∈ h, R y x) : (h ++ [x]).Pairwise R := by
  rw [List.pairwise_append]
  exact ⟨h1, by simp, fun a ha b hb => by simp at hb; subst hb; exact h2 a ha⟩
theorem ltO_trans {a b c : Int × ByteArray × ByteArray} (h1 : ltO a b) (h2 : ltO b c) : ltO a c := bytesLess_trans _ _ _ h1 h2
theorem sl7One_it {l : List (Int × ByteArray × ByteArray)} (hs : l.Pairwise ltO) (hl : l.length ≤ 1000) (o : Int × ByteArray × ByteArray) :
    ∃ p h, it_sl7One_0 l false 0 o.1 o.2.1 o.2.2 [] = (0, p, h) ∧ oneI l o l.length p h := by
  refine itX_inv (fun v : V_sl7One_0 => ∃ (i : Nat) (p : Bool) (h : List (Int × ByteArray × ByteArray)), v = (l, p, (i : Int), h) ∧ i ≤ l.length ∧ oneI l o i p h) (fun a => ∃ p h, a = (0, p, h) ∧ oneI l o l.length p h) (fun v => l.length - v.2.2.1.toNat) ?_ ⟨0, false, [], rfl, Nat.zero_le _, .nil, by simp, by simp, fun _ => ⟨rfl, by simp⟩, fun h => by cases h⟩ (by simp; omega)
  rintro v ⟨i, p, h, rfl, hi, hI⟩
  obtain ⟨i1, i2, i3, i4, i5⟩ := hI
  by_cases hlt : i < l.length
  · have e1 : decide ((i : Int) < ((l.length : Nat) : Int)) = true := decide_eq_true (by omega)
    have e2 : decide (0 ≤ (i : Int) ∧ (i : Int) < ((l.length : Nat) : Int)) = true := decide_eq_true (by omega)
    have w := wrapU i (by omega)
    have m1 : ∀ x : Int × ByteArray × ByteArray, decide ((h.length + [x].length) * 40 ≤ MAXB) = true := fun x => decide_eq_true (by simp only [List.length_singleton, MAXB]; omega)
    have m2 : ∀ x y : Int × ByteArray × ByteArray, decide (((h ++ [x]).length + [y].length) * 40 ≤ MAXB) = true := fun x y => decide_eq_true (by simp only [List.length_append, List.length_singleton, MAXB]; omega)
    have eta : ∀ x : Int × ByteArray × ByteArray, (x.1, (x.2.1, x.2.2)) = x := fun _ => rfl
    have hdrop : l.drop i = l.getD i dOp :: l.drop (i + 1) := by rw [List.drop_eq_getElem_cons hlt]; simp [List.getD_eq_getElem?_getD, hlt]
    have htk := pw_take hs i hlt dOp
    have hdr := pw_drop hs i hlt dOp
    have hmem : l.getD i dOp ∈ l := getD_mem hlt _
    have hts := take_succ_getD hlt dOp
    have meas : ∀ (p' : Bool) (h' : List (Int × ByteArray × ByteArray)), l.length - ((l, p', ((i + 1 : Nat) : Int), h') : V_sl7One_0).2.2.1.toNat < l.length - ((l, p, (i : Int), h) : V_sl7One_0).2.2.1.toNat := fun _ _ => by simp only [Int.toNat_natCast]; omega
    simp only [ss_sl7One_0, e1, e2, m1, m2, w, cond_true, Int.toNat_natCast, eta]
    have hd : ((0 : Int), ((⟨#[]⟩ : ByteArray), (⟨#[]⟩ : ByteArray))) = dOp := rfl
    simp only [hd]
    generalize hx : l.getD i dOp = x at *
    left
    cases p with
    | false =>
      obtain ⟨j1, j2⟩ := i4 rfl
      simp only [Bool.not_false, cond_true]
      cases hb : Op.bytesLess x.2.1.toList o.2.1.toList with
      | true =>
        -- still ahead of it
        have hxo : ltO x o := hb
        have hne : (x.2.1.toList == o.2.1.toList) = false := by
          rw [beq_eq_false_iff_ne]; intro e; rw [e] at hb; rw [bytesLess_irrefl] at hb; cases hb
        simp only [Bool.not_true, cond_false, hne, Bool.not_false, cond_true]
        refine ⟨_, rfl, ⟨i + 1, false, h ++ [x], rfl, by omega, pw_snoc i1 (fun y hy => ?_), ?_, by simp; omega, fun _ => ⟨by rw [j1, hts], ?_⟩, fun h => by cases h⟩, meas _ _⟩
        · rw [j1] at hy; exact htk y hy
        · intro y hy
          rcases List.mem_append.1 hy with hy | hy
          · exact i2 y hy
          · simp at hy; subst hy; exact .inr hmem
        · intro y hy
          rcases List.mem_append.1 hy with hy | hy
          · exact j2 y hy
          · simp at hy; subst hy; exact hxo
      | false =>
        have hge := bytesLess_ge x.2.1.toList o.2.1.toList
        rw [hb] at hge
        simp only [Bool.not_false] at hge
        simp only [Bool.not_false, cond_true]
        have s1 : (h ++ [o]).Pairwise ltO := pw_snoc i1 j2
        have s2 : ∀ y ∈ h ++ [o], y = o ∨ y ∈ l := by
          intro y hy
          rcases List.mem_append.1 hy with hy | hy
          · exact i2 y hy
          · simp at hy; exact .inl hy
        cases hq : (x.2.1.toList == o.2.1.toList) with
        | true =>
          simp only [Bool.not_true, cond_false]
          have hkey : x.2.1.toList = o.2.1.toList := by simpa using hq
          have ho : ∀ y ∈ l.drop (i + 1), ltO o y := fun y hy => by have := hdr y hy; unfold ltO at this ⊢; rwa [hkey] at this
          refine ⟨_, rfl, ⟨i + 1, true, h ++ [o], rfl, by omega, s1, s2, by simp; omega, (fun h => by cases h), fun _ => ⟨by simp, ?_⟩⟩, meas _ _⟩
          intro y hy z hz
          rcases List.mem_append.1 hy with hy | hy
          · exact ltO_trans (j2 y hy) (ho z hz)
          · simp at hy; subst hy; exact ho z hz
        | false =>
          simp only [Bool.not_false, cond_true]
          have hox : ltO o x := by
            have h9 : Op.bytesLess o.2.1.toList x.2.1.toList = true := by
              cases h8 : Op.bytesLess o.2.1.toList x.2.1.toList with
              | true => rfl
              | false =>
                rw [h8] at hge
                have h7 : (o.2.1.toList == x.2.1.toList) = true := by simpa using hge.symm
                rw [beq_iff_eq] at h7
                rw [h7] at hq; simp at hq
            exact h9
          refine ⟨_, rfl, ⟨i + 1, true, (h ++ [o]) ++ [x], rfl, by omega, pw_snoc s1 (fun y hy => ?_), ?_, ?_, (fun h => by cases h), fun _ => ⟨by simp, ?_⟩⟩, meas _ _⟩
          · rcases List.mem_append.1 hy with hy | hy
            · exact ltO_trans (j2 y hy) hox
            · simp at hy; subst hy; exact hox
          · intro y hy
            rcases List.mem_append.1 hy with hy | hy
            · exact s2 y hy
            · simp at hy; subst hy; exact .inr hmem
          · have : h.length ≤ i := by rw [j1, List.length_take]; omega
            simp; omega
          · intro y hy z hz
            have hxz := hdr z hz
            rcases List.mem_append.1 hy with hy | hy
            · rcases List.mem_append.1 hy with hy | hy
              · exact ltO_trans (ltO_trans (j2 y hy) hox) hxz
              · simp at hy; subst hy; exact ltO_trans hox hxz
            · simp at hy; subst hy; exact hxz
    | true =>
      obtain ⟨j1, j2⟩ := i5 rfl
      simp only [Bool.not_true, cond_false]
      have j3 : ∀ y ∈ h, ∀ z ∈ l.drop (i + 1), ltO y z := fun y hy z hz => j2 y hy z (by rw [hdrop]; exact List.mem_cons_of_mem _ hz)
      cases hq : (x.2.1.toList == o.2.1.toList) with
      | true =>
        simp only [Bool.not_true, cond_false]
        exact ⟨_, rfl, ⟨i + 1, true, h, rfl, by omega, i1, i2, by omega, (fun h => by cases h), fun _ => ⟨j1, j3⟩⟩, meas _ _⟩
      | false =>
        simp only [Bool.not_false, cond_true]
        refine ⟨_, rfl, ⟨i + 1, true, h ++ [x], rfl, by omega, pw_snoc i1 (fun y hy => j2 y hy x (by rw [hdrop]; simp)), ?_, by simp; omega, (fun h => by cases h), fun _ => ⟨by simp, ?_⟩⟩, meas _ _⟩
        · intro y hy
          rcases List.mem_append.1 hy with hy | hy
          · exact i2 y hy
          · simp at hy; subst hy; exact .inr hmem
        · intro y hy z hz
          rcases List.mem_append.1 hy with hy | hy
          · exact j3 y hy z hz
          · simp at hy; subst hy; exact hdr z hz
  · obtain rfl : i = l.length := by omega
    have e1 : decide (((l.length : Nat) : Int) < ((l.length : Nat) : Int)) = false := decide_eq_false (by omega)
    simp only [ss_sl7One_0, e1, cond_false]
    exact .inr ⟨_, rfl, p, h, rfl, i1, i2, i3, i4, i5⟩
theorem sl7One_spec {l : List (Int × ByteArray × ByteArray)} (hs : l.Pairwise ltO) (hl : l.length ≤ 1000) (k : Int) (s v : ByteArray) :
    q_sl7One l k s v = true ∧ (sl7One l k s v).Pairwise ltO ∧ (∀ x ∈ sl7One l k s v, x = (k, s, v) ∨ x ∈ l) ∧ sl7One l k s v ≠ [] ∧ (sl7One l k s v).length ≤ l.length + 1 := by
  obtain ⟨p, h, e, i1, i2, i3, i4, i5⟩ := sl7One_it hs hl (k, s, v)
  simp only at e
  have m1 : ∀ x : Int × ByteArray × ByteArray, decide ((h.length + [x].length) * 40 ≤ MAXB) = true := fun x => decide_eq_true (by simp only [List.length_singleton, MAXB]; omega)
  simp only [q_sl7One, sl7One, e, m1]
  cases p with
  | true =>
    simp only [Bool.not_true, cond_false]
    exact ⟨rfl, i1, i2, (i5 rfl).1, i3⟩
  | false =>
    obtain ⟨j1, j2⟩ := i4 rfl
    simp only [Bool.not_false, cond_true]
    refine ⟨rfl, pw_snoc i1 j2, ?_, by simp, ?_⟩
    · intro y hy
      rcases List.mem_append.1 hy with hy | hy
      · exact i2 y hy
      · simp at hy; exact .inl hy
    · rw [j1]; simp
theorem sl7Draw_spec {b : List Int} {i : Int} (hc : cOk b i) (h : Int) : q_sl7Draw b i h = true ∧ (sl7Draw b i h).1 = b ∧ cOk b (sl7Draw b i h).2.1 ∧ drawnO (sl7Draw b i h).2.2.2 ∧ 1 ≤ (sl7Draw b i h).2.2.2.length ∧ (sl7Draw b i h).2.2.2.length ≤ 4 := by
  obtain ⟨a1, a2, a3, a4, a5⟩ := sl1Below_spec hc 4 h
  have a3 := a3 (by omega)
  simp only [q_sl7Draw, sl7Draw, k2_sl7Draw, a1, a4, Bool.true_and]
  generalize sl1Below 4 b i h = r at *
  have w : IntKind.wrap .i64 (1 + r.1) = 1 + r.1 := wrap64 (by omega) (by omega)
  rw [w]
  obtain ⟨z1, z2, z3, z4, z5, z6⟩ : (it_sl7Draw_0 (1 + r.1) b r.2.2.1 r.2.2.2 []).1 = 0 ∧ (it_sl7Draw_0 (1 + r.1) b r.2.2.1 r.2.2.2 []).2.1 = b ∧ cOk b (it_sl7Draw_0 (1 + r.1) b r.2.2.1 r.2.2.2 []).2.2.1 ∧ drawnO (it_sl7Draw_0 (1 + r.1) b r.2.2.1 r.2.2.2 []).2.2.2.2 ∧ 1 ≤ (it_sl7Draw_0 (1 + r.1) b r.2.2.1 r.2.2.2 []).2.2.2.2.length ∧ (it_sl7Draw_0 (1 + r.1) b r.2.2.1 r.2.2.2 []).2.2.2.2.length ≤ 4 := by
    refine itX_inv (fun v : V_sl7Draw_0 => v.2.1 = b ∧ cOk b v.2.2.1 ∧ drawnO v.2.2.2.2 ∧ 0 ≤ v.1 ∧ v.1 ≤ 4 ∧ (v.2.2.2.2.length : Int) ≤ 4 - v.1 ∧ (v.1 = 0 → 1 ≤ v.2.2.2.2.length)) (fun a : A_sl7Draw_0 => a.1 = 0 ∧ a.2.1 = b ∧ cOk b a.2.2.1 ∧ drawnO a.2.2.2.2 ∧ 1 ≤ a.2.2.2.2.length ∧ a.2.2.2.2.length ≤ 4) (fun v => v.1.toNat) ?_ ⟨rfl, a5, ⟨.nil, by simp⟩, by simp only; omega, by simp only; omega, by simp only [List.length_nil]; omega, fun h => by simp only at h; omega⟩ (by simp only; omega)
    rintro ⟨n, b', j, h', l⟩ ⟨e1, e2, e3, e4, e5, e6, e7⟩
    simp only at e1 e2 e3 e4 e5 e6 e7
    subst e1
    by_cases hn : n > 0
    · obtain ⟨o1, o2, o3, o4, o5, o6⟩ := sl7Op1_spec e2 h'
      obtain ⟨p1, p2, p3, p4, p5⟩ := sl7One_spec e3.1 (by omega) (sl7Op1 b' j h').1 (sl7Op1 b' j h').2.1 (sl7Op1 b' j h').2.2.1
      have w2 : IntKind.wrap .i64 (n - 1) = n - 1 := wrap64 (by omega) (by omega)
      simp only [ss_sl7Draw_0, decide_eq_true hn, o1, p1, cond_true, w2, o5, k1_sl7Draw]
      refine .inl ⟨_, rfl, ⟨rfl, o6, ⟨p2, fun x hx => ?_⟩, by simp only; omega, by simp only; omega, by simp only; omega, fun _ => List.length_pos_iff.2 p4⟩, by simp only; omega⟩
      rcases p3 x hx with rfl | hx
      · exact ⟨o4, o2, o3⟩
      · exact e3.2 x hx
    · simp only [ss_sl7Draw_0, decide_eq_false hn, cond_false]
      exact .inr ⟨_, rfl, rfl, rfl, e2, e3, e7 (by omega), by simp only; omega⟩
  exact ⟨by rw [z1]; rfl, z2, z3, z4, z5, z6⟩
noncomputable def getL (l : List (ByteArray × ByteArray)) (k : ByteArray) : Option ByteArray := (l.find? (isK k)).map (·.2)
noncomputable def opSays (m x : List (ByteArray × ByteArray)) (o : Int × ByteArray × ByteArray) : Prop := getL x o.2.1 = (if o.1 = 1 then some o.2.2 else if o.1 = 2 then none else getL m o.2.1)
theorem pairAt_spec (l : List (ByteArray × ByteArray)) (k : ByteArray) (hl : l.length ≤ 1099511627776) : q_ipairAt l k = true ∧ ipairAt l k = cond (decide (l.findIdx (isK k) < l.length)) ((l.findIdx (isK k) : Nat) : Int) (-1) := by
  have e : it_slices_IndexFunc_iPair_ipairAt_1_0 l ((l.length : Nat) : Int) 0 k = cond (decide (l.findIdx (isK k) < l.length)) (0, ((l.findIdx (isK k) : Nat) : Int)) (1, 0) := by
    refine itX_find (ss := fun v : V_slices_IndexFunc_iPair_ipairAt_1_0 => ss_slices_IndexFunc_iPair_ipairAt_1_0 v.1 v.2.1 v.2.2 k) (fa := fl_slices_IndexFunc_iPair_ipairAt_1_0) (fun i => ((l, ((l.length : Nat) : Int), (i : Int)) : V_slices_IndexFunc_iPair_ipairAt_1_0)) l dP (isK k) (fun i => ((0, (i : Int)) : A_slices_IndexFunc_iPair_ipairAt_1_0)) _ (by omega) (fun i hi => ?_) ?_
    · have h1 : decide ((i : Int) < ((l.length : Nat) : Int)) = true := decide_eq_true (by omega)
      have h2 : decide (0 ≤ (i : Int) ∧ (i : Int) < ((l.length : Nat) : Int)) = true := decide_eq_true (by omega)
      simp only [ss_slices_IndexFunc_iPair_ipairAt_1_0, h1, h2, cond_true, Int.toNat_natCast, wrapU i (by omega), getD_dP, k1_slices_IndexFunc_iPair_ipairAt_1, ipairAt_1]
      rfl
    · have h1 : decide (((l.length : Nat) : Int) < ((l.length : Nat) : Int)) = false := decide_eq_false (by omega)
      simp only [ss_slices_IndexFunc_iPair_ipairAt_1_0, h1, cond_false]
  simp only [q_ipairAt, ipairAt, q_slices_IndexFunc_iPair_ipairAt_1, slices_IndexFunc_iPair_ipairAt_1, e]
  cases decide (l.findIdx (isK k) < l.length) <;> exact ⟨rfl, rfl⟩
theorem find_idx {α : Type} (p : α → Bool) (d : α) : ∀ l : List α, l.find? p = cond (decide (l.findIdx p < l.length)) (some (l.getD (l.findIdx p) d)) none
  | [] => by simp
  | x :: l => by
    have ih := find_idx p d l
    cases h : p x with
    | true => simp [List.find?_cons, List.findIdx_cons, h]
    | false =>
      simp only [List.find?_cons, List.findIdx_cons, h, List.length_cons, cond_false, List.getD_cons_succ]
      rw [ih]
      by_cases hl : l.findIdx p < l.length
      · rw [decide_eq_true hl, decide_eq_true (show l.findIdx p + 1 < l.length + 1 by omega)]
      · rw [decide_eq_false hl, decide_eq_false (show ¬ l.findIdx p + 1 < l.length + 1 by omega)]
theorem iGetKey_spec (l : List (ByteArray × ByteArray)) (k : ByteArray) (hl : l.length ≤ 1099511627776) : q_iGetKey l k = true ∧ iGetKey l k = (match getL l k with | some v => (v, true) | none => ((⟨#[]⟩ : ByteArray), false)) := by
  obtain ⟨p1, p2⟩ := pairAt_spec l k hl
  simp only [q_iGetKey, iGetKey, p1, p2, getL, find_idx (isK k) dP l, Bool.true_and]
  cases hc : decide (l.findIdx (isK k) < l.length) with
  | true =>
    have hlt := of_decide_eq_true hc
    have g1 : decide (((l.findIdx (isK k) : Nat) : Int) < 0) = false := decide_eq_false (by omega)
    have g2 : decide (0 ≤ ((l.findIdx (isK k) : Nat) : Int) ∧ ((l.findIdx (isK k) : Nat) : Int) < ((l.length : Nat) : Int)) = true := decide_eq_true (by omega)
    simp only [cond_true, g1, g2, cond_false, Int.toNat_natCast]
    exact ⟨trivial, rfl⟩
  | false => exact ⟨rfl, rfl⟩
theorem bigB_ok {l : List Int} (h : bigT (.sl (.int .u8)) l = true) : okB l := by
  have hb : (decide (l.length ≤ maxLen) && l.all (fun x => (Lit.int .u8 x).wf)) = true := h
  rw [Bool.and_eq_true, List.all_eq_true] at hb
  intro c hc
  have := hb.2 c hc
  simp only [Lit.wf, Bool.and_eq_true, decide_eq_true_eq] at this
  exact ⟨this.1, this.2⟩
noncomputable def delL (l : List (ByteArray × ByteArray)) (k : ByteArray) : List (ByteArray × ByteArray) := l.filter fun p => !isK k p
noncomputable def appL (l : List (ByteArray × ByteArray)) (o : Int × ByteArray × ByteArray) : List (ByteArray × ByteArray) := cond (o.1 == 1) (putL l o.2.1 o.2.2) (cond (o.1 == 2) (delL l o.2.1) l)
theorem itX_fold {V A α β : Type} {ss : V → V ⊕ A} {fa : A} (pk : Nat → β → V) (l : List α) (d : α) (f : β → α → β) (last : β → A) (ok : Nat → β → Prop) (hn : l.length < 4611686018427387904)
    (h : ∀ i b, i < l.length → ok i b → ss (pk i b) = .inl (pk (i + 1) (f b (l.getD i d))) ∧ ok (i + 1) (f b (l.getD i d))) (hl : ∀ b, ok l.length b → ss (pk l.length b) = .inr (last b)) {b : β} (h0 : ok 0 b) : itX ss fa (pk 0 b) = last (l.foldl f b) := by
  rw [itX_eq]
  have key : ∀ k N i b, i + k = l.length → k < N → ok i b → itN ss fa N (pk i b) = last ((l.drop i).foldl f b) := by
    intro k
    induction k with
    | zero =>
      intro N i b hi hN ho
      obtain ⟨M, rfl⟩ : ∃ M, N = M + 1 := ⟨N - 1, by omega⟩
      obtain rfl : i = l.length := by omega
      rw [itN_one, hl b ho, List.drop_length]; rfl
    | succ k ih =>
      intro N i b hi hN ho
      obtain ⟨M, rfl⟩ : ∃ M, N = M + 1 := ⟨N - 1, by omega⟩
      have hlt : i < l.length := by omega
      obtain ⟨h1, h2⟩ := h i b hlt ho
      rw [itN_one, h1]
      simp only
      rw [ih M (i + 1) _ (by omega) (by omega) h2, List.drop_eq_getElem_cons hlt, List.foldl_cons]
      simp [List.getD_eq_getElem?_getD, hlt]
  have := key l.length _ 0 b (by omega) hn h0
  simpa using this
theorem delL_len (l : List (ByteArray × ByteArray)) (k : ByteArray) : (delL l k).length ≤ l.length := List.length_filter_le _ _
theorem appL_len (l : List (ByteArray × ByteArray)) (o : Int × ByteArray × ByteArray) : (appL l o).length ≤ l.length + 1 := by
  simp only [appL]
  cases o.1 == 1
  · cases o.1 == 2
    · simp
    · have := delL_len l o.2.1; simp only [cond_true, cond_false]; omega
  · exact putL_len _ _ _
theorem iputKey_spec (l : List (ByteArray × ByteArray)) (k v : ByteArray) (hl : l.length ≤ 1099511627776) : q_iputKey k v l = true ∧ iputKey k v l = putL l k v := by
  obtain ⟨p1, p2⟩ := pairAt_spec l k hl
  have e1 : it_iputKey_0 k v 0 l = (0, k, v, ((l.findIdx (overK k) : Nat) : Int), l) := by
    have h := itX_find (ss := fun u : V_iputKey_0 => ss_iputKey_0 u.1 u.2.1 u.2.2.1 u.2.2.2) (fa := fl_iputKey_0) (fun i => ((k, v, (i : Int), l) : V_iputKey_0)) l dP (overK k) (fun i => ((0, k, v, (i : Int), l) : A_iputKey_0)) (0, k, v, ((l.length : Nat) : Int), l) (by omega) (fun i hi => ?_) ?_
    · refine h.trans ?_
      by_cases hc : l.findIdx (overK k) < l.length
      · rw [decide_eq_true hc]; rfl
      · have := findIdx_le' (overK k) l
        have he : l.findIdx (overK k) = l.length := by omega
        rw [decide_eq_false hc, he]; rfl
    · have h1 : decide ((i : Int) < ((l.length : Nat) : Int)) = true := decide_eq_true (by omega)
      have h2 : decide (0 ≤ (i : Int) ∧ (i : Int) < ((l.length : Nat) : Int)) = true := decide_eq_true (by omega)
      simp only [ss_iputKey_0, h1, h2, cond_true, Int.toNat_natCast, wrapU i (by omega), getD_dP, overK]
      cases (Op.bytesLess (l.getD i dP).1.toList k.toList || (l.getD i dP).1.toList == k.toList) <;> rfl
    · have h1 : decide (((l.length : Nat) : Int) < ((l.length : Nat) : Int)) = false := decide_eq_false (by omega)
      simp only [ss_iputKey_0, h1, cond_false]
  have hle := findIdx_le' (overK k) l
  simp only [q_iputKey, iputKey, p1, p2, k1_iputKey, e1, q_insP, insP, putL, Int.toNat_natCast]
  cases hc : decide (l.findIdx (isK k) < l.length) with
  | true =>
    have hlt := of_decide_eq_true hc
    have g1 : decide (((l.findIdx (isK k) : Nat) : Int) ≥ 0) = true := decide_eq_true (by omega)
    have g2 : decide (0 ≤ ((l.findIdx (isK k) : Nat) : Int) ∧ ((l.findIdx (isK k) : Nat) : Int) < ((l.length : Nat) : Int)) = true := decide_eq_true (by omega)
    simp only [cond_true, g1, g2, Int.toNat_natCast, Bool.true_and]
    exact ⟨trivial, rfl⟩
  | false =>
    have g1 : decide ((-1 : Int) ≥ 0) = false := by decide
    have g2 : decide (0 ≤ ((l.findIdx (overK k) : Nat) : Int) ∧ ((l.findIdx (overK k) : Nat) : Int) ≤ ((l.length : Nat) : Int)) = true := decide_eq_true (by omega)
    have g3 : decide ((l.length + 1) * 32 ≤ 140737488355328) = true := decide_eq_true (by omega)
    simp only [cond_false, g1, g2, g3, Bool.true_and]
    exact ⟨rfl, rfl⟩
theorem filt1 {α : Type} {p : α → Bool} {x : α} (h : p x = false) : [x].filter p = [] := by simp [List.filter_cons, h]
theorem filt2 {α : Type} {p : α → Bool} {x : α} (h : p x = true) : [x].filter p = [x] := by simp [List.filter_cons, h]
theorem delFunc_loop (l : List (ByteArray × ByteArray)) (k : ByteArray) (hl : l.length ≤ 1099511627776) (j : Nat) (hj : j < l.length) (hpre : (l.take j).filter (fun p => !isK k p) = l.take j) (hat : isK k (l.getD j dP) = true) :
    ∃ r : List (ByteArray × ByteArray), it_slices_DeleteFunc_iPair_0 ((j : Nat) : Int) (((j + 1 : Nat) : Int)) l k = (0, (((delL l k).length : Nat) : Int), r) ∧ r.length = l.length ∧ r.take (delL l k).length = delL l k := by
  refine itX_inv (fun v : V_slices_DeleteFunc_iPair_0 => ∃ (m : Nat) (r : List (ByteArray × ByteArray)), v = (((((l.take m).filter (fun p => !isK k p)).length : Nat) : Int), (m : Int), r) ∧ m ≤ l.length ∧ ((l.take m).filter (fun p => !isK k p)).length < m ∧ r.length = l.length ∧ r.take ((l.take m).filter (fun p => !isK k p)).length = (l.take m).filter (fun p => !isK k p) ∧ r.drop m = l.drop m)
    (fun a : A_slices_DeleteFunc_iPair_0 => ∃ r : List (ByteArray × ByteArray), a = (0, (((delL l k).length : Nat) : Int), r) ∧ r.length = l.length ∧ r.take (delL l k).length = delL l k) (fun v => l.length - v.2.1.toNat) ?_ ⟨j + 1, l, ?_, by omega, ?_, rfl, ?_, rfl⟩ (by simp; omega)
  · rintro v ⟨m, r, rfl, hm, hlt2, hr, ht, hd⟩
    by_cases hlt : m < l.length
    · left
      have h1 : decide ((m : Int) < ((r.length : Nat) : Int)) = true := decide_eq_true (by omega)
      have h2 : decide (0 ≤ (m : Int) ∧ (m : Int) < ((r.length : Nat) : Int)) = true := decide_eq_true (by omega)
      have h3 : decide (0 ≤ ((((l.take m).filter (fun p => !isK k p)).length : Nat) : Int) ∧ ((((l.take m).filter (fun p => !isK k p)).length : Nat) : Int) < ((r.length : Nat) : Int)) = true := decide_eq_true (by omega)
      have hg : r.getD m dP = l.getD m dP := by
        have := congrArg (fun x : List (ByteArray × ByteArray) => x[0]?) hd
        simp only [List.getElem?_drop, Nat.add_zero] at this
        simp only [List.getD_eq_getElem?_getD, this]
      have htk : l.take (m + 1) = l.take m ++ [l.getD m dP] := take_succ_getD hlt dP
      have hdd : ∀ x : List (ByteArray × ByteArray), x.drop m = l.drop m → x.drop (m + 1) = l.drop (m + 1) := fun x hx => by
        rw [← List.drop_drop, ← List.drop_drop, hx]
      cases hc : isK k (l.getD m dP) with
      | true =>
        have hf : (l.take (m + 1)).filter (fun p => !isK k p) = (l.take m).filter (fun p => !isK k p) := by rw [htk, List.filter_append, filt1 (by rw [hc]; rfl), List.append_nil]
        refine ⟨(((((l.take (m + 1)).filter (fun p => !isK k p)).length : Nat) : Int), ((m + 1 : Nat) : Int), r), ?_, ⟨m + 1, r, rfl, by omega, by rw [hf]; omega, hr, by rw [hf]; exact ht, hdd r hd⟩, by simp only [Int.toNat_natCast]; omega⟩
        have hk : k1_slices_DeleteFunc_iPair (m : Int) r k = true := by simp only [k1_slices_DeleteFunc_iPair, iDelKey_1, getD_dP, Int.toNat_natCast, hg]; exact hc
        simp only [ss_slices_DeleteFunc_iPair_0, h1, h2, hk, cond_true, Bool.not_true, cond_false, wrapU m (by omega), hf]
      | false =>
        have hf : (l.take (m + 1)).filter (fun p => !isK k p) = (l.take m).filter (fun p => !isK k p) ++ [l.getD m dP] := by rw [htk, List.filter_append, filt2 (by rw [hc]; rfl)]
        refine ⟨(((((l.take (m + 1)).filter (fun p => !isK k p)).length : Nat) : Int), ((m + 1 : Nat) : Int), r.set ((l.take m).filter (fun p => !isK k p)).length (l.getD m dP)), ?_, ⟨m + 1, _, rfl, by omega, by rw [hf]; simp; omega, by simp [hr], ?_, hdd _ ?_⟩, by simp only [Int.toNat_natCast]; omega⟩
        · have hk : k1_slices_DeleteFunc_iPair (m : Int) r k = false := by simp only [k1_slices_DeleteFunc_iPair, iDelKey_1, getD_dP, Int.toNat_natCast, hg]; exact hc
          have hfl : (((l.take m).filter (fun p => !isK k p)) ++ [l.getD m dP]).length = ((l.take m).filter (fun p => !isK k p)).length + 1 := by simp
          simp only [ss_slices_DeleteFunc_iPair_0, h1, h2, h3, hk, cond_true, Bool.not_false, wrapU m (by omega), wrapU ((l.take m).filter (fun p => !isK k p)).length (by omega), hf, hfl, Int.toNat_natCast, getD_dP, hg]
        · rw [hf, List.length_append, List.length_singleton, List.take_add_one, List.take_set_of_le (Nat.le_refl _), ht]
          congr 1
          simp [List.getElem?_set, show ((l.take m).filter (fun p => !isK k p)).length < r.length by omega]
        · rw [List.drop_set_of_lt hlt2]; exact hd
    · right
      obtain rfl : m = l.length := by omega
      have h1 : decide (((l.length : Nat) : Int) < ((r.length : Nat) : Int)) = false := decide_eq_false (by omega)
      rw [List.take_length] at ht
      refine ⟨(0, (((delL l k).length : Nat) : Int), r), ?_, r, rfl, hr, ht⟩
      simp only [ss_slices_DeleteFunc_iPair_0, h1, cond_false, List.take_length]
      rfl
  · rw [take_succ_getD hj dP, List.filter_append, hpre, filt1 (by rw [hat]; rfl), List.append_nil, List.length_take]; congr 2; omega
  · rw [take_succ_getD hj dP, List.filter_append, hpre, filt1 (by rw [hat]; rfl), List.append_nil, List.length_take]; omega
  · rw [take_succ_getD hj dP, List.filter_append, hpre, filt1 (by rw [hat]; rfl), List.append_nil, List.length_take, Nat.min_eq_left (by omega)]
theorem iDelKey_spec (l : List (ByteArray × ByteArray)) (k : ByteArray) (hl : l.length ≤ 1099511627776) : q_iDelKey l k = true ∧ iDelKey l k = delL l k := by
  have e : it_slices_IndexFunc_iPair_iDelKey_1_0 ((l.length : Nat) : Int) 0 l k = cond (decide (l.findIdx (isK k) < l.length)) (0, ((l.findIdx (isK k) : Nat) : Int)) (1, 0) := by
    refine itX_find (ss := fun v : V_slices_IndexFunc_iPair_iDelKey_1_0 => ss_slices_IndexFunc_iPair_iDelKey_1_0 v.1 v.2 l k) (fa := fl_slices_IndexFunc_iPair_iDelKey_1_0) (fun i => ((((l.length : Nat) : Int), (i : Int)) : V_slices_IndexFunc_iPair_iDelKey_1_0)) l dP (isK k) (fun i => ((0, (i : Int)) : A_slices_IndexFunc_iPair_iDelKey_1_0)) _ (by omega) (fun i hi => ?_) ?_
    · have h1 : decide ((i : Int) < ((l.length : Nat) : Int)) = true := decide_eq_true (by omega)
      have h2 : decide (0 ≤ (i : Int) ∧ (i : Int) < ((l.length : Nat) : Int)) = true := decide_eq_true (by omega)
      simp only [ss_slices_IndexFunc_iPair_iDelKey_1_0, h1, h2, cond_true, Int.toNat_natCast, wrapU i (by omega), getD_dP, k1_slices_IndexFunc_iPair_iDelKey_1, iDelKey_1]
      rfl
    · have h1 : decide (((l.length : Nat) : Int) < ((l.length : Nat) : Int)) = false := decide_eq_false (by omega)
      simp only [ss_slices_IndexFunc_iPair_iDelKey_1_0, h1, cond_false]
  have hq : q_slices_Clone_iPair l = true := decide_eq_true (by simp [MAXB]; omega)
  have hdf : q_slices_DeleteFunc_iPair l k = true ∧ (slices_DeleteFunc_iPair l k).1 = delL l k := by
    have hidx : q_slices_IndexFunc_iPair_iDelKey_1 l k = true ∧ slices_IndexFunc_iPair_iDelKey_1 l k = cond (decide (l.findIdx (isK k) < l.length)) ((l.findIdx (isK k) : Nat) : Int) (-1) := by
      simp only [q_slices_IndexFunc_iPair_iDelKey_1, slices_IndexFunc_iPair_iDelKey_1, e]
      cases decide (l.findIdx (isK k) < l.length) <;> exact ⟨rfl, rfl⟩
    simp only [q_slices_DeleteFunc_iPair, slices_DeleteFunc_iPair, k2_slices_DeleteFunc_iPair, hidx.1, hidx.2, Bool.true_and]
    cases hc : decide (l.findIdx (isK k) < l.length) with
    | false =>
      have hge := of_decide_eq_false hc
      simp only [cond_false, show ((-1 : Int) == -1) = true from rfl, cond_true]
      refine ⟨trivial, ?_⟩
      symm
      apply List.filter_eq_self.2
      intro p hp
      have := List.findIdx_eq_length.1 (show l.findIdx (isK k) = l.length by have := findIdx_le' (isK k) l; omega) p hp
      rw [this]; rfl
    | true =>
      have hlt := of_decide_eq_true hc
      have hat : isK k (l.getD (l.findIdx (isK k)) dP) = true := by
        have := List.findIdx_getElem (w := hlt)
        simpa [List.getD_eq_getElem?_getD, hlt] using this
      have hpre : (l.take (l.findIdx (isK k))).filter (fun p => !isK k p) = l.take (l.findIdx (isK k)) := by
        apply List.filter_eq_self.2
        intro p hp
        obtain ⟨i, hi, rfl⟩ := List.mem_iff_getElem.1 hp
        rw [List.length_take] at hi
        have := List.not_of_lt_findIdx (p := isK k) (xs := l) (i := i) (by omega)
        simpa using this
      obtain ⟨r, r1, r2, r3⟩ := delFunc_loop l k hl _ hlt hpre hat
      have hne : (((l.findIdx (isK k) : Nat) : Int) == -1) = false := by simp only [beq_eq_false_iff_ne]; omega
      have hdl := delL_len l k
      simp only [cond_true, hne, cond_false, wrapU _ (show l.findIdx (isK k) < 9223372036854775807 by omega), r1, Int.toNat_natCast]
      constructor
      · simp only [Bool.and_eq_true, decide_eq_true_eq, List.length_append, List.length_take, List.length_replicate, List.length_drop]
        refine ⟨rfl, ?_, ?_⟩ <;> omega
      · rw [r3, List.append_assoc, List.take_left']
        rfl
  simp only [q_iDelKey, iDelKey, slices_Clone_iPair, hq, hdf.1, hdf.2, Bool.and_self]
  exact ⟨trivial, trivial⟩
theorem iApply_spec (m : List (ByteArray × ByteArray)) (l : List (Int × ByteArray × ByteArray)) (hm : m.length ≤ 1000000000) (hl : l.length ≤ 1000000000) : q_iApply m l = true ∧ iApply m l = l.foldl appL m := by
  have h : it_iApply_0 l ((l.length : Nat) : Int) 0 m = (0, l.foldl appL m) := by
    refine itX_fold (ss := fun v : V_iApply_0 => ss_iApply_0 v.1 v.2.1 v.2.2.1 v.2.2.2) (fa := fl_iApply_0) (fun i b => ((l, ((l.length : Nat) : Int), (i : Int), b) : V_iApply_0)) l dOp appL (fun b => ((0, b) : A_iApply_0)) (fun i b => b.length ≤ m.length + i) (by omega) (fun i b hi hb => ⟨?_, by have := appL_len b (l.getD i dOp); omega⟩) (fun b hb => ?_) (by simp)
    · have h1 : decide ((i : Int) < ((l.length : Nat) : Int)) = true := decide_eq_true (by omega)
      have h2 : decide (0 ≤ (i : Int) ∧ (i : Int) < ((l.length : Nat) : Int)) = true := decide_eq_true (by omega)
      have e : l.getD i ((0 : Int), ((⟨#[]⟩ : ByteArray), (⟨#[]⟩ : ByteArray))) = l.getD i dOp := rfl
      obtain ⟨p1, p2⟩ := iputKey_spec b (l.getD i dOp).2.1 (l.getD i dOp).2.2 (by omega)
      obtain ⟨d1, d2⟩ := iDelKey_spec b (l.getD i dOp).2.1 (by omega)
      simp only [ss_iApply_0, h1, h2, cond_true, Int.toNat_natCast, wrapU i (by omega), e, k1_iApply, k2_iApply, p1, p2, d1, d2, appL]
      cases (l.getD i dOp).1 == 1 <;> cases (l.getD i dOp).1 == 2 <;> rfl
    · have h1 : decide (((l.length : Nat) : Int) < ((l.length : Nat) : Int)) = false := decide_eq_false (by omega)
      simp only [ss_iApply_0, h1, cond_false]
  have hq : q_slices_Clone_iPair m = true := decide_eq_true (by simp [MAXB]; omega)
  simp only [q_iApply, iApply, slices_Clone_iPair, h, hq]
  exact ⟨rfl, trivial⟩
theorem sDelKey_spec (l : List (ByteArray × ByteArray)) (k : ByteArray) (hl : l.length ≤ 1099511627776) : q_sDelKey l k = true ∧ sDelKey l k = delL l k := by
  have h : it_sDelKey_0 l k 0 [] = (0, delL l k) := by
    refine itX_of (fun v : V_sDelKey_0 => ∃ i : Nat, v = (l, k, (i : Int), (l.take i).filter (fun p => !isK k p)) ∧ i ≤ l.length) (fun v => (0, v.2.2.2 ++ (l.drop v.2.2.1.toNat).filter (fun p => !isK k p))) (fun v => l.length - v.2.2.1.toNat) (fun v hv => ?_) ⟨0, rfl, by omega⟩ (by simp; omega)
    obtain ⟨i, rfl, hi⟩ := hv
    by_cases hlt : i < l.length
    · left
      have h1 : decide ((i : Int) < ((l.length : Nat) : Int)) = true := decide_eq_true (by omega)
      have h2 : decide (0 ≤ (i : Int) ∧ (i : Int) < ((l.length : Nat) : Int)) = true := decide_eq_true (by omega)
      have hfl := List.length_filter_le (fun p => !isK k p) (l.take i)
      rw [List.length_take] at hfl
      have h3 : ∀ x : ByteArray × ByteArray, decide ((((l.take i).filter (fun p => !isK k p)).length + [x].length) * 32 ≤ MAXB) = true := fun x => decide_eq_true (by simp only [MAXB, List.length_singleton]; omega)
      have hd : l.drop i = l.getD i dP :: l.drop (i + 1) := by rw [List.drop_eq_getElem_cons hlt]; simp [List.getD_eq_getElem?_getD, hlt]
      have ht : l.take (i + 1) = l.take i ++ [l.getD i dP] := take_succ_getD hlt dP
      refine ⟨(l, k, ((i + 1 : Nat) : Int), (l.take (i + 1)).filter (fun p => !isK k p)), ?_, ⟨i + 1, rfl, by omega⟩, ?_, by simp only [Int.toNat_natCast]; omega⟩
      · simp only [ss_sDelKey_0, h1, h2, h3, cond_true, Int.toNat_natCast, wrapU i (by omega), getD_dP, ht, List.filter_append, List.filter_cons, List.filter_nil]
        show cond (!isK k (l.getD i dP)) _ _ = _
        cases isK k (l.getD i dP) <;> simp
      · simp only [Int.toNat_natCast, ht, hd, List.filter_append, List.filter_cons, List.filter_nil]
        cases isK k (l.getD i dP) <;> simp
    · right
      obtain rfl : i = l.length := by omega
      have h1 : decide (((l.length : Nat) : Int) < ((l.length : Nat) : Int)) = false := decide_eq_false (by omega)
      simp only [ss_sDelKey_0, h1, cond_false, Int.toNat_natCast, List.drop_length, List.filter_nil, List.append_nil]
  exact ⟨by simp only [q_sDelKey, h]; rfl, by simp only [sDelKey, h]⟩
theorem sApply_spec (m : List (ByteArray × ByteArray)) (l : List (Int × ByteArray × ByteArray)) (hm : m.length ≤ 1000000000) (hl : l.length ≤ 1000000000) : q_sApply m l = true ∧ sApply m l = l.foldl appL m := by
  have h : it_sApply_0 l 0 m = (0, l.foldl appL m) := by
    refine itX_fold (ss := fun v : V_sApply_0 => ss_sApply_0 v.1 v.2.1 v.2.2) (fa := fl_sApply_0) (fun i b => ((l, (i : Int), b) : V_sApply_0)) l dOp appL (fun b => ((0, b) : A_sApply_0)) (fun i b => b.length ≤ m.length + i) (by omega) (fun i b hi hb => ⟨?_, by have := appL_len b (l.getD i dOp); omega⟩) (fun b hb => ?_) (by simp)
    · have h1 : decide ((i : Int) < ((l.length : Nat) : Int)) = true := decide_eq_true (by omega)
      have h2 : decide (0 ≤ (i : Int) ∧ (i : Int) < ((l.length : Nat) : Int)) = true := decide_eq_true (by omega)
      have e : l.getD i ((0 : Int), ((⟨#[]⟩ : ByteArray), (⟨#[]⟩ : ByteArray))) = l.getD i dOp := rfl
      obtain ⟨p1, p2⟩ := sPutKey_spec b (l.getD i dOp).2.1 (l.getD i dOp).2.2 (by omega)
      obtain ⟨d1, d2⟩ := sDelKey_spec b (l.getD i dOp).2.1 (by omega)
      simp only [ss_sApply_0, h1, h2, cond_true, Int.toNat_natCast, wrapU i (by omega), e, k1_sApply, k2_sApply, p1, p2, d1, d2, appL]
      cases (l.getD i dOp).1 == 1 <;> cases (l.getD i dOp).1 == 2 <;> rfl
    · have h1 : decide (((l.length : Nat) : Int) < ((l.length : Nat) : Int)) = false := decide_eq_false (by omega)
      simp only [ss_sApply_0, h1, cond_false]
  have hq : decide ((([] : List (ByteArray × ByteArray)).length + m.length) * 32 ≤ MAXB) = true := decide_eq_true (by simp [MAXB]; omega)
  simp only [q_sApply, sApply, List.nil_append, h, hq]
  exact ⟨rfl, trivial⟩
theorem foldl_appL_len (ops : List (Int × ByteArray × ByteArray)) : ∀ l, (ops.foldl appL l).length ≤ l.length + ops.length := by
  induction ops with
  | nil => intro l; simp
  | cons o r ih => intro l; have := ih (appL l o); have := appL_len l o; simp only [List.foldl_cons, List.length_cons]; omega
theorem find_none {A : List (ByteArray × ByteArray)} {k : ByteArray} (h : ∀ x ∈ A, x.1 ≠ k) : A.find? (isK k) = none := by
  rw [List.find?_eq_none]
  intro x hx
  rw [isK_iff]; simpa using h x hx
theorem getL_put (l : List (ByteArray × ByteArray)) (k v k' : ByteArray) : getL (putL l k v) k' = if k' = k then some v else getL l k' := by
  rcases put_shape l k v with ⟨A, B, p, rfl, hp, hA, e⟩ | ⟨A, B, rfl, hall, e, _, _⟩
  · simp only [getL, e, List.find?_append, List.find?_cons, isK_iff, hp]
    by_cases hk : k' = k
    · subst hk
      have : A.find? (isK k') = none := find_none hA
      have h2 : A.find? (fun p => decide (p.1 = k')) = none := by rw [← this]; congr 1; funext p; exact (isK_iff _ _).symm
      simp only [if_true]
      rw [show (List.find? (isK k') A) = none from this]
      simp
    · simp [hk, Ne.symm hk]
  · simp only [getL, e, List.find?_append, List.find?_cons, isK_iff]
    by_cases hk : k' = k
    · subst hk
      have : A.find? (isK k') = none := find_none (fun x hx => hall x (List.mem_append_left _ hx))
      rw [this]
      simp
    · simp [hk, Ne.symm hk]
theorem getL_del (l : List (ByteArray × ByteArray)) (k k' : ByteArray) : getL (delL l k) k' = if k' = k then none else getL l k' := by
  simp only [getL, delL]
  rw [List.find?_filter]
  by_cases hk : k' = k
  · subst hk
    rw [if_pos rfl]
    have : l.find? (fun a => decide (((!isK k' a) = true) ∧ isK k' a = true)) = none := by
      rw [List.find?_eq_none]; intro x _; simp
    simp [this]
  · rw [if_neg hk]
    congr 2
    funext a
    rw [isK_iff, isK_iff]
    by_cases h1 : a.1 = k'
    · simp [h1, hk]
    · simp [h1]
theorem getL_app (l : List (ByteArray × ByteArray)) (o : Int × ByteArray × ByteArray) (k : ByteArray) : getL (appL l o) k = if k = o.2.1 then (if o.1 = 1 then some o.2.2 else if o.1 = 2 then none else getL l k) else getL l k := by
  simp only [appL]
  by_cases h1 : o.1 = 1
  · simp only [h1, beq_self_eq_true, cond_true, if_true]; exact getL_put l o.2.1 o.2.2 k
  · have e1 : (o.1 == 1) = false := by simpa using h1
    by_cases h2 : o.1 = 2
    · simp only [e1, cond_false, h2, beq_self_eq_true, cond_true, if_neg h1]
      exact getL_del l o.2.1 k
    · have e2 : (o.1 == 2) = false := by simpa using h2
      simp only [e1, e2, cond_false, if_neg h1, if_neg h2]
      split <;> rfl
theorem fold_other : ∀ (ops : List (Int × ByteArray × ByteArray)) (m : List (ByteArray × ByteArray)) (k : ByteArray), (∀ o ∈ ops, o.2.1 ≠ k) → getL (ops.foldl appL m) k = getL m k
  | [], _, _, _ => rfl
  | o :: ops, m, k, h => by
    rw [List.foldl_cons, fold_other ops _ k (fun x hx => h x (List.mem_cons_of_mem _ hx)), getL_app, if_neg (Ne.symm (h o List.mem_cons_self))]
theorem fold_says : ∀ (ops : List (Int × ByteArray × ByteArray)) (m : List (ByteArray × ByteArray)), ops.Pairwise (fun a b => a.2.1 ≠ b.2.1) → ∀ o ∈ ops, opSays m (ops.foldl appL m) o
  | [], _, _, o, h => by simp at h
  | p :: ops, m, hp, o, h => by
    obtain ⟨h1, h2⟩ := List.pairwise_cons.1 hp
    rw [List.foldl_cons]
    rcases List.mem_cons.1 h with rfl | h
    · unfold opSays
      rw [fold_other ops _ _ (fun x hx => Ne.symm (h1 x hx)), getL_app, if_pos rfl]
    · have := fold_says ops (appL m p) h2 o h
      unfold opSays at this ⊢
      rw [this, getL_app, if_neg (Ne.symm (h1 o h))]
theorem del_srt {l : List (ByteArray × ByteArray)} (h : l.Pairwise ltP) (k : ByteArray) : (delL l k).Pairwise ltP := h.filter _
theorem goodP_del {l : List (ByteArray × ByteArray)} (h : goodP l) (k : ByteArray) : goodP (delL l k) := ⟨del_srt h.1 k, fun p hp => h.2 p (List.mem_filter.1 hp).1⟩
theorem goodP_app {l : List (ByteArray × ByteArray)} (h : goodP l) {o : Int × ByteArray × ByteArray} (hk : o.2.1 ∈ keys7) (hv : o.2.2.size ≤ 20) : goodP (appL l o) := by
  simp only [appL]
  cases o.1 == 1
  · cases o.1 == 2
    · exact h
    · exact goodP_del h _
  · exact goodP_put h hk hv
theorem goodP_fold : ∀ (ops : List (Int × ByteArray × ByteArray)) (l : List (ByteArray × ByteArray)), goodP l → (∀ o ∈ ops, o.2.1 ∈ keys7 ∧ o.2.2.size ≤ 20) → goodP (ops.foldl appL l)
  | [], _, h, _ => h
  | o :: ops, l, h, ho => by
    rw [List.foldl_cons]
    have := ho o List.mem_cons_self
    exact goodP_fold ops _ (goodP_app h this.1 this.2) (fun x hx => ho x (List.mem_cons_of_mem _ hx))
theorem putP_same {l : List (ByteArray × ByteArray)} {k v : ByteArray} (h : getL l k = some v) : putL l k v = l := by
  rcases put_shape l k v with ⟨A, B, p, rfl, hp, hA, e⟩ | ⟨A, B, e0, hall, e, _, _⟩
  · rw [e]
    have hn := find_none hA
    simp only [getL, List.find?_append, hn, List.find?_cons, isK_iff, hp, decide_true] at h
    simp only [Option.none_or, Option.map_some, Option.some.injEq] at h
    rw [← hp, ← h]
  · have := find_none hall
    simp [getL, this] at h
theorem delP_same {l : List (ByteArray × ByteArray)} {k : ByteArray} (h : getL l k = none) : delL l k = l := by
  apply List.filter_eq_self.2
  intro p hp
  simp only [getL, Option.map_eq_none_iff, List.find?_eq_none] at h
  have := h p hp
  simpa using this
theorem app_same {m x : List (ByteArray × ByteArray)} {o : Int × ByteArray × ByteArray} (h : opSays m x o) : appL x o = x := by
  unfold opSays at h
  simp only [appL]
  by_cases h1 : o.1 = 1
  · rw [if_pos h1] at h
    simp only [h1, beq_self_eq_true, cond_true]; exact putP_same h
  · have e1 : (o.1 == 1) = false := by simpa using h1
    rw [if_neg h1] at h
    by_cases h2 : o.1 = 2
    · rw [if_pos h2] at h
      simp only [e1, cond_false, h2, beq_self_eq_true, cond_true]; exact delP_same h
    · have e2 : (o.1 == 2) = false := by simpa using h2
      simp only [e1, e2, cond_false]
theorem fold_same {m x : List (ByteArray × ByteArray)} : ∀ (ops : List (Int × ByteArray × ByteArray)), (∀ o ∈ ops, opSays m x o) → ops.foldl appL x = x
  | [], _ => rfl
  | o :: ops, h => by rw [List.foldl_cons, app_same (h o List.mem_cons_self)]; exact fold_same ops (fun y hy => h y (List.mem_cons_of_mem _ hy))
theorem samePairs_self {l : List (ByteArray × ByteArray)} (hl : l.length ≤ 1099511627776) : q_lsamePairs l l = true ∧ lsamePairs l l = true := by
  have h : it_lsamePairs_0 l l 0 = (1, false) := by
    refine (itX_scan (ss := fun v : V_lsamePairs_0 => ss_lsamePairs_0 v.1 v.2.1 v.2.2) (fa := fl_lsamePairs_0) (fun i => ((l, l, (i : Int)) : V_lsamePairs_0)) l.length (fun _ => none) ((1, false) : A_lsamePairs_0) (by omega) (fun i hi => ?_) ?_).trans ?_
    · have h1 : decide ((i : Int) < ((l.length : Nat) : Int)) = true := decide_eq_true (by omega)
      have h2 : decide (0 ≤ (i : Int) ∧ (i : Int) < ((l.length : Nat) : Int)) = true := decide_eq_true (by omega)
      simp only [ss_lsamePairs_0, h1, h2, cond_true, beq_self_eq_true, Bool.and_self, Bool.not_true, cond_false, wrapU i (by omega)]
    · have h1 : decide (((l.length : Nat) : Int) < ((l.length : Nat) : Int)) = false := decide_eq_false (by omega)
      simp only [ss_lsamePairs_0, h1, cond_false]
    · rcases scanA_cases (fun _ => (none : Option A_lsamePairs_0)) (1, false) l.length 0 with ⟨j, a, _, _, h3, _⟩ | ⟨_, h2⟩
      · cases h3
      · exact h2
  have e0 : ((((l.length : Nat) : Int) != ((l.length : Nat) : Int)) = false) := by simp
  have e1 : ((1 : Nat) == 0) = false := rfl
  simp only [q_lsamePairs, lsamePairs, e0, h, e1, cond_false]
  exact ⟨rfl, trivial⟩
theorem keys7_iok {s : ByteArray} (h : s ∈ keys7) : iKeyOk s = true := by
  simp only [keys7, List.mem_cons, List.mem_nil_iff, or_false] at h
  rcases h with rfl | rfl | rfl | rfl | rfl | rfl | rfl <;> rfl
theorem iPairsOk_spec {l : List (ByteArray × ByteArray)} (h : goodP l) (hl : l.length ≤ 60) : q_iPairsOk l = true ∧ iPairsOk l = true := by
  have hpk : ∀ p ∈ l, q_iPairOk p.1 p.2 = true ∧ iPairOk p.1 p.2 = true := fun p hp => by
    obtain ⟨h1, h2⟩ := h.2 p hp
    have hs := keys7_size h1
    have hk : iKeyOk p.1 = true := keys7_iok h1
    have hq : okS p.1 = true := decide_eq_true (by omega)
    simp only [q_iPairOk, iPairOk, q_iKeyOk, hq, hk, cond_true, decide_eq_true (show ((p.2.size : Nat) : Int) ≤ 20 by omega)]
    exact ⟨trivial, trivial⟩
  have e : it_iPairsOk_0 l l ((l.length : Nat) : Int) 0 = (1, false, l) := by
    refine (itX_scan (ss := fun v : V_iPairsOk_0 => ss_iPairsOk_0 v.1 v.2.1 v.2.2.1 v.2.2.2) (fa := fl_iPairsOk_0) (fun i => ((l, l, ((l.length : Nat) : Int), (i : Int)) : V_iPairsOk_0)) l.length (fun _ => none) ((1, false, l) : A_iPairsOk_0) (by omega) (fun i hi => ?_) ?_).trans ?_
    · have h1 : decide ((i : Int) < ((l.length : Nat) : Int)) = true := decide_eq_true (by omega)
      have h2 : decide (0 ≤ (i : Int) ∧ (i : Int) < ((l.length : Nat) : Int)) = true := decide_eq_true (by omega)
      obtain ⟨p1, p2⟩ := hpk (l.getD i dP) (getD_mem hi dP)
      simp only [ss_iPairsOk_0, h1, h2, cond_true, Int.toNat_natCast, wrapU i (by omega), getD_dP, k1_iPairsOk, p1, p2, Bool.not_true, cond_false]
      cases i with
      | zero => rfl
      | succ j =>
        have w : IntKind.wrap .i64 (((j + 1 : Nat) : Int) - 1) = ((j : Nat) : Int) := by rw [wrap64 (by omega) (by omega)]; omega
        have e1 : decide (((j + 1 : Nat) : Int) > 0) = true := decide_eq_true (by omega)
        have e2 : decide (0 ≤ ((j : Nat) : Int) ∧ ((j : Nat) : Int) < ((l.length : Nat) : Int)) = true := decide_eq_true (by omega)
        have h9 : ltP (l.getD j dP) (l.getD (j + 1) dP) := pw_take h.1 (j + 1) hi dP _ (by rw [take_succ_getD (by omega) dP]; simp)
        have h8 : Op.bytesLess (l.getD (j + 1) dP).1.toList (l.getD j dP).1.toList = false := by
          cases hb : Op.bytesLess (l.getD (j + 1) dP).1.toList (l.getD j dP).1.toList with
          | false => rfl
          | true => have := bytesLess_trans _ _ _ h9 hb; rw [bytesLess_irrefl] at this; cases this
        have h7 : ((l.getD (j + 1) dP).1.toList == (l.getD j dP).1.toList) = false := by
          rw [beq_eq_false_iff_ne]; intro e; unfold ltP at h9; rw [e, bytesLess_irrefl] at h9; cases h9
        simp only [w, e1, e2, cond_true, Int.toNat_natCast, h8, h7, Bool.or_self, cond_false]
    · have h1 : decide (((l.length : Nat) : Int) < ((l.length : Nat) : Int)) = false := decide_eq_false (by omega)
      simp only [ss_iPairsOk_0, h1, cond_false]
    · rcases scanA_cases (fun _ => (none : Option A_iPairsOk_0)) (1, false, l) l.length 0 with ⟨j, a, _, _, h3, _⟩ | ⟨_, h2⟩
      · cases h3
      · exact h2
  have e1 : ((1 : Nat) == 0) = false := rfl
  simp only [q_iPairsOk, iPairsOk, e, e1, cond_false, decide_eq_true (show ((l.length : Nat) : Int) ≤ 60 by omega)]
  exact ⟨rfl, trivial⟩
theorem okB.getD {b : List Int} (h : okB b) (i : Nat) : 0 ≤ b.getD i 0 ∧ b.getD i 0 ≤ 255 := by
  rw [List.getD_eq_getElem?_getD]
  cases e : b[i]? with
  | none => simp
  | some c => exact h c (List.mem_of_getElem? e)
theorem sDrawOps_spec {b : List Int} (hb : okB b) (hl : b.length ≤ 1048576) : q_sDrawOps b = true ∧ goodP (sDrawOps b).1 ∧ (sDrawOps b).1.length ≤ 7 ∧ drawnO (sDrawOps b).2 ∧ 1 ≤ (sDrawOps b).2.length ∧ (sDrawOps b).2.length ≤ 4 := by
  obtain ⟨a1, a2, a3⟩ := sl1New_spec hb hl
  have a3' : cOk (sl1New b).1 (sl1New b).2.1 := by rw [a2]; exact a3
  obtain ⟨b1, b2, b3, b4, b5⟩ := sl3Draw_spec a3' (sl1New b).2.2
  have b3' : cOk (sl3Draw (sl1New b).1 (sl1New b).2.1 (sl1New b).2.2).1 (sl3Draw (sl1New b).1 (sl1New b).2.1 (sl1New b).2.2).2.1 := by rw [b2]; exact b3
  obtain ⟨c1, c2, c3, c4, c5, c6⟩ := sl7Draw_spec b3' (sl3Draw (sl1New b).1 (sl1New b).2.1 (sl1New b).2.2).2.2.1
  simp only [q_sDrawOps, sDrawOps, k1_sDrawOps, a1, b1, c1, Bool.and_self]
  exact ⟨trivial, b4, b5, c4, c5, c6⟩
theorem applied_loop {m x : List (ByteArray × ByteArray)} {l : List (Int × ByteArray × ByteArray)} (hm : m.length ≤ 1000) (hx : x.length ≤ 1000) (hl : l.length ≤ 1000) (hd : drawnO l) (hs : ∀ o ∈ l, opSays m x o) : it_lFnApplied_0 m l 0 x = (1, false, m, l, x) := by
  refine (itX_scan (ss := fun v : V_lFnApplied_0 => ss_lFnApplied_0 v.1 v.2.1 v.2.2.1 v.2.2.2) (fa := fl_lFnApplied_0) (fun i => ((m, l, (i : Int), x) : V_lFnApplied_0)) l.length (fun _ => none) ((1, false, m, l, x) : A_lFnApplied_0) (by omega) (fun i hi => ?_) ?_).trans ?_
  · have h1 : decide ((i : Int) < ((l.length : Nat) : Int)) = true := decide_eq_true (by omega)
    have h2 : decide (0 ≤ (i : Int) ∧ (i : Int) < ((l.length : Nat) : Int)) = true := decide_eq_true (by omega)
    have hmem := getD_mem hi dOp
    have hg := (hd.2 _ hmem).1
    have hsay := hs _ hmem
    have e : l.getD i ((0 : Int), ((⟨#[]⟩ : ByteArray), (⟨#[]⟩ : ByteArray))) = l.getD i dOp := rfl
    simp only [ss_lFnApplied_0, h1, h2, cond_true, Int.toNat_natCast, wrapU i (by omega), e, k1_lFnApplied, k2_lFnApplied]
    generalize l.getD i dOp = o at *
    obtain ⟨x1, x2⟩ := iGetKey_spec x o.2.1 (by omega)
    obtain ⟨m1, m2⟩ := iGetKey_spec m o.2.1 (by omega)
    rw [x1, x2, m1, m2]
    unfold opSays at hsay
    obtain ⟨_, (⟨hk, _⟩ | ⟨hk, _⟩)⟩ := hg
    · rcases hk with hk | hk
      · rw [if_pos hk] at hsay
        simp only [hsay, hk, cond_true, cond_false, beq_self_eq_true, Bool.not_true, show ((1 : Int) == 2) = false from rfl, show ((1 : Int) == 3) = false from rfl]
      · rw [if_neg (by omega), if_neg (by omega)] at hsay
        simp only [hsay, hk, cond_true, cond_false, show ((3 : Int) == 2) = false from rfl, show ((3 : Int) == 1) = false from rfl, show ((3 : Int) == 3) = true from rfl]
        cases getL m o.2.1 <;> simp
    · rw [if_neg (by omega), if_pos hk] at hsay
      simp only [hsay, hk, cond_true, cond_false, show ((2 : Int) == 2) = true from rfl, show ((2 : Int) == 1) = false from rfl, show ((2 : Int) == 3) = false from rfl]
  · have h1 : decide (((l.length : Nat) : Int) < ((l.length : Nat) : Int)) = false := decide_eq_false (by omega)
    simp only [ss_lFnApplied_0, h1, cond_false]
  · rcases scanA_cases (fun _ => (none : Option A_lFnApplied_0)) (1, false, m, l, x) l.length 0 with ⟨j, a, _, _, h3, _⟩ | ⟨_, h2⟩
    · cases h3
    · exact h2
theorem applied_all {b : List Int} (h : bigT (.sl (.int .u8)) b = true) : q_lFnApplied b = true ∧ lFnApplied b = true := by
  have hb := bigB_ok h
  cases hd : lbig b with
  | true => simp only [q_lFnApplied, lFnApplied, hd, cond_true]; exact ⟨trivial, trivial⟩
  | false =>
    have hl : b.length ≤ 1048576 := by simp only [lbig] at hd; have := of_decide_eq_false hd; omega
    obtain ⟨a1, a2, a3, a4, a5, a6⟩ := sDrawOps_spec hb hl
    generalize hm : (sDrawOps b).1 = m at *
    generalize ho : (sDrawOps b).2 = l at *
    obtain ⟨i1, i2⟩ := iApply_spec m l (by omega) (by omega)
    obtain ⟨s1, s2⟩ := sApply_spec m l (by omega) (by omega)
    have hlen := foldl_appL_len l m
    have hkeys : l.Pairwise (fun a b => a.2.1 ≠ b.2.1) := a4.1.imp (fun {a b} hab e => by unfold ltO at hab; rw [e, bytesLess_irrefl] at hab; cases hab)
    have hsays := fold_says l m hkeys
    have hgood : goodP (l.foldl appL m) := goodP_fold l m a2 (fun o ho => by
      obtain ⟨⟨g1, g2⟩, g3, g4⟩ := a4.2 o ho
      exact ⟨g1, g4⟩)
    have hsame := fold_same l hsays
    obtain ⟨j1, j2⟩ := iApply_spec (l.foldl appL m) l (by omega) (by omega)
    rw [hsame] at j2
    have k3 : k3_lFnApplied b = (1, false, m, l, l.foldl appL m) := by
      simp only [k3_lFnApplied, hm, ho, i2]
      exact applied_loop (by omega) (by omega) (by omega) a4 hsays
    obtain ⟨p1, p2⟩ := samePairs_self (l := l.foldl appL m) (by omega)
    obtain ⟨o1, o2⟩ := iPairsOk_spec hgood (by omega)
    have e0 : ((1 : Nat) == 0) = false := rfl
    have e1 : ((1 : Nat) == 1) = true := rfl
    simp only [q_lFnApplied, lFnApplied, hd, cond_false, a1, hm, ho, i1, k3, e0, e1, k4_lFnApplied, k5_lFnApplied, j1, j2, p1, p2, cond_true, s1, s2, o1, o2, Bool.and_self]
    exact ⟨trivial, trivial⟩
theorem pre_of_lFnApplied (b : List Int) (h : bigT (.sl (.int .u8)) b = true) : pre_lFnApplied (b, ()) = true := (applied_all h).1
theorem exact_lFnApplied (b : List Int) (h : bigT (.sl (.int .u8)) b = true) : lFnApplied b = true := (applied_all h).2

end Go.Proofs.Ytoddiofedjnapaa.Eng

/- What the functions that FnExactApply reaches compute: further. -/
import Derived.Test.YtoddiofedjnapaaFExactApplyA
namespace Go.Proofs.Ytoddiofedjnapaa.Eng
open Go Go.RowKit
set_option linter.unusedSimpArgs false
set_option linter.unusedVariables false
set_option maxRecDepth 10000
/-! 50 loop.example/g00244/laws.markOpS -/

noncomputable def f_lmarkOpS_0 (i : Nat) (b : Int × List (Int × ByteArray × ByteArray)) : Int × List (Int × ByteArray × ByteArray) := (IntKind.wrap .i64 ((IntKind.wrap .i64 ((IntKind.wrap .i64 (b.1 + (1 : Int))) + (1 : Int))) + (1 : Int)), ((b.2.set i (b.1, (((b.2.getD i ((0 : Int), ((⟨#[]⟩ : ByteArray), (⟨#[]⟩ : ByteArray)))).2).1, ((b.2.getD i ((0 : Int), ((⟨#[]⟩ : ByteArray), (⟨#[]⟩ : ByteArray)))).2).2))).set i (((b.2.set i (b.1, (((b.2.getD i ((0 : Int), ((⟨#[]⟩ : ByteArray), (⟨#[]⟩ : ByteArray)))).2).1, ((b.2.getD i ((0 : Int), ((⟨#[]⟩ : ByteArray), (⟨#[]⟩ : ByteArray)))).2).2))).getD i ((0 : Int), ((⟨#[]⟩ : ByteArray), (⟨#[]⟩ : ByteArray)))).1, ((lmarkText (IntKind.wrap .i64 (b.1 + (1 : Int)))), (((b.2.set i (b.1, (((b.2.getD i ((0 : Int), ((⟨#[]⟩ : ByteArray), (⟨#[]⟩ : ByteArray)))).2).1, ((b.2.getD i ((0 : Int), ((⟨#[]⟩ : ByteArray), (⟨#[]⟩ : ByteArray)))).2).2))).getD i ((0 : Int), ((⟨#[]⟩ : ByteArray), (⟨#[]⟩ : ByteArray)))).2).2))).set i ((((b.2.set i (b.1, (((b.2.getD i ((0 : Int), ((⟨#[]⟩ : ByteArray), (⟨#[]⟩ : ByteArray)))).2).1, ((b.2.getD i ((0 : Int), ((⟨#[]⟩ : ByteArray), (⟨#[]⟩ : ByteArray)))).2).2))).set i (((b.2.set i (b.1, (((b.2.getD i ((0 : Int), ((⟨#[]⟩ : ByteArray), (⟨#[]⟩ : ByteArray)))).2).1, ((b.2.getD i ((0 : Int), ((⟨#[]⟩ : ByteArray), (⟨#[]⟩ : ByteArray)))).2).2))).getD i ((0 : Int), ((⟨#[]⟩ : ByteArray), (⟨#[]⟩ : ByteArray)))).1, ((lmarkText (IntKind.wrap .i64 (b.1 + (1 : Int)))), (((b.2.set i (b.1, (((b.2.getD i ((0 : Int), ((⟨#[]⟩ : ByteArray), (⟨#[]⟩ : ByteArray)))).2).1, ((b.2.getD i ((0 : Int), ((⟨#[]⟩ : ByteArray), (⟨#[]⟩ : ByteArray)))).2).2))).getD i ((0 : Int), ((⟨#[]⟩ : ByteArray), (⟨#[]⟩ : ByteArray)))).2).2))).getD i ((0 : Int), ((⟨#[]⟩ : ByteArray), (⟨#[]⟩ : ByteArray)))).1, (((((b.2.set i (b.1, (((b.2.getD i ((0 : Int), ((⟨#[]⟩ : ByteArray), (⟨#[]⟩ : ByteArray)))).2).1, ((b.2.getD i ((0 : Int), ((⟨#[]⟩ : ByteArray), (⟨#[]⟩ : ByteArray)))).2).2))).set i (((b.2.set i (b.1, (((b.2.getD i ((0 : Int), ((⟨#[]⟩ : ByteArray), (⟨#[]⟩ : ByteArray)))).2).1, ((b.2.getD i ((0 : Int), ((⟨#[]⟩ : ByteArray), (⟨#[]⟩ : ByteArray)))).2).2))).getD i ((0 : Int), ((⟨#[]⟩ : ByteArray), (⟨#[]⟩ : ByteArray)))).1, ((lmarkText (IntKind.wrap .i64 (b.1 + (1 : Int)))), (((b.2.set i (b.1, (((b.2.getD i ((0 : Int), ((⟨#[]⟩ : ByteArray), (⟨#[]⟩ : ByteArray)))).2).1, ((b.2.getD i ((0 : Int), ((⟨#[]⟩ : ByteArray), (⟨#[]⟩ : ByteArray)))).2).2))).getD i ((0 : Int), ((⟨#[]⟩ : ByteArray), (⟨#[]⟩ : ByteArray)))).2).2))).getD i ((0 : Int), ((⟨#[]⟩ : ByteArray), (⟨#[]⟩ : ByteArray)))).2).1, (lmarkText (IntKind.wrap .i64 ((IntKind.wrap .i64 (b.1 + (1 : Int))) + (1 : Int)))))))
noncomputable abbrev SM_lmarkOpS : SS := ⟨[.all 0 3, .t true (.int .i64)], [.rows 85 true (.pair (.int .i64) (.pair .str .str))]⟩
noncomputable abbrev S_lmarkOpS_0 : SS := ⟨[.all 0 3, .t true (.int .i64), .junk, .junk, .junk, .t true (.int .i64), .junk, .junk, .junk, .junk, .junk, .junk, .junk, .junk, .junk, .junk, .junk, .junk, .junk, .junk, .junk, .junk, .junk, .junk, .junk, .junk, .junk, .junk, .junk, .junk, .junk, .junk, .junk, .junk, .junk, .junk], [.rows 85 true (.pair (.int .i64) (.pair .str .str))]⟩
noncomputable abbrev E_lmarkOpS_0_0 : SS := ⟨[.junk, .t true (.int .i64), .junk, .junk, .junk, .junk, .junk, .junk, .junk, .junk, .junk, .junk, .junk, .junk, .junk, .junk, .junk, .junk, .junk, .junk, .junk, .junk, .junk, .junk, .junk, .junk, .junk, .junk, .junk, .junk, .junk, .junk, .junk, .junk, .junk, .junk], [.rows 85 true (.pair (.int .i64) (.pair .str .str))]⟩
noncomputable def st_lmarkOpS_0 (x1 : Int) (x5 : Int) (h0 : List (Int × ByteArray × ByteArray)) : RT S_lmarkOpS_0.den := (.br (decide (x5 < ((h0.length : Nat) : Int))) (.br (decide (0 ≤ x5 ∧ x5 < ((h0.length : Nat) : Int))) (.br (q_lmarkText (IntKind.wrap .i64 (x1 + (1 : Int)))) (.br (decide (0 ≤ x5 ∧ x5 < (((h0.set x5.toNat (x1, (((h0.getD x5.toNat ((0 : Int), ((⟨#[]⟩ : ByteArray), (⟨#[]⟩ : ByteArray)))).2).1, ((h0.getD x5.toNat ((0 : Int), ((⟨#[]⟩ : ByteArray), (⟨#[]⟩ : ByteArray)))).2).2))).length : Nat) : Int))) (.br (q_lmarkText (IntKind.wrap .i64 ((IntKind.wrap .i64 (x1 + (1 : Int))) + (1 : Int)))) (.br (decide (0 ≤ x5 ∧ x5 < ((((h0.set x5.toNat (x1, (((h0.getD x5.toNat ((0 : Int), ((⟨#[]⟩ : ByteArray), (⟨#[]⟩ : ByteArray)))).2).1, ((h0.getD x5.toNat ((0 : Int), ((⟨#[]⟩ : ByteArray), (⟨#[]⟩ : ByteArray)))).2).2))).set x5.toNat (((h0.set x5.toNat (x1, (((h0.getD x5.toNat ((0 : Int), ((⟨#[]⟩ : ByteArray), (⟨#[]⟩ : ByteArray)))).2).1, ((h0.getD x5.toNat ((0 : Int), ((⟨#[]⟩ : ByteArray), (⟨#[]⟩ : ByteArray)))).2).2))).getD x5.toNat ((0 : Int), ((⟨#[]⟩ : ByteArray), (⟨#[]⟩ : ByteArray)))).1, ((lmarkText (IntKind.wrap .i64 (x1 + (1 : Int)))), (((h0.set x5.toNat (x1, (((h0.getD x5.toNat ((0 : Int), ((⟨#[]⟩ : ByteArray), (⟨#[]⟩ : ByteArray)))).2).1, ((h0.getD x5.toNat ((0 : Int), ((⟨#[]⟩ : ByteArray), (⟨#[]⟩ : ByteArray)))).2).2))).getD x5.toNat ((0 : Int), ((⟨#[]⟩ : ByteArray), (⟨#[]⟩ : ByteArray)))).2).2))).length : Nat) : Int))) (.next (((), IntKind.wrap .i64 ((IntKind.wrap .i64 ((IntKind.wrap .i64 (x1 + (1 : Int))) + (1 : Int))) + (1 : Int)), (), (), (), IntKind.wrap .i64 (x5 + (1 : Int)), (), (), (), (), (), (), (), (), (), (), (), (), (), (), (), (), (), (), (), (), (), (), (), (), (), (), (), (), (), (), ()), (((h0.set x5.toNat (x1, (((h0.getD x5.toNat ((0 : Int), ((⟨#[]⟩ : ByteArray), (⟨#[]⟩ : ByteArray)))).2).1, ((h0.getD x5.toNat ((0 : Int), ((⟨#[]⟩ : ByteArray), (⟨#[]⟩ : ByteArray)))).2).2))).set x5.toNat (((h0.set x5.toNat (x1, (((h0.getD x5.toNat ((0 : Int), ((⟨#[]⟩ : ByteArray), (⟨#[]⟩ : ByteArray)))).2).1, ((h0.getD x5.toNat ((0 : Int), ((⟨#[]⟩ : ByteArray), (⟨#[]⟩ : ByteArray)))).2).2))).getD x5.toNat ((0 : Int), ((⟨#[]⟩ : ByteArray), (⟨#[]⟩ : ByteArray)))).1, ((lmarkText (IntKind.wrap .i64 (x1 + (1 : Int)))), (((h0.set x5.toNat (x1, (((h0.getD x5.toNat ((0 : Int), ((⟨#[]⟩ : ByteArray), (⟨#[]⟩ : ByteArray)))).2).1, ((h0.getD x5.toNat ((0 : Int), ((⟨#[]⟩ : ByteArray), (⟨#[]⟩ : ByteArray)))).2).2))).getD x5.toNat ((0 : Int), ((⟨#[]⟩ : ByteArray), (⟨#[]⟩ : ByteArray)))).2).2))).set x5.toNat ((((h0.set x5.toNat (x1, (((h0.getD x5.toNat ((0 : Int), ((⟨#[]⟩ : ByteArray), (⟨#[]⟩ : ByteArray)))).2).1, ((h0.getD x5.toNat ((0 : Int), ((⟨#[]⟩ : ByteArray), (⟨#[]⟩ : ByteArray)))).2).2))).set x5.toNat (((h0.set x5.toNat (x1, (((h0.getD x5.toNat ((0 : Int), ((⟨#[]⟩ : ByteArray), (⟨#[]⟩ : ByteArray)))).2).1, ((h0.getD x5.toNat ((0 : Int), ((⟨#[]⟩ : ByteArray), (⟨#[]⟩ : ByteArray)))).2).2))).getD x5.toNat ((0 : Int), ((⟨#[]⟩ : ByteArray), (⟨#[]⟩ : ByteArray)))).1, ((lmarkText (IntKind.wrap .i64 (x1 + (1 : Int)))), (((h0.set x5.toNat (x1, (((h0.getD x5.toNat ((0 : Int), ((⟨#[]⟩ : ByteArray), (⟨#[]⟩ : ByteArray)))).2).1, ((h0.getD x5.toNat ((0 : Int), ((⟨#[]⟩ : ByteArray), (⟨#[]⟩ : ByteArray)))).2).2))).getD x5.toNat ((0 : Int), ((⟨#[]⟩ : ByteArray), (⟨#[]⟩ : ByteArray)))).2).2))).getD x5.toNat ((0 : Int), ((⟨#[]⟩ : ByteArray), (⟨#[]⟩ : ByteArray)))).1, (((((h0.set x5.toNat (x1, (((h0.getD x5.toNat ((0 : Int), ((⟨#[]⟩ : ByteArray), (⟨#[]⟩ : ByteArray)))).2).1, ((h0.getD x5.toNat ((0 : Int), ((⟨#[]⟩ : ByteArray), (⟨#[]⟩ : ByteArray)))).2).2))).set x5.toNat (((h0.set x5.toNat (x1, (((h0.getD x5.toNat ((0 : Int), ((⟨#[]⟩ : ByteArray), (⟨#[]⟩ : ByteArray)))).2).1, ((h0.getD x5.toNat ((0 : Int), ((⟨#[]⟩ : ByteArray), (⟨#[]⟩ : ByteArray)))).2).2))).getD x5.toNat ((0 : Int), ((⟨#[]⟩ : ByteArray), (⟨#[]⟩ : ByteArray)))).1, ((lmarkText (IntKind.wrap .i64 (x1 + (1 : Int)))), (((h0.set x5.toNat (x1, (((h0.getD x5.toNat ((0 : Int), ((⟨#[]⟩ : ByteArray), (⟨#[]⟩ : ByteArray)))).2).1, ((h0.getD x5.toNat ((0 : Int), ((⟨#[]⟩ : ByteArray), (⟨#[]⟩ : ByteArray)))).2).2))).getD x5.toNat ((0 : Int), ((⟨#[]⟩ : ByteArray), (⟨#[]⟩ : ByteArray)))).2).2))).getD x5.toNat ((0 : Int), ((⟨#[]⟩ : ByteArray), (⟨#[]⟩ : ByteArray)))).2).1, (lmarkText (IntKind.wrap .i64 ((IntKind.wrap .i64 (x1 + (1 : Int))) + (1 : Int)))))), ()))) .fail) .fail) .fail) .fail) .fail) (.done (.exit 0) E_lmarkOpS_0_0 (((), x1, (), (), (), (), (), (), (), (), (), (), (), (), (), (), (), (), (), (), (), (), (), (), (), (), (), (), (), (), (), (), (), (), (), (), ()), (h0, ()))))
noncomputable def T_lmarkOpS_0 (x1 : Int) (x5 : Int) (h0 : List (Int × ByteArray × ByteArray)) : CT := (.br (decide (0 ≤ x5) && (decide (0 ≤ x1 ∧ x1 ≤ 100000 * (x5 + 100)) && okL h0)) (.done (.exit 0) E_lmarkOpS_0_0 (((), ((foldN f_lmarkOpS_0 (h0.length - x5.toNat) x5.toNat (x1, h0)).1), (), (), (), (), (), (), (), (), (), (), (), (), (), (), (), (), (), (), (), (), (), (), (), (), (), (), (), (), (), (), (), (), (), (), ()), (((foldN f_lmarkOpS_0 (h0.length - x5.toNat) x5.toNat (x1, h0)).2), ()))) .fail)
noncomputable abbrev sp_lmarkOpS_0 : S_lmarkOpS_0.den → RT S_lmarkOpS_0.den := fun d => st_lmarkOpS_0 d.1.2.1 d.1.2.2.2.2.2.1 d.2.1
noncomputable abbrev pk_lmarkOpS_0 (x1 : Int) (x5 : Int) (h0 : List (Int × ByteArray × ByteArray)) : S_lmarkOpS_0.den := (((), x1, (), (), (), x5, (), (), (), (), (), (), (), (), (), (), (), (), (), (), (), (), (), (), (), (), (), (), (), (), (), (), (), (), (), (), ()), (h0, ()))
noncomputable def body_lmarkOpS_0 : Code := ((loopsIn 0 (bodyOf Try.f50)).getD 0 (0, .skip)).2
theorem R_lmarkOpS_0 (x1 : Int) (x5 : Int) (h0 : List (Int × ByteArray × ByteArray)) : (T_lmarkOpS_0 x1 x5 h0).val (D := S_lmarkOpS_0.den) = .fail ∨ Runs sp_lmarkOpS_0 (pk_lmarkOpS_0 x1 x5 h0) (T_lmarkOpS_0 x1 x5 h0).val := by
  cases hc : (decide (0 ≤ x5) && (decide (0 ≤ x1 ∧ x1 ≤ 100000 * (x5 + 100)) && okL h0)) with
  | false => left; simp only [T_lmarkOpS_0, CT.val, hc, cond_false]
  | true =>
    right
    simp only [T_lmarkOpS_0, CT.val, hc, cond_true]
    simp only [Bool.and_eq_true, decide_eq_true_eq] at hc
    obtain ⟨i, rfl⟩ := Int.eq_ofNat_of_zero_le hc.1
    have hs := okL_le hc.2.2
    have hk := hc.2.1
    simp only [Int.toNat_natCast]
    refine Runs.foldN (step := sp_lmarkOpS_0) (fun j b => pk_lmarkOpS_0 b.1 (j : Int) b.2) (fun i b => (0 ≤ b.1 ∧ b.1 ≤ 100000 * ((i : Int) + 100)) ∧ b.2.length = h0.length) (h0.length) f_lmarkOpS_0
      (fin := fun b => ((.done (.exit 0) E_lmarkOpS_0_0 (((), b.1, (), (), (), (), (), (), (), (), (), (), (), (), (), (), (), (), (), (), (), (), (), (), (), (), (), (), (), (), (), (), (), (), (), (), ()), (b.2, ()))) : CT).val) (fun i b hi hb => ?_) (fun i b hi hb => ?_) (h0.length - i) i (x1, h0) rfl ⟨hk, rfl⟩
    · obtain ⟨k, h⟩ := b
      obtain ⟨hb1, hb2⟩ := hb
      simp only at hb1 hb2
      have w1 : IntKind.wrap .i64 (k + (1 : Int)) = k + (1 : Int) := wrap64 (by omega) (by omega)
      have w2 : IntKind.wrap .i64 (k + (1 : Int) + (1 : Int)) = k + (1 : Int) + (1 : Int) := wrap64 (by omega) (by omega)
      have w3 : IntKind.wrap .i64 (k + (1 : Int) + (1 : Int) + (1 : Int)) = k + (1 : Int) + (1 : Int) + (1 : Int) := wrap64 (by omega) (by omega)
      have e0 : (decide (0 ≤ (i : Int) ∧ (i : Int) < ((h.length : Nat) : Int))) = true := decide_eq_true (by (try simp only [List.length_set]); omega)
      have e1 : (q_lmarkText (IntKind.wrap .i64 (k + (1 : Int)))) = true := by simp only [q_lmarkText, w1, w2, w3]; exact decide_eq_true (by omega)
      have e2 : (decide (0 ≤ (i : Int) ∧ (i : Int) < (((h.set i (k, (((h.getD i ((0 : Int), ((⟨#[]⟩ : ByteArray), (⟨#[]⟩ : ByteArray)))).2).1, ((h.getD i ((0 : Int), ((⟨#[]⟩ : ByteArray), (⟨#[]⟩ : ByteArray)))).2).2))).length : Nat) : Int))) = true := decide_eq_true (by (try simp only [List.length_set]); omega)
      have e3 : (q_lmarkText (IntKind.wrap .i64 ((IntKind.wrap .i64 (k + (1 : Int))) + (1 : Int)))) = true := by simp only [q_lmarkText, w1, w2, w3]; exact decide_eq_true (by omega)
      have e4 : (decide (0 ≤ (i : Int) ∧ (i : Int) < ((((h.set i (k, (((h.getD i ((0 : Int), ((⟨#[]⟩ : ByteArray), (⟨#[]⟩ : ByteArray)))).2).1, ((h.getD i ((0 : Int), ((⟨#[]⟩ : ByteArray), (⟨#[]⟩ : ByteArray)))).2).2))).set i (((h.set i (k, (((h.getD i ((0 : Int), ((⟨#[]⟩ : ByteArray), (⟨#[]⟩ : ByteArray)))).2).1, ((h.getD i ((0 : Int), ((⟨#[]⟩ : ByteArray), (⟨#[]⟩ : ByteArray)))).2).2))).getD i ((0 : Int), ((⟨#[]⟩ : ByteArray), (⟨#[]⟩ : ByteArray)))).1, ((lmarkText (IntKind.wrap .i64 (k + (1 : Int)))), (((h.set i (k, (((h.getD i ((0 : Int), ((⟨#[]⟩ : ByteArray), (⟨#[]⟩ : ByteArray)))).2).1, ((h.getD i ((0 : Int), ((⟨#[]⟩ : ByteArray), (⟨#[]⟩ : ByteArray)))).2).2))).getD i ((0 : Int), ((⟨#[]⟩ : ByteArray), (⟨#[]⟩ : ByteArray)))).2).2))).length : Nat) : Int))) = true := decide_eq_true (by (try simp only [List.length_set]); omega)
      have h1 : decide ((i : Int) < ((h.length : Nat) : Int)) = true := decide_eq_true (by omega)
      have v1 : (f_lmarkOpS_0 i (k, h)).1 = k + (1 : Int) + (1 : Int) + (1 : Int) := by simp only [f_lmarkOpS_0, w1, w2, w3]
      have v2 : (f_lmarkOpS_0 i (k, h)).2.length = h.length := by simp only [f_lmarkOpS_0, List.length_set]
      refine ⟨⟨by rw [v1]; omega, by rw [v2]; exact hb2⟩, ?_⟩
      simp only [sp_lmarkOpS_0, st_lmarkOpS_0, RT.val, h1, e0, e1, e2, e3, e4, cond_true, wrapS i (by omega), Int.toNat_natCast]
      rfl
    · have h1 : decide ((i : Int) < ((b.2.length : Nat) : Int)) = false := decide_eq_false (by omega)
      exact ⟨by simp only [sp_lmarkOpS_0, st_lmarkOpS_0, RT.val, h1, cond_false]; rfl, _, _, _, rfl, by simp⟩
theorem rd_lmarkOpS_0 : ∀ d, execC Try.prog tt S28 QF28 (fun _ _ => none) 0 body_lmarkOpS_0 (S_lmarkOpS_0.st d 1 []) (fun e s' => some (e, S_lmarkOpS_0.cutE (kepts [] [(0, [1])]) e s')) = (sp_lmarkOpS_0 d).opt 1 [] := by
  intro d
  kernel_rfl
noncomputable abbrev say_lmarkOpS_0 : St → Option Tree := S_lmarkOpS_0.say 1 [] [] (fun d => T_lmarkOpS_0 d.1.2.1 d.1.2.2.2.2.2.1 d.2.1)
theorem lw_lmarkOpS_0 : LoopWp Try.prog say_lmarkOpS_0 body_lmarkOpS_0 := SS.wp G28 (fun _ _ => none) (by rw [show loopsIn 0 body_lmarkOpS_0 = [] by kernel_rfl]; simp) S_lmarkOpS_0 1 [] (kepts [] [(0, [1])]) [] sp_lmarkOpS_0 rd_lmarkOpS_0 _ (fun d => R_lmarkOpS_0 d.1.2.1 d.1.2.2.2.2.2.1 d.2.1)
noncomputable def lmarkOpS (x1 : Int) (h0 : List (Int × ByteArray × ByteArray)) : Int × List (Int × ByteArray × ByteArray) := (((foldN f_lmarkOpS_0 (h0.length - (0 : Int).toNat) (0 : Int).toNat (x1, h0)).1), ((foldN f_lmarkOpS_0 (h0.length - (0 : Int).toNat) (0 : Int).toNat (x1, h0)).2))
noncomputable abbrev e_lmarkOpS (r : Int × List (Int × ByteArray × ByteArray)) : AV × List AObj × List Nat := ((.t true (.int .i64) r.1), [(.rows 85 true (.pair (.int .i64) (.pair .str .str)) r.2)], [])
noncomputable abbrev g_lmarkOpS : SM_lmarkOpS.den → AV × List AObj × List Nat := fun d => e_lmarkOpS (lmarkOpS d.1.2.1 d.2.1)
noncomputable def q_lmarkOpS (x1 : Int) (h0 : List (Int × ByteArray × ByteArray)) : Bool := okL h0 && decide (0 ≤ x1 ∧ x1 ≤ 10000000)
noncomputable abbrev pre_lmarkOpS : SM_lmarkOpS.den → Bool := fun d => q_lmarkOpS d.1.2.1 d.2.1
theorem runA_lmarkOpS (x1 : Int) (h0 : List (Int × ByteArray × ByteArray)) (hp : (okL h0 && decide (0 ≤ x1 ∧ x1 ≤ 10000000)) = true) : runM Try.prog tt S28 QF28 (fun b => match b with | 0 => say_lmarkOpS_0 | _ => fun _ => none) Try.f50 (shsMk SM_lmarkOpS.sl ((((), x1, ()), (h0, ())) : SM_lmarkOpS.den).1) (ohsMk SM_lmarkOpS.hp ((((), x1, ()), (h0, ())) : SM_lmarkOpS.den).2) = some (g_lmarkOpS (((), x1, ()), (h0, ()))) := by
  refine Eq.trans (b := (cond (decide (0 ≤ (0 : Int)) && (decide (0 ≤ x1 ∧ x1 ≤ 100000 * ((0 : Int) + 100)) && okL h0)) (some (e_lmarkOpS (((foldN f_lmarkOpS_0 (h0.length - (0 : Int).toNat) (0 : Int).toNat (x1, h0)).1), ((foldN f_lmarkOpS_0 (h0.length - (0 : Int).toNat) (0 : Int).toNat (x1, h0)).2)))) none)) (by kernel_rfl) ?_
  exact (cndT (by first | rfl | decide | exact hp | (simp only [Bool.and_eq_true] at hp; simp only [hp]; done) | (simp [*]; done) | (simp [okL] at hp; simp [okL, MAXB]; omega) | (simp_all; done) | (simp at *; omega)) (fun _h => rfl))
theorem run_lmarkOpS : ∀ d : SM_lmarkOpS.den, pre_lmarkOpS d = true → runM Try.prog tt S28 QF28 (fun b => match b with | 0 => say_lmarkOpS_0 | _ => fun _ => none) Try.f50 (shsMk SM_lmarkOpS.sl (d : SM_lmarkOpS.den).1) (ohsMk SM_lmarkOpS.hp (d : SM_lmarkOpS.den).2) = some (g_lmarkOpS d) := fun d hp => runA_lmarkOpS d.1.2.1 d.2.1 hp
theorem c_lmarkOpS : MContract Try.prog 50 (win winIds (msum SM_lmarkOpS pre_lmarkOpS g_lmarkOpS)) := (MContract.of_data G28 (fn := Try.f50) (by kernel_rfl) (L := fun b => match b with | 0 => say_lmarkOpS_0 | _ => fun _ => none) (by rw [show loopsIn 0 (bodyOf Try.f50) = [(0, body_lmarkOpS_0)] by kernel_rfl]; intro p hp; simp only [List.mem_singleton] at hp; subst hp; exact lw_lmarkOpS_0) SM_lmarkOpS pre_lmarkOpS g_lmarkOpS run_lmarkOpS).win winIds
noncomputable def S29 : Tab := Tab.add S28 50 (win winIds (msum SM_lmarkOpS pre_lmarkOpS g_lmarkOpS))
noncomputable def QF29 : FuncId → Bool := QF28
theorem G29 : Good Try.prog tt S29 QF29 := G28.addM c_lmarkOpS (win_local _) ⟨Try.f50, by kernel_rfl, by kernel_rfl, by kernel_rfl⟩ (by kernel_rfl)

/-! 51 loop.example/g00244/laws.heldPairS -/

noncomputable def f_lheldPairS_0 (x0 : List (ByteArray × ByteArray)) (i : Nat) (k : Int) : Int ⊕ Unit := (cond (!(((x0.getD i ((⟨#[]⟩ : ByteArray), (⟨#[]⟩ : ByteArray))).1).toList == (lmarkText k).toList)) (.inr ()) (cond (!(((x0.getD i ((⟨#[]⟩ : ByteArray), (⟨#[]⟩ : ByteArray))).2).toList == (lmarkText (IntKind.wrap .i64 (k + (1 : Int)))).toList)) (.inr ()) (.inl (IntKind.wrap .i64 ((IntKind.wrap .i64 (k + (1 : Int))) + (1 : Int))))))
noncomputable abbrev P_lheldPairS : List PSh := [.t (.sl (.pair .str .str)), .t (.int .i64)]
noncomputable abbrev S_lheldPairS_0 : SS := ⟨[.t false (.sl (.pair .str .str)), .t true (.int .i64), .junk, .junk, .junk, .t true (.int .i64), .junk, .junk, .junk, .junk, .junk, .junk, .junk, .junk, .junk, .junk, .junk, .junk, .junk, .junk, .junk, .junk, .junk, .junk, .junk, .junk, .junk, .junk, .junk, .junk, .junk, .junk, .junk], []⟩
noncomputable abbrev E_lheldPairS_0_0 : SS := ⟨[.junk, .junk, .junk, .junk, .t true (.int .i64), .junk, .junk, .junk, .junk, .junk, .junk, .junk, .junk, .junk, .junk, .junk, .junk, .junk, .junk, .junk, .junk, .junk, .junk, .junk, .junk, .junk, .junk, .junk, .junk, .junk, .junk, .junk, .junk], []⟩
noncomputable abbrev E_lheldPairS_0_1 : SS := ⟨[.junk, .t true (.int .i64), .junk, .junk, .junk, .junk, .junk, .junk, .junk, .junk, .junk, .junk, .junk, .junk, .junk, .junk, .junk, .junk, .junk, .junk, .junk, .junk, .junk, .junk, .junk, .junk, .junk, .junk, .junk, .junk, .junk, .junk, .junk], []⟩
noncomputable def st_lheldPairS_0 (x0 : List (ByteArray × ByteArray)) (x1 : Int) (x5 : Int) : RT S_lheldPairS_0.den := (.br (decide (x5 < ((x0.length : Nat) : Int))) (.br (decide (0 ≤ x5 ∧ x5 < ((x0.length : Nat) : Int))) (.br (q_lmarkText x1) (.br (!(((x0.getD x5.toNat ((⟨#[]⟩ : ByteArray), (⟨#[]⟩ : ByteArray))).1).toList == (lmarkText x1).toList)) (.done .ret E_lheldPairS_0_0 (((), (), (), (), (-1 : Int), (), (), (), (), (), (), (), (), (), (), (), (), (), (), (), (), (), (), (), (), (), (), (), (), (), (), (), (), ()), ())) (.br (decide (0 ≤ x5 ∧ x5 < ((x0.length : Nat) : Int))) (.br (q_lmarkText (IntKind.wrap .i64 (x1 + (1 : Int)))) (.br (!(((x0.getD x5.toNat ((⟨#[]⟩ : ByteArray), (⟨#[]⟩ : ByteArray))).2).toList == (lmarkText (IntKind.wrap .i64 (x1 + (1 : Int)))).toList)) (.done .ret E_lheldPairS_0_0 (((), (), (), (), (-1 : Int), (), (), (), (), (), (), (), (), (), (), (), (), (), (), (), (), (), (), (), (), (), (), (), (), (), (), (), (), ()), ())) (.next ((x0, IntKind.wrap .i64 ((IntKind.wrap .i64 (x1 + (1 : Int))) + (1 : Int)), (), (), (), IntKind.wrap .i64 (x5 + (1 : Int)), (), (), (), (), (), (), (), (), (), (), (), (), (), (), (), (), (), (), (), (), (), (), (), (), (), (), (), ()), ()))) .fail) .fail)) .fail) .fail) (.done (.exit 0) E_lheldPairS_0_1 (((), x1, (), (), (), (), (), (), (), (), (), (), (), (), (), (), (), (), (), (), (), (), (), (), (), (), (), (), (), (), (), (), (), ()), ())))
noncomputable def T_lheldPairS_0 (x0 : List (ByteArray × ByteArray)) (x1 : Int) (x5 : Int) : CT := (.br (decide (0 ≤ x5) && (decide (0 ≤ x1 ∧ x1 ≤ 100000 * (x5 + 100)) && okL x0)) (.br (isInl (loopN (f_lheldPairS_0 x0) (x0.length - x5.toNat) x5.toNat x1)) (.done (.exit 0) E_lheldPairS_0_1 (((), (getInl (-1) (loopN (f_lheldPairS_0 x0) (x0.length - x5.toNat) x5.toNat x1)), (), (), (), (), (), (), (), (), (), (), (), (), (), (), (), (), (), (), (), (), (), (), (), (), (), (), (), (), (), (), (), ()), ())) (.done .ret E_lheldPairS_0_0 (((), (), (), (), (-1 : Int), (), (), (), (), (), (), (), (), (), (), (), (), (), (), (), (), (), (), (), (), (), (), (), (), (), (), (), (), ()), ()))) .fail)
noncomputable abbrev sp_lheldPairS_0 : S_lheldPairS_0.den → RT S_lheldPairS_0.den := fun d => st_lheldPairS_0 d.1.1 d.1.2.1 d.1.2.2.2.2.2.1
noncomputable abbrev pk_lheldPairS_0 (x0 : List (ByteArray × ByteArray)) (x1 : Int) (x5 : Int) : S_lheldPairS_0.den := ((x0, x1, (), (), (), x5, (), (), (), (), (), (), (), (), (), (), (), (), (), (), (), (), (), (), (), (), (), (), (), (), (), (), (), ()), ())
noncomputable def body_lheldPairS_0 : Code := ((loopsIn 0 (bodyOf Try.f51)).getD 0 (0, .skip)).2
theorem R_lheldPairS_0 (x0 : List (ByteArray × ByteArray)) (x1 : Int) (x5 : Int) : (T_lheldPairS_0 x0 x1 x5).val (D := S_lheldPairS_0.den) = .fail ∨ Runs sp_lheldPairS_0 (pk_lheldPairS_0 x0 x1 x5) (T_lheldPairS_0 x0 x1 x5).val := by
  cases hc : (decide (0 ≤ x5) && (decide (0 ≤ x1 ∧ x1 ≤ 100000 * (x5 + 100)) && okL x0)) with
  | false => left; simp only [T_lheldPairS_0, CT.val, hc, cond_false]
  | true =>
    right
    simp only [T_lheldPairS_0, CT.val, hc, cond_true]
    simp only [Bool.and_eq_true, decide_eq_true_eq] at hc
    obtain ⟨i, rfl⟩ := Int.eq_ofNat_of_zero_le hc.1
    have hs := okL_le hc.2.2
    have hk := hc.2.1
    simp only [Int.toNat_natCast]
    have h := Runs.loopN (step := sp_lheldPairS_0) (fun j b => pk_lheldPairS_0 x0 b (j : Int)) (fun i b => 0 ≤ b ∧ b ≤ 100000 * ((i : Int) + 100)) (x0.length) (f_lheldPairS_0 x0)
      (fin := fun b => ((.done (.exit 0) E_lheldPairS_0_1 (((), b, (), (), (), (), (), (), (), (), (), (), (), (), (), (), (), (), (), (), (), (), (), (), (), (), (), (), (), (), (), (), (), ()), ())) : CT).val) (bad := fun _ => ((.done .ret E_lheldPairS_0_0 (((), (), (), (), (-1 : Int), (), (), (), (), (), (), (), (), (), (), (), (), (), (), (), (), (), (), (), (), (), (), (), (), (), (), (), (), ()), ())) : CT).val)
      (fun i b hi hb => ?_) (fun i b hi hb => ?_) (x0.length - i) i x1 rfl hk
    · revert h
      cases loopN (f_lheldPairS_0 x0) (x0.length - i) i x1 with
      | inl b => exact id
      | inr c => exact id
    · revert hb
      generalize b = k
      intro hb
      have w1 : IntKind.wrap .i64 (k + (1 : Int)) = k + (1 : Int) := wrap64 (by omega) (by omega)
      have w2 : IntKind.wrap .i64 (k + (1 : Int) + (1 : Int)) = k + (1 : Int) + (1 : Int) := wrap64 (by omega) (by omega)
      have e0 : (decide (0 ≤ (i : Int) ∧ (i : Int) < ((x0.length : Nat) : Int))) = true := decide_eq_true (by omega)
      have e1 : (q_lmarkText k) = true := by simp only [q_lmarkText, w1, w2]; exact decide_eq_true (by omega)
      have e2 : (decide (0 ≤ (i : Int) ∧ (i : Int) < ((x0.length : Nat) : Int))) = true := decide_eq_true (by omega)
      have e3 : (q_lmarkText (IntKind.wrap .i64 (k + (1 : Int)))) = true := by simp only [q_lmarkText, w1, w2]; exact decide_eq_true (by omega)
      have h1 : decide ((i : Int) < ((x0.length : Nat) : Int)) = true := decide_eq_true (by omega)
      have e : (sp_lheldPairS_0 (pk_lheldPairS_0 x0 k (i : Int))).val = (cond (!(((x0.getD i ((⟨#[]⟩ : ByteArray), (⟨#[]⟩ : ByteArray))).1).toList == (lmarkText k).toList)) ((.done .ret E_lheldPairS_0_0 (((), (), (), (), (-1 : Int), (), (), (), (), (), (), (), (), (), (), (), (), (), (), (), (), (), (), (), (), (), (), (), (), (), (), (), (), ()), ())) : CT).val (cond (!(((x0.getD i ((⟨#[]⟩ : ByteArray), (⟨#[]⟩ : ByteArray))).2).toList == (lmarkText (IntKind.wrap .i64 (k + (1 : Int)))).toList)) ((.done .ret E_lheldPairS_0_0 (((), (), (), (), (-1 : Int), (), (), (), (), (), (), (), (), (), (), (), (), (), (), (), (), (), (), (), (), (), (), (), (), (), (), (), (), ()), ())) : CT).val (.next (pk_lheldPairS_0 x0 (IntKind.wrap .i64 ((IntKind.wrap .i64 (k + (1 : Int))) + (1 : Int))) ((i + 1 : Nat) : Int))))) := by
        simp only [sp_lheldPairS_0, st_lheldPairS_0, RT.val, h1, e0, e1, e2, e3, cond_true, wrapS i (by omega), Int.toNat_natCast]
        rfl
      cases g0 : (!(((x0.getD i ((⟨#[]⟩ : ByteArray), (⟨#[]⟩ : ByteArray))).1).toList == (lmarkText k).toList)) with
      | true => exact .inr ⟨(), _, _, _, by simp only [f_lheldPairS_0, g0, cond_true, cond_false], by rw [e, g0]; rfl, rfl, by simp⟩
      | false =>
        cases g1 : (!(((x0.getD i ((⟨#[]⟩ : ByteArray), (⟨#[]⟩ : ByteArray))).2).toList == (lmarkText (IntKind.wrap .i64 (k + (1 : Int)))).toList)) with
        | true => exact .inr ⟨(), _, _, _, by simp only [f_lheldPairS_0, g0, g1, cond_true, cond_false], by rw [e, g0, g1]; rfl, rfl, by simp⟩
        | false =>
          exact .inl ⟨IntKind.wrap .i64 ((IntKind.wrap .i64 (k + (1 : Int))) + (1 : Int)), by simp only [f_lheldPairS_0, g0, g1, cond_false], by rw [w1, w2]; omega, by rw [e, g0, g1]; rfl⟩
    · have h1 : decide ((i : Int) < ((x0.length : Nat) : Int)) = false := decide_eq_false (by omega)
      exact ⟨by simp only [sp_lheldPairS_0, st_lheldPairS_0, RT.val, h1, cond_false]; rfl, _, _, _, rfl, by simp⟩
theorem rd_lheldPairS_0 : ∀ d, execC Try.prog tt S29 QF29 (fun _ _ => none) 0 body_lheldPairS_0 (S_lheldPairS_0.st d 0 []) (fun e s' => some (e, S_lheldPairS_0.cutE (kepts [4] [(0, [1])]) e s')) = (sp_lheldPairS_0 d).opt 0 [] := by
  intro d
  kernel_rfl
noncomputable abbrev say_lheldPairS_0 : St → Option Tree := S_lheldPairS_0.say 0 [] [] (fun d => T_lheldPairS_0 d.1.1 d.1.2.1 d.1.2.2.2.2.2.1)
theorem lw_lheldPairS_0 : LoopWp Try.prog say_lheldPairS_0 body_lheldPairS_0 := SS.wp G29 (fun _ _ => none) (by rw [show loopsIn 0 body_lheldPairS_0 = [] by kernel_rfl]; simp) S_lheldPairS_0 0 [] (kepts [4] [(0, [1])]) [] sp_lheldPairS_0 rd_lheldPairS_0 _ (fun d => R_lheldPairS_0 d.1.1 d.1.2.1 d.1.2.2.2.2.2.1)
noncomputable def lheldPairS (a0 : List (ByteArray × ByteArray)) (a1 : Int) : Int := (cond (isInl (loopN (f_lheldPairS_0 a0) (a0.length - (0 : Int).toNat) (0 : Int).toNat a1)) (getInl (-1) (loopN (f_lheldPairS_0 a0) (a0.length - (0 : Int).toNat) (0 : Int).toNat a1)) (-1 : Int))
noncomputable abbrev e_lheldPairS (r : Int) : AV × List AObj := ((.t true (.int .i64) r), [])
noncomputable abbrev g_lheldPairS : pshsDen P_lheldPairS → AV × List AObj := fun d => e_lheldPairS (lheldPairS d.1 d.2.1)
noncomputable def q_lheldPairS (a0 : List (ByteArray × ByteArray)) (a1 : Int) : Bool := okL a0 && decide (0 ≤ a1 ∧ a1 ≤ 10000000)
noncomputable abbrev pre_lheldPairS : pshsDen P_lheldPairS → Bool := fun d => q_lheldPairS d.1 d.2.1
theorem runA_lheldPairS (a0 : List (ByteArray × ByteArray)) (a1 : Int) (hp : (okL a0 && decide (0 ≤ a1 ∧ a1 ≤ 10000000)) = true) : runP true Try.prog tt S29 QF29 (fun b => match b with | 0 => say_lheldPairS_0 | _ => fun _ => none) Try.f51 (argsMk P_lheldPairS (a0, (a1, ()))) = some (g_lheldPairS (a0, (a1, ()))) := by
  refine Eq.trans (b := (cond (decide (0 ≤ (0 : Int)) && (decide (0 ≤ a1 ∧ a1 ≤ 100000 * ((0 : Int) + 100)) && okL a0)) (cond (isInl (loopN (f_lheldPairS_0 a0) (a0.length - (0 : Int).toNat) (0 : Int).toNat a1)) (some (e_lheldPairS (getInl (-1) (loopN (f_lheldPairS_0 a0) (a0.length - (0 : Int).toNat) (0 : Int).toNat a1)))) (some (e_lheldPairS (-1 : Int)))) none)) (by kernel_rfl) ?_
  exact (cndT (by first | rfl | decide | exact hp | (simp only [Bool.and_eq_true] at hp; simp only [hp]; done) | (simp [*]; done) | (simp [okL] at hp; simp [okL, MAXB]; omega) | (simp_all; done) | (simp at *; omega)) (fun _h => (cnd (F := fun r => some (e_lheldPairS r)) (fun _h => rfl) (fun _h => rfl))))
theorem run_lheldPairS : ∀ d, pre_lheldPairS d = true → runP true Try.prog tt S29 QF29 (fun b => match b with | 0 => say_lheldPairS_0 | _ => fun _ => none) Try.f51 (argsMk P_lheldPairS d) = some (g_lheldPairS d) := fun d hp => runA_lheldPairS d.1 d.2.1 hp
theorem c_lheldPairS : PContract Try.prog 51 (sumOf P_lheldPairS pre_lheldPairS g_lheldPairS) := PContract.of_data true G29 (fn := Try.f51) (by kernel_rfl) (L := fun b => match b with | 0 => say_lheldPairS_0 | _ => fun _ => none) (by rw [show loopsIn 0 (bodyOf Try.f51) = [(0, body_lheldPairS_0)] by kernel_rfl]; intro p hp; simp only [List.mem_singleton] at hp; subst hp; exact lw_lheldPairS_0) P_lheldPairS pre_lheldPairS g_lheldPairS run_lheldPairS
noncomputable def S30 : Tab := Tab.add S29 51 (lift (sumOf P_lheldPairS pre_lheldPairS g_lheldPairS))
noncomputable def QF30 : FuncId → Bool := qadd QF29 51
theorem G30 : Good Try.prog tt S30 QF30 := G29.addQ c_lheldPairS ⟨Try.f51, by kernel_rfl, by kernel_rfl, by kernel_rfl⟩ (fun _ => rfl)

/-! 8 loop.example/g00244/laws.FnExactApply -/
noncomputable abbrev P_lFnExactApply : List PSh := [.t (.sl (.pair .str .str)), .t (.sl (.pair (.int .i64) (.pair .str .str)))]
noncomputable def lFnExactApply (a0 : List (ByteArray × ByteArray)) (a1 : List (Int × ByteArray × ByteArray)) : Bool := (cond (decide ((lszPairS a0 (1048576 : Int)) < (0 : Int))) true (cond (decide ((lszOpS a1 (lszPairS a0 (1048576 : Int))) < (0 : Int))) true (cond (!(leqPairS (iApply (ltoPairS a0) (ltoOpS a1)) (sApply (ltoPairS a0) (ltoOpS a1)))) false (cond (!(leqPairS (ltoPairS a0) (ltoPairS a0))) false (cond (!(leqOpS (ltoOpS a1) (ltoOpS a1))) false (cond (decide (((lmarkOpS ((lmarkPairS (1 : Int) (ltoPairS a0)).1) (ltoOpS a1)).1) < (0 : Int))) false (cond (!(leqPairS (iApply (ltoPairS a0) (ltoOpS a1)) (sApply (ltoPairS a0) (ltoOpS a1)))) false (cond (decide ((lheldPairS ((lmarkPairS (1 : Int) (iApply (ltoPairS a0) (ltoOpS a1))).2) (1 : Int)) < (0 : Int))) false (cond ((lheldPairS ((lmarkPairS (1 : Int) (iApply (ltoPairS a0) (ltoOpS a1))).2) (1 : Int)) != ((lmarkPairS (1 : Int) (iApply (ltoPairS a0) (ltoOpS a1))).1)) false (cond (!(leqPairS (iApply (ltoPairS a0) (ltoOpS a1)) (sApply (ltoPairS a0) (ltoOpS a1)))) false (cond (decide ((lheldPairS ((lmarkPairS (1 : Int) (iApply (ltoPairS a0) (ltoOpS a1))).2) (1 : Int)) < (0 : Int))) false (cond ((lheldPairS ((lmarkPairS (1 : Int) (iApply (ltoPairS a0) (ltoOpS a1))).2) (1 : Int)) != ((lmarkPairS (1 : Int) (iApply (ltoPairS a0) (ltoOpS a1))).1)) false true))))))))))))
noncomputable abbrev e_lFnExactApply (r : Bool) : AV × List AObj := ((.t true .bool r), [])
noncomputable abbrev g_lFnExactApply : pshsDen P_lFnExactApply → AV × List AObj := fun d => e_lFnExactApply (lFnExactApply d.1 d.2.1)
noncomputable def q_lFnExactApply (a0 : List (ByteArray × ByteArray)) (a1 : List (Int × ByteArray × ByteArray)) : Bool := (q_lszPairS a0 (1048576 : Int)) && (cond (decide ((lszPairS a0 (1048576 : Int)) < (0 : Int))) true ((q_lszOpS a1 (lszPairS a0 (1048576 : Int))) && (cond (decide ((lszOpS a1 (lszPairS a0 (1048576 : Int))) < (0 : Int))) true ((q_ltoPairS a0) && ((q_ltoOpS a1) && ((q_sApply (ltoPairS a0) (ltoOpS a1)) && ((q_ltoPairS a0) && ((q_ltoOpS a1) && ((q_iApply (ltoPairS a0) (ltoOpS a1)) && ((q_leqPairS (iApply (ltoPairS a0) (ltoOpS a1)) (sApply (ltoPairS a0) (ltoOpS a1))) && (cond (!(leqPairS (iApply (ltoPairS a0) (ltoOpS a1)) (sApply (ltoPairS a0) (ltoOpS a1)))) true ((q_ltoPairS a0) && ((q_leqPairS (ltoPairS a0) (ltoPairS a0)) && (cond (!(leqPairS (ltoPairS a0) (ltoPairS a0))) true ((q_ltoOpS a1) && ((q_leqOpS (ltoOpS a1) (ltoOpS a1)) && (cond (!(leqOpS (ltoOpS a1) (ltoOpS a1))) true ((q_lmarkPairS (1 : Int) (ltoPairS a0)) && ((q_lmarkOpS ((lmarkPairS (1 : Int) (ltoPairS a0)).1) (ltoOpS a1)) && (cond (decide (((lmarkOpS ((lmarkPairS (1 : Int) (ltoPairS a0)).1) (ltoOpS a1)).1) < (0 : Int))) true ((q_leqPairS (iApply (ltoPairS a0) (ltoOpS a1)) (sApply (ltoPairS a0) (ltoOpS a1))) && (cond (!(leqPairS (iApply (ltoPairS a0) (ltoOpS a1)) (sApply (ltoPairS a0) (ltoOpS a1)))) true ((q_lmarkPairS (1 : Int) (iApply (ltoPairS a0) (ltoOpS a1))) && ((q_lheldPairS ((lmarkPairS (1 : Int) (iApply (ltoPairS a0) (ltoOpS a1))).2) (1 : Int)) && (cond (decide ((lheldPairS ((lmarkPairS (1 : Int) (iApply (ltoPairS a0) (ltoOpS a1))).2) (1 : Int)) < (0 : Int))) true (cond ((lheldPairS ((lmarkPairS (1 : Int) (iApply (ltoPairS a0) (ltoOpS a1))).2) (1 : Int)) != ((lmarkPairS (1 : Int) (iApply (ltoPairS a0) (ltoOpS a1))).1)) true ((q_ltoPairS a0) && ((q_ltoOpS a1) && ((q_iApply (ltoPairS a0) (ltoOpS a1)) && ((q_leqPairS (iApply (ltoPairS a0) (ltoOpS a1)) (sApply (ltoPairS a0) (ltoOpS a1))) && (cond (!(leqPairS (iApply (ltoPairS a0) (ltoOpS a1)) (sApply (ltoPairS a0) (ltoOpS a1)))) true (q_lheldPairS ((lmarkPairS (1 : Int) (iApply (ltoPairS a0) (ltoOpS a1))).2) (1 : Int)))))))))))))))))))))))))))))))))
noncomputable abbrev pre_lFnExactApply : pshsDen P_lFnExactApply → Bool := fun d => q_lFnExactApply d.1 d.2.1
theorem runA_lFnExactApply (a0 : List (ByteArray × ByteArray)) (a1 : List (Int × ByteArray × ByteArray)) (hp : ((q_lszPairS a0 (1048576 : Int)) && (cond (decide ((lszPairS a0 (1048576 : Int)) < (0 : Int))) true ((q_lszOpS a1 (lszPairS a0 (1048576 : Int))) && (cond (decide ((lszOpS a1 (lszPairS a0 (1048576 : Int))) < (0 : Int))) true ((q_ltoPairS a0) && ((q_ltoOpS a1) && ((q_sApply (ltoPairS a0) (ltoOpS a1)) && ((q_ltoPairS a0) && ((q_ltoOpS a1) && ((q_iApply (ltoPairS a0) (ltoOpS a1)) && ((q_leqPairS (iApply (ltoPairS a0) (ltoOpS a1)) (sApply (ltoPairS a0) (ltoOpS a1))) && (cond (!(leqPairS (iApply (ltoPairS a0) (ltoOpS a1)) (sApply (ltoPairS a0) (ltoOpS a1)))) true ((q_ltoPairS a0) && ((q_leqPairS (ltoPairS a0) (ltoPairS a0)) && (cond (!(leqPairS (ltoPairS a0) (ltoPairS a0))) true ((q_ltoOpS a1) && ((q_leqOpS (ltoOpS a1) (ltoOpS a1)) && (cond (!(leqOpS (ltoOpS a1) (ltoOpS a1))) true ((q_lmarkPairS (1 : Int) (ltoPairS a0)) && ((q_lmarkOpS ((lmarkPairS (1 : Int) (ltoPairS a0)).1) (ltoOpS a1)) && (cond (decide (((lmarkOpS ((lmarkPairS (1 : Int) (ltoPairS a0)).1) (ltoOpS a1)).1) < (0 : Int))) true ((q_leqPairS (iApply (ltoPairS a0) (ltoOpS a1)) (sApply (ltoPairS a0) (ltoOpS a1))) && (cond (!(leqPairS (iApply (ltoPairS a0) (ltoOpS a1)) (sApply (ltoPairS a0) (ltoOpS a1)))) true ((q_lmarkPairS (1 : Int) (iApply (ltoPairS a0) (ltoOpS a1))) && ((q_lheldPairS ((lmarkPairS (1 : Int) (iApply (ltoPairS a0) (ltoOpS a1))).2) (1 : Int)) && (cond (decide ((lheldPairS ((lmarkPairS (1 : Int) (iApply (ltoPairS a0) (ltoOpS a1))).2) (1 : Int)) < (0 : Int))) true (cond ((lheldPairS ((lmarkPairS (1 : Int) (iApply (ltoPairS a0) (ltoOpS a1))).2) (1 : Int)) != ((lmarkPairS (1 : Int) (iApply (ltoPairS a0) (ltoOpS a1))).1)) true ((q_ltoPairS a0) && ((q_ltoOpS a1) && ((q_iApply (ltoPairS a0) (ltoOpS a1)) && ((q_leqPairS (iApply (ltoPairS a0) (ltoOpS a1)) (sApply (ltoPairS a0) (ltoOpS a1))) && (cond (!(leqPairS (iApply (ltoPairS a0) (ltoOpS a1)) (sApply (ltoPairS a0) (ltoOpS a1)))) true (q_lheldPairS ((lmarkPairS (1 : Int) (iApply (ltoPairS a0) (ltoOpS a1))).2) (1 : Int)))))))))))))))))))))))))))))))))) = true) : runP true Try.prog tt S30 QF30 (fun _ _ => none) Try.f8 (argsMk P_lFnExactApply (a0, (a1, ()))) = some (g_lFnExactApply (a0, (a1, ()))) := by
  refine Eq.trans (b := (cond (q_lszPairS a0 (1048576 : Int)) (cond (decide ((lszPairS a0 (1048576 : Int)) < (0 : Int))) (some (e_lFnExactApply true)) (cond (q_lszOpS a1 (lszPairS a0 (1048576 : Int))) (cond (decide ((lszOpS a1 (lszPairS a0 (1048576 : Int))) < (0 : Int))) (some (e_lFnExactApply true)) (cond (q_ltoPairS a0) (cond (q_ltoOpS a1) (cond (q_sApply (ltoPairS a0) (ltoOpS a1)) (cond (q_ltoPairS a0) (cond (q_ltoOpS a1) (cond (q_iApply (ltoPairS a0) (ltoOpS a1)) (cond (q_leqPairS (iApply (ltoPairS a0) (ltoOpS a1)) (sApply (ltoPairS a0) (ltoOpS a1))) (cond (!(leqPairS (iApply (ltoPairS a0) (ltoOpS a1)) (sApply (ltoPairS a0) (ltoOpS a1)))) (some (e_lFnExactApply false)) (cond (q_ltoPairS a0) (cond (q_leqPairS (ltoPairS a0) (ltoPairS a0)) (cond (!(leqPairS (ltoPairS a0) (ltoPairS a0))) (some (e_lFnExactApply false)) (cond (q_ltoOpS a1) (cond (q_leqOpS (ltoOpS a1) (ltoOpS a1)) (cond (!(leqOpS (ltoOpS a1) (ltoOpS a1))) (some (e_lFnExactApply false)) (cond (q_lmarkPairS (1 : Int) (ltoPairS a0)) (cond (q_lmarkOpS ((lmarkPairS (1 : Int) (ltoPairS a0)).1) (ltoOpS a1)) (cond (decide (((lmarkOpS ((lmarkPairS (1 : Int) (ltoPairS a0)).1) (ltoOpS a1)).1) < (0 : Int))) (some (e_lFnExactApply false)) (cond (q_leqPairS (iApply (ltoPairS a0) (ltoOpS a1)) (sApply (ltoPairS a0) (ltoOpS a1))) (cond (!(leqPairS (iApply (ltoPairS a0) (ltoOpS a1)) (sApply (ltoPairS a0) (ltoOpS a1)))) (some (e_lFnExactApply false)) (cond (q_lmarkPairS (1 : Int) (iApply (ltoPairS a0) (ltoOpS a1))) (cond (q_lheldPairS ((lmarkPairS (1 : Int) (iApply (ltoPairS a0) (ltoOpS a1))).2) (1 : Int)) (cond (decide ((lheldPairS ((lmarkPairS (1 : Int) (iApply (ltoPairS a0) (ltoOpS a1))).2) (1 : Int)) < (0 : Int))) (some (e_lFnExactApply false)) (cond ((lheldPairS ((lmarkPairS (1 : Int) (iApply (ltoPairS a0) (ltoOpS a1))).2) (1 : Int)) != ((lmarkPairS (1 : Int) (iApply (ltoPairS a0) (ltoOpS a1))).1)) (some (e_lFnExactApply false)) (cond (q_ltoPairS a0) (cond (q_ltoOpS a1) (cond (q_iApply (ltoPairS a0) (ltoOpS a1)) (cond (q_leqPairS (iApply (ltoPairS a0) (ltoOpS a1)) (sApply (ltoPairS a0) (ltoOpS a1))) (cond (!(leqPairS (iApply (ltoPairS a0) (ltoOpS a1)) (sApply (ltoPairS a0) (ltoOpS a1)))) (some (e_lFnExactApply false)) (cond (q_lheldPairS ((lmarkPairS (1 : Int) (iApply (ltoPairS a0) (ltoOpS a1))).2) (1 : Int)) (cond (decide ((lheldPairS ((lmarkPairS (1 : Int) (iApply (ltoPairS a0) (ltoOpS a1))).2) (1 : Int)) < (0 : Int))) (some (e_lFnExactApply false)) (cond ((lheldPairS ((lmarkPairS (1 : Int) (iApply (ltoPairS a0) (ltoOpS a1))).2) (1 : Int)) != ((lmarkPairS (1 : Int) (iApply (ltoPairS a0) (ltoOpS a1))).1)) (some (e_lFnExactApply false)) (some (e_lFnExactApply true)))) none)) none) none) none) none))) none) none)) none)) none) none)) none) none)) none) none)) none) none) none) none) none) none) none)) none)) none)) (by kernel_rfl) ?_
  exact (cndT (andL hp) (fun _h => (fun hp => (cndQ (F := fun r => some (e_lFnExactApply r)) hp (fun hp => rfl) (fun hp => (cndT (andL hp) (fun _h => (fun hp => (cndQ (F := fun r => some (e_lFnExactApply r)) hp (fun hp => rfl) (fun hp => (cndT (andL hp) (fun _h => (fun hp => (cndT (andL hp) (fun _h => (fun hp => (cndT (andL hp) (fun _h => (fun hp => (cndT (andL hp) (fun _h => (fun hp => (cndT (andL hp) (fun _h => (fun hp => (cndT (andL hp) (fun _h => (fun hp => (cndT (andL hp) (fun _h => (fun hp => (cndQ (F := fun r => some (e_lFnExactApply r)) hp (fun hp => rfl) (fun hp => (cndT (andL hp) (fun _h => (fun hp => (cndT (andL hp) (fun _h => (fun hp => (cndQ (F := fun r => some (e_lFnExactApply r)) hp (fun hp => rfl) (fun hp => (cndT (andL hp) (fun _h => (fun hp => (cndT (andL hp) (fun _h => (fun hp => (cndQ (F := fun r => some (e_lFnExactApply r)) hp (fun hp => rfl) (fun hp => (cndT (andL hp) (fun _h => (fun hp => (cndT (andL hp) (fun _h => (fun hp => (cndQ (F := fun r => some (e_lFnExactApply r)) hp (fun hp => rfl) (fun hp => (cndT (andL hp) (fun _h => (fun hp => (cndQ (F := fun r => some (e_lFnExactApply r)) hp (fun hp => rfl) (fun hp => (cndT (andL hp) (fun _h => (fun hp => (cndT (andL hp) (fun _h => (fun hp => (cndQ (F := fun r => some (e_lFnExactApply r)) hp (fun hp => rfl) (fun hp => (cndQ (F := fun r => some (e_lFnExactApply r)) hp (fun hp => rfl) (fun hp => (cndT (andL hp) (fun _h => (fun hp => (cndT (andL hp) (fun _h => (fun hp => (cndT (andL hp) (fun _h => (fun hp => (cndT (andL hp) (fun _h => (fun hp => (cndQ (F := fun r => some (e_lFnExactApply r)) hp (fun hp => rfl) (fun hp => (cndT hp (fun _h => (cnd (F := fun r => some (e_lFnExactApply r)) (fun _h => rfl) (fun _h => (cnd (F := fun r => some (e_lFnExactApply r)) (fun _h => rfl) (fun _h => rfl))))))))) (andR hp)))) (andR hp)))) (andR hp)))) (andR hp)))))))) (andR hp)))) (andR hp)))))) (andR hp)))))) (andR hp)))) (andR hp)))))) (andR hp)))) (andR hp)))))) (andR hp)))) (andR hp)))))) (andR hp)))) (andR hp)))) (andR hp)))) (andR hp)))) (andR hp)))) (andR hp)))) (andR hp)))))) (andR hp)))))) (andR hp)))
theorem run_lFnExactApply : ∀ d, pre_lFnExactApply d = true → runP true Try.prog tt S30 QF30 (fun _ _ => none) Try.f8 (argsMk P_lFnExactApply d) = some (g_lFnExactApply d) := fun d hp => runA_lFnExactApply d.1 d.2.1 hp
theorem c_lFnExactApply : PContract Try.prog 8 (sumOf P_lFnExactApply pre_lFnExactApply g_lFnExactApply) := PContract.of_data true G30 (fn := Try.f8) (by kernel_rfl) (L := fun _ _ => none) (by rw [show loopsIn 0 (bodyOf Try.f8) = [] by kernel_rfl]; simp) P_lFnExactApply pre_lFnExactApply g_lFnExactApply run_lFnExactApply
noncomputable def S31 : Tab := Tab.add S30 8 (lift (sumOf P_lFnExactApply pre_lFnExactApply g_lFnExactApply))
noncomputable def QF31 : FuncId → Bool := qadd QF30 8
theorem G31 : Good Try.prog tt S31 QF31 := G30.addQ c_lFnExactApply ⟨Try.f8, by kernel_rfl, by kernel_rfl, by kernel_rfl⟩ (fun _ => rfl)
noncomputable def bigPs (l : List (ByteArray × ByteArray)) : Bool := decide (l.length ≤ 9223372036854775807) && l.all (fun o => bigS o.1 && bigS o.2)
theorem bigPs_of {l : List (ByteArray × ByteArray)} (h : bigT (.sl (.pair .str .str)) l = true) : bigPs l = true := by
  simp only [bigT, Bool.and_eq_true, List.all_eq_true, decide_eq_true_eq] at h
  simp only [bigPs, bigS, Bool.and_eq_true, List.all_eq_true, decide_eq_true_eq]
  have e : maxLen = 9223372036854775807 := by decide
  rw [e] at h
  exact h
noncomputable def dP : ByteArray × ByteArray := ((⟨#[]⟩ : ByteArray), (⟨#[]⟩ : ByteArray))
theorem getD_mem {α : Type} {l : List α} {i : Nat} (h : i < l.length) (d : α) : l.getD i d ∈ l := by
  simp [List.getD_eq_getElem?_getD, h]
theorem szPair_spec (s v : ByteArray) (b : Int) (h0 : 0 ≤ b) (h1 : b ≤ 1048576) (hs : bigS s = true) (hv : bigS v = true) (h : 0 ≤ lszPair s v b) : lszPair s v b ≤ b ∧ okS s = true ∧ okS v = true := by
  simp only [bigS, decide_eq_true_eq] at hs hv
  have e1 := wrap64 (n := b - ((s.size : Nat) : Int)) (by omega) (by omega)
  simp only [lszPair, e1] at h ⊢
  cases hd : decide (b - ((s.size : Nat) : Int) < 0) with
  | true => rw [hd] at h; simp at h
  | false =>
    rw [hd] at h
    have := of_decide_eq_false hd
    have e2 := wrap64 (n := b - ((s.size : Nat) : Int) - ((v.size : Nat) : Int)) (by omega) (by omega)
    simp only [cond_false, e2] at h ⊢
    cases hd2 : decide (b - ((s.size : Nat) : Int) - ((v.size : Nat) : Int) < 0) with
    | true => rw [hd2] at h; simp at h
    | false =>
      have := of_decide_eq_false hd2
      simp only [cond_false, okS, decide_eq_true_eq]
      omega
theorem szPairS_spec (l : List (ByteArray × ByteArray)) (b : Int) (h0 : 0 ≤ b) (h1 : b ≤ 1048576) (hb : bigPs l = true) : q_lszPairS l b = true ∧ (0 ≤ lszPairS l b → lszPairS l b ≤ b - (l.length : Int) ∧ l.length ≤ 1048576) := by
  have hl : l.length ≤ 9223372036854775807 := by simp only [bigPs, Bool.and_eq_true, decide_eq_true_eq] at hb; exact hb.1
  refine ⟨decide_eq_true ⟨h0, h1, hl⟩, fun h => ?_⟩
  have e1 := wrap64 (n := b - ((l.length : Nat) : Int)) (by omega) (by omega)
  simp only [lszPairS, e1, Int.toNat_zero, Nat.sub_zero] at h ⊢
  cases hd : decide (b - ((l.length : Nat) : Int) < 0) with
  | true => rw [hd] at h; simp at h
  | false =>
    rw [hd] at h
    have := of_decide_eq_false hd
    simp only [cond_false] at h ⊢
    cases hi : isInl (szN (f_lszPairS_0 l) l.length 0 (b - ((l.length : Nat) : Int))) with
    | false => rw [hi] at h; simp at h
    | true =>
      obtain ⟨r1, r2, r3⟩ := szN_all (M := 1048576) (Q := fun i => True) l.length 0 (b - ((l.length : Nat) : Int)) (fun j b' _ hj q0 q1 hf => by
        have hlt : j < l.length := by omega
        have hm : l.getD j dP ∈ l := getD_mem hlt dP
        have hp : bigS (l.getD j dP).1 = true ∧ bigS (l.getD j dP).2 = true := by
          simp only [bigPs, Bool.and_eq_true, List.all_eq_true] at hb
          exact hb.2 _ hm
        exact ⟨trivial, (szPair_spec _ _ b' q0 q1 hp.1 hp.2 hf).1⟩) (by omega) (by omega) hi
      simp only [cond_true]
      exact ⟨by omega, by omega⟩
theorem toOpS_same (l : List (Int × ByteArray × ByteArray)) : ltoOpS l = l := by
  have e := mapN (fun o : Int × ByteArray × ByteArray => (ltoOp o.1 o.2.1 o.2.2)) dOp l l.length 0 (List.replicate l.length dOp) (by simp) (by simp)
  simp only [List.take_zero, List.nil_append, List.drop_zero] at e
  have e2 : l.map (fun o : Int × ByteArray × ByteArray => (ltoOp o.1 o.2.1 o.2.2)) = l := by
    rw [show (fun o : Int × ByteArray × ByteArray => (ltoOp o.1 o.2.1 o.2.2)) = id from funext fun _ => rfl, List.map_id]
  rw [e2] at e
  exact e
theorem toPairS_same (l : List (ByteArray × ByteArray)) : ltoPairS l = l := by
  have e := mapN (fun o : ByteArray × ByteArray => (ltoPair o.1 o.2)) dP l l.length 0 (List.replicate l.length dP) (by simp) (by simp)
  simp only [List.take_zero, List.nil_append, List.drop_zero] at e
  have e2 : l.map (fun o : ByteArray × ByteArray => (ltoPair o.1 o.2)) = l := by
    rw [show (fun o : ByteArray × ByteArray => (ltoPair o.1 o.2)) = id from funext fun _ => rfl, List.map_id]
  rw [e2] at e
  exact e
theorem szOp_spec (k : Int) (s v : ByteArray) (b : Int) (h0 : 0 ≤ b) (h1 : b ≤ 1048576) (hs : bigS s = true) (hv : bigS v = true) (h : 0 ≤ lszOp k s v b) : lszOp k s v b ≤ b ∧ okS s = true ∧ okS v = true := by
  simp only [bigS, decide_eq_true_eq] at hs hv
  have e1 := wrap64 (n := b - ((s.size : Nat) : Int)) (by omega) (by omega)
  simp only [lszOp, e1] at h ⊢
  cases hd : decide (b - ((s.size : Nat) : Int) < 0) with
  | true => rw [hd] at h; simp at h
  | false =>
    rw [hd] at h
    have := of_decide_eq_false hd
    have e2 := wrap64 (n := b - ((s.size : Nat) : Int) - ((v.size : Nat) : Int)) (by omega) (by omega)
    simp only [cond_false, e2] at h ⊢
    cases hd2 : decide (b - ((s.size : Nat) : Int) - ((v.size : Nat) : Int) < 0) with
    | true => rw [hd2] at h; simp at h
    | false =>
      have := of_decide_eq_false hd2
      simp only [cond_false, okS, decide_eq_true_eq]
      omega
theorem szOpS_spec (l : List (Int × ByteArray × ByteArray)) (b : Int) (h0 : 0 ≤ b) (h1 : b ≤ 1048576) (hb : bigOps l = true) (h : 0 ≤ lszOpS l b) : lszOpS l b ≤ b ∧ okOps l = true := by
  have hl : l.length ≤ 9223372036854775807 := by simp only [bigOps, Bool.and_eq_true, decide_eq_true_eq] at hb; exact hb.1
  have e1 := wrap64 (n := b - ((l.length : Nat) : Int)) (by omega) (by omega)
  simp only [lszOpS, e1, Int.toNat_zero, Nat.sub_zero] at h ⊢
  cases hd : decide (b - ((l.length : Nat) : Int) < 0) with
  | true => rw [hd] at h; simp at h
  | false =>
    rw [hd] at h
    have := of_decide_eq_false hd
    simp only [cond_false] at h ⊢
    cases hi : isInl (szN (f_lszOpS_0 l) l.length 0 (b - ((l.length : Nat) : Int))) with
    | false => rw [hi] at h; simp at h
    | true =>
      obtain ⟨r1, r2, r3⟩ := szN_all (M := 1048576) (Q := fun i => okS (l.getD i dOp).2.1 = true ∧ okS (l.getD i dOp).2.2 = true) l.length 0 (b - ((l.length : Nat) : Int)) (fun j b' _ hj q0 q1 hf => by
        obtain ⟨p1, p2⟩ := bigOps_at hb j (by omega)
        obtain ⟨s1, s2, s3⟩ := szOp_spec _ _ _ b' q0 q1 p1 p2 hf
        exact ⟨⟨s2, s3⟩, s1⟩) (by omega) (by omega) hi
      simp only [cond_true]
      exact ⟨by omega, okOps_of (by omega) (fun i hi => r1 i (Nat.zero_le _) (by omega))⟩
theorem szOpS_len {l : List (Int × ByteArray × ByteArray)} {b : Int} (h0 : 0 ≤ b) (h1 : b ≤ 1048576) (hl : l.length ≤ 1048576) (h : 0 ≤ lszOpS l b) : (l.length : Int) ≤ b := by
  have e1 := wrap64 (n := b - ((l.length : Nat) : Int)) (by omega) (by omega)
  simp only [lszOpS, e1] at h
  cases hd : decide (b - ((l.length : Nat) : Int) < 0) with
  | true => rw [hd] at h; simp at h
  | false => have := of_decide_eq_false hd; omega
noncomputable def isK (k : ByteArray) (p : ByteArray × ByteArray) : Bool := p.1.toList == k.toList
noncomputable def overK (k : ByteArray) (p : ByteArray × ByteArray) : Bool := !(Op.bytesLess p.1.toList k.toList || p.1.toList == k.toList)
noncomputable def putL (l : List (ByteArray × ByteArray)) (k v : ByteArray) : List (ByteArray × ByteArray) :=
  cond (decide (l.findIdx (isK k) < l.length)) (l.set (l.findIdx (isK k)) ((l.getD (l.findIdx (isK k)) dP).1, v)) (l.take (l.findIdx (overK k)) ++ ((k, v) :: l.drop (l.findIdx (overK k))))
noncomputable def delL (l : List (ByteArray × ByteArray)) (k : ByteArray) : List (ByteArray × ByteArray) := l.filter fun p => !isK k p
noncomputable def appL (l : List (ByteArray × ByteArray)) (o : Int × ByteArray × ByteArray) : List (ByteArray × ByteArray) := cond (o.1 == 1) (putL l o.2.1 o.2.2) (cond (o.1 == 2) (delL l o.2.1) l)
theorem itX_fold {V A α β : Type} {ss : V → V ⊕ A} {fa : A} (pk : Nat → β → V) (l : List α) (d : α) (f : β → α → β) (last : β → A) (ok : Nat → β → Prop) (hn : l.length < 4611686018427387904)
    (h : ∀ i b, i < l.length → ok i b → ss (pk i b) = .inl (pk (i + 1) (f b (l.getD i d))) ∧ ok (i + 1) (f b (l.getD i d))) (hl : ∀ b, ok l.length b → ss (pk l.length b) = .inr (last b)) {b : β} (h0 : ok 0 b) : itX ss fa (pk 0 b) = last (l.foldl f b) := by
  rw [itX_eq]
  have key : ∀ k N i b, i + k = l.length → k < N → ok i b → itN ss fa N (pk i b) = last ((l.drop i).foldl f b) := by
    intro k
    induction k with
    | zero =>
      intro N i b hi hN ho
      obtain ⟨M, rfl⟩ : ∃ M, N = M + 1 := ⟨N - 1, by omega⟩
      obtain rfl : i = l.length := by omega
      rw [itN_one, hl b ho, List.drop_length]; rfl
    | succ k ih =>
      intro N i b hi hN ho
      obtain ⟨M, rfl⟩ : ∃ M, N = M + 1 := ⟨N - 1, by omega⟩
      have hlt : i < l.length := by omega
      obtain ⟨h1, h2⟩ := h i b hlt ho
      rw [itN_one, h1]
      simp only
      rw [ih M (i + 1) _ (by omega) (by omega) h2, List.drop_eq_getElem_cons hlt, List.foldl_cons]
      simp [List.getD_eq_getElem?_getD, hlt]
  have := key l.length _ 0 b (by omega) hn h0
  simpa using this
theorem delL_len (l : List (ByteArray × ByteArray)) (k : ByteArray) : (delL l k).length ≤ l.length := List.length_filter_le _ _
theorem findIdx_le' {α : Type} (p : α → Bool) (l : List α) : l.findIdx p ≤ l.length := List.findIdx_le_length
theorem putL_len (l : List (ByteArray × ByteArray)) (k v : ByteArray) : (putL l k v).length ≤ l.length + 1 := by
  simp only [putL]
  cases decide (l.findIdx (isK k) < l.length)
  · have := findIdx_le' (overK k) l
    simp only [cond_false, List.length_append, List.length_take, List.length_cons, List.length_drop]; omega
  · simp
theorem appL_len (l : List (ByteArray × ByteArray)) (o : Int × ByteArray × ByteArray) : (appL l o).length ≤ l.length + 1 := by
  simp only [appL]
  cases o.1 == 1
  · cases o.1 == 2
    · simp
    · have := delL_len l o.2.1; simp only [cond_true, cond_false]; omega
  · exact putL_len _ _ _
/-- The first answer of places in order. -/
noncomputable def scanA {A : Type} (f : Nat → Option A) (last : A) : Nat → Nat → A
  | 0, _ => last
  | k + 1, i => match f i with
    | some a => a
    | none => scanA f last k (i + 1)
theorem itX_scan {V A : Type} {ss : V → V ⊕ A} {fa : A} (pk : Nat → V) (n : Nat) (f : Nat → Option A) (last : A) (hn : n < 4611686018427387904)
    (h : ∀ i, i < n → ss (pk i) = (match f i with | some a => .inr a | none => .inl (pk (i + 1)))) (hl : ss (pk n) = .inr last) : itX ss fa (pk 0) = scanA f last n 0 := by
  rw [itX_eq]
  have key : ∀ k N i, i + k = n → k < N → itN ss fa N (pk i) = scanA f last k i := by
    intro k
    induction k with
    | zero =>
      intro N i hi hN
      obtain ⟨M, rfl⟩ : ∃ M, N = M + 1 := ⟨N - 1, by omega⟩
      obtain rfl : i = n := by omega
      rw [itN_one, hl]; rfl
    | succ k ih =>
      intro N i hi hN
      obtain ⟨M, rfl⟩ : ∃ M, N = M + 1 := ⟨N - 1, by omega⟩
      rw [itN_one, h i (by omega)]
      simp only [scanA]
      cases hf : f i with
      | some a => rfl
      | none => exact ih M (i + 1) (by omega) (by omega)
  exact key n _ 0 (by omega) hn
theorem scanA_cases {A : Type} (f : Nat → Option A) (last : A) : ∀ k i, (∃ j a, i ≤ j ∧ j < i + k ∧ f j = some a ∧ (∀ m, i ≤ m → m < j → f m = none) ∧ scanA f last k i = a) ∨ ((∀ j, i ≤ j → j < i + k → f j = none) ∧ scanA f last k i = last) := by
  intro k
  induction k with
  | zero => intro i; exact .inr ⟨fun j h1 h2 => by omega, rfl⟩
  | succ k ih =>
    intro i
    simp only [scanA]
    cases hf : f i with
    | some a => exact .inl ⟨i, a, Nat.le_refl _, by omega, hf, fun m h1 h2 => by omega, rfl⟩
    | none =>
      rcases ih (i + 1) with ⟨j, a, h1, h2, h3, h4, h5⟩ | ⟨h1, h2⟩
      · refine .inl ⟨j, a, by omega, by omega, h3, fun m m1 m2 => ?_, h5⟩
        by_cases hm : m = i
        · rw [hm]; exact hf
        · exact h4 m (by omega) m2
      · refine .inr ⟨fun j j1 j2 => ?_, h2⟩
        by_cases hj : j = i
        · rw [hj]; exact hf
        · exact h1 j (by omega) (by omega)
theorem itX_find {V A α : Type} {ss : V → V ⊕ A} {fa : A} (pk : Nat → V) (l : List α) (d : α) (p : α → Bool) (good : Nat → A) (last : A) (hn : l.length < 4611686018427387904)
    (h : ∀ i, i < l.length → ss (pk i) = cond (p (l.getD i d)) (.inr (good i)) (.inl (pk (i + 1)))) (hl : ss (pk l.length) = .inr last) :
    itX ss fa (pk 0) = cond (decide (l.findIdx p < l.length)) (good (l.findIdx p)) last := by
  rw [itX_scan pk l.length (fun i => cond (p (l.getD i d)) (some (good i)) none) last hn (fun i hi => by rw [h i hi]; cases p (l.getD i d) <;> rfl) hl]
  rcases scanA_cases (fun i => cond (p (l.getD i d)) (some (good i)) none) last l.length 0 with ⟨j, a, h1, h2, h3, h4, h5⟩ | ⟨h1, h2⟩
  · have hj : j < l.length := by omega
    have hg : l.getD j d = l[j] := by simp [List.getD_eq_getElem?_getD, hj]
    have hp : p l[j] = true := by
      cases hc : p (l.getD j d) with
      | true => rw [hg] at hc; exact hc
      | false => simp only [hc, cond_false] at h3; cases h3
    have hf : l.findIdx p = j := by
      rw [List.findIdx_eq hj]
      refine ⟨hp, fun m hm => ?_⟩
      have := h4 m (by omega) hm
      have hgm : l.getD m d = l[m] := by simp [List.getD_eq_getElem?_getD, Nat.lt_trans hm hj]
      rw [← hgm]
      cases hc : p (l.getD m d) with
      | false => rfl
      | true => simp only [hc, cond_true] at this; cases this
    rw [h5, hf, decide_eq_true hj]
    rw [hg, hp] at h3
    exact (Option.some.inj h3).symm
  · have hf : ¬ l.findIdx p < l.length := by
      intro hlt
      have hp := List.findIdx_getElem (w := hlt)
      have := h1 (l.findIdx p) (by omega) (by omega)
      have hg : l.getD (l.findIdx p) d = l[l.findIdx p] := by simp [List.getD_eq_getElem?_getD, hlt]
      rw [hg, hp] at this
      cases this
    rw [h2, decide_eq_false hf]; rfl
theorem getD_dP (l : List (ByteArray × ByteArray)) (i : Nat) : l.getD i ((⟨#[]⟩ : ByteArray), (⟨#[]⟩ : ByteArray)) = l.getD i dP := rfl
theorem sPutKey_spec (l : List (ByteArray × ByteArray)) (k v : ByteArray) (hl : l.length ≤ 1099511627776) : q_sPutKey l k v = true ∧ sPutKey l k v = putL l k v := by
  have hlt : ∀ i : Nat, i < l.length → decide ((i : Int) < ((l.length : Nat) : Int)) = true ∧ decide (0 ≤ (i : Int) ∧ (i : Int) < ((l.length : Nat) : Int)) = true := fun i hi => ⟨decide_eq_true (by omega), decide_eq_true (by omega)⟩
  have hge : decide (((l.length : Nat) : Int) < ((l.length : Nat) : Int)) = false := decide_eq_false (by omega)
  have e0 : it_sPutKey_0 l k v 0 l = cond (decide (l.findIdx (isK k) < l.length)) (0, l.set (l.findIdx (isK k)) ((l.getD (l.findIdx (isK k)) dP).1, v), ([] : List (ByteArray × ByteArray)), (⟨#[]⟩ : ByteArray), (⟨#[]⟩ : ByteArray)) (1, ([] : List (ByteArray × ByteArray)), l, k, v) := by
    refine itX_find (ss := fun v : V_sPutKey_0 => ss_sPutKey_0 v.1 v.2.1 v.2.2.1 v.2.2.2.1 v.2.2.2.2) (fa := fl_sPutKey_0) (fun i => ((l, k, v, (i : Int), l) : V_sPutKey_0)) l dP (isK k) (fun i => ((0, l.set i ((l.getD i dP).1, v), [], ⟨#[]⟩, ⟨#[]⟩) : A_sPutKey_0)) _ (by omega) (fun i hi => ?_) ?_
    · obtain ⟨h1, h2⟩ := hlt i hi
      simp only [ss_sPutKey_0, h1, h2, cond_true, Int.toNat_natCast, wrapU i (by omega), getD_dP]
      rfl
    · simp only [ss_sPutKey_0, hge, cond_false]
  have e1 : it_sPutKey_1 l k v 0 = (0, l, k, v, ((l.findIdx (overK k) : Nat) : Int)) := by
    have h := itX_find (ss := fun v : V_sPutKey_1 => ss_sPutKey_1 v.1 v.2.1 v.2.2.1 v.2.2.2) (fa := fl_sPutKey_1) (fun i => ((l, k, v, (i : Int)) : V_sPutKey_1)) l dP (overK k) (fun i => (0, l, k, v, (i : Int))) (0, l, k, v, ((l.length : Nat) : Int)) (by omega) (fun i hi => ?_) ?_
    · refine h.trans ?_
      by_cases hc : l.findIdx (overK k) < l.length
      · rw [decide_eq_true hc]; rfl
      · have := findIdx_le' (overK k) l
        have he : l.findIdx (overK k) = l.length := by omega
        rw [decide_eq_false hc, he]; rfl
    · obtain ⟨h1, h2⟩ := hlt i hi
      simp only [ss_sPutKey_1, h1, h2, cond_true, Int.toNat_natCast, wrapU i (by omega), getD_dP, overK]
      cases (Op.bytesLess (l.getD i dP).1.toList k.toList || (l.getD i dP).1.toList == k.toList) <;> rfl
    · simp only [ss_sPutKey_1, hge, cond_false]
  have hle := findIdx_le' (overK k) l
  simp only [q_sPutKey, sPutKey, k1_sPutKey, List.nil_append, e0]
  cases hc : decide (l.findIdx (isK k) < l.length) with
  | true =>
    simp only [cond_true, putL, hc]
    refine ⟨?_, rfl⟩
    have e : decide ((([] : List (ByteArray × ByteArray)).length + l.length) * 32 ≤ MAXB) = true := decide_eq_true (by simp [MAXB]; omega)
    rw [e]; rfl
  | false =>
    have f1 : ((1 : Nat) == 0) = false := rfl
    have f2 : ((1 : Nat) == 1) = true := rfl
    have f3 : ((0 : Nat) == 0) = true := rfl
    simp only [cond_false, f1, f2, f3, e1, putL, hc, Int.toNat_natCast, Bool.true_and, Int.toNat_zero, List.drop_zero, List.take_length]
    refine ⟨?_, by rw [List.append_assoc]; rfl⟩
    simp only [Bool.and_eq_true, decide_eq_true_eq, MAXB, List.length_nil, List.length_take, List.length_append, List.length_cons, List.length_drop]
    refine ⟨decide_eq_true (by omega), ?_, ?_, ?_, ?_, ?_⟩ <;> omega
theorem take_succ_getD {α : Type} {l : List α} {i : Nat} (hi : i < l.length) (d : α) : l.take (i + 1) = l.take i ++ [l.getD i d] := by
  rw [List.take_add_one, List.getElem?_eq_getElem hi]; simp [List.getD_eq_getElem?_getD, hi]
theorem sDelKey_spec (l : List (ByteArray × ByteArray)) (k : ByteArray) (hl : l.length ≤ 1099511627776) : q_sDelKey l k = true ∧ sDelKey l k = delL l k := by
  have h : it_sDelKey_0 l k 0 [] = (0, delL l k) := by
    refine itX_of (fun v : V_sDelKey_0 => ∃ i : Nat, v = (l, k, (i : Int), (l.take i).filter (fun p => !isK k p)) ∧ i ≤ l.length) (fun v => (0, v.2.2.2 ++ (l.drop v.2.2.1.toNat).filter (fun p => !isK k p))) (fun v => l.length - v.2.2.1.toNat) (fun v hv => ?_) ⟨0, rfl, by omega⟩ (by simp; omega)
    obtain ⟨i, rfl, hi⟩ := hv
    by_cases hlt : i < l.length
    · left
      have h1 : decide ((i : Int) < ((l.length : Nat) : Int)) = true := decide_eq_true (by omega)
      have h2 : decide (0 ≤ (i : Int) ∧ (i : Int) < ((l.length : Nat) : Int)) = true := decide_eq_true (by omega)
      have hfl := List.length_filter_le (fun p => !isK k p) (l.take i)
      rw [List.length_take] at hfl
      have h3 : ∀ x : ByteArray × ByteArray, decide ((((l.take i).filter (fun p => !isK k p)).length + [x].length) * 32 ≤ MAXB) = true := fun x => decide_eq_true (by simp only [MAXB, List.length_singleton]; omega)
      have hd : l.drop i = l.getD i dP :: l.drop (i + 1) := by rw [List.drop_eq_getElem_cons hlt]; simp [List.getD_eq_getElem?_getD, hlt]
      have ht : l.take (i + 1) = l.take i ++ [l.getD i dP] := take_succ_getD hlt dP
      refine ⟨(l, k, ((i + 1 : Nat) : Int), (l.take (i + 1)).filter (fun p => !isK k p)), ?_, ⟨i + 1, rfl, by omega⟩, ?_, by simp only [Int.toNat_natCast]; omega⟩
      · simp only [ss_sDelKey_0, h1, h2, h3, cond_true, Int.toNat_natCast, wrapU i (by omega), getD_dP, ht, List.filter_append, List.filter_cons, List.filter_nil]
        show cond (!isK k (l.getD i dP)) _ _ = _
        cases isK k (l.getD i dP) <;> simp
      · simp only [Int.toNat_natCast, ht, hd, List.filter_append, List.filter_cons, List.filter_nil]
        cases isK k (l.getD i dP) <;> simp
    · right
      obtain rfl : i = l.length := by omega
      have h1 : decide (((l.length : Nat) : Int) < ((l.length : Nat) : Int)) = false := decide_eq_false (by omega)
      simp only [ss_sDelKey_0, h1, cond_false, Int.toNat_natCast, List.drop_length, List.filter_nil, List.append_nil]
  exact ⟨by simp only [q_sDelKey, h]; rfl, by simp only [sDelKey, h]⟩
theorem sApply_spec (m : List (ByteArray × ByteArray)) (l : List (Int × ByteArray × ByteArray)) (hm : m.length ≤ 1000000000) (hl : l.length ≤ 1000000000) : q_sApply m l = true ∧ sApply m l = l.foldl appL m := by
  have h : it_sApply_0 l 0 m = (0, l.foldl appL m) := by
    refine itX_fold (ss := fun v : V_sApply_0 => ss_sApply_0 v.1 v.2.1 v.2.2) (fa := fl_sApply_0) (fun i b => ((l, (i : Int), b) : V_sApply_0)) l dOp appL (fun b => ((0, b) : A_sApply_0)) (fun i b => b.length ≤ m.length + i) (by omega) (fun i b hi hb => ⟨?_, by have := appL_len b (l.getD i dOp); omega⟩) (fun b hb => ?_) (by simp)
    · have h1 : decide ((i : Int) < ((l.length : Nat) : Int)) = true := decide_eq_true (by omega)
      have h2 : decide (0 ≤ (i : Int) ∧ (i : Int) < ((l.length : Nat) : Int)) = true := decide_eq_true (by omega)
      have e : l.getD i ((0 : Int), ((⟨#[]⟩ : ByteArray), (⟨#[]⟩ : ByteArray))) = l.getD i dOp := rfl
      obtain ⟨p1, p2⟩ := sPutKey_spec b (l.getD i dOp).2.1 (l.getD i dOp).2.2 (by omega)
      obtain ⟨d1, d2⟩ := sDelKey_spec b (l.getD i dOp).2.1 (by omega)
      simp only [ss_sApply_0, h1, h2, cond_true, Int.toNat_natCast, wrapU i (by omega), e, k1_sApply, k2_sApply, p1, p2, d1, d2, appL]
      cases (l.getD i dOp).1 == 1 <;> cases (l.getD i dOp).1 == 2 <;> rfl
    · have h1 : decide (((l.length : Nat) : Int) < ((l.length : Nat) : Int)) = false := decide_eq_false (by omega)
      simp only [ss_sApply_0, h1, cond_false]
  have hq : decide ((([] : List (ByteArray × ByteArray)).length + m.length) * 32 ≤ MAXB) = true := decide_eq_true (by simp [MAXB]; omega)
  simp only [q_sApply, sApply, List.nil_append, h, hq]
  exact ⟨rfl, trivial⟩
theorem pairAt_spec (l : List (ByteArray × ByteArray)) (k : ByteArray) (hl : l.length ≤ 1099511627776) : q_ipairAt l k = true ∧ ipairAt l k = cond (decide (l.findIdx (isK k) < l.length)) ((l.findIdx (isK k) : Nat) : Int) (-1) := by
  have e : it_slices_IndexFunc_iPair_ipairAt_1_0 l ((l.length : Nat) : Int) 0 k = cond (decide (l.findIdx (isK k) < l.length)) (0, ((l.findIdx (isK k) : Nat) : Int)) (1, 0) := by
    refine itX_find (ss := fun v : V_slices_IndexFunc_iPair_ipairAt_1_0 => ss_slices_IndexFunc_iPair_ipairAt_1_0 v.1 v.2.1 v.2.2 k) (fa := fl_slices_IndexFunc_iPair_ipairAt_1_0) (fun i => ((l, ((l.length : Nat) : Int), (i : Int)) : V_slices_IndexFunc_iPair_ipairAt_1_0)) l dP (isK k) (fun i => ((0, (i : Int)) : A_slices_IndexFunc_iPair_ipairAt_1_0)) _ (by omega) (fun i hi => ?_) ?_
    · have h1 : decide ((i : Int) < ((l.length : Nat) : Int)) = true := decide_eq_true (by omega)
      have h2 : decide (0 ≤ (i : Int) ∧ (i : Int) < ((l.length : Nat) : Int)) = true := decide_eq_true (by omega)
      simp only [ss_slices_IndexFunc_iPair_ipairAt_1_0, h1, h2, cond_true, Int.toNat_natCast, wrapU i (by omega), getD_dP, k1_slices_IndexFunc_iPair_ipairAt_1, ipairAt_1]
      rfl
    · have h1 : decide (((l.length : Nat) : Int) < ((l.length : Nat) : Int)) = false := decide_eq_false (by omega)
      simp only [ss_slices_IndexFunc_iPair_ipairAt_1_0, h1, cond_false]
  simp only [q_ipairAt, ipairAt, q_slices_IndexFunc_iPair_ipairAt_1, slices_IndexFunc_iPair_ipairAt_1, e]
  cases decide (l.findIdx (isK k) < l.length) <;> exact ⟨rfl, rfl⟩
theorem iputKey_spec (l : List (ByteArray × ByteArray)) (k v : ByteArray) (hl : l.length ≤ 1099511627776) : q_iputKey k v l = true ∧ iputKey k v l = putL l k v := by
  obtain ⟨p1, p2⟩ := pairAt_spec l k hl
  have e1 : it_iputKey_0 k v 0 l = (0, k, v, ((l.findIdx (overK k) : Nat) : Int), l) := by
    have h := itX_find (ss := fun u : V_iputKey_0 => ss_iputKey_0 u.1 u.2.1 u.2.2.1 u.2.2.2) (fa := fl_iputKey_0) (fun i => ((k, v, (i : Int), l) : V_iputKey_0)) l dP (overK k) (fun i => ((0, k, v, (i : Int), l) : A_iputKey_0)) (0, k, v, ((l.length : Nat) : Int), l) (by omega) (fun i hi => ?_) ?_
    · refine h.trans ?_
      by_cases hc : l.findIdx (overK k) < l.length
      · rw [decide_eq_true hc]; rfl
      · have := findIdx_le' (overK k) l
        have he : l.findIdx (overK k) = l.length := by omega
        rw [decide_eq_false hc, he]; rfl
    · have h1 : decide ((i : Int) < ((l.length : Nat) : Int)) = true := decide_eq_true (by omega)
      have h2 : decide (0 ≤ (i : Int) ∧ (i : Int) < ((l.length : Nat) : Int)) = true := decide_eq_true (by omega)
      simp only [ss_iputKey_0, h1, h2, cond_true, Int.toNat_natCast, wrapU i (by omega), getD_dP, overK]
      cases (Op.bytesLess (l.getD i dP).1.toList k.toList || (l.getD i dP).1.toList == k.toList) <;> rfl
    · have h1 : decide (((l.length : Nat) : Int) < ((l.length : Nat) : Int)) = false := decide_eq_false (by omega)
      simp only [ss_iputKey_0, h1, cond_false]
  have hle := findIdx_le' (overK k) l
  simp only [q_iputKey, iputKey, p1, p2, k1_iputKey, e1, q_insP, insP, putL, Int.toNat_natCast]
  cases hc : decide (l.findIdx (isK k) < l.length) with
  | true =>
    have hlt := of_decide_eq_true hc
    have g1 : decide (((l.findIdx (isK k) : Nat) : Int) ≥ 0) = true := decide_eq_true (by omega)
    have g2 : decide (0 ≤ ((l.findIdx (isK k) : Nat) : Int) ∧ ((l.findIdx (isK k) : Nat) : Int) < ((l.length : Nat) : Int)) = true := decide_eq_true (by omega)
    simp only [cond_true, g1, g2, Int.toNat_natCast, Bool.true_and]
    exact ⟨trivial, rfl⟩
  | false =>
    have g1 : decide ((-1 : Int) ≥ 0) = false := by decide
    have g2 : decide (0 ≤ ((l.findIdx (overK k) : Nat) : Int) ∧ ((l.findIdx (overK k) : Nat) : Int) ≤ ((l.length : Nat) : Int)) = true := decide_eq_true (by omega)
    have g3 : decide ((l.length + 1) * 32 ≤ 140737488355328) = true := decide_eq_true (by omega)
    simp only [cond_false, g1, g2, g3, Bool.true_and]
    exact ⟨rfl, rfl⟩
theorem filt1 {α : Type} {p : α → Bool} {x : α} (h : p x = false) : [x].filter p = [] := by simp [List.filter_cons, h]
theorem filt2 {α : Type} {p : α → Bool} {x : α} (h : p x = true) : [x].filter p = [x] := by simp [List.filter_cons, h]
theorem delFunc_loop (l : List (ByteArray × ByteArray)) (k : ByteArray) (hl : l.length ≤ 1099511627776) (j : Nat) (hj : j < l.length) (hpre : (l.take j).filter (fun p => !isK k p) = l.take j) (hat : isK k (l.getD j dP) = true) :
    ∃ r : List (ByteArray × ByteArray), it_slices_DeleteFunc_iPair_0 ((j : Nat) : Int) (((j + 1 : Nat) : Int)) l k = (0, (((delL l k).length : Nat) : Int), r) ∧ r.length = l.length ∧ r.take (delL l k).length = delL l k := by
  refine itX_inv (fun v : V_slices_DeleteFunc_iPair_0 => ∃ (m : Nat) (r : List (ByteArray × ByteArray)), v = (((((l.take m).filter (fun p => !isK k p)).length : Nat) : Int), (m : Int), r) ∧ m ≤ l.length ∧ ((l.take m).filter (fun p => !isK k p)).length < m ∧ r.length = l.length ∧ r.take ((l.take m).filter (fun p => !isK k p)).length = (l.take m).filter (fun p => !isK k p) ∧ r.drop m = l.drop m)
    (fun a : A_slices_DeleteFunc_iPair_0 => ∃ r : List (ByteArray × ByteArray), a = (0, (((delL l k).length : Nat) : Int), r) ∧ r.length = l.length ∧ r.take (delL l k).length = delL l k) (fun v => l.length - v.2.1.toNat) ?_ ⟨j + 1, l, ?_, by omega, ?_, rfl, ?_, rfl⟩ (by simp; omega)
  · rintro v ⟨m, r, rfl, hm, hlt2, hr, ht, hd⟩
    by_cases hlt : m < l.length
    · left
      have h1 : decide ((m : Int) < ((r.length : Nat) : Int)) = true := decide_eq_true (by omega)
      have h2 : decide (0 ≤ (m : Int) ∧ (m : Int) < ((r.length : Nat) : Int)) = true := decide_eq_true (by omega)
      have h3 : decide (0 ≤ ((((l.take m).filter (fun p => !isK k p)).length : Nat) : Int) ∧ ((((l.take m).filter (fun p => !isK k p)).length : Nat) : Int) < ((r.length : Nat) : Int)) = true := decide_eq_true (by omega)
      have hg : r.getD m dP = l.getD m dP := by
        have := congrArg (fun x : List (ByteArray × ByteArray) => x[0]?) hd
        simp only [List.getElem?_drop, Nat.add_zero] at this
        simp only [List.getD_eq_getElem?_getD, this]
      have htk : l.take (m + 1) = l.take m ++ [l.getD m dP] := take_succ_getD hlt dP
      have hdd : ∀ x : List (ByteArray × ByteArray), x.drop m = l.drop m → x.drop (m + 1) = l.drop (m + 1) := fun x hx => by
        rw [← List.drop_drop, ← List.drop_drop, hx]
      cases hc : isK k (l.getD m dP) with
      | true =>
        have hf : (l.take (m + 1)).filter (fun p => !isK k p) = (l.take m).filter (fun p => !isK k p) := by rw [htk, List.filter_append, filt1 (by rw [hc]; rfl), List.append_nil]
        refine ⟨(((((l.take (m + 1)).filter (fun p => !isK k p)).length : Nat) : Int), ((m + 1 : Nat) : Int), r), ?_, ⟨m + 1, r, rfl, by omega, by rw [hf]; omega, hr, by rw [hf]; exact ht, hdd r hd⟩, by simp only [Int.toNat_natCast]; omega⟩
        have hk : k1_slices_DeleteFunc_iPair (m : Int) r k = true := by simp only [k1_slices_DeleteFunc_iPair, iDelKey_1, getD_dP, Int.toNat_natCast, hg]; exact hc
        simp only [ss_slices_DeleteFunc_iPair_0, h1, h2, hk, cond_true, Bool.not_true, cond_false, wrapU m (by omega), hf]
      | false =>
        have hf : (l.take (m + 1)).filter (fun p => !isK k p) = (l.take m).filter (fun p => !isK k p) ++ [l.getD m dP] := by rw [htk, List.filter_append, filt2 (by rw [hc]; rfl)]
        refine ⟨(((((l.take (m + 1)).filter (fun p => !isK k p)).length : Nat) : Int), ((m + 1 : Nat) : Int), r.set ((l.take m).filter (fun p => !isK k p)).length (l.getD m dP)), ?_, ⟨m + 1, _, rfl, by omega, by rw [hf]; simp; omega, by simp [hr], ?_, hdd _ ?_⟩, by simp only [Int.toNat_natCast]; omega⟩
        · have hk : k1_slices_DeleteFunc_iPair (m : Int) r k = false := by simp only [k1_slices_DeleteFunc_iPair, iDelKey_1, getD_dP, Int.toNat_natCast, hg]; exact hc
          have hfl : (((l.take m).filter (fun p => !isK k p)) ++ [l.getD m dP]).length = ((l.take m).filter (fun p => !isK k p)).length + 1 := by simp
          simp only [ss_slices_DeleteFunc_iPair_0, h1, h2, h3, hk, cond_true, Bool.not_false, wrapU m (by omega), wrapU ((l.take m).filter (fun p => !isK k p)).length (by omega), hf, hfl, Int.toNat_natCast, getD_dP, hg]
        · rw [hf, List.length_append, List.length_singleton, List.take_add_one, List.take_set_of_le (Nat.le_refl _), ht]
          congr 1
          simp [List.getElem?_set, show ((l.take m).filter (fun p => !isK k p)).length < r.length by omega]
        · rw [List.drop_set_of_lt hlt2]; exact hd
    · right
      obtain rfl : m = l.length := by omega
      have h1 : decide (((l.length : Nat) : Int) < ((r.length : Nat) : Int)) = false := decide_eq_false (by omega)
      rw [List.take_length] at ht
      refine ⟨(0, (((delL l k).length : Nat) : Int), r), ?_, r, rfl, hr, ht⟩
      simp only [ss_slices_DeleteFunc_iPair_0, h1, cond_false, List.take_length]
      rfl
  · rw [take_succ_getD hj dP, List.filter_append, hpre, filt1 (by rw [hat]; rfl), List.append_nil, List.length_take]; congr 2; omega
  · rw [take_succ_getD hj dP, List.filter_append, hpre, filt1 (by rw [hat]; rfl), List.append_nil, List.length_take]; omega
  · rw [take_succ_getD hj dP, List.filter_append, hpre, filt1 (by rw [hat]; rfl), List.append_nil, List.length_take, Nat.min_eq_left (by omega)]
theorem iDelKey_spec (l : List (ByteArray × ByteArray)) (k : ByteArray) (hl : l.length ≤ 1099511627776) : q_iDelKey l k = true ∧ iDelKey l k = delL l k := by
  have e : it_slices_IndexFunc_iPair_iDelKey_1_0 ((l.length : Nat) : Int) 0 l k = cond (decide (l.findIdx (isK k) < l.length)) (0, ((l.findIdx (isK k) : Nat) : Int)) (1, 0) := by
    refine itX_find (ss := fun v : V_slices_IndexFunc_iPair_iDelKey_1_0 => ss_slices_IndexFunc_iPair_iDelKey_1_0 v.1 v.2 l k) (fa := fl_slices_IndexFunc_iPair_iDelKey_1_0) (fun i => ((((l.length : Nat) : Int), (i : Int)) : V_slices_IndexFunc_iPair_iDelKey_1_0)) l dP (isK k) (fun i => ((0, (i : Int)) : A_slices_IndexFunc_iPair_iDelKey_1_0)) _ (by omega) (fun i hi => ?_) ?_
    · have h1 : decide ((i : Int) < ((l.length : Nat) : Int)) = true := decide_eq_true (by omega)
      have h2 : decide (0 ≤ (i : Int) ∧ (i : Int) < ((l.length : Nat) : Int)) = true := decide_eq_true (by omega)
      simp only [ss_slices_IndexFunc_iPair_iDelKey_1_0, h1, h2, cond_true, Int.toNat_natCast, wrapU i (by omega), getD_dP, k1_slices_IndexFunc_iPair_iDelKey_1, iDelKey_1]
      rfl
    · have h1 : decide (((l.length : Nat) : Int) < ((l.length : Nat) : Int)) = false := decide_eq_false (by omega)
      simp only [ss_slices_IndexFunc_iPair_iDelKey_1_0, h1, cond_false]
  have hq : q_slices_Clone_iPair l = true := decide_eq_true (by simp [MAXB]; omega)
  have hdf : q_slices_DeleteFunc_iPair l k = true ∧ (slices_DeleteFunc_iPair l k).1 = delL l k := by
    have hidx : q_slices_IndexFunc_iPair_iDelKey_1 l k = true ∧ slices_IndexFunc_iPair_iDelKey_1 l k = cond (decide (l.findIdx (isK k) < l.length)) ((l.findIdx (isK k) : Nat) : Int) (-1) := by
      simp only [q_slices_IndexFunc_iPair_iDelKey_1, slices_IndexFunc_iPair_iDelKey_1, e]
      cases decide (l.findIdx (isK k) < l.length) <;> exact ⟨rfl, rfl⟩
    simp only [q_slices_DeleteFunc_iPair, slices_DeleteFunc_iPair, k2_slices_DeleteFunc_iPair, hidx.1, hidx.2, Bool.true_and]
    cases hc : decide (l.findIdx (isK k) < l.length) with
    | false =>
      have hge := of_decide_eq_false hc
      simp only [cond_false, show ((-1 : Int) == -1) = true from rfl, cond_true]
      refine ⟨trivial, ?_⟩
      symm
      apply List.filter_eq_self.2
      intro p hp
      have := List.findIdx_eq_length.1 (show l.findIdx (isK k) = l.length by have := findIdx_le' (isK k) l; omega) p hp
      rw [this]; rfl
    | true =>
      have hlt := of_decide_eq_true hc
      have hat : isK k (l.getD (l.findIdx (isK k)) dP) = true := by
        have := List.findIdx_getElem (w := hlt)
        simpa [List.getD_eq_getElem?_getD, hlt] using this
      have hpre : (l.take (l.findIdx (isK k))).filter (fun p => !isK k p) = l.take (l.findIdx (isK k)) := by
        apply List.filter_eq_self.2
        intro p hp
        obtain ⟨i, hi, rfl⟩ := List.mem_iff_getElem.1 hp
        rw [List.length_take] at hi
        have := List.not_of_lt_findIdx (p := isK k) (xs := l) (i := i) (by omega)
        simpa using this
      obtain ⟨r, r1, r2, r3⟩ := delFunc_loop l k hl _ hlt hpre hat
      have hne : (((l.findIdx (isK k) : Nat) : Int) == -1) = false := by simp only [beq_eq_false_iff_ne]; omega
      have hdl := delL_len l k
      simp only [cond_true, hne, cond_false, wrapU _ (show l.findIdx (isK k) < 9223372036854775807 by omega), r1, Int.toNat_natCast]
      constructor
      · simp only [Bool.and_eq_true, decide_eq_true_eq, List.length_append, List.length_take, List.length_replicate, List.length_drop]
        refine ⟨rfl, ?_, ?_⟩ <;> omega
      · rw [r3, List.append_assoc, List.take_left']
        rfl
  simp only [q_iDelKey, iDelKey, slices_Clone_iPair, hq, hdf.1, hdf.2, Bool.and_self]
  exact ⟨trivial, trivial⟩
theorem iApply_spec (m : List (ByteArray × ByteArray)) (l : List (Int × ByteArray × ByteArray)) (hm : m.length ≤ 1000000000) (hl : l.length ≤ 1000000000) : q_iApply m l = true ∧ iApply m l = l.foldl appL m := by
  have h : it_iApply_0 l ((l.length : Nat) : Int) 0 m = (0, l.foldl appL m) := by
    refine itX_fold (ss := fun v : V_iApply_0 => ss_iApply_0 v.1 v.2.1 v.2.2.1 v.2.2.2) (fa := fl_iApply_0) (fun i b => ((l, ((l.length : Nat) : Int), (i : Int), b) : V_iApply_0)) l dOp appL (fun b => ((0, b) : A_iApply_0)) (fun i b => b.length ≤ m.length + i) (by omega) (fun i b hi hb => ⟨?_, by have := appL_len b (l.getD i dOp); omega⟩) (fun b hb => ?_) (by simp)
    · have h1 : decide ((i : Int) < ((l.length : Nat) : Int)) = true := decide_eq_true (by omega)
      have h2 : decide (0 ≤ (i : Int) ∧ (i : Int) < ((l.length : Nat) : Int)) = true := decide_eq_true (by omega)
      have e : l.getD i ((0 : Int), ((⟨#[]⟩ : ByteArray), (⟨#[]⟩ : ByteArray))) = l.getD i dOp := rfl
      obtain ⟨p1, p2⟩ := iputKey_spec b (l.getD i dOp).2.1 (l.getD i dOp).2.2 (by omega)
      obtain ⟨d1, d2⟩ := iDelKey_spec b (l.getD i dOp).2.1 (by omega)
      simp only [ss_iApply_0, h1, h2, cond_true, Int.toNat_natCast, wrapU i (by omega), e, k1_iApply, k2_iApply, p1, p2, d1, d2, appL]
      cases (l.getD i dOp).1 == 1 <;> cases (l.getD i dOp).1 == 2 <;> rfl
    · have h1 : decide (((l.length : Nat) : Int) < ((l.length : Nat) : Int)) = false := decide_eq_false (by omega)
      simp only [ss_iApply_0, h1, cond_false]
  have hq : q_slices_Clone_iPair m = true := decide_eq_true (by simp [MAXB]; omega)
  simp only [q_iApply, iApply, slices_Clone_iPair, h, hq]
  exact ⟨rfl, trivial⟩
theorem foldl_appL_len (ops : List (Int × ByteArray × ByteArray)) : ∀ l, (ops.foldl appL l).length ≤ l.length + ops.length := by
  induction ops with
  | nil => intro l; simp
  | cons o r ih => intro l; have := ih (appL l o); have := appL_len l o; simp only [List.foldl_cons, List.length_cons]; omega
theorem markN {α : Type} (el : Int → α) (c : Int) (hc : 0 ≤ c ∧ c ≤ 100000) (d : α) (f : Nat → Int × List α → Int × List α)
    (hf : ∀ i k (h : List α), i < h.length → 0 ≤ k → k ≤ 100000 * ((i : Int) + 100) → h.length ≤ 1048576 → f i (k, h) = (k + c, h.set i (el k))) :
    ∀ n i k (h : List α), i + n = h.length → 0 ≤ k → k ≤ 100000 * ((i : Int) + 100) → h.length ≤ 1048576 →
      (foldN f n i (k, h)).1 = k + c * (n : Int) ∧ (foldN f n i (k, h)).2.length = h.length ∧ (∀ j, i ≤ j → j < h.length → (foldN f n i (k, h)).2.getD j d = el (k + c * ((j - i : Nat) : Int))) ∧ ∀ j, j < i → (foldN f n i (k, h)).2.getD j d = h.getD j d := by
  intro n
  induction n with
  | zero => intro i k h hi h0 h1 h2; exact ⟨by simp [foldN], rfl, fun j hj hl => by omega, fun j _ => rfl⟩
  | succ n ih =>
    intro i k h hi h0 h1 h2
    simp only [foldN]
    rw [hf i k h (by omega) h0 h1 h2]
    obtain ⟨q1, q2, q3, q4⟩ := ih (i + 1) (k + c) (h.set i (el k)) (by simp; omega) (by omega) (by omega) (by simpa using h2)
    refine ⟨?_, by rw [q2]; simp, fun j hj hl => ?_, fun j hj => ?_⟩
    · rw [q1, Int.natCast_add, Int.mul_add]; simp; omega
    · by_cases e : j = i
      · subst e
        rw [q4 j (by omega)]
        have : j < h.length := hl
        simp [List.getD_eq_getElem?_getD, this]
      · rw [q3 j (by omega) (by simpa using hl)]
        congr 1
        have : ((j - i : Nat) : Int) = ((j - (i + 1) : Nat) : Int) + 1 := by omega
        rw [this, Int.mul_add]; omega
    · rw [q4 j (by omega)]
      have : i ≠ j := by omega
      simp [List.getD_eq_getElem?_getD, List.getElem?_set_ne this]
theorem heldN {α : Type} (el : Int → α) (c : Int) (hc : 0 ≤ c ∧ c ≤ 100000) (d : α) (x : List α) (hx : x.length ≤ 1048576) (g : Nat → Int → Int ⊕ Unit)
    (hg : ∀ i k, i < x.length → 0 ≤ k → k ≤ 100000 * ((i : Int) + 100) → x.getD i d = el k → g i k = .inl (k + c)) :
    ∀ n i k, i + n = x.length → 0 ≤ k → k ≤ 100000 * ((i : Int) + 100) → (∀ j, i ≤ j → j < x.length → x.getD j d = el (k + c * ((j - i : Nat) : Int))) → loopN g n i k = .inl (k + c * (n : Int)) := by
  intro n
  induction n with
  | zero => intro i k hi h0 h1 he; simp [loopN]
  | succ n ih =>
    intro i k hi h0 h1 he
    have h2 := he i (Nat.le_refl _) (by omega)
    rw [Nat.sub_self] at h2
    simp only [loopN]
    rw [hg i k (by omega) h0 h1 (by simpa using h2)]
    simp only
    rw [ih (i + 1) (k + c) (by omega) (by omega) (by omega) (fun j hj hl => by
      rw [he j (by omega) hl]
      congr 1
      have : ((j - i : Nat) : Int) = ((j - (i + 1) : Nat) : Int) + 1 := by omega
      rw [this, Int.mul_add]; omega)]
    rw [Int.natCast_add, Int.mul_add]; congr 1; simp; omega
theorem heldmark {α : Type} (el : Int → α) (c : Int) (hc : 0 ≤ c ∧ c ≤ 100000) (d : α) (f : Nat → Int × List α → Int × List α) (g : List α → Nat → Int → Int ⊕ Unit)
    (hf : ∀ i k (h : List α), i < h.length → 0 ≤ k → k ≤ 100000 * ((i : Int) + 100) → h.length ≤ 1048576 → f i (k, h) = (k + c, h.set i (el k)))
    (hg : ∀ (x : List α) i k, x.length ≤ 1048576 → i < x.length → 0 ≤ k → k ≤ 100000 * ((i : Int) + 100) → x.getD i d = el k → g x i k = .inl (k + c)) (h : List α) (hh : h.length ≤ 1048576) (k : Int) (h0 : 0 ≤ k) (h1 : k ≤ 10000000) :
    (foldN f h.length 0 (k, h)).1 = k + c * (h.length : Int) ∧ (foldN f h.length 0 (k, h)).2.length = h.length ∧ loopN (g (foldN f h.length 0 (k, h)).2) (foldN f h.length 0 (k, h)).2.length 0 k = .inl (k + c * (h.length : Int)) := by
  obtain ⟨q1, q2, q3, _⟩ := markN el c hc d f hf h.length 0 k h (by omega) h0 (by omega) hh
  refine ⟨q1, q2, ?_⟩
  have := heldN el c hc d (foldN f h.length 0 (k, h)).2 (by rw [q2]; exact hh) (g (foldN f h.length 0 (k, h)).2) (fun i k hi => hg _ i k (by rw [q2]; exact hh) hi) (foldN f h.length 0 (k, h)).2.length 0 k (by omega) h0 (by omega) (fun j hj hl => q3 j hj (by rw [q2] at hl; exact hl))
  rw [this, q2]
theorem getD_set {α : Type} {l : List α} {i : Nat} (hi : i < l.length) (x d : α) : (l.set i x).getD i d = x := by
  simp [List.getD_eq_getElem?_getD, hi]
theorem pairS_marks (l : List (ByteArray × ByteArray)) (k : Int) (h : l.length ≤ 1048576) (h0 : 0 ≤ k) (h1 : k ≤ 10000000) : (lmarkPairS k l).1 = k + 2 * (l.length : Int) ∧ (lmarkPairS k l).2.length = l.length ∧ lheldPairS (lmarkPairS k l).2 k = (lmarkPairS k l).1 := by
  obtain ⟨q1, q2, q3⟩ := heldmark (fun k => (lmarkText k, lmarkText (k + 1))) 2 (by omega) dP f_lmarkPairS_0 f_lheldPairS_0 (fun i k h hi h0 h1 h2 => by
    have w1 : IntKind.wrap .i64 (k + (1 : Int)) = k + 1 := wrap64 (by omega) (by omega)
    have w2 : IntKind.wrap .i64 (k + 1 + (1 : Int)) = k + 2 := by rw [wrap64 (by omega) (by omega)]; omega
    simp only [f_lmarkPairS_0, w1, w2, List.set_set, getD_set hi]) (fun x i k hx hi h0 h1 he => by
    have w1 : IntKind.wrap .i64 (k + (1 : Int)) = k + 1 := wrap64 (by omega) (by omega)
    have w2 : IntKind.wrap .i64 (k + 1 + (1 : Int)) = k + 2 := by rw [wrap64 (by omega) (by omega)]; omega
    simp only [dP] at he
    simp only [f_lheldPairS_0, he, cond_false, w1, w2, beq_self_eq_true, Bool.not_true]) l h k h0 h1
  have e1 : lmarkPairS k l = foldN f_lmarkPairS_0 l.length 0 (k, l) := rfl
  rw [e1]
  refine ⟨q1, q2, ?_⟩
  have e2 : ∀ x, lheldPairS x k = cond (isInl (loopN (f_lheldPairS_0 x) x.length 0 k)) (getInl (-1) (loopN (f_lheldPairS_0 x) x.length 0 k)) (-1 : Int) := fun x => rfl
  rw [e2, q3, q1]; rfl
theorem opsS_marksK (l : List (Int × ByteArray × ByteArray)) (k : Int) (h : l.length ≤ 1048576) (h0 : 0 ≤ k) (h1 : k ≤ 10000000) : (lmarkOpS k l).1 = k + 3 * (l.length : Int) ∧ (lmarkOpS k l).2.length = l.length := by
  obtain ⟨q1, q2, _⟩ := markN (fun k => (k, lmarkText (k + 1), lmarkText (k + 1 + 1))) 3 (by omega) dOp f_lmarkOpS_0 (fun i k h hi h0 h1 h2 => by
    have w1 : IntKind.wrap .i64 (k + (1 : Int)) = k + 1 := wrap64 (by omega) (by omega)
    have w2 : IntKind.wrap .i64 (k + 1 + (1 : Int)) = k + 1 + 1 := wrap64 (by omega) (by omega)
    have w3 : IntKind.wrap .i64 (k + 1 + 1 + (1 : Int)) = k + 3 := by rw [wrap64 (by omega) (by omega)]; omega
    simp only [f_lmarkOpS_0, w1, w2, w3, List.set_set, getD_set hi]) l.length 0 k l (by omega) h0 (by omega) h
  have e1 : lmarkOpS k l = foldN f_lmarkOpS_0 l.length 0 (k, l) := rfl
  rw [e1]; exact ⟨q1, q2⟩
theorem eqPair_same (s v : ByteArray) : leqPair s v s v = true := by simp [leqPair]
theorem eqPairS_same (l : List (ByteArray × ByteArray)) : leqPairS l l = true := by
  have e : allF (f_leqPairS_0 l l) (l.length - (0 : Int).toNat) (0 : Int).toNat = true := allF_same _ _ (fun j _ _ => by simp [f_leqPairS_0, eqPair_same])
  simp only [leqPairS, e, cond_true]
  simp
theorem eqOp_same (k : Int) (s v : ByteArray) : leqOp k s v k s v = true := by simp [leqOp]
theorem eqOpS_same (l : List (Int × ByteArray × ByteArray)) : leqOpS l l = true := by
  have e : allF (f_leqOpS_0 l l) (l.length - (0 : Int).toNat) (0 : Int).toNat = true := allF_same _ _ (fun j _ _ => by simp [f_leqOpS_0, eqOp_same])
  simp only [leqOpS, e, cond_true]
  simp
theorem apply_all (a0 : List (ByteArray × ByteArray)) (a1 : List (Int × ByteArray × ByteArray)) (h0 : bigT (.sl (.pair .str .str)) a0 = true) (h1 : bigT (.sl (.pair (.int .i64) (.pair .str .str))) a1 = true) : q_lFnExactApply a0 a1 = true ∧ lFnExactApply a0 a1 = true := by
  have hb := bigOps_of h1
  have hp := bigPs_of h0
  obtain ⟨z1, z2⟩ := szPairS_spec a0 1048576 (by decide) (by decide) hp
  simp only [q_lFnExactApply, lFnExactApply, toOpS_same, toPairS_same, z1, Bool.true_and]
  by_cases hd : lszPairS a0 1048576 < 0
  · simp only [decide_eq_true hd, cond_true]; exact ⟨trivial, trivial⟩
  · obtain ⟨z3, z4⟩ := z2 (by omega)
    have z5 : q_lszOpS a1 (lszPairS a0 1048576) = true := decide_eq_true ⟨by omega, by omega, bigOps_len hb⟩
    simp only [decide_eq_false hd, cond_false, z5, Bool.true_and]
    by_cases hd2 : lszOpS a1 (lszPairS a0 1048576) < 0
    · simp only [decide_eq_true hd2, cond_true]; exact ⟨trivial, trivial⟩
    · obtain ⟨_, ho⟩ := szOpS_spec a1 (lszPairS a0 1048576) (by omega) (by omega) hb (by omega)
      have hl := okOps_len ho
      have hl2 := szOpS_len (by omega) (by omega) (okOps_len ho) (show 0 ≤ lszOpS a1 (lszPairS a0 1048576) by omega)
      obtain ⟨s1, s2⟩ := sApply_spec a0 a1 (by omega) (by omega)
      obtain ⟨i1, i2⟩ := iApply_spec a0 a1 (by omega) (by omega)
      have hr := foldl_appL_len a1 a0
      have hr2 : (a1.foldl appL a0).length ≤ 1048576 := by omega
      obtain ⟨m1, m2, _⟩ := pairS_marks a0 1 z4 (by omega) (by omega)
      obtain ⟨m3, m4⟩ := opsS_marksK a1 (1 + 2 * (a0.length : Int)) hl (by omega) (by omega)
      obtain ⟨m5, m6, m7⟩ := pairS_marks (a1.foldl appL a0) 1 hr2 (by omega) (by omega)
      have c1 : okL a0 = true := decide_eq_true z4
      have c2 : okL a1 = true := okOps_okL ho
      have c3 : okL (a1.foldl appL a0) = true := decide_eq_true hr2
      have c4 : okL (lmarkPairS 1 (a1.foldl appL a0)).2 = true := decide_eq_true (by rw [m6]; exact hr2)
      have c5 : decide ((0 : Int) ≤ 1 ∧ (1 : Int) ≤ 10000000) = true := by decide
      have c6 : decide ((0 : Int) ≤ 1 + 2 * (a0.length : Int) ∧ 1 + 2 * (a0.length : Int) ≤ 10000000) = true := decide_eq_true (by omega)
      have c7 : decide (1 + 2 * (a0.length : Int) + 3 * (a1.length : Int) < 0) = false := decide_eq_false (by omega)
      have c8 : decide (1 + 2 * ((a1.foldl appL a0).length : Int) < 0) = false := decide_eq_false (by omega)
      have c9 : ∀ x : Int, (x != x) = false := fun x => by simp
      simp only [decide_eq_false hd2, cond_false, s1, s2, i1, i2, eqPairS_same, eqOpS_same, m1, m3, m7, m5, c7, c8, c9, q_ltoPairS, q_ltoOpS, q_leqPairS, q_leqOpS, q_lmarkPairS, q_lmarkOpS, q_lheldPairS, c1, c2, c3, c4, c5, c6, Bool.not_true, Bool.and_self]
      exact ⟨trivial, trivial⟩
theorem pre_of_lFnExactApply (a0 : List (ByteArray × ByteArray)) (a1 : List (Int × ByteArray × ByteArray)) (h0 : bigT (.sl (.pair .str .str)) a0 = true) (h1 : bigT (.sl (.pair (.int .i64) (.pair .str .str))) a1 = true) : pre_lFnExactApply (a0, a1, ()) = true := (apply_all a0 a1 h0 h1).1
theorem exact_lFnExactApply (a0 : List (ByteArray × ByteArray)) (a1 : List (Int × ByteArray × ByteArray)) (h0 : bigT (.sl (.pair .str .str)) a0 = true) (h1 : bigT (.sl (.pair (.int .i64) (.pair .str .str))) a1 = true) : lFnExactApply a0 a1 = true := (apply_all a0 a1 h0 h1).2

end Go.Proofs.Ytoddiofedjnapaa.Eng

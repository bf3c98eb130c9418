/- What the functions that FnWords reaches compute: further. -/
import Derived.Test.YtoddiofedjnapaaFWordsB
namespace Go.Proofs.Ytoddiofedjnapaa.Eng
open Go Go.RowKit
set_option linter.unusedSimpArgs false
set_option linter.unusedVariables false
set_option maxRecDepth 10000
/-! 12 loop.example/g00244/laws.FnWords -/
noncomputable abbrev P_lFnWords : List PSh := [.t (.sl (.int .u8))]
noncomputable def k1_lFnWords (a0 : List Int) := iPutWord ((sDrawPutWord a0).1) ((sDrawPutWord a0).2.1) ((sDrawPutWord a0).2.2.1) ((sDrawPutWord a0).2.2.2.1) ((sDrawPutWord a0).2.2.2.2)
noncomputable def k2_lFnWords (a0 : List Int) := iPutWord ((iGetWord (sDrawGetWord a0)).1) ((iGetWord (sDrawGetWord a0)).2.1) ((iGetWord (sDrawGetWord a0)).2.2.1) ((iGetWord (sDrawGetWord a0)).2.2.2.2.2) ((iGetWord (sDrawGetWord a0)).2.2.2.1)
noncomputable def k3_lFnWords (a0 : List Int) := sWordOk ((sDrawPutWord a0).1) ((sDrawPutWord a0).2.1) ((sDrawPutWord a0).2.2.1) ((sDrawPutWord a0).2.2.2.1) ((sDrawPutWord a0).2.2.2.2)
noncomputable def k4_lFnWords (a0 : List Int) := iWordOk ((sDrawPutWord a0).1) ((sDrawPutWord a0).2.1) ((sDrawPutWord a0).2.2.1) ((sDrawPutWord a0).2.2.2.1) ((sDrawPutWord a0).2.2.2.2)
noncomputable def k5_lFnWords (a0 : List Int) := lsameWord ((iGetWord (k1_lFnWords a0)).1) ((iGetWord (k1_lFnWords a0)).2.1) ((iGetWord (k1_lFnWords a0)).2.2.1) ((iGetWord (k1_lFnWords a0)).2.2.2.2.2) ((iGetWord (k1_lFnWords a0)).2.2.2.1) ((sDrawPutWord a0).1) ((sDrawPutWord a0).2.1) ((sDrawPutWord a0).2.2.1) ((sDrawPutWord a0).2.2.2.1) ((sDrawPutWord a0).2.2.2.2)
noncomputable def lFnWords (a0 : List Int) : Bool := (cond (lbig a0) true (cond (!(((iGetWord (sDrawGetWord a0)).2.2.2.2.1) == ((sGetWord (sDrawGetWord a0)).2.2.2.2.2))) false (cond ((iGetWord (sDrawGetWord a0)).2.2.2.2.1) (cond (!(lsameBytes (k2_lFnWords a0) (sDrawGetWord a0))) false (cond (!(k3_lFnWords a0)) (cond ((((k1_lFnWords a0).length : Nat) : Int) == (0 : Int)) (!(k4_lFnWords a0)) false) (cond ((iGetWord (k1_lFnWords a0)).2.2.2.2.1) (cond (k5_lFnWords a0) (k4_lFnWords a0) false) false))) (cond (!(k3_lFnWords a0)) (cond ((((k1_lFnWords a0).length : Nat) : Int) == (0 : Int)) (!(k4_lFnWords a0)) false) (cond ((iGetWord (k1_lFnWords a0)).2.2.2.2.1) (cond (k5_lFnWords a0) (k4_lFnWords a0) false) false)))))
noncomputable abbrev e_lFnWords (r : Bool) : AV × List AObj := ((.t true .bool r), [])
noncomputable abbrev g_lFnWords : pshsDen P_lFnWords → AV × List AObj := fun d => e_lFnWords (lFnWords d.1)
noncomputable def q_lFnWords (a0 : List Int) : Bool := cond (lbig a0) true ((q_sDrawPutWord a0) && ((q_iPutWord ((sDrawPutWord a0).1) ((sDrawPutWord a0).2.1) ((sDrawPutWord a0).2.2.1) ((sDrawPutWord a0).2.2.2.1) ((sDrawPutWord a0).2.2.2.2)) && ((q_sDrawGetWord a0) && ((q_iGetWord (sDrawGetWord a0)) && ((q_sGetWord (sDrawGetWord a0)) && (cond (!(((iGetWord (sDrawGetWord a0)).2.2.2.2.1) == ((sGetWord (sDrawGetWord a0)).2.2.2.2.2))) true (cond ((iGetWord (sDrawGetWord a0)).2.2.2.2.1) ((q_iPutWord ((iGetWord (sDrawGetWord a0)).1) ((iGetWord (sDrawGetWord a0)).2.1) ((iGetWord (sDrawGetWord a0)).2.2.1) ((iGetWord (sDrawGetWord a0)).2.2.2.2.2) ((iGetWord (sDrawGetWord a0)).2.2.2.1)) && ((q_lsameBytes (k2_lFnWords a0) (sDrawGetWord a0)) && (cond (!(lsameBytes (k2_lFnWords a0) (sDrawGetWord a0))) true ((q_sWordOk ((sDrawPutWord a0).1) ((sDrawPutWord a0).2.1) ((sDrawPutWord a0).2.2.1) ((sDrawPutWord a0).2.2.2.1) ((sDrawPutWord a0).2.2.2.2)) && (cond (!(k3_lFnWords a0)) (cond ((((k1_lFnWords a0).length : Nat) : Int) == (0 : Int)) (q_iWordOk ((sDrawPutWord a0).1) ((sDrawPutWord a0).2.1) ((sDrawPutWord a0).2.2.1) ((sDrawPutWord a0).2.2.2.1) ((sDrawPutWord a0).2.2.2.2)) true) ((q_iGetWord (k1_lFnWords a0)) && (cond ((iGetWord (k1_lFnWords a0)).2.2.2.2.1) ((q_lsameWord ((iGetWord (k1_lFnWords a0)).1) ((iGetWord (k1_lFnWords a0)).2.1) ((iGetWord (k1_lFnWords a0)).2.2.1) ((iGetWord (k1_lFnWords a0)).2.2.2.2.2) ((iGetWord (k1_lFnWords a0)).2.2.2.1) ((sDrawPutWord a0).1) ((sDrawPutWord a0).2.1) ((sDrawPutWord a0).2.2.1) ((sDrawPutWord a0).2.2.2.1) ((sDrawPutWord a0).2.2.2.2)) && (cond (k5_lFnWords a0) (q_iWordOk ((sDrawPutWord a0).1) ((sDrawPutWord a0).2.1) ((sDrawPutWord a0).2.2.1) ((sDrawPutWord a0).2.2.2.1) ((sDrawPutWord a0).2.2.2.2)) true)) true))))))) ((q_sWordOk ((sDrawPutWord a0).1) ((sDrawPutWord a0).2.1) ((sDrawPutWord a0).2.2.1) ((sDrawPutWord a0).2.2.2.1) ((sDrawPutWord a0).2.2.2.2)) && (cond (!(k3_lFnWords a0)) (cond ((((k1_lFnWords a0).length : Nat) : Int) == (0 : Int)) (q_iWordOk ((sDrawPutWord a0).1) ((sDrawPutWord a0).2.1) ((sDrawPutWord a0).2.2.1) ((sDrawPutWord a0).2.2.2.1) ((sDrawPutWord a0).2.2.2.2)) true) ((q_iGetWord (k1_lFnWords a0)) && (cond ((iGetWord (k1_lFnWords a0)).2.2.2.2.1) ((q_lsameWord ((iGetWord (k1_lFnWords a0)).1) ((iGetWord (k1_lFnWords a0)).2.1) ((iGetWord (k1_lFnWords a0)).2.2.1) ((iGetWord (k1_lFnWords a0)).2.2.2.2.2) ((iGetWord (k1_lFnWords a0)).2.2.2.1) ((sDrawPutWord a0).1) ((sDrawPutWord a0).2.1) ((sDrawPutWord a0).2.2.1) ((sDrawPutWord a0).2.2.2.1) ((sDrawPutWord a0).2.2.2.2)) && (cond (k5_lFnWords a0) (q_iWordOk ((sDrawPutWord a0).1) ((sDrawPutWord a0).2.1) ((sDrawPutWord a0).2.2.1) ((sDrawPutWord a0).2.2.2.1) ((sDrawPutWord a0).2.2.2.2)) true)) true)))))))))))
noncomputable abbrev pre_lFnWords : pshsDen P_lFnWords → Bool := fun d => q_lFnWords d.1
theorem runA_lFnWords (a0 : List Int) (hp : (cond (lbig a0) true ((q_sDrawPutWord a0) && ((q_iPutWord ((sDrawPutWord a0).1) ((sDrawPutWord a0).2.1) ((sDrawPutWord a0).2.2.1) ((sDrawPutWord a0).2.2.2.1) ((sDrawPutWord a0).2.2.2.2)) && ((q_sDrawGetWord a0) && ((q_iGetWord (sDrawGetWord a0)) && ((q_sGetWord (sDrawGetWord a0)) && (cond (!(((iGetWord (sDrawGetWord a0)).2.2.2.2.1) == ((sGetWord (sDrawGetWord a0)).2.2.2.2.2))) true (cond ((iGetWord (sDrawGetWord a0)).2.2.2.2.1) ((q_iPutWord ((iGetWord (sDrawGetWord a0)).1) ((iGetWord (sDrawGetWord a0)).2.1) ((iGetWord (sDrawGetWord a0)).2.2.1) ((iGetWord (sDrawGetWord a0)).2.2.2.2.2) ((iGetWord (sDrawGetWord a0)).2.2.2.1)) && ((q_lsameBytes (k2_lFnWords a0) (sDrawGetWord a0)) && (cond (!(lsameBytes (k2_lFnWords a0) (sDrawGetWord a0))) true ((q_sWordOk ((sDrawPutWord a0).1) ((sDrawPutWord a0).2.1) ((sDrawPutWord a0).2.2.1) ((sDrawPutWord a0).2.2.2.1) ((sDrawPutWord a0).2.2.2.2)) && (cond (!(k3_lFnWords a0)) (cond ((((k1_lFnWords a0).length : Nat) : Int) == (0 : Int)) (q_iWordOk ((sDrawPutWord a0).1) ((sDrawPutWord a0).2.1) ((sDrawPutWord a0).2.2.1) ((sDrawPutWord a0).2.2.2.1) ((sDrawPutWord a0).2.2.2.2)) true) ((q_iGetWord (k1_lFnWords a0)) && (cond ((iGetWord (k1_lFnWords a0)).2.2.2.2.1) ((q_lsameWord ((iGetWord (k1_lFnWords a0)).1) ((iGetWord (k1_lFnWords a0)).2.1) ((iGetWord (k1_lFnWords a0)).2.2.1) ((iGetWord (k1_lFnWords a0)).2.2.2.2.2) ((iGetWord (k1_lFnWords a0)).2.2.2.1) ((sDrawPutWord a0).1) ((sDrawPutWord a0).2.1) ((sDrawPutWord a0).2.2.1) ((sDrawPutWord a0).2.2.2.1) ((sDrawPutWord a0).2.2.2.2)) && (cond (k5_lFnWords a0) (q_iWordOk ((sDrawPutWord a0).1) ((sDrawPutWord a0).2.1) ((sDrawPutWord a0).2.2.1) ((sDrawPutWord a0).2.2.2.1) ((sDrawPutWord a0).2.2.2.2)) true)) true))))))) ((q_sWordOk ((sDrawPutWord a0).1) ((sDrawPutWord a0).2.1) ((sDrawPutWord a0).2.2.1) ((sDrawPutWord a0).2.2.2.1) ((sDrawPutWord a0).2.2.2.2)) && (cond (!(k3_lFnWords a0)) (cond ((((k1_lFnWords a0).length : Nat) : Int) == (0 : Int)) (q_iWordOk ((sDrawPutWord a0).1) ((sDrawPutWord a0).2.1) ((sDrawPutWord a0).2.2.1) ((sDrawPutWord a0).2.2.2.1) ((sDrawPutWord a0).2.2.2.2)) true) ((q_iGetWord (k1_lFnWords a0)) && (cond ((iGetWord (k1_lFnWords a0)).2.2.2.2.1) ((q_lsameWord ((iGetWord (k1_lFnWords a0)).1) ((iGetWord (k1_lFnWords a0)).2.1) ((iGetWord (k1_lFnWords a0)).2.2.1) ((iGetWord (k1_lFnWords a0)).2.2.2.2.2) ((iGetWord (k1_lFnWords a0)).2.2.2.1) ((sDrawPutWord a0).1) ((sDrawPutWord a0).2.1) ((sDrawPutWord a0).2.2.1) ((sDrawPutWord a0).2.2.2.1) ((sDrawPutWord a0).2.2.2.2)) && (cond (k5_lFnWords a0) (q_iWordOk ((sDrawPutWord a0).1) ((sDrawPutWord a0).2.1) ((sDrawPutWord a0).2.2.1) ((sDrawPutWord a0).2.2.2.1) ((sDrawPutWord a0).2.2.2.2)) true)) true)))))))))))) = true) : runP true Try.prog tt S56 QF56 (fun _ _ => none) Try.f12 (argsMk P_lFnWords (a0, ())) = some (g_lFnWords (a0, ())) := by
  refine Eq.trans (b := (cond (lbig a0) (some (e_lFnWords true)) (cond (q_sDrawPutWord a0) (cond (q_iPutWord ((sDrawPutWord a0).1) ((sDrawPutWord a0).2.1) ((sDrawPutWord a0).2.2.1) ((sDrawPutWord a0).2.2.2.1) ((sDrawPutWord a0).2.2.2.2)) (cond (q_sDrawGetWord a0) (cond (q_iGetWord (sDrawGetWord a0)) (cond (q_sGetWord (sDrawGetWord a0)) (cond (!(((iGetWord (sDrawGetWord a0)).2.2.2.2.1) == ((sGetWord (sDrawGetWord a0)).2.2.2.2.2))) (some (e_lFnWords false)) (cond ((iGetWord (sDrawGetWord a0)).2.2.2.2.1) (cond (q_iPutWord ((iGetWord (sDrawGetWord a0)).1) ((iGetWord (sDrawGetWord a0)).2.1) ((iGetWord (sDrawGetWord a0)).2.2.1) ((iGetWord (sDrawGetWord a0)).2.2.2.2.2) ((iGetWord (sDrawGetWord a0)).2.2.2.1)) (cond (q_lsameBytes (k2_lFnWords a0) (sDrawGetWord a0)) (cond (!(lsameBytes (k2_lFnWords a0) (sDrawGetWord a0))) (some (e_lFnWords false)) (cond (q_sWordOk ((sDrawPutWord a0).1) ((sDrawPutWord a0).2.1) ((sDrawPutWord a0).2.2.1) ((sDrawPutWord a0).2.2.2.1) ((sDrawPutWord a0).2.2.2.2)) (cond (!(k3_lFnWords a0)) (cond ((((k1_lFnWords a0).length : Nat) : Int) == (0 : Int)) (cond (q_iWordOk ((sDrawPutWord a0).1) ((sDrawPutWord a0).2.1) ((sDrawPutWord a0).2.2.1) ((sDrawPutWord a0).2.2.2.1) ((sDrawPutWord a0).2.2.2.2)) (some (e_lFnWords (!(k4_lFnWords a0)))) none) (some (e_lFnWords false))) (cond (q_iGetWord (k1_lFnWords a0)) (cond ((iGetWord (k1_lFnWords a0)).2.2.2.2.1) (cond (q_lsameWord ((iGetWord (k1_lFnWords a0)).1) ((iGetWord (k1_lFnWords a0)).2.1) ((iGetWord (k1_lFnWords a0)).2.2.1) ((iGetWord (k1_lFnWords a0)).2.2.2.2.2) ((iGetWord (k1_lFnWords a0)).2.2.2.1) ((sDrawPutWord a0).1) ((sDrawPutWord a0).2.1) ((sDrawPutWord a0).2.2.1) ((sDrawPutWord a0).2.2.2.1) ((sDrawPutWord a0).2.2.2.2)) (cond (k5_lFnWords a0) (cond (q_iWordOk ((sDrawPutWord a0).1) ((sDrawPutWord a0).2.1) ((sDrawPutWord a0).2.2.1) ((sDrawPutWord a0).2.2.2.1) ((sDrawPutWord a0).2.2.2.2)) (some (e_lFnWords (k4_lFnWords a0))) none) (some (e_lFnWords false))) none) (some (e_lFnWords false))) none)) none)) none) none) (cond (q_sWordOk ((sDrawPutWord a0).1) ((sDrawPutWord a0).2.1) ((sDrawPutWord a0).2.2.1) ((sDrawPutWord a0).2.2.2.1) ((sDrawPutWord a0).2.2.2.2)) (cond (!(k3_lFnWords a0)) (cond ((((k1_lFnWords a0).length : Nat) : Int) == (0 : Int)) (cond (q_iWordOk ((sDrawPutWord a0).1) ((sDrawPutWord a0).2.1) ((sDrawPutWord a0).2.2.1) ((sDrawPutWord a0).2.2.2.1) ((sDrawPutWord a0).2.2.2.2)) (some (e_lFnWords (!(k4_lFnWords a0)))) none) (some (e_lFnWords false))) (cond (q_iGetWord (k1_lFnWords a0)) (cond ((iGetWord (k1_lFnWords a0)).2.2.2.2.1) (cond (q_lsameWord ((iGetWord (k1_lFnWords a0)).1) ((iGetWord (k1_lFnWords a0)).2.1) ((iGetWord (k1_lFnWords a0)).2.2.1) ((iGetWord (k1_lFnWords a0)).2.2.2.2.2) ((iGetWord (k1_lFnWords a0)).2.2.2.1) ((sDrawPutWord a0).1) ((sDrawPutWord a0).2.1) ((sDrawPutWord a0).2.2.1) ((sDrawPutWord a0).2.2.2.1) ((sDrawPutWord a0).2.2.2.2)) (cond (k5_lFnWords a0) (cond (q_iWordOk ((sDrawPutWord a0).1) ((sDrawPutWord a0).2.1) ((sDrawPutWord a0).2.2.1) ((sDrawPutWord a0).2.2.2.1) ((sDrawPutWord a0).2.2.2.2)) (some (e_lFnWords (k4_lFnWords a0))) none) (some (e_lFnWords false))) none) (some (e_lFnWords false))) none)) none))) none) none) none) none) none))) (by kernel_rfl) ?_
  exact (cndQ (F := fun r => some (e_lFnWords r)) hp (fun hp => rfl) (fun hp => (cndT (andL hp) (fun _h => (fun hp => (cndT (andL hp) (fun _h => (fun hp => (cndT (andL hp) (fun _h => (fun hp => (cndT (andL hp) (fun _h => (fun hp => (cndT (andL hp) (fun _h => (fun hp => (cndQ (F := fun r => some (e_lFnWords r)) hp (fun hp => rfl) (fun hp => (cndQ (F := fun r => some (e_lFnWords r)) hp (fun hp => (cndT (andL hp) (fun _h => (fun hp => (cndT (andL hp) (fun _h => (fun hp => (cndQ (F := fun r => some (e_lFnWords r)) hp (fun hp => rfl) (fun hp => (cndT (andL hp) (fun _h => (fun hp => (cndQ (F := fun r => some (e_lFnWords r)) hp (fun hp => (cndQ (F := fun r => some (e_lFnWords r)) hp (fun hp => (cndT hp (fun _h => rfl))) (fun hp => rfl))) (fun hp => (cndT (andL hp) (fun _h => (fun hp => (cndQ (F := fun r => some (e_lFnWords r)) hp (fun hp => (cndT (andL hp) (fun _h => (fun hp => (cndQ (F := fun r => some (e_lFnWords r)) hp (fun hp => (cndT hp (fun _h => rfl))) (fun hp => rfl))) (andR hp)))) (fun hp => rfl))) (andR hp)))))) (andR hp)))))) (andR hp)))) (andR hp)))) (fun hp => (cndT (andL hp) (fun _h => (fun hp => (cndQ (F := fun r => some (e_lFnWords r)) hp (fun hp => (cndQ (F := fun r => some (e_lFnWords r)) hp (fun hp => (cndT hp (fun _h => rfl))) (fun hp => rfl))) (fun hp => (cndT (andL hp) (fun _h => (fun hp => (cndQ (F := fun r => some (e_lFnWords r)) hp (fun hp => (cndT (andL hp) (fun _h => (fun hp => (cndQ (F := fun r => some (e_lFnWords r)) hp (fun hp => (cndT hp (fun _h => rfl))) (fun hp => rfl))) (andR hp)))) (fun hp => rfl))) (andR hp)))))) (andR hp)))))))) (andR hp)))) (andR hp)))) (andR hp)))) (andR hp)))) (andR hp)))))
theorem run_lFnWords : ∀ d, pre_lFnWords d = true → runP true Try.prog tt S56 QF56 (fun _ _ => none) Try.f12 (argsMk P_lFnWords d) = some (g_lFnWords d) := fun d hp => runA_lFnWords d.1 hp
theorem c_lFnWords : PContract Try.prog 12 (sumOf P_lFnWords pre_lFnWords g_lFnWords) := PContract.of_data true G56 (fn := Try.f12) (by kernel_rfl) (L := fun _ _ => none) (by rw [show loopsIn 0 (bodyOf Try.f12) = [] by kernel_rfl]; simp) P_lFnWords pre_lFnWords g_lFnWords run_lFnWords
noncomputable def S57 : Tab := Tab.add S56 12 (lift (sumOf P_lFnWords pre_lFnWords g_lFnWords))
noncomputable def QF57 : FuncId → Bool := qadd QF56 12
theorem G57 : Good Try.prog tt S57 QF57 := G56.addQ c_lFnWords ⟨Try.f12, by kernel_rfl, by kernel_rfl, by kernel_rfl⟩ (fun _ => rfl)
/-- Bytes, all of them. -/
noncomputable def okB (b : List Int) : Prop := ∀ c ∈ b, 0 ≤ c ∧ c ≤ 255
theorem bigB_ok {l : List Int} (h : bigT (.sl (.int .u8)) l = true) : okB l := by
  have hb : (decide (l.length ≤ maxLen) && l.all (fun x => (Lit.int .u8 x).wf)) = true := h
  rw [Bool.and_eq_true, List.all_eq_true] at hb
  intro c hc
  have := hb.2 c hc
  simp only [Lit.wf, Bool.and_eq_true, decide_eq_true_eq] at this
  exact ⟨this.1, this.2⟩
/-- A draw's cursor that is right. -/
noncomputable def cOk (b : List Int) (i : Int) : Prop := okB b ∧ 0 ≤ i ∧ i ≤ b.length ∧ b.length ≤ 1048576
theorem sl1New_spec {b : List Int} (hb : okB b) (hl : b.length ≤ 1048576) : q_sl1New b = true ∧ (sl1New b).1 = b ∧ cOk b (sl1New b).2.1 := by
  have key : ∀ x : Int, (it_sl1New_0 b x 0).1 = 0 ∧ (it_sl1New_0 b x 0).2.1 = b := by
    intro x
    refine itX_inv (fun v : V_sl1New_0 => v.1 = b ∧ 0 ≤ v.2.2 ∧ v.2.2 ≤ b.length) (fun a : A_sl1New_0 => a.1 = 0 ∧ a.2.1 = b) (fun v => b.length - v.2.2.toNat) ?_ ⟨rfl, Int.le_refl _, by simp⟩ (by simp; omega)
    rintro ⟨y, z, i⟩ ⟨hy, h1, h2⟩
    simp only at hy h1 h2
    subst hy
    by_cases hi : i < (y.length : Int)
    · have e : decide (i < ((y.length : Nat) : Int)) = true := decide_eq_true hi
      have e2 : decide (0 ≤ i ∧ i < ((y.length : Nat) : Int)) = true := decide_eq_true ⟨h1, hi⟩
      have w : IntKind.wrap .i64 (i + 1) = i + 1 := wrap64 (by omega) (by omega)
      by_cases h4 : i < 4000
      · simp only [ss_sl1New_0, e, e2, decide_eq_true h4, cond_true, w]
        exact .inl ⟨_, rfl, ⟨rfl, by simp only; omega, by simp only; omega⟩, by simp only; omega⟩
      · simp only [ss_sl1New_0, e, decide_eq_false h4, cond_true, cond_false]
        exact .inr ⟨_, rfl, rfl, rfl⟩
    · simp only [ss_sl1New_0, decide_eq_false hi, cond_false]
      exact .inr ⟨_, rfl, rfl, rfl⟩
  simp only [q_sl1New, sl1New, key]
  exact ⟨rfl, trivial, hb, Int.le_refl _, by omega, hl⟩
theorem ofInt_nat (n : Nat) (h : n < 18446744073709551616) : (BitVec.ofInt 64 (n : Int)).toNat = n := by
  simp [BitVec.toNat_ofInt]; omega
theorem iand_range (x : Int) (m : Nat) (hm : m < 9223372036854775808) : 0 ≤ iand .i64 x (m : Int) ∧ iand .i64 x (m : Int) ≤ m := by
  have e : iand .i64 x (m : Int) = IntKind.wrap .i64 (((BitVec.ofInt 64 x).toNat &&& m : Nat) : Int) := by
    show IntKind.wrap .i64 (((BitVec.ofInt 64 x &&& BitVec.ofInt 64 (m : Int)).toNat : Nat) : Int) = _
    rw [BitVec.toNat_and, ofInt_nat m (by omega)]
  have h : (BitVec.ofInt 64 x).toNat &&& m ≤ m := Nat.and_le_right
  rw [e, wrap64 (by omega) (by omega)]
  omega
theorem sl1Byte_spec {b : List Int} {i : Int} (hc : cOk b i) (h : Int) : q_sl1Byte b i h = true ∧ 0 ≤ (sl1Byte b i h).1 ∧ (sl1Byte b i h).1 ≤ 255 ∧ (sl1Byte b i h).2.1 = b ∧ cOk b (sl1Byte b i h).2.2.1 := by
  obtain ⟨h0, h1, h2, h3⟩ := hc
  have r := fun x => iand_range x 255 (by decide)
  by_cases hi : i < (b.length : Int)
  · have e : decide (i < ((b.length : Nat) : Int)) = true := decide_eq_true hi
    have w : IntKind.wrap .i64 (i + 1) = i + 1 := wrap64 (by omega) (by omega)
    simp only [q_sl1Byte, sl1Byte, e, cond_true, w]
    exact ⟨decide_eq_true ⟨h1, hi⟩, (r _).1, (r _).2, trivial, h0, by omega, by omega, h3⟩
  · have e : decide (i < ((b.length : Nat) : Int)) = false := decide_eq_false hi
    simp only [q_sl1Byte, sl1Byte, e, cond_false]
    exact ⟨trivial, (r _).1, (r _).2, trivial, h0, h1, h2, h3⟩
theorem sl1Below_spec {b : List Int} {i : Int} (hc : cOk b i) (n : Int) (h : Int) : q_sl1Below n b i h = true ∧ 0 ≤ (sl1Below n b i h).1 ∧ (0 < n → (sl1Below n b i h).1 < n) ∧ (sl1Below n b i h).2.1 = b ∧ cOk b (sl1Below n b i h).2.2.1 := by
  obtain ⟨a1, a2, a3, a4, a5⟩ := sl1Byte_spec hc h
  by_cases h0 : n ≤ 0
  · have e : decide (n ≤ 0) = true := decide_eq_true h0
    simp only [q_sl1Below, sl1Below, e, cond_true]
    exact ⟨trivial, Int.le_refl _, fun h => by omega, trivial, hc⟩
  · have e : decide (n ≤ 0) = false := decide_eq_false h0
    have en : decide (n ≠ 0) = true := decide_eq_true (by omega)
    by_cases h1 : n ≤ 256
    · have e2 : decide (n ≤ 256) = true := decide_eq_true h1
      simp only [q_sl1Below, sl1Below, e, e2, cond_true, cond_false, a1, en, Bool.and_self]
      exact ⟨trivial, Int.tmod_nonneg _ a2, fun h => Int.tmod_lt_of_pos _ h, a4, a5⟩
    · have e2 : decide (n ≤ 256) = false := decide_eq_false h1
      obtain ⟨b1, b2, b3, b4, b5⟩ := sl1Byte_spec a5 (sl1Byte b i h).2.2.2
      obtain ⟨c1, c2, c3, c4, c5⟩ := sl1Byte_spec b5 (sl1Byte b (sl1Byte b i h).2.2.1 (sl1Byte b i h).2.2.2).2.2.2
      simp only [q_sl1Below, sl1Below, e, e2, cond_false, a1, a4, en, k1_sl1Below, k2_sl1Below, b1, b4, c1, Bool.and_self]
      rw [wrap64 (n := (sl1Byte b i h).1 * 65536) (by omega) (by omega), wrap64 (n := (sl1Byte b (sl1Byte b i h).2.2.1 (sl1Byte b i h).2.2.2).1 * 256) (by omega) (by omega), wrap64 (n := (sl1Byte b i h).1 * 65536 + (sl1Byte b (sl1Byte b i h).2.2.1 (sl1Byte b i h).2.2.2).1 * 256) (by omega) (by omega), wrap64 (by omega) (by omega)]
      exact ⟨trivial, Int.tmod_nonneg _ (by omega), fun h => Int.tmod_lt_of_pos _ h, c4, c5⟩
/-- One op ahead of another, by its key. -/
noncomputable def ltO (a b : Int × ByteArray × ByteArray) : Prop := Op.bytesLess a.2.1.toList b.2.1.toList = true
/-- Ops that a draw makes: in order, each of them right. -/
noncomputable def drawnO (l : List (Int × ByteArray × ByteArray)) : Prop := l.Pairwise ltO ∧ ∀ o ∈ l, sl7Op o.1 o.2.1 o.2.2 = true ∧ o.2.1.size ≤ 20 ∧ o.2.2.size ≤ 20
theorem getD_mem {α : Type} {l : List α} {i : Nat} (h : i < l.length) (d : α) : l.getD i d ∈ l := by
  simp [List.getD_eq_getElem?_getD, h]
theorem sl1Int_spec {b : List Int} {i : Int} (hc : cOk b i) (h : Int) {l : List Int} (hl : 0 < l.length) : q_sl1Int b i h l = true ∧ (sl1Int b i h l).1 ∈ l ∧ (sl1Int b i h l).2.1 = b ∧ cOk b (sl1Int b i h l).2.2.1 := by
  obtain ⟨a1, a2, a3, a4, a5⟩ := sl1Below_spec hc (l.length : Int) h
  have := a3 (by omega)
  simp only [q_sl1Int, sl1Int, a1, Bool.true_and]
  exact ⟨decide_eq_true ⟨a2, this⟩, getD_mem (by omega) _, a4, a5⟩
theorem sl1Str_spec {b : List Int} {i : Int} (hc : cOk b i) (h : Int) {l : List ByteArray} (hl : 0 < l.length) : q_sl1Str b i h l = true ∧ (sl1Str b i h l).1 ∈ l ∧ (sl1Str b i h l).2.1 = b ∧ cOk b (sl1Str b i h l).2.2.1 := by
  obtain ⟨a1, a2, a3, a4, a5⟩ := sl1Below_spec hc (l.length : Int) h
  have := a3 (by omega)
  simp only [q_sl1Str, sl1Str, a1, Bool.true_and]
  exact ⟨decide_eq_true ⟨a2, this⟩, getD_mem (by omega) _, a4, a5⟩
theorem sl3Key_spec {b : List Int} {i : Int} (hc : cOk b i) (h : Int) : q_sl3Key b i h = true ∧ (sl3Key b i h).1.size ≤ 2 ∧ sKeyOk (sl3Key b i h).1 = true ∧ (sl3Key b i h).2.1 = b ∧ cOk b (sl3Key b i h).2.2.1 := by
  obtain ⟨a1, a2, a3, a4⟩ := sl1Str_spec hc h (l := [(⟨#[97]⟩ : ByteArray), (⟨#[98]⟩ : ByteArray), (⟨#[99]⟩ : ByteArray), (⟨#[107, 49]⟩ : ByteArray), (⟨#[107, 50]⟩ : ByteArray), (⟨#[109]⟩ : ByteArray), (⟨#[122]⟩ : ByteArray)]) (by decide)
  simp only [q_sl3Key, sl3Key, k1_sl3Key, a1]
  have hm : (sl1Str b i h [(⟨#[97]⟩ : ByteArray), (⟨#[98]⟩ : ByteArray), (⟨#[99]⟩ : ByteArray), (⟨#[107, 49]⟩ : ByteArray), (⟨#[107, 50]⟩ : ByteArray), (⟨#[109]⟩ : ByteArray), (⟨#[122]⟩ : ByteArray)]).1.size ≤ 2 ∧ sKeyOk (sl1Str b i h [(⟨#[97]⟩ : ByteArray), (⟨#[98]⟩ : ByteArray), (⟨#[99]⟩ : ByteArray), (⟨#[107, 49]⟩ : ByteArray), (⟨#[107, 50]⟩ : ByteArray), (⟨#[109]⟩ : ByteArray), (⟨#[122]⟩ : ByteArray)]).1 = true := by
    generalize (sl1Str b i h [(⟨#[97]⟩ : ByteArray), (⟨#[98]⟩ : ByteArray), (⟨#[99]⟩ : ByteArray), (⟨#[107, 49]⟩ : ByteArray), (⟨#[107, 50]⟩ : ByteArray), (⟨#[109]⟩ : ByteArray), (⟨#[122]⟩ : ByteArray)]).1 = s at a2
    simp only [List.mem_cons, List.not_mem_nil, or_false] at a2
    rcases a2 with rfl | rfl | rfl | rfl | rfl | rfl | rfl <;> exact ⟨by decide, by kernel_rfl⟩
  exact ⟨trivial, hm.1, hm.2, a3, a4⟩
theorem sl7Op1_spec {b : List Int} {i : Int} (hc : cOk b i) (h : Int) : q_sl7Op1 b i h = true ∧ (sl7Op1 b i h).2.1.size ≤ 20 ∧ (sl7Op1 b i h).2.2.1.size ≤ 20 ∧ sl7Op (sl7Op1 b i h).1 (sl7Op1 b i h).2.1 (sl7Op1 b i h).2.2.1 = true ∧ (sl7Op1 b i h).2.2.2.1 = b ∧ cOk b (sl7Op1 b i h).2.2.2.2.1 := by
  obtain ⟨a1, a2, a3, a4⟩ := sl1Int_spec hc h (l := [(1 : Int), (1 : Int), (1 : Int), (2 : Int), (3 : Int)]) (by decide)
  simp only [q_sl7Op1, sl7Op1, k1_sl7Op1, k2_sl7Op1, a1, a3, Bool.true_and]
  generalize sl1Int b i h [(1 : Int), (1 : Int), (1 : Int), (2 : Int), (3 : Int)] = r at *
  obtain ⟨b1, b2, b3, b4, b5⟩ := sl3Key_spec a4 r.2.2.2.1
  simp only [b1, b4, Bool.true_and]
  generalize sl3Key b r.2.2.1 r.2.2.2.1 = t at *
  have hk : r.1 = 1 ∨ r.1 = 2 ∨ r.1 = 3 := by simp only [List.mem_cons, List.not_mem_nil, or_false] at a2; omega
  have hin : sl1In r.1 1 3 = true := by rcases hk with e | e | e <;> rw [e] <;> rfl
  cases e : (r.1 != 2) with
  | true =>
    obtain ⟨c1, c2, c3, c4⟩ := sl1Str_spec b5 t.2.2.2 (l := [(⟨#[49]⟩ : ByteArray), (⟨#[50]⟩ : ByteArray), (⟨#[120]⟩ : ByteArray), (⟨#[]⟩ : ByteArray), (⟨#[49]⟩ : ByteArray)]) (by decide)
    simp only [cond_true, c1]
    generalize sl1Str b t.2.2.1 t.2.2.2 [(⟨#[49]⟩ : ByteArray), (⟨#[50]⟩ : ByteArray), (⟨#[120]⟩ : ByteArray), (⟨#[]⟩ : ByteArray), (⟨#[49]⟩ : ByteArray)] = u at *
    have hs : u.1.size ≤ 1 := by
      have h0 : ∀ x ∈ [(⟨#[49]⟩ : ByteArray), (⟨#[50]⟩ : ByteArray), (⟨#[120]⟩ : ByteArray), (⟨#[]⟩ : ByteArray), (⟨#[49]⟩ : ByteArray)], x.size ≤ 1 := by
        intro x hx
        simp only [List.mem_cons, List.not_mem_nil, or_false] at hx
        rcases hx with rfl | rfl | rfl | rfl | rfl <;> decide
      exact h0 _ c2
    have hne : (r.1 == 2) = false := by simpa using e
    have hd : decide (((u.1.size : Nat) : Int) ≤ 20) = true := decide_eq_true (by omega)
    refine ⟨trivial, by omega, by omega, ?_, c3, c4⟩
    simp only [sl7Op, hin, hne, b3, hd, Bool.not_true, cond_false, cond_true]
  | false =>
    have he : (r.1 == 2) = true := by simpa using e
    simp only [cond_false]
    refine ⟨trivial, by omega, by decide, ?_, trivial, b5⟩
    simp only [sl7Op, hin, he, b3, Bool.not_true, cond_false, cond_true, beq_self_eq_true]
    rfl
/-- What holds on the way of putting an op in order. -/
noncomputable def oneI (l : List (Int × ByteArray × ByteArray)) (o : Int × ByteArray × ByteArray) (i : Nat) (p : Bool) (h : List (Int × ByteArray × ByteArray)) : Prop :=
  h.Pairwise ltO ∧ (∀ x ∈ h, x = o ∨ x ∈ l) ∧ h.length ≤ i + 1 ∧
  (p = false → h = l.take i ∧ ∀ x ∈ h, ltO x o) ∧
  (p = true → h ≠ [] ∧ ∀ x ∈ h, ∀ y ∈ l.drop i, ltO x y)
theorem pw_take {α : Type} {R : α → α → Prop} {l : List α} (h : l.Pairwise R) (i : Nat) (hi : i < l.length) (d : α) : ∀ x ∈ l.take i, R x (l.getD i d) := by
  intro x hx
  obtain ⟨j, hj, rfl⟩ := List.getElem_of_mem hx
  rw [List.length_take] at hj
  have := List.pairwise_iff_getElem.1 h j i (by omega) hi (by omega)
  simpa [List.getD_eq_getElem?_getD, hi] using this
theorem pw_drop {α : Type} {R : α → α → Prop} {l : List α} (h : l.Pairwise R) (i : Nat) (hi : i < l.length) (d : α) : ∀ y ∈ l.drop (i + 1), R (l.getD i d) y := by
  intro y hy
  obtain ⟨j, hj, rfl⟩ := List.getElem_of_mem hy
  rw [List.length_drop] at hj
  have := List.pairwise_iff_getElem.1 h i (i + 1 + j) hi (by omega) (by omega)
  simpa [List.getD_eq_getElem?_getD, hi] using this
theorem take_succ_getD {α : Type} {l : List α} {i : Nat} (hi : i < l.length) (d : α) : l.take (i + 1) = l.take i ++ [l.getD i d] := by
  rw [List.take_add_one, List.getElem?_eq_getElem hi]; simp [List.getD_eq_getElem?_getD, hi]
theorem pw_snoc {α : Type} {R : α → α → Prop} {h : List α} {x : α} (h1 : h.Pairwise R) (h2 : ∀ y ∈ h, R y x) : (h ++ [x]).Pairwise R := by
  rw [List.pairwise_append]
  exact ⟨h1, by simp, fun a ha b hb => by simp at hb; subst hb; exact h2 a ha⟩
theorem bytesLess_trans : ∀ a b c : List UInt8, Op.bytesLess a b = true → Op.bytesLess b c = true → Op.bytesLess a c = true := by
  intro a
  induction a with
  | nil => intro b c h1 h2; cases c with
    | nil => cases b <;> simp [Op.bytesLess] at h2
    | cons z c => rfl
  | cons x a ih =>
    intro b c h1 h2
    cases b with
    | nil => simp [Op.bytesLess] at h1
    | cons y b => cases c with
      | nil => simp [Op.bytesLess] at h2
      | cons z c =>
        simp only [Op.bytesLess, Bool.or_eq_true, Bool.and_eq_true, decide_eq_true_eq, beq_iff_eq] at h1 h2 ⊢
        rcases h1 with h1 | ⟨rfl, h1⟩
        · rcases h2 with h2 | ⟨rfl, h2⟩
          · exact .inl (UInt8.lt_trans h1 h2)
          · exact .inl h1
        · rcases h2 with h2 | ⟨rfl, h2⟩
          · exact .inl h2
          · exact .inr ⟨rfl, ih b c h1 h2⟩
theorem ltO_trans {a b c : Int × ByteArray × ByteArray} (h1 : ltO a b) (h2 : ltO b c) : ltO a c := bytesLess_trans _ _ _ h1 h2
theorem sl7One_it {l : List (Int × ByteArray × ByteArray)} (hs : l.Pairwise ltO) (hl : l.length ≤ 1000) (o : Int × ByteArray × ByteArray) :
    ∃ p h, it_sl7One_0 l false 0 o.1 o.2.1 o.2.2 [] = (0, p, o.1, o.2.1, o.2.2, h) ∧ oneI l o l.length p h := by
  refine itX_inv (fun v : V_sl7One_0 => ∃ (i : Nat) (p : Bool) (h : List (Int × ByteArray × ByteArray)), v = (l, p, (i : Int), o.1, o.2.1, o.2.2, h) ∧ i ≤ l.length ∧ oneI l o i p h) (fun a => ∃ p h, a = (0, p, o.1, o.2.1, o.2.2, h) ∧ oneI l o l.length p h) (fun v => l.length - v.2.2.1.toNat) ?_ ⟨0, false, [], rfl, Nat.zero_le _, .nil, by simp, by simp, fun _ => ⟨rfl, by simp⟩, fun h => by cases h⟩ (by simp; omega)
  rintro v ⟨i, p, h, rfl, hi, hI⟩
  obtain ⟨i1, i2, i3, i4, i5⟩ := hI
  by_cases hlt : i < l.length
  · have e1 : decide ((i : Int) < ((l.length : Nat) : Int)) = true := decide_eq_true (by omega)
    have e2 : decide (0 ≤ (i : Int) ∧ (i : Int) < ((l.length : Nat) : Int)) = true := decide_eq_true (by omega)
    have w := wrapU i (by omega)
    have m1 : ∀ x : Int × ByteArray × ByteArray, decide ((h.length + [x].length) * 40 ≤ MAXB) = true := fun x => decide_eq_true (by simp only [List.length_singleton, MAXB]; omega)
    have m2 : ∀ x y : Int × ByteArray × ByteArray, decide (((h ++ [x]).length + [y].length) * 40 ≤ MAXB) = true := fun x y => decide_eq_true (by simp only [List.length_append, List.length_singleton, MAXB]; omega)
    have eta : ∀ x : Int × ByteArray × ByteArray, (x.1, (x.2.1, x.2.2)) = x := fun _ => rfl
    have hdrop : l.drop i = l.getD i dOp :: l.drop (i + 1) := by rw [List.drop_eq_getElem_cons hlt]; simp [List.getD_eq_getElem?_getD, hlt]
    have htk := pw_take hs i hlt dOp
    have hdr := pw_drop hs i hlt dOp
    have hmem : l.getD i dOp ∈ l := getD_mem hlt _
    have hts := take_succ_getD hlt dOp
    have meas : ∀ (p' : Bool) (h' : List (Int × ByteArray × ByteArray)), l.length - ((l, p', ((i + 1 : Nat) : Int), o.1, o.2.1, o.2.2, h') : V_sl7One_0).2.2.1.toNat < l.length - ((l, p, (i : Int), o.1, o.2.1, o.2.2, h) : V_sl7One_0).2.2.1.toNat := fun _ _ => by simp only [Int.toNat_natCast]; omega
    simp only [ss_sl7One_0, e1, e2, m1, m2, w, cond_true, Int.toNat_natCast, eta]
    have hd : ((0 : Int), ((⟨#[]⟩ : ByteArray), (⟨#[]⟩ : ByteArray))) = dOp := rfl
    simp only [hd]
    generalize hx : l.getD i dOp = x at *
    left
    cases p with
    | false =>
      obtain ⟨j1, j2⟩ := i4 rfl
      simp only [Bool.not_false, cond_true]
      cases hb : Op.bytesLess x.2.1.toList o.2.1.toList with
      | true =>
        -- still ahead of it
        have hxo : ltO x o := hb
        have hne : (x.2.1.toList == o.2.1.toList) = false := by
          rw [beq_eq_false_iff_ne]; intro e; rw [e] at hb; rw [bytesLess_irrefl] at hb; cases hb
        simp only [Bool.not_true, cond_false, hne, Bool.not_false, cond_true]
        refine ⟨_, rfl, ⟨i + 1, false, h ++ [x], rfl, by omega, pw_snoc i1 (fun y hy => ?_), ?_, by simp; omega, fun _ => ⟨by rw [j1, hts], ?_⟩, fun h => by cases h⟩, meas _ _⟩
        · rw [j1] at hy; exact htk y hy
        · intro y hy
          rcases List.mem_append.1 hy with hy | hy
          · exact i2 y hy
          · simp at hy; subst hy; exact .inr hmem
        · intro y hy
          rcases List.mem_append.1 hy with hy | hy
          · exact j2 y hy
          · simp at hy; subst hy; exact hxo
      | false =>
        have hge := bytesLess_ge x.2.1.toList o.2.1.toList
        rw [hb] at hge
        simp only [Bool.not_false] at hge
        simp only [Bool.not_false, cond_true]
        have s1 : (h ++ [o]).Pairwise ltO := pw_snoc i1 j2
        have s2 : ∀ y ∈ h ++ [o], y = o ∨ y ∈ l := by
          intro y hy
          rcases List.mem_append.1 hy with hy | hy
          · exact i2 y hy
          · simp at hy; exact .inl hy
        cases hq : (x.2.1.toList == o.2.1.toList) with
        | true =>
          simp only [Bool.not_true, cond_false]
          have hkey : x.2.1.toList = o.2.1.toList := by simpa using hq
          have ho : ∀ y ∈ l.drop (i + 1), ltO o y := fun y hy => by have := hdr y hy; unfold ltO at this ⊢; rwa [hkey] at this
          refine ⟨_, rfl, ⟨i + 1, true, h ++ [o], rfl, by omega, s1, s2, by simp; omega, (fun h => by cases h), fun _ => ⟨by simp, ?_⟩⟩, meas _ _⟩
          intro y hy z hz
          rcases List.mem_append.1 hy with hy | hy
          · exact ltO_trans (j2 y hy) (ho z hz)
          · simp at hy; subst hy; exact ho z hz
        | false =>
          simp only [Bool.not_false, cond_true]
          have hox : ltO o x := by
            have h9 : Op.bytesLess o.2.1.toList x.2.1.toList = true := by
              cases h8 : Op.bytesLess o.2.1.toList x.2.1.toList with
              | true => rfl
              | false =>
                rw [h8] at hge
                have h7 : (o.2.1.toList == x.2.1.toList) = true := by simpa using hge.symm
                rw [beq_iff_eq] at h7
                rw [h7] at hq; simp at hq
            exact h9
          refine ⟨_, rfl, ⟨i + 1, true, (h ++ [o]) ++ [x], rfl, by omega, pw_snoc s1 (fun y hy => ?_), ?_, ?_, (fun h => by cases h), fun _ => ⟨by simp, ?_⟩⟩, meas _ _⟩
          · rcases List.mem_append.1 hy with hy | hy
            · exact ltO_trans (j2 y hy) hox
            · simp at hy; subst hy; exact hox
          · intro y hy
            rcases List.mem_append.1 hy with hy | hy
            · exact s2 y hy
            · simp at hy; subst hy; exact .inr hmem
          · have : h.length ≤ i := by rw [j1, List.length_take]; omega
            simp; omega
          · intro y hy z hz
            have hxz := hdr z hz
            rcases List.mem_append.1 hy with hy | hy
            · rcases List.mem_append.1 hy with hy | hy
              · exact ltO_trans (ltO_trans (j2 y hy) hox) hxz
              · simp at hy; subst hy; exact ltO_trans hox hxz
            · simp at hy; subst hy; exact hxz
    | true =>
      obtain ⟨j1, j2⟩ := i5 rfl
      simp only [Bool.not_true, cond_false]
      have j3 : ∀ y ∈ h, ∀ z ∈ l.drop (i + 1), ltO y z := fun y hy z hz => j2 y hy z (by rw [hdrop]; exact List.mem_cons_of_mem _ hz)
      cases hq : (x.2.1.toList == o.2.1.toList) with
      | true =>
        simp only [Bool.not_true, cond_false]
        exact ⟨_, rfl, ⟨i + 1, true, h, rfl, by omega, i1, i2, by omega, (fun h => by cases h), fun _ => ⟨j1, j3⟩⟩, meas _ _⟩
      | false =>
        simp only [Bool.not_false, cond_true]
        refine ⟨_, rfl, ⟨i + 1, true, h ++ [x], rfl, by omega, pw_snoc i1 (fun y hy => j2 y hy x (by rw [hdrop]; simp)), ?_, by simp; omega, (fun h => by cases h), fun _ => ⟨by simp, ?_⟩⟩, meas _ _⟩
        · intro y hy
          rcases List.mem_append.1 hy with hy | hy
          · exact i2 y hy
          · simp at hy; subst hy; exact .inr hmem
        · intro y hy z hz
          rcases List.mem_append.1 hy with hy | hy
          · exact j3 y hy z hz
          · simp at hy; subst hy; exact hdr z hz
  · obtain rfl : i = l.length := by omega
    have e1 : decide (((l.length : Nat) : Int) < ((l.length : Nat) : Int)) = false := decide_eq_false (by omega)
    simp only [ss_sl7One_0, e1, cond_false]
    exact .inr ⟨_, rfl, p, h, rfl, i1, i2, i3, i4, i5⟩
theorem sl7One_spec {l : List (Int × ByteArray × ByteArray)} (hs : l.Pairwise ltO) (hl : l.length ≤ 1000) (k : Int) (s v : ByteArray) :
    q_sl7One l k s v = true ∧ (sl7One l k s v).Pairwise ltO ∧ (∀ x ∈ sl7One l k s v, x = (k, s, v) ∨ x ∈ l) ∧ sl7One l k s v ≠ [] ∧ (sl7One l k s v).length ≤ l.length + 1 := by
  obtain ⟨p, h, e, i1, i2, i3, i4, i5⟩ := sl7One_it hs hl (k, s, v)
  simp only at e
  have m1 : ∀ x : Int × ByteArray × ByteArray, decide ((h.length + [x].length) * 40 ≤ MAXB) = true := fun x => decide_eq_true (by simp only [List.length_singleton, MAXB]; omega)
  simp only [q_sl7One, sl7One, e, m1]
  cases p with
  | true =>
    simp only [Bool.not_true, cond_false]
    exact ⟨rfl, i1, i2, (i5 rfl).1, i3⟩
  | false =>
    obtain ⟨j1, j2⟩ := i4 rfl
    simp only [Bool.not_false, cond_true]
    refine ⟨rfl, pw_snoc i1 j2, ?_, by simp, ?_⟩
    · intro y hy
      rcases List.mem_append.1 hy with hy | hy
      · exact i2 y hy
      · simp at hy; exact .inl hy
    · rw [j1]; simp
theorem sl7Draw_spec {b : List Int} {i : Int} (hc : cOk b i) (h : Int) : q_sl7Draw b i h = true ∧ (sl7Draw b i h).1 = b ∧ cOk b (sl7Draw b i h).2.1 ∧ drawnO (sl7Draw b i h).2.2.2 ∧ 1 ≤ (sl7Draw b i h).2.2.2.length ∧ (sl7Draw b i h).2.2.2.length ≤ 4 := by
  obtain ⟨a1, a2, a3, a4, a5⟩ := sl1Below_spec hc 4 h
  have a3 := a3 (by omega)
  simp only [q_sl7Draw, sl7Draw, k2_sl7Draw, a1, a4, Bool.true_and]
  generalize sl1Below 4 b i h = r at *
  have w : IntKind.wrap .i64 (1 + r.1) = 1 + r.1 := wrap64 (by omega) (by omega)
  rw [w]
  obtain ⟨z1, z2, z3, z4, z5, z6⟩ : (it_sl7Draw_0 (1 + r.1) b r.2.2.1 r.2.2.2 []).1 = 0 ∧ (it_sl7Draw_0 (1 + r.1) b r.2.2.1 r.2.2.2 []).2.1 = b ∧ cOk b (it_sl7Draw_0 (1 + r.1) b r.2.2.1 r.2.2.2 []).2.2.1 ∧ drawnO (it_sl7Draw_0 (1 + r.1) b r.2.2.1 r.2.2.2 []).2.2.2.2 ∧ 1 ≤ (it_sl7Draw_0 (1 + r.1) b r.2.2.1 r.2.2.2 []).2.2.2.2.length ∧ (it_sl7Draw_0 (1 + r.1) b r.2.2.1 r.2.2.2 []).2.2.2.2.length ≤ 4 := by
    refine itX_inv (fun v : V_sl7Draw_0 => v.2.1 = b ∧ cOk b v.2.2.1 ∧ drawnO v.2.2.2.2 ∧ 0 ≤ v.1 ∧ v.1 ≤ 4 ∧ (v.2.2.2.2.length : Int) ≤ 4 - v.1 ∧ (v.1 = 0 → 1 ≤ v.2.2.2.2.length)) (fun a : A_sl7Draw_0 => a.1 = 0 ∧ a.2.1 = b ∧ cOk b a.2.2.1 ∧ drawnO a.2.2.2.2 ∧ 1 ≤ a.2.2.2.2.length ∧ a.2.2.2.2.length ≤ 4) (fun v => v.1.toNat) ?_ ⟨rfl, a5, ⟨.nil, by simp⟩, by simp only; omega, by simp only; omega, by simp only [List.length_nil]; omega, fun h => by simp only at h; omega⟩ (by simp only; omega)
    rintro ⟨n, b', j, h', l⟩ ⟨e1, e2, e3, e4, e5, e6, e7⟩
    simp only at e1 e2 e3 e4 e5 e6 e7
    subst e1
    by_cases hn : n > 0
    · obtain ⟨o1, o2, o3, o4, o5, o6⟩ := sl7Op1_spec e2 h'
      obtain ⟨p1, p2, p3, p4, p5⟩ := sl7One_spec e3.1 (by omega) (sl7Op1 b' j h').1 (sl7Op1 b' j h').2.1 (sl7Op1 b' j h').2.2.1
      have w2 : IntKind.wrap .i64 (n - 1) = n - 1 := wrap64 (by omega) (by omega)
      simp only [ss_sl7Draw_0, decide_eq_true hn, o1, p1, cond_true, w2, o5, k1_sl7Draw]
      refine .inl ⟨_, rfl, ⟨rfl, o6, ⟨p2, fun x hx => ?_⟩, by simp only; omega, by simp only; omega, by simp only; omega, fun _ => List.length_pos_iff.2 p4⟩, by simp only; omega⟩
      rcases p3 x hx with rfl | hx
      · exact ⟨o4, o2, o3⟩
      · exact e3.2 x hx
    · simp only [ss_sl7Draw_0, decide_eq_false hn, cond_false]
      exact .inr ⟨_, rfl, rfl, rfl, e2, e3, e7 (by omega), by simp only; omega⟩
  exact ⟨by rw [z1]; rfl, z2, z3, z4, z5, z6⟩
theorem drawn_opsOk {l : List (Int × ByteArray × ByteArray)} (h : drawnO l) (h1 : 1 ≤ l.length) (h8 : l.length ≤ 8) : sOpsOk l = true := by
  have e : allF (sOpAt l) (l.length - (0 : Int).toNat) (0 : Int).toNat = true := by
    refine (allF_true _ _).2 fun j _ hj => ?_
    have hj' : j < l.length := by simpa using hj
    simp only [sOpAt, Bool.and_eq_true, (h.2 _ (getD_mem hj' dOp)).1, true_and]
    by_cases h0 : j = 0
    · subst h0; simp
    · have hp := List.pairwise_iff_getElem.1 h.1 (j - 1) j (by omega) hj' (by omega)
      have e2 : l.getD (j - 1) dOp = l[j - 1] := by simp [List.getD_eq_getElem?_getD, show j - 1 < l.length by omega]
      have e3 : l.getD j dOp = l[j] := by simp [List.getD_eq_getElem?_getD, hj']
      rw [e2, e3]
      simp only [Bool.or_eq_true]
      exact .inr hp
  have e1 : decide (((l.length : Nat) : Int) ≥ 1) = true := decide_eq_true (by omega)
  have e2 : decide (((l.length : Nat) : Int) ≤ 8) = true := decide_eq_true (by omega)
  simp only [sOpsOk, e, cond_true, sl1In, e1, e2]
theorem sl1Once_spec {b : List Int} {i : Int} (hc : cOk b i) (n : Int) (h : Int) : q_sl1Once n b i h = true ∧ (sl1Once n b i h).2.1 = b ∧ cOk b (sl1Once n b i h).2.2.1 := by
  obtain ⟨a1, a2, a3, a4, a5⟩ := sl1Below_spec hc n h
  exact ⟨a1, a4, a5⟩
theorem sl10Draw_spec {b : List Int} {i : Int} (hc : cOk b i) (h : Int) : q_sl10Draw b i h = true ∧ sWordOk (sl10Draw b i h).1 (sl10Draw b i h).2.1 (sl10Draw b i h).2.2.1 (sl10Draw b i h).2.2.2.1 (sl10Draw b i h).2.2.2.2.1 = true ∧ (sl10Draw b i h).2.2.2.2.2.1 = b ∧ cOk b (sl10Draw b i h).2.2.2.2.2.2.1 := by
  obtain ⟨a1, a2, a3, a4, a5⟩ := sl1Below_spec hc 4 h
  have a3 := a3 (by omega)
  simp only [q_sl10Draw, sl10Draw, k1_sl10Draw, k2_sl10Draw, k3_sl10Draw, k4_sl10Draw, a1, a4, Bool.true_and]
  generalize sl1Below 4 b i h = r at *
  obtain ⟨b1, b2, b3, b4, b5⟩ := sl1Below_spec a5 3 r.2.2.2
  have b3 := b3 (by omega)
  simp only [b1, b4, Bool.true_and]
  generalize sl1Below 3 b r.2.2.1 r.2.2.2 = s at *
  obtain ⟨c1, c2, c3, c4, c5⟩ := sl1Below_spec b5 4 s.2.2.2
  have c3 := c3 (by omega)
  simp only [c1, c4, Bool.true_and]
  generalize sl1Below 4 b s.2.2.1 s.2.2.2 = t at *
  have w1 : IntKind.wrap .i64 (1 + r.1) = 1 + r.1 := wrap64 (by omega) (by omega)
  have w2 : IntKind.wrap .i64 (1000 + t.1) = 1000 + t.1 := wrap64 (by omega) (by omega)
  have r1 : sl1In s.1 0 7 = true := by
    simp only [sl1In, decide_eq_true (show s.1 ≥ 0 from b2), decide_eq_true (show s.1 ≤ 7 by omega), cond_true]
  have r2 : sl1In (1000 + t.1) 1 1000000 = true := by
    simp only [sl1In, decide_eq_true (show 1000 + t.1 ≥ 1 by omega), decide_eq_true (show 1000 + t.1 ≤ 1000000 by omega), cond_true]
  have hz : (((([] : List (Int × ByteArray × ByteArray)).length : Nat) : Int) == 0) = true := rfl
  simp only [w1, w2]
  cases e1 : (1 + r.1 == 1) with
  | true =>
    obtain ⟨d1, d2, d3, d4, d5, d6⟩ := sl7Draw_spec c5 t.2.2.2
    simp only [cond_true, d1, sWordOk, r1, r2, e1, Bool.not_true, cond_false, drawn_opsOk d4 d5 (by omega)]
    exact ⟨trivial, rfl, d2, d3⟩
  | false =>
  obtain ⟨f1, f2, f3⟩ := sl1Once_spec c5 2 t.2.2.2
  cases e2 : (1 + r.1 == 2) with
  | true =>
    simp only [cond_true, cond_false, f1, sWordOk, r1, r2, e1, e2, Bool.not_true, hz]
    exact ⟨trivial, trivial, f2, f3⟩
  | false =>
  cases e3 : (1 + r.1 == 3) with
  | true =>
    simp only [cond_true, cond_false, f1, sWordOk, r1, r2, e1, e2, e3, Bool.not_true, hz]
    exact ⟨trivial, trivial, f2, f3⟩
  | false =>
    have e4 : (1 + r.1 == 4) = true := by
      rw [beq_iff_eq]; rw [beq_eq_false_iff_ne] at e1 e2 e3; omega
    simp only [cond_true, cond_false, sWordOk, r1, r2, e1, e2, e3, e4, Bool.not_true, hz]
    exact ⟨trivial, rfl, trivial, c5⟩
theorem wordOk_ops {k s t : Int} {l : List (Int × ByteArray × ByteArray)} {y : Bool} (h : sWordOk k s t l y = true) : (k == 1) = decide (((l.length : Nat) : Int) > 0) ∧ ((k == 1) = true → sOpsOk l = true) := by
  simp only [sWordOk] at h
  cases h1 : sl1In s 0 7 with
  | false => simp [h1] at h
  | true =>
  cases h2 : sl1In t 1 1000000 with
  | false => simp [h1, h2] at h
  | true =>
  simp only [h1, h2, Bool.not_true, cond_false] at h
  cases h3 : (k == 1) with
  | true =>
    simp only [h3, cond_true] at h
    cases h4 : sOpsOk l with
    | false => simp [h4] at h
    | true =>
      refine ⟨?_, fun _ => rfl⟩
      simp only [sOpsOk] at h4
      cases h5 : allF (sOpAt l) (l.length - (0 : Int).toNat) (0 : Int).toNat with
      | false => rw [h5] at h4; simp at h4
      | true =>
        rw [h5] at h4
        simp only [cond_true, sl1In] at h4
        cases h6 : decide (((l.length : Nat) : Int) ≥ 1) with
        | false => simp [h6] at h4
        | true => have := of_decide_eq_true h6; exact (decide_eq_true (by omega)).symm
  | false =>
    refine ⟨?_, fun h => by cases h⟩
    simp only [h3, cond_false] at h
    have : ((l.length : Nat) : Int) = 0 := by
      cases h4 : (((l.length : Nat) : Int) == 0) with
      | true => simpa using h4
      | false => simp [h4] at h
    exact (decide_eq_false (by omega)).symm
theorem opsOk_small {l : List (Int × ByteArray × ByteArray)} (h : sOpsOk l = true) : l.length ≤ 8 ∧ ∀ o ∈ l, o.2.1.size ≤ 12 ∧ o.2.2.size ≤ 20 := by
  simp only [sOpsOk] at h
  cases h5 : allF (sOpAt l) (l.length - (0 : Int).toNat) (0 : Int).toNat with
  | false => rw [h5] at h; simp at h
  | true =>
    rw [h5] at h
    simp only [cond_true, sl1In] at h
    constructor
    · cases h6 : decide (((l.length : Nat) : Int) ≥ 1) with
      | false => simp [h6] at h
      | true => rw [h6] at h; simp only [cond_true, decide_eq_true_eq] at h; omega
    · intro o ho
      obtain ⟨i, hi, rfl⟩ := List.getElem_of_mem ho
      have h6 := (allF_true _ _).1 h5 i (Nat.zero_le _) (by simpa using hi)
      simp only [sOpAt, Bool.and_eq_true, List.getD_eq_getElem?_getD, List.getElem?_eq_getElem hi, Option.getD_some] at h6
      have h7 := h6.1
      simp only [sl7Op] at h7
      have hk : ∀ s : ByteArray, sKeyOk s = true → s.size ≤ 12 := by
        intro s hs
        simp only [sKeyOk] at hs
        cases h8 : allF (sKeyAt s) (s.size - (0 : Int).toNat) (0 : Int).toNat with
        | false => rw [h8] at hs; simp at hs
        | true =>
          rw [h8] at hs
          simp only [cond_true, sl1In] at hs
          cases h9 : decide (((s.size : Nat) : Int) ≥ 1) with
          | false => simp [h9] at hs
          | true => rw [h9] at hs; simp only [cond_true, decide_eq_true_eq] at hs; omega
      cases h8 : sKeyOk (l[i]).2.1 with
      | false => exfalso; revert h7; simp only [h8, cond_false]; cases sl1In (l[i]).1 1 3 <;> cases ((l[i]).1 == 2) <;> simp
      | true =>
        refine ⟨hk _ h8, ?_⟩
        revert h7
        simp only [h8, cond_true]
        cases sl1In (l[i]).1 1 3 <;> cases ((l[i]).1 == 2) <;> simp <;> omega
theorem opsOk_okOps {l : List (Int × ByteArray × ByteArray)} (h : sOpsOk l = true) : okOps l = true := by
  obtain ⟨a1, a2⟩ := opsOk_small h
  simp only [okOps, okL, Bool.and_eq_true, decide_eq_true_eq, List.all_eq_true]
  refine ⟨by omega, fun o ho => ?_⟩
  have := a2 o ho
  simp only [okOp, okS, Bool.and_eq_true, decide_eq_true_eq]; omega
theorem wordOk_is {k s t : Int} {l : List (Int × ByteArray × ByteArray)} {y : Bool} (h : sWordOk k s t l y = true) : 1 ≤ k ∧ k ≤ 4 ∧ 0 ≤ s ∧ s ≤ 7 ∧ 1 ≤ t ∧ t ≤ 1000000 ∧ (k = 1 → sOpsOk l = true) ∧ (k ≠ 1 → l = []) ∧ okOps l = true := by
  obtain ⟨w1, w2⟩ := wordOk_ops h
  have hl : k ≠ 1 → l = [] := fun hk => by
    have : (k == 1) = false := by rw [beq_eq_false_iff_ne]; exact hk
    rw [this] at w1
    have := of_decide_eq_false w1.symm
    exact List.eq_nil_of_length_eq_zero (by omega)
  have ho : k = 1 → sOpsOk l = true := fun hk => w2 (by rw [hk]; rfl)
  have hoo : okOps l = true := by
    by_cases hk : k = 1
    · exact opsOk_okOps (ho hk)
    · rw [hl hk]; rfl
  simp only [sWordOk, sl1In] at h
  cases h1 : decide (s ≥ 0) with
  | false => simp [h1] at h
  | true => cases h2 : decide (s ≤ 7) with
    | false => simp [h1, h2] at h
    | true => cases h3 : decide (t ≥ 1) with
      | false => simp [h1, h2, h3] at h
      | true => cases h4 : decide (t ≤ 1000000) with
        | false => simp [h1, h2, h3, h4] at h
        | true =>
          simp only [h1, h2, h3, h4, cond_true, Bool.not_true, cond_false] at h
          have hk : 1 ≤ k ∧ k ≤ 4 := by
            cases k1 : (k == 1) with
            | true => have := eq_of_beq k1; omega
            | false => cases k2 : (k == 2) with
              | true => have := eq_of_beq k2; omega
              | false => cases k3 : (k == 3) with
                | true => have := eq_of_beq k3; omega
                | false => cases k4 : (k == 4) with
                  | true => have := eq_of_beq k4; omega
                  | false => simp [k1, k2, k3, k4] at h
          have := of_decide_eq_true h1; have := of_decide_eq_true h2; have := of_decide_eq_true h3; have := of_decide_eq_true h4
          exact ⟨hk.1, hk.2, by omega, by omega, by omega, by omega, ho, hl, hoo⟩
theorem okOps_small {l : List (Int × ByteArray × ByteArray)} (h1 : l.length ≤ 1048576) (h2 : ∀ o ∈ l, o.2.1.size ≤ 1048576 ∧ o.2.2.size ≤ 1048576) : okOps l = true := by
  simp only [okOps, okL, Bool.and_eq_true, decide_eq_true_eq, List.all_eq_true]
  refine ⟨h1, fun o ho => ?_⟩
  simp only [okOp, okS, Bool.and_eq_true, decide_eq_true_eq]; exact h2 o ho
theorem mem_set_or {α : Type} {l : List α} {i : Nat} {x y : α} (h : y ∈ l.set i x) : y = x ∨ y ∈ l := by
  rcases List.mem_or_eq_of_mem_set h with h | h
  · exact .inr h
  · exact .inl h
theorem sl3KeyAny_spec {b : List Int} {i : Int} (hc : cOk b i) (h : Int) : q_sl3KeyAny b i h = true ∧ (sl3KeyAny b i h).1.size ≤ 20 ∧ (sl3KeyAny b i h).2.1 = b ∧ cOk b (sl3KeyAny b i h).2.2.1 := by
  obtain ⟨a1, a2, a3⟩ := sl1Once_spec hc 6 h
  simp only [q_sl3KeyAny, sl3KeyAny, k1_sl3KeyAny, k2_sl3KeyAny, a1, a2, Bool.true_and]
  generalize sl1Once 6 b i h = r at *
  cases r.1 with
  | true =>
    obtain ⟨c1, c2, c3, c4⟩ := sl1Str_spec a3 r.2.2.2 (l := [(⟨#[]⟩ : ByteArray), (⟨#[65]⟩ : ByteArray), (⟨#[97, 32, 98]⟩ : ByteArray), (⟨#[116, 104, 105, 114, 116, 101, 101, 110, 98, 121, 116, 101, 115]⟩ : ByteArray), (⟨#[116, 119, 101, 108, 118, 101, 98, 121, 116, 101, 115, 49]⟩ : ByteArray)]) (by decide)
    simp only [cond_true]
    refine ⟨c1, ?_, c3, c4⟩
    revert c2
    generalize (sl1Str b r.2.2.1 r.2.2.2 [(⟨#[]⟩ : ByteArray), (⟨#[65]⟩ : ByteArray), (⟨#[97, 32, 98]⟩ : ByteArray), (⟨#[116, 104, 105, 114, 116, 101, 101, 110, 98, 121, 116, 101, 115]⟩ : ByteArray), (⟨#[116, 119, 101, 108, 118, 101, 98, 121, 116, 101, 115, 49]⟩ : ByteArray)]).1 = s
    intro c2
    simp only [List.mem_cons, List.not_mem_nil, or_false] at c2
    rcases c2 with rfl | rfl | rfl | rfl | rfl <;> decide
  | false =>
    obtain ⟨c1, c2, _, c3, c4⟩ := sl3Key_spec a3 r.2.2.2
    simp only [cond_false]
    exact ⟨c1, by omega, c3, c4⟩
/-- Bytes as a text. -/
noncomputable def strB (l : List Int) : ByteArray := ⟨(l.map fun n => UInt8.ofNat n.toNat).toArray⟩
theorem strB_size (l : List Int) : (strB l).size = l.length := by simp [strB, ByteArray.size]
theorem sl7Any_spec {b : List Int} {i : Int} (hc : cOk b i) (h : Int) : q_sl7Any b i h = true ∧ okOps (sl7Any b i h).1 = true ∧ (sl7Any b i h).2.1 = b ∧ cOk b (sl7Any b i h).2.2.1 := by
  obtain ⟨a1, a2, a3, a4, a5, a6⟩ := sl7Draw_spec hc h
  simp only [q_sl7Any, sl7Any, k1_sl7Any, k2_sl7Any, k3_sl7Any, k4_sl7Any, k5_sl7Any, a1, a2, Bool.true_and]
  generalize sl7Draw b i h = r at *
  obtain ⟨b1, b2, b3, b4, b5⟩ := sl1Below_spec a3 10 r.2.2.1
  simp only [b1, b4, Bool.true_and]
  generalize sl1Below 10 b r.2.1 r.2.2.1 = t at *
  have hidx : decide ((0 : Int) ≤ 0 ∧ (0 : Int) < ((r.2.2.2.length : Nat) : Int)) = true := decide_eq_true (by omega)
  have hidx2 : decide ((0 : Int) ≤ 0 ∧ (0 : Int) ≤ 0 ∧ (0 : Int) ≤ ((r.2.2.2.length : Nat) : Int)) = true := decide_eq_true (by omega)
  have hsm : ∀ o ∈ r.2.2.2, o.2.1.size ≤ 1048576 ∧ o.2.2.size ≤ 1048576 := fun o ho => by have := a4.2 o ho; omega
  have h0 := hsm _ (getD_mem (l := r.2.2.2) (i := 0) (by omega) ((0 : Int), ((⟨#[]⟩ : ByteArray), (⟨#[]⟩ : ByteArray))))
  have hset : ∀ o : Int × ByteArray × ByteArray, o.2.1.size ≤ 1048576 → o.2.2.size ≤ 1048576 → okOps (r.2.2.2.set 0 o) = true := fun o h1 h2 => okOps_small (by rw [List.length_set]; omega) fun y hy => by
    rcases mem_set_or hy with rfl | hy
    · exact ⟨h1, h2⟩
    · exact hsm y hy
  cases c0 : (t.1 == 0) with
  | true =>
    obtain ⟨o1, o2, o3, o4, o5, o6⟩ := sl7Op1_spec b5 t.2.2.2
    have m1 : ∀ x : Int × ByteArray × ByteArray, decide ((r.2.2.2.length + [x].length) * 40 ≤ MAXB) = true := fun x => decide_eq_true (by simp only [List.length_singleton, MAXB]; omega)
    simp only [cond_true, o1, m1]
    refine ⟨rfl, okOps_small (by simp; omega) fun y hy => ?_, o5, o6⟩
    rcases List.mem_append.1 hy with hy | hy
    · exact hsm y hy
    · simp at hy; subst hy; exact ⟨by simp only; omega, by simp only; omega⟩
  | false =>
  cases c1 : (t.1 == 1) with
  | true =>
    obtain ⟨d1, d2, d3, d4, d5⟩ := sl1Below_spec b5 5 t.2.2.2
    simp only [cond_true, cond_false, d1, hidx]
    exact ⟨rfl, hset _ h0.1 h0.2, d4, d5⟩
  | false =>
  cases c2 : (t.1 == 2) with
  | true =>
    obtain ⟨d1, d2, d3, d4⟩ := sl3KeyAny_spec b5 t.2.2.2
    simp only [cond_true, cond_false, d1, hidx]
    exact ⟨rfl, hset _ (by simp only; omega) h0.2, d3, d4⟩
  | false =>
  cases c3 : (t.1 == 3) with
  | true =>
    obtain ⟨d1, d2, d3, d4, d5⟩ := sl1Below_spec b5 2 t.2.2.2
    have d3 := d3 (by omega)
    have w : IntKind.wrap .i64 (20 + (sl1Below 2 b t.2.2.1 t.2.2.2).1) = 20 + (sl1Below 2 b t.2.2.1 t.2.2.2).1 := wrap64 (by omega) (by omega)
    simp only [cond_true, cond_false, d1, hidx, w, Bool.true_and, Bool.and_true]
    refine ⟨decide_eq_true ⟨by omega, trivial, by simp only [MAXB]; omega, by omega⟩, hset _ h0.1 ?_, d4, d5⟩
    have : (strB (List.replicate (20 + (sl1Below 2 b t.2.2.1 t.2.2.2).1).toNat (0 : Int))).size ≤ 1048576 := by rw [strB_size, List.length_replicate]; omega
    exact this
  | false =>
  cases c4 : (t.1 == 4) with
  | true =>
    simp only [cond_true, cond_false, hidx2]
    exact ⟨trivial, okOps_small (by simp) fun y hy => by simp at hy, trivial, b5⟩
  | false =>
    simp only [cond_false]
    exact ⟨trivial, okOps_small (by omega) hsm, trivial, b5⟩
theorem sl10Any_spec {b : List Int} {i : Int} (hc : cOk b i) (h : Int) : q_sl10Any b i h = true ∧ okOps (sl10Any b i h).2.2.2.1 = true := by
  obtain ⟨a1, a2, a3, a4⟩ := sl10Draw_spec hc h
  have ho := (wordOk_is a2).2.2.2.2.2.2.2.2
  simp only [q_sl10Any, sl10Any, k1_sl10Any, k2_sl10Any, k3_sl10Any, k4_sl10Any, k5_sl10Any, a1, a3, Bool.true_and]
  generalize sl10Draw b i h = r at *
  obtain ⟨b1, b2, b3, b4, b5⟩ := sl1Below_spec a4 10 r.2.2.2.2.2.2.2
  simp only [b1, b4, Bool.true_and]
  generalize sl1Below 10 b r.2.2.2.2.2.2.1 r.2.2.2.2.2.2.2 = t at *
  have q1 := (sl1Below_spec b5 6 t.2.2.2).1
  have q2 := (sl1Int_spec b5 t.2.2.2 (l := [(-1 : Int), (7 : Int), (8 : Int)]) (by decide)).1
  have q3 := (sl1Int_spec b5 t.2.2.2 (l := [(0 : Int), (1000000 : Int), (1000001 : Int)]) (by decide)).1
  obtain ⟨q4, q5, _⟩ := sl7Any_spec b5 t.2.2.2
  simp only [q1, q2, q3, q4]
  cases (t.1 == 0) <;> cases (t.1 == 1) <;> cases (t.1 == 2) <;> cases (t.1 == 3) <;> cases (t.1 == 4) <;> simp only [cond_true, cond_false, ho, q5] <;> exact ⟨trivial, trivial⟩
theorem sDrawPutWord_spec {b : List Int} (hb : okB b) (hl : b.length ≤ 1048576) : q_sDrawPutWord b = true ∧ okOps (sDrawPutWord b).2.2.2.1 = true := by
  obtain ⟨a1, a2, a3⟩ := sl1New_spec hb hl
  simp only [q_sDrawPutWord, sDrawPutWord, a1, a2, Bool.true_and]
  exact sl10Any_spec a3 _
/-- Yes as a number. -/
noncomputable def bN (y : Bool) : Int := cond y 1 0
/-- The bytes of ops. -/
noncomputable def opsB (l : List (Int × ByteArray × ByteArray)) : List Int := numB (l.length : Int) ++ (l.map opB).flatten
/-- The bytes of a word that is right. -/
noncomputable def wordB (k s t : Int) (l : List (Int × ByteArray × ByteArray)) (y : Bool) : List Int := numB k ++ (numB s ++ (numB t ++ (numB (bN y) ++ cond (k == 1) (opsB l) [])))
theorem bN_range (y : Bool) : 0 ≤ bN y ∧ bN y ≤ 1 := by cases y <;> simp [bN]
theorem opsB_len {l : List (Int × ByteArray × ByteArray)} (h : sOpsOk l = true) : (opsB l).length ≤ 400 := by
  obtain ⟨a1, a2⟩ := opsOk_small h
  have h5 := flat_len (M := 47) l (fun o ho' => by have := a2 o ho'; have := opB_len o; omega)
  have h6 := numB_len (l.length : Int)
  simp only [opsB, List.length_append]; omega
/-- The bytes of a number behind others. -/
noncomputable def hiB (j x : Nat) : List Int := (hiF gNum j (x : Int)).1 ++ [IntKind.wrap .u8 (hiF gNum j (x : Int)).2]
theorem numB_hi (x : Nat) : numB (x : Int) = hiB 4 x := by simp only [numB, hiB, nX_eq]
theorem hiF_stop (j x : Nat) (h : ¬ 127 < x) : hiF gNum j (x : Int) = ([], (x : Int)) := by
  cases j with
  | zero => rfl
  | succ j =>
    have e : decide ((x : Int) > 127) = false := decide_eq_false (by omega)
    simp only [hiF, e, cond_false]
theorem wrapU8 {n : Int} (h1 : 0 ≤ n) (h2 : n < 256) : IntKind.wrap .u8 n = n := by
  show (if (false && decide (n % (2 ^ 8 : Int) ≥ (2 ^ 7 : Int))) = true then n % (2 ^ 8 : Int) - (2 ^ 8 : Int) else n % (2 ^ 8 : Int)) = n
  simp only [Bool.false_and, Bool.false_eq_true, if_false]; omega
theorem hiB_stop (j x : Nat) (h : ¬ 127 < x) : hiB j x = [(x : Int)] := by
  simp only [hiB, hiF_stop j x h, List.nil_append]; rw [wrapU8 (by omega) (by omega)]
theorem fdivN (n : Nat) : Int.fdiv (n : Int) (2 ^ 7) = ((n / 128 : Nat) : Int) := by
  rw [Int.fdiv_eq_ediv_of_nonneg _ (by decide)]; rfl
/-- The high bytes of a number, and what is left. -/
theorem hiF_step (j x : Nat) (h : 127 < x) : hiF gNum (j + 1) (x : Int) = (gNum x :: (hiF gNum j ((x / 128 : Nat) : Int)).1, (hiF gNum j ((x / 128 : Nat) : Int)).2) := by
  have e : decide ((x : Int) > 127) = true := decide_eq_true (by omega)
  simp only [hiF, e, cond_true, fdivN]
theorem iand127 (n : Nat) (h : n < 9223372036854775808) : iand .i64 (n : Int) 127 = ((n % 128 : Nat) : Int) := by
  show IntKind.wrap .i64 (((BitVec.ofInt 64 (n : Int) &&& BitVec.ofInt 64 ((127 : Nat) : Int)).toNat : Nat) : Int) = _
  rw [BitVec.toNat_and, ofInt_nat n (by omega), ofInt_nat 127 (by omega), show (127 : Nat) = 2 ^ 7 - 1 from rfl, Nat.and_two_pow_sub_one_eq_mod]
  exact wrap64 (by omega) (by omega)
theorem iorAdd (n m j : Nat) (hn : n < 2 ^ j) (h : n + m * 2 ^ j < 9223372036854775808) : ior .i64 (n : Int) ((m * 2 ^ j : Nat) : Int) = ((n + m * 2 ^ j : Nat) : Int) := by
  show IntKind.wrap .i64 (((BitVec.ofInt 64 (n : Int) ||| BitVec.ofInt 64 ((m * 2 ^ j : Nat) : Int)).toNat : Nat) : Int) = _
  rw [BitVec.toNat_or, ofInt_nat n (by omega), ofInt_nat _ (by omega), Nat.or_comm, Nat.mul_comm m, ← Nat.two_pow_add_eq_or_of_lt hn, Nat.add_comm]
  rw [Nat.mul_comm m] at h
  exact wrap64 (by omega) (by omega)
theorem gNum_val (n : Nat) (h : n < 9223372036854775808) : gNum (n : Int) = ((128 + n % 128 : Nat) : Int) := by
  simp only [gNum]
  rw [iand127 n h]
  have := iorAdd (n % 128) 1 7 (by omega) (by omega)
  have e : ((1 * 2 ^ 7 : Nat) : Int) = 128 := rfl
  rw [e] at this
  rw [this, wrapU8 (by omega) (by omega)]; omega
theorem hiB_step (j x : Nat) (h : 127 < x) (hx : x < 9223372036854775808) : hiB (j + 1) x = ((128 + x % 128 : Nat) : Int) :: hiB j (x / 128) := by
  simp only [hiB, hiF_step j x h, gNum_val x hx, List.cons_append]
theorem hiB_ok : ∀ (j x : Nat), x < 128 ^ (j + 1) → x < 9223372036854775808 → okB (hiB j x) := by
  intro j
  induction j with
  | zero => intro x h h'; rw [hiB_stop 0 x (by simp at h; omega)]; intro c hc; simp at hc; simp at h; omega
  | succ j ih =>
    intro x h h'
    by_cases hx : 127 < x
    · rw [hiB_step j x hx h']
      rw [Nat.pow_succ] at h
      have hx' : x / 128 < 128 ^ (j + 1) := Nat.div_lt_of_lt_mul (by rw [Nat.mul_comm]; exact h)
      intro c hc
      rcases List.mem_cons.1 hc with rfl | hc
      · omega
      · exact ih (x / 128) hx' (by omega) c hc
    · rw [hiB_stop _ x hx]; intro c hc; simp at hc; omega
theorem numB_ok {x : Int} (h0 : 0 ≤ x) (h1 : x ≤ 1000000000) : okB (numB x) := by
  obtain ⟨n, rfl⟩ := Int.eq_ofNat_of_zero_le h0
  rw [numB_hi]; exact hiB_ok 4 n (by simp; omega) (by omega)
/-- Ops that can be written. -/
noncomputable def fitO (o : Int × ByteArray × ByteArray) : Prop := 0 ≤ o.1 ∧ o.1 ≤ 1000000000 ∧ o.2.1.size ≤ 1000000000 ∧ o.2.2.size ≤ 1000000000
theorem strInts_ok (s : ByteArray) : okB (strInts s) := by
  intro c hc
  simp only [strInts, List.mem_map] at hc
  obtain ⟨x, _, rfl⟩ := hc
  have := x.toNat_lt
  omega
theorem okB.app {a b : List Int} (h : okB a) (h' : okB b) : okB (a ++ b) := fun c hc => (List.mem_append.1 hc).elim (h c) (h' c)
theorem textB_ok {s : ByteArray} (h : s.size ≤ 1000000000) : okB (textB s) := (numB_ok (by omega) (by omega)).app (strInts_ok s)
theorem opB_ok {o : Int × ByteArray × ByteArray} (h : fitO o) : okB (opB o) := by
  obtain ⟨h0, h1, h2, h3⟩ := h
  simp only [opB, clampN_of h0 h1]
  exact (numB_ok h0 h1).app ((textB_ok h2).app (textB_ok h3))
theorem flat_ok : ∀ l : List (Int × ByteArray × ByteArray), (∀ o ∈ l, fitO o) → okB (l.map opB).flatten := by
  intro l
  induction l with
  | nil => intro _ c hc; simp at hc
  | cons o l ih => intro h; simp only [List.map_cons, List.flatten_cons]; exact (opB_ok (h o (by simp))).app (ih fun x hx => h x (by simp [hx]))
theorem opsOk_fit {l : List (Int × ByteArray × ByteArray)} (h : sOpsOk l = true) : ∀ o ∈ l, fitO o := by
  intro o ho
  obtain ⟨_, a2⟩ := opsOk_small h
  have a3 := a2 o ho
  simp only [sOpsOk] at h
  cases h5 : allF (sOpAt l) (l.length - (0 : Int).toNat) (0 : Int).toNat with
  | false => rw [h5] at h; simp at h
  | true =>
    obtain ⟨i, hi, rfl⟩ := List.getElem_of_mem ho
    have h6 := (allF_true _ _).1 h5 i (Nat.zero_le _) (by simpa using hi)
    simp only [sOpAt, Bool.and_eq_true, List.getD_eq_getElem?_getD, List.getElem?_eq_getElem hi, Option.getD_some] at h6
    have h7 := h6.1
    simp only [sl7Op, sl1In] at h7
    cases h8 : decide ((l[i]).1 ≥ 1) with
    | false => simp [h8] at h7
    | true =>
      cases h9 : decide ((l[i]).1 ≤ 3) with
      | false => simp [h8, h9] at h7
      | true =>
        have := of_decide_eq_true h8
        have := of_decide_eq_true h9
        exact ⟨by omega, by omega, by omega, by omega⟩
theorem opsB_ok {l : List (Int × ByteArray × ByteArray)} (h : sOpsOk l = true) : okB (opsB l) := by
  obtain ⟨a1, _⟩ := opsOk_small h
  exact (numB_ok (by omega) (by omega)).app (flat_ok l (opsOk_fit h))
theorem wordB_ok {k s t : Int} {l : List (Int × ByteArray × ByteArray)} {y : Bool} (h : sWordOk k s t l y = true) : okB (wordB k s t l y) ∧ (wordB k s t l y).length ≤ 1000 := by
  obtain ⟨a1, a2, a3, a4, a5, a6, a7, a8, a9⟩ := wordOk_is h
  obtain ⟨b1, b2⟩ := bN_range y
  have l1 := numB_len k; have l2 := numB_len s; have l3 := numB_len t; have l4 := numB_len (bN y)
  cases hk : (k == 1) with
  | true =>
    have ho := a7 (eq_of_beq hk)
    have l5 := opsB_len ho
    refine ⟨?_, by simp only [wordB, hk, cond_true, List.length_append]; omega⟩
    simp only [wordB, hk, cond_true]
    exact (numB_ok (by omega) (by omega)).app ((numB_ok (by omega) (by omega)).app ((numB_ok (by omega) (by omega)).app ((numB_ok (by omega) (by omega)).app (opsB_ok ho))))
  | false =>
    refine ⟨?_, by simp only [wordB, hk, cond_false, List.length_append, List.length_nil]; omega⟩
    simp only [wordB, hk, cond_false]
    exact (numB_ok (by omega) (by omega)).app ((numB_ok (by omega) (by omega)).app ((numB_ok (by omega) (by omega)).app ((numB_ok (by omega) (by omega)).app (fun c hc => by simp at hc))))
theorem keyAt_same (s : ByteArray) (i : Nat) : sKeyAt s i = iKeyAt s i := by
  have hb : 0 ≤ bt s (i : Int) ∧ bt s (i : Int) < 256 := by
    unfold bt
    split
    · have := UInt8.toNat_lt s[(i : Int).toNat]; omega
    · simp
  have e := wrap64 (n := bt s (i : Int)) (by omega) (by omega)
  simp only [sKeyAt, iKeyAt, sl1In, iisKeyByte, e]
  generalize bt s (i : Int) = c
  by_cases h1 : c ≥ 97 <;> by_cases h2 : c ≤ 122 <;> by_cases h3 : c ≥ 48 <;> by_cases h4 : c ≤ 57 <;> simp [h1, h2, h3, h4]
theorem keyOk_same (s : ByteArray) : sKeyOk s = iKeyOk s := by
  have e : allF (sKeyAt s) (s.size - (0 : Int).toNat) (0 : Int).toNat = allF (iKeyAt s) (s.size - (0 : Int).toNat) (0 : Int).toNat := allF_congr _ _ (fun j _ _ => keyAt_same s j)
  simp only [sKeyOk, iKeyOk, iisWord, iinRange, sl1In, e]
  cases allF (iKeyAt s) (s.size - (0 : Int).toNat) (0 : Int).toNat <;> cases decide (((s.size : Nat) : Int) ≥ 1) <;> cases decide (((s.size : Nat) : Int) ≤ 12) <;> rfl
theorem opOk_same (k : Int) (s v : ByteArray) : sl7Op k s v = iopOk k s v := by
  simp only [sl7Op, iopOk, keyOk_same, ba_beq, sl1In]
  cases iKeyOk s with
  | false =>
    by_cases h1 : k = 1 <;> by_cases h2 : k = 2 <;> by_cases h3 : k = 3 <;> by_cases h4 : v = ⟨#[]⟩ <;> by_cases h5 : k ≥ 1 <;> by_cases h6 : k ≤ 3 <;> simp [h1, h2, h3, h4, h5, h6] <;> omega
  | true =>
    by_cases h2 : k = 2
    · subst h2
      by_cases h4 : v = ⟨#[]⟩
      · subst h4; simp [ByteArray.size]
      · simp [h4]
    · by_cases h1 : k = 1
      · subst h1; simp
      · by_cases h3 : k = 3
        · subst h3; simp
        · by_cases h5 : k ≥ 1 <;> by_cases h6 : k ≤ 3 <;> simp [h1, h2, h3, h5, h6] <;> omega
theorem opAt_same (l : List (Int × ByteArray × ByteArray)) (i : Nat) : sOpAt l i = iOpAt l i := by
  simp only [sOpAt, iOpAt, opOk_same]
  rw [← bytesLess_ge, Bool.not_not]
theorem opsOk_same (l : List (Int × ByteArray × ByteArray)) : sOpsOk l = iOpsOk l := by
  have e : allF (sOpAt l) (l.length - (0 : Int).toNat) (0 : Int).toNat = allF (iOpAt l) (l.length - (0 : Int).toNat) (0 : Int).toNat := allF_congr _ _ (fun j _ _ => opAt_same l j)
  simp only [sOpsOk, iOpsOk, e]
  rfl
theorem wordOk_same (k s t : Int) (l : List (Int × ByteArray × ByteArray)) (y : Bool) : sWordOk k s t l y = iWordOk k s t l y := by
  simp only [sWordOk, iWordOk, iisTx, iisId, opsOk_same]
  rfl
theorem putWord_same (k s t : Int) (l : List (Int × ByteArray × ByteArray)) (y : Bool) (ho : okOps l = true) : iPutWord k s t l y = sPutWord k s t l y := by
  simp only [iPutWord, sPutWord, ← wordOk_same]
  cases hw : sWordOk k s t l y with
  | false => rfl
  | true =>
    obtain ⟨h1, h2⟩ := wordOk_ops hw
    simp only [Bool.not_true, cond_false, h1]
    cases hd : decide (((l.length : Nat) : Int) > 0) with
    | false => cases y <;> simp only [cond_false, cond_true, iputNum_eq, iputNum_nil_eq, sPutNum_eq, sl10Bool, List.nil_append]
    | true =>
      have h3 := h2 (by rw [h1]; exact hd)
      cases y <;> simp only [cond_false, cond_true, iputNum_eq, iputNum_nil_eq, sPutNum_eq, sl10Bool, List.nil_append, iputOps_eq _ _ ho, sPutOps_eq _ ho, h3, Bool.not_true]
theorem iPutWord_eq {k s t : Int} {l : List (Int × ByteArray × ByteArray)} {y : Bool} (ho : okOps l = true) : iPutWord k s t l y = cond (sWordOk k s t l y) (wordB k s t l y) [] := by
  simp only [iPutWord, ← wordOk_same]
  cases hw : sWordOk k s t l y with
  | false => rfl
  | true =>
    obtain ⟨h1, h2⟩ := wordOk_ops hw
    obtain ⟨a1, a2, a3, a4, a5, a6, a7, a8, a9⟩ := wordOk_is hw
    have c1 := clampN_of (n := k) (by omega) (by omega)
    have c2 := clampN_of (n := s) (by omega) (by omega)
    have c3 := clampN_of (n := t) (by omega) (by omega)
    have c4 : clampN 0 = 0 := rfl
    have c5 : clampN 1 = 1 := rfl
    simp only [Bool.not_true, cond_false, cond_true, ← h1, wordB]
    cases hk : (k == 1) with
    | false => cases y <;> simp only [cond_false, cond_true, iputNum_eq, iputNum_nil_eq, c1, c2, c3, c4, c5, bN, List.append_assoc, List.append_nil]
    | true =>
      have hl := (opsOk_small (a7 (eq_of_beq hk))).1
      have c6 := clampN_of (n := (l.length : Int)) (by omega) (by omega)
      cases y <;> simp only [cond_false, cond_true, iputNum_eq, iputNum_nil_eq, iputOps_eq _ _ ho, c1, c2, c3, c4, c5, c6, bN, opsB, List.append_assoc]
theorem sPutWord_eq {k s t : Int} {l : List (Int × ByteArray × ByteArray)} {y : Bool} (ho : okOps l = true) : sPutWord k s t l y = cond (sWordOk k s t l y) (wordB k s t l y) [] := by
  rw [← putWord_same k s t l y ho, iPutWord_eq ho]
theorem wrapU8_range (x : Int) : 0 ≤ IntKind.wrap .u8 x ∧ IntKind.wrap .u8 x ≤ 255 := by
  have e : IntKind.wrap .u8 x = (if (false && decide (x % (2 ^ 8 : Int) ≥ (2 ^ 7 : Int))) = true then x % (2 ^ 8 : Int) - (2 ^ 8 : Int) else x % (2 ^ 8 : Int)) := rfl
  rw [e]
  simp only [Bool.false_and, Bool.false_eq_true, if_false]; omega
theorem okB_set {b : List Int} (h : okB b) (i : Nat) {x : Int} (h0 : 0 ≤ x) (h1 : x ≤ 255) : okB (b.set i x) := by
  intro c hc
  rcases List.mem_or_eq_of_mem_set hc with hc | rfl
  · exact h c hc
  · exact ⟨h0, h1⟩
theorem okB.drop {b : List Int} (h : okB b) (i : Nat) : okB (b.drop i) := fun c hc => h c (List.mem_of_mem_drop hc)
theorem okB.take {b : List Int} (h : okB b) (i : Nat) : okB (b.take i) := fun c hc => h c (List.mem_of_mem_take hc)
theorem sDrawGetWord_spec {b : List Int} (hb : okB b) (hl : b.length ≤ 1048576) : q_sDrawGetWord b = true ∧ okB (sDrawGetWord b) ∧ (sDrawGetWord b).length ≤ 1000 := by
  obtain ⟨a1, a2, a3⟩ := sl1New_spec hb hl
  simp only [q_sDrawGetWord, sDrawGetWord, k1_sDrawGetWord, k2_sDrawGetWord, k3_sDrawGetWord, k4_sDrawGetWord, a1, a2, Bool.true_and]
  generalize sl1New b = n at *
  obtain ⟨b1, b2, b3, b4⟩ := sl10Draw_spec a3 n.2.2
  have ho := (wordOk_is b2).2.2.2.2.2.2.2.2
  obtain ⟨w1, w2⟩ := wordB_ok b2
  simp only [b1, b3, q_sPutWord, ho, Bool.true_and, sPutWord_eq ho, b2, cond_true]
  generalize hw : wordB (sl10Draw b n.2.1 n.2.2).1 (sl10Draw b n.2.1 n.2.2).2.1 (sl10Draw b n.2.1 n.2.2).2.2.1 (sl10Draw b n.2.1 n.2.2).2.2.2.1 (sl10Draw b n.2.1 n.2.2).2.2.2.2.1 = W at *
  have hpos : 1 ≤ W.length := by
    rw [← hw]; simp only [wordB, List.length_append]
    have : 1 ≤ (numB (sl10Draw b n.2.1 n.2.2).1).length := by simp [numB]
    omega
  generalize sl10Draw b n.2.1 n.2.2 = r at *
  obtain ⟨c1, c2, c3, c4, c5⟩ := sl1Below_spec b4 5 r.2.2.2.2.2.2.2
  simp only [c1, c4, Bool.true_and]
  generalize sl1Below 5 b r.2.2.2.2.2.2.1 r.2.2.2.2.2.2.2 = t at *
  obtain ⟨d1, d2, d3, d4, d5⟩ := sl1Below_spec c5 (W.length : Int) t.2.2.2
  have d3 := d3 (by omega)
  simp only [d1, d4, Bool.true_and]
  generalize sl1Below ((W.length : Nat) : Int) b t.2.2.1 t.2.2.2 = u at *
  obtain ⟨e1, _⟩ := sl1Int_spec d5 u.2.2.2 (l := [(0 : Int), (1 : Int), (2 : Int), (4 : Int), (128 : Int)]) (by decide)
  have hi : decide (0 ≤ u.1 ∧ u.1 < ((W.length : Nat) : Int)) = true := decide_eq_true ⟨d2, d3⟩
  have hi2 : decide ((0 : Int) ≤ 0 ∧ (0 : Int) ≤ u.1 ∧ u.1 ≤ ((W.length : Nat) : Int)) = true := decide_eq_true (by omega)
  have hr := wrapU8_range
  simp only [e1, hi, hi2, Bool.and_self]
  cases (t.1 == 0) with
  | true =>
    simp only [cond_true]
    exact ⟨trivial, okB_set w1 _ (hr _).1 (hr _).2, by rw [List.length_set]; exact w2⟩
  | false =>
    cases (t.1 == 1) with
    | true =>
      simp only [cond_true, cond_false]
      exact ⟨trivial, (w1.drop _).take _, by rw [List.length_take, List.length_drop]; omega⟩
    | false =>
      simp only [cond_false]
      exact ⟨trivial, w1, w2⟩
/-- A number out of bytes: its value and how many bytes it takes. -/
noncomputable def pN : Nat → Nat → Nat → List Int → Option (Nat × Nat)
  | 0, _, _, _ => none
  | _ + 1, _, _, [] => none
  | f + 1, k, n, c :: r =>
    if c > 127 then pN f (k + 1) (n + c.toNat % 128 * 2 ^ (7 * k)) r
    else if (0 < k ∧ c = 0) ∨ n + c.toNat * 2 ^ (7 * k) > 1000000000 then none else some (n + c.toNat * 2 ^ (7 * k), k + 1)
/-- A number at a place: its value, the place behind, whether there is one. -/
noncomputable def gN (b : List Int) (at' : Int) : Int × Int × Bool :=
  if 0 ≤ at' ∧ at' < b.length then (match pN 5 0 0 (b.drop at'.toNat) with
    | some (n, l) => ((n : Int), at' + l, true)
    | none => (0, 0, false)) else (0, 0, false)
theorem wrapU64 {n : Int} (h1 : 0 ≤ n) (h2 : n < 18446744073709551616) : IntKind.wrap .u64 n = n := by
  show (if (false && decide (n % (2 ^ 64 : Int) ≥ (2 ^ 63 : Int))) = true then n % (2 ^ 64 : Int) - (2 ^ 64 : Int) else n % (2 ^ 64 : Int)) = n
  simp only [Bool.false_and, Bool.false_eq_true, if_false]; omega
theorem drop_cons {b : List Int} {i : Nat} (h : i < b.length) : b.drop i = b.getD i 0 :: b.drop (i + 1) := by
  rw [List.drop_eq_getElem_cons h]; simp [List.getD_eq_getElem?_getD, h]
theorem shl7 (c k : Nat) (hc : c ≤ 255) (hk : k < 5) : IntKind.wrap .i64 ((iand .i64 (IntKind.wrap .i64 (c : Int)) (127 : Int)) * 2 ^ (min (Int.toNat (IntKind.wrap .u64 (IntKind.wrap .i64 ((7 : Int) * (k : Int))))) (IntKind.bits .i64))) = ((c % 128 * 2 ^ (7 * k) : Nat) : Int) := by
  rw [wrap64 (n := (c : Int)) (by omega) (by omega), iand127 c (by omega), wrap64 (n := (7 : Int) * (k : Int)) (by omega) (by omega), wrapU64 (by omega) (by omega)]
  have e : Int.toNat ((7 : Int) * (k : Int)) = 7 * k := by omega
  have e2 : min (7 * k) (IntKind.bits .i64) = 7 * k := Nat.min_eq_left (by show 7 * k ≤ 64; omega)
  rw [e, e2]
  have h1 : c % 128 * 2 ^ (7 * k) ≤ 128 * 2 ^ 28 := Nat.mul_le_mul (by omega) (Nat.pow_le_pow_right (by decide) (by omega))
  have h2 : (128 : Nat) * 2 ^ 28 = 34359738368 := by decide
  have e3 : ((c % 128 : Nat) : Int) * 2 ^ (7 * k) = ((c % 128 * 2 ^ (7 * k) : Nat) : Int) := by simp
  rw [e3]
  exact wrap64 (by omega) (by omega)
theorem acc7 (n c k : Nat) (hc : c ≤ 255) (hk : k < 5) (hn : n < 2 ^ (7 * k)) : ior .i64 (n : Int) (IntKind.wrap .i64 ((iand .i64 (IntKind.wrap .i64 (c : Int)) (127 : Int)) * 2 ^ (min (Int.toNat (IntKind.wrap .u64 (IntKind.wrap .i64 ((7 : Int) * (k : Int))))) (IntKind.bits .i64)))) = ((n + c % 128 * 2 ^ (7 * k) : Nat) : Int) ∧ n + c % 128 * 2 ^ (7 * k) < 2 ^ (7 * (k + 1)) ∧ n + c % 128 * 2 ^ (7 * k) < 9223372036854775808 := by
  have h3 : n + c % 128 * 2 ^ (7 * k) < 2 ^ (7 * (k + 1)) := by
    rw [show 7 * (k + 1) = 7 * k + 7 by omega, Nat.pow_add, show (2 : Nat) ^ 7 = 128 from rfl]
    have : c % 128 * 2 ^ (7 * k) ≤ 127 * 2 ^ (7 * k) := Nat.mul_le_mul_right _ (by omega)
    omega
  have h4 : (2 : Nat) ^ (7 * (k + 1)) ≤ 2 ^ 35 := Nat.pow_le_pow_right (by decide) (by omega)
  have h5 : (2 : Nat) ^ 35 = 34359738368 := by decide
  refine ⟨?_, h3, by omega⟩
  rw [shl7 c k hc hk]
  exact iorAdd n (c % 128) (7 * k) hn (by omega)
theorem okB.getD {b : List Int} (h : okB b) (i : Nat) : 0 ≤ b.getD i 0 ∧ b.getD i 0 ≤ 255 := by
  rw [List.getD_eq_getElem?_getD]
  cases e : b[i]? with
  | none => simp
  | some c => exact h c (List.mem_of_getElem? e)
theorem sGetNum_it {b : List Int} (hb : okB b) (hl : b.length ≤ 1099511627776) {i : Nat} (hi : i < b.length) :
    (match pN 5 0 0 (b.drop i) with
      | some (n, l) => it_sGetNum_0 b (i : Int) 0 0 = (0, (n : Int), (i : Int) + l, true)
      | none => it_sGetNum_0 b (i : Int) 0 0 = (0, 0, 0, false) ∨ (it_sGetNum_0 b (i : Int) 0 0).1 = 1) := by
  refine itX_inv (fun v => ∃ k n : Nat, v = (b, (i : Int), (n : Int), (k : Int)) ∧ k ≤ 5 ∧ n < 2 ^ (7 * k) ∧ pN (5 - k) k n (b.drop (i + k)) = pN 5 0 0 (b.drop i)) (fun a => match pN 5 0 0 (b.drop i) with
      | some (n, l) => a = (0, (n : Int), (i : Int) + l, true)
      | none => a = (0, 0, 0, false) ∨ a.1 = 1) (fun v => 5 - v.2.2.2.toNat) ?_ ⟨0, 0, rfl, by omega, by simp, rfl⟩ (by simp)
  rintro v ⟨k, n, rfl, hk, hn, hp⟩
  by_cases h5 : k < 5
  · have e1 : decide ((k : Int) < 5) = true := decide_eq_true (by omega)
    have e2 : decide ((i : Int) ≥ 0) = true := decide_eq_true (by omega)
    have e3 : decide ((i : Int) < ((b.length : Nat) : Int)) = true := decide_eq_true (by omega)
    have e4 : IntKind.wrap .i64 ((i : Int) + (k : Int)) = ((i + k : Nat) : Int) := by rw [wrap64 (by omega) (by omega)]; omega
    by_cases hik : i + k < b.length
    · have e5 : decide (((i + k : Nat) : Int) < ((b.length : Nat) : Int)) = true := decide_eq_true (by omega)
      have e6 : decide (0 ≤ ((i + k : Nat) : Int) ∧ ((i + k : Nat) : Int) < ((b.length : Nat) : Int)) = true := decide_eq_true (by omega)
      have e7 : decide (0 ≤ (IntKind.wrap .u64 (IntKind.wrap .i64 ((7 : Int) * (k : Int))))) = true := by
        rw [wrap64 (n := (7 : Int) * (k : Int)) (by omega) (by omega), wrapU64 (by omega) (by omega)]; exact decide_eq_true (by omega)
      obtain ⟨hc0, hc1⟩ := hb.getD (i + k)
      have hdc := drop_cons hik
      obtain ⟨c, hc⟩ := Int.eq_ofNat_of_zero_le hc0
      rw [hc] at hc1 hdc
      have hc255 : c ≤ 255 := by omega
      obtain ⟨f1, f2, f3⟩ := acc7 n c k hc255 h5 hn
      have e8 : IntKind.wrap .i64 (c : Int) = (c : Int) := wrap64 (by omega) (by omega)
      rw [hdc, show 5 - k = (4 - k) + 1 by omega, pN] at hp
      simp only [Int.toNat_natCast] at hp
      simp only [ss_sGetNum_0, e1, e2, e3, e4, e5, e6, e7, cond_true, Int.toNat_natCast, hc, f1]
      simp only [e8]
      by_cases h127 : c > 127
      · rw [if_pos (by omega)] at hp
        have e9 : decide ((c : Int) > 127) = true := decide_eq_true (by omega)
        simp only [e9, cond_true]
        refine .inl ⟨_, rfl, ⟨k + 1, n + c % 128 * 2 ^ (7 * k), ?_, by omega, f2, ?_⟩, ?_⟩
        · rw [wrapU k (by omega)]
        · rw [show 5 - (k + 1) = 4 - k by omega, ← hp]; rfl
        · rw [wrapU k (by omega)]; simp; omega
      · rw [if_neg (by omega)] at hp
        have e9 : decide ((c : Int) > 127) = false := decide_eq_false (by omega)
        have hcm : c % 128 = c := by omega
        rw [hcm] at f3 ⊢
        simp only [e9, cond_false]
        right
        by_cases hz : 0 < k ∧ c = 0
        · rw [if_pos (by omega)] at hp
          have e10 : decide ((k : Int) > 0) = true := decide_eq_true (by omega)
          have e11 : ((c : Int) == 0) = true := by rw [beq_iff_eq]; omega
          simp only [e10, e11, cond_true]
          exact ⟨_, rfl, by rw [← hp]; exact .inl rfl⟩
        · by_cases hg : n + c * 2 ^ (7 * k) > 1000000000
          · rw [if_pos (.inr hg)] at hp
            have e12 : decide (((n + c * 2 ^ (7 * k) : Nat) : Int) > 1000000000) = true := decide_eq_true (by omega)
            simp only [e12, cond_true]
            refine ⟨(0, 0, 0, false), ?_, by rw [← hp]; exact .inl rfl⟩
            cases decide ((k : Int) > 0) <;> cases ((c : Int) == 0) <;> rfl
          · rw [if_neg (fun h => h.elim (fun h => hz ⟨h.1, by omega⟩) hg)] at hp
            have e12 : decide (((n + c * 2 ^ (7 * k) : Nat) : Int) > 1000000000) = false := decide_eq_false (by omega)
            have e13 : IntKind.wrap .i64 (((i + k : Nat) : Int) + 1) = ((i + k + 1 : Nat) : Int) := wrapU (i + k) (by omega)
            simp only [e12, cond_false, e13]
            refine ⟨(0, ((n + c * 2 ^ (7 * k) : Nat) : Int), ((i + k + 1 : Nat) : Int), true), ?_, ?_⟩
            · by_cases h0 : 0 < k
              · have e10 : decide ((k : Int) > 0) = true := decide_eq_true (by omega)
                have e11 : ((c : Int) == 0) = false := by rw [beq_eq_false_iff_ne]; intro h; exact hz ⟨h0, by omega⟩
                simp only [e10, e11, cond_true, cond_false]
              · have e10 : decide ((k : Int) > 0) = false := decide_eq_false (by omega)
                simp only [e10, cond_false]
            · rw [← hp]; show _ = _
              congr 3
    · have e5 : decide (((i + k : Nat) : Int) < ((b.length : Nat) : Int)) = false := decide_eq_false (by omega)
      rw [show 5 - k = (4 - k) + 1 by omega, List.drop_eq_nil_of_le (by omega), pN] at hp
      simp only [ss_sGetNum_0, e1, e2, e3, e4, e5, cond_true, cond_false]
      exact .inr ⟨_, rfl, by rw [← hp]; exact .inr rfl⟩
  · obtain rfl : k = 5 := by omega
    have e1 : decide (((5 : Nat) : Int) < 5) = false := by decide
    simp only [ss_sGetNum_0, e1, cond_false]
    exact .inr ⟨_, rfl, by rw [← hp]; exact .inr rfl⟩
theorem sGetNum_spec {b : List Int} (hb : okB b) (hl : b.length ≤ 1099511627776) (a : Int) : sGetNum b a = gN b a ∧ q_sGetNum b a = true := by
  simp only [sGetNum, q_sGetNum, gN]
  by_cases h : 0 ≤ a ∧ a < b.length
  · obtain ⟨i, rfl⟩ := Int.eq_ofNat_of_zero_le h.1
    have hi : i < b.length := by omega
    rw [if_pos h, Int.toNat_natCast]
    have := sGetNum_it hb hl hi
    cases hp : pN 5 0 0 (b.drop i) with
    | some x =>
      rw [hp] at this
      simp only at this
      rw [this]; exact ⟨rfl, rfl⟩
    | none =>
      rw [hp] at this
      rcases this with h1 | h1
      · rw [h1]; exact ⟨rfl, rfl⟩
      · rw [h1]; exact ⟨rfl, rfl⟩
  · rw [if_neg h]
    have : (it_sGetNum_0 b a 0 0).1 = 1 := by
      refine itX_inv (fun v : V_sGetNum_0 => v.1 = b ∧ v.2.1 = a) (fun r : A_sGetNum_0 => r.1 = 1) (fun _ => 0) (fun v hv => ?_) ⟨rfl, rfl⟩ (by simp)
      obtain ⟨x, y, n, k⟩ := v
      obtain ⟨rfl, rfl⟩ := hv
      right
      simp only [ss_sGetNum_0]
      cases decide (k < 5) with
      | false => exact ⟨_, rfl, rfl⟩
      | true =>
        by_cases h1 : y ≥ 0
        · have e2 : decide (y < ((x.length : Nat) : Int)) = false := decide_eq_false (fun h2 => h ⟨h1, h2⟩)
          simp only [decide_eq_true h1, e2, cond_true, cond_false]
          exact ⟨_, rfl, rfl⟩
        · simp only [decide_eq_false h1, cond_true, cond_false]
          exact ⟨_, rfl, rfl⟩
    rw [this]; exact ⟨rfl, rfl⟩
theorem pN_inv : ∀ (j k n : Nat) (l : List Int) (m len : Nat), okB l → k + j ≤ 4 → pN (j + 1) k n l = some (m, len) →
    ∃ (x : Nat) (post : List Int), l = hiB j x ++ post ∧ m = n + x * 2 ^ (7 * k) ∧ len = k + (hiB j x).length ∧ (0 < k → 0 < x) ∧ x < 128 ^ (j + 1) ∧ m ≤ 1000000000 := by
  intro j
  induction j with
  | zero =>
    intro k n l m len hb hk h
    cases l with
    | nil => simp [pN] at h
    | cons c r =>
      obtain ⟨hc, _⟩ := hb c (by simp)
      obtain ⟨x, rfl⟩ := Int.eq_ofNat_of_zero_le hc
      simp only [pN, Int.toNat_natCast] at h
      split at h
      · cases h
      · split at h
        · cases h
        · simp only [Option.some.injEq, Prod.mk.injEq] at h
          obtain ⟨rfl, rfl⟩ := h
          exact ⟨x, r, by rw [hiB_stop 0 x (by omega)]; rfl, rfl, by rw [hiB_stop 0 x (by omega)]; rfl, by omega, by simp; omega, by omega⟩
  | succ j ih =>
    intro k n l m len hb hk h
    cases l with
    | nil => simp [pN] at h
    | cons c r =>
      obtain ⟨hc, hc'⟩ := hb c (by simp)
      obtain ⟨y, rfl⟩ := Int.eq_ofNat_of_zero_le hc
      rw [pN] at h
      simp only [Int.toNat_natCast] at h
      split at h
      · rename_i hgt
        obtain ⟨x, post, e1, e2, e3, e4, e5, e6⟩ := ih (k + 1) (n + y % 128 * 2 ^ (7 * k)) r m len (fun c hc => hb c (by simp [hc])) (by omega) h
        have hx0 := e4 (by omega)
        have hxb : y % 128 + 128 * x < 128 ^ (j + 1 + 1) := by rw [Nat.pow_succ]; omega
        have hxs : y % 128 + 128 * x < 9223372036854775808 := by
          have : (128 : Nat) ^ (j + 1 + 1) ≤ 128 ^ 5 := Nat.pow_le_pow_right (by decide) (by omega)
          have h5 : (128 : Nat) ^ 5 = 34359738368 := by decide
          omega
        have hst := hiB_step j (y % 128 + 128 * x) (by omega) hxs
        have q1 : (y % 128 + 128 * x) / 128 = x := by omega
        have q2 : 128 + (y % 128 + 128 * x) % 128 = y := by omega
        rw [q1, q2] at hst
        refine ⟨y % 128 + 128 * x, post, by rw [hst, e1]; rfl, ?_, by rw [hst, e3]; simp; omega, fun _ => by omega, hxb, e6⟩
        rw [e2, show 7 * (k + 1) = 7 * k + 7 by omega, Nat.pow_add, show (2 : Nat) ^ 7 = 128 from rfl, Nat.add_mul, Nat.mul_comm (2 ^ (7 * k)) 128, ← Nat.mul_assoc, Nat.mul_comm x 128]
        omega
      · rename_i hgt
        split at h
        · cases h
        · simp only [Option.some.injEq, Prod.mk.injEq] at h
          obtain ⟨rfl, rfl⟩ := h
          refine ⟨y, r, by rw [hiB_stop _ y (by omega)]; rfl, rfl, by rw [hiB_stop _ y (by omega)]; rfl, by omega, ?_, by omega⟩
          have : (128 : Nat) ^ 1 ≤ 128 ^ (j + 1 + 1) := Nat.pow_le_pow_right (by decide) (by omega)
          omega
theorem pN_of {l : List Int} (hb : okB l) {m len : Nat} (h : pN 5 0 0 l = some (m, len)) : ∃ post, l = numB (m : Int) ++ post ∧ len = (numB (m : Int)).length ∧ m ≤ 1000000000 := by
  obtain ⟨x, post, e1, e2, e3, e4, e5, e6⟩ := pN_inv 4 0 0 l m len hb (by omega) h
  have : x = m := by simp at e2; omega
  subst this
  exact ⟨post, by rw [numB_hi]; exact e1, by rw [numB_hi]; omega, e6⟩
theorem gN_of {b : List Int} (hb : okB b) {a n p : Int} (h : gN b a = (n, p, true)) : ∃ pre post, b = pre ++ (numB n ++ post) ∧ a = pre.length ∧ p = a + (numB n).length ∧ 0 ≤ n ∧ n ≤ 1000000000 := by
  simp only [gN] at h
  split at h
  · rename_i hc
    split at h
    · rename_i m l hp
      simp only [Prod.mk.injEq] at h
      obtain ⟨rfl, rfl, _⟩ := h
      obtain ⟨post, e1, e2, e3⟩ := pN_of (hb.drop _) hp
      refine ⟨b.take a.toNat, post, ?_, by rw [List.length_take]; omega, by rw [e2], by omega, by omega⟩
      rw [← e1, List.take_append_drop]
    · cases h
  · cases h
theorem gN_at {pre rest : List Int} (hb : okB (pre ++ rest)) {n p : Int} (h : gN (pre ++ rest) (pre.length : Int) = (n, p, true)) : ∃ post, rest = numB n ++ post ∧ p = ((pre ++ numB n).length : Int) ∧ 0 ≤ n ∧ n ≤ 1000000000 := by
  obtain ⟨pre', post, e1, e2, e3, e4, e5⟩ := gN_of hb h
  obtain ⟨_, q2⟩ := List.append_inj e1 (by omega)
  exact ⟨post, q2, by rw [e3, List.length_append]; omega, e4, e5⟩
theorem gN_at0 {b : List Int} (hb : okB b) {n p : Int} (h : gN b 0 = (n, p, true)) : ∃ post, b = numB n ++ post ∧ p = ((numB n).length : Int) ∧ 0 ≤ n ∧ n ≤ 1000000000 := gN_at (pre := []) hb h
theorem okB.right {a b : List Int} (h : okB (a ++ b)) : okB b := fun c hc => h c (List.mem_append_right _ hc)
/-- A text at a place. -/
noncomputable def gT (b : List Int) (a : Int) : ByteArray × Int × Bool :=
  if (gN b a).2.2 = true ∧ (gN b a).1 ≤ (b.length : Int) - (gN b a).2.1 then (strB ((b.drop (gN b a).2.1.toNat).take (gN b a).1.toNat), (gN b a).2.1 + (gN b a).1, true) else (⟨#[]⟩, 0, false)
/-- An op at a place. -/
noncomputable def gO (b : List Int) (p : Int) : (Int × ByteArray × ByteArray) × Int × Bool :=
  (((gN b p).1, (gT b (gN b p).2.1).1, (gT b (gT b (gN b p).2.1).2.1).1), (gT b (gT b (gN b p).2.1).2.1).2.1, (gN b p).2.2 && ((gT b (gN b p).2.1).2.2 && (gT b (gT b (gN b p).2.1).2.1).2.2))
/-- So many ops, one behind the other. -/
noncomputable def pO : Nat → List Int → Int → List (Int × ByteArray × ByteArray) → Option (List (Int × ByteArray × ByteArray) × Int)
  | 0, _, p, acc => some (acc, p)
  | k + 1, b, p, acc => cond (gO b p).2.2 (pO k b (gO b p).2.1 (acc ++ [(gO b p).1])) none
/-- Ops out of all bytes. -/
noncomputable def gOps (b : List Int) : List (Int × ByteArray × ByteArray) × Bool :=
  if (gN b 0).2.2 = true ∧ (gN b 0).1 ≤ 8 then (match pO (gN b 0).1.toNat b (gN b 0).2.1 [] with
    | some (l, q) => if q = (b.length : Int) ∧ sOpsOk l = true then (l, true) else ([], false)
    | none => ([], false)) else ([], false)
theorem gN_range {b : List Int} (hb : okB b) {a : Int} (h : (gN b a).2.2 = true) : 0 ≤ a ∧ a < (gN b a).2.1 ∧ (gN b a).2.1 ≤ b.length ∧ 0 ≤ (gN b a).1 ∧ (gN b a).1 ≤ 1000000000 := by
  obtain ⟨pre, post, e1, e2, e3, e4, e5⟩ := gN_of hb (a := a) (n := (gN b a).1) (p := (gN b a).2.1) (by rw [← h])
  have hlen := congrArg List.length e1
  simp only [List.length_append] at hlen
  have : 1 ≤ (numB (gN b a).1).length := by simp [numB]
  omega
/-- The two ways a text is read. -/
theorem gT_eq {b : List Int} (hb : okB b) (hl : b.length ≤ 1099511627776) (a : Int) :
    gT b a = (cond (!((gN b a).2.2)) ((⟨#[]⟩ : ByteArray), (0 : Int), false) (cond (decide (((gN b a).1) > (IntKind.wrap .i64 (((b.length : Nat) : Int) - ((gN b a).2.1))))) ((⟨#[]⟩ : ByteArray), (0 : Int), false) ((⟨(((b.take (IntKind.wrap .i64 (((gN b a).2.1) + ((gN b a).1))).toNat).drop ((gN b a).2.1).toNat).map fun n => UInt8.ofNat n.toNat).toArray⟩ : ByteArray), IntKind.wrap .i64 (((gN b a).2.1) + ((gN b a).1)), true))) ∧
    (cond (!((gN b a).2.2)) true (cond (decide (((gN b a).1) > (IntKind.wrap .i64 (((b.length : Nat) : Int) - ((gN b a).2.1))))) true (decide (0 ≤ ((gN b a).2.1) ∧ ((gN b a).2.1) ≤ (IntKind.wrap .i64 (((gN b a).2.1) + ((gN b a).1))) ∧ (IntKind.wrap .i64 (((gN b a).2.1) + ((gN b a).1))) ≤ ((b.length : Nat) : Int))))) = true := by
  cases h : (gN b a).2.2 with
  | false => simp only [gT, h, Bool.not_false, cond_true]; exact ⟨by rw [if_neg (by simp)], trivial⟩
  | true =>
    obtain ⟨r1, r2, r3, r4, r5⟩ := gN_range hb h
    have w1 : IntKind.wrap .i64 (((b.length : Nat) : Int) - ((gN b a).2.1)) = ((b.length : Nat) : Int) - (gN b a).2.1 := wrap64 (by omega) (by omega)
    have w2 : IntKind.wrap .i64 (((gN b a).2.1) + ((gN b a).1)) = (gN b a).2.1 + (gN b a).1 := wrap64 (by omega) (by omega)
    simp only [gT, h, Bool.not_true, cond_false, w1, w2]
    by_cases hc : (gN b a).1 ≤ (b.length : Int) - (gN b a).2.1
    · rw [if_pos ⟨trivial, hc⟩, decide_eq_false (by omega), cond_false, cond_false]
      refine ⟨?_, decide_eq_true (by omega)⟩
      simp only [strB]
      congr 4
      have : ((gN b a).2.1 + (gN b a).1).toNat = (gN b a).2.1.toNat + (gN b a).1.toNat := by omega
      rw [this, List.take_drop]
    · rw [if_neg (fun h => hc h.2), decide_eq_true (by omega), cond_true, cond_true]
      exact ⟨rfl, rfl⟩
theorem sGetText_spec {b : List Int} (hb : okB b) (hl : b.length ≤ 1099511627776) (a : Int) : sGetText b a = gT b a ∧ q_sGetText b a = true := by
  obtain ⟨h1, h2⟩ := sGetNum_spec hb hl a
  obtain ⟨h3, h4⟩ := gT_eq hb hl a
  rw [h3]
  simp only [sGetText, q_sGetText, h1, h2, Bool.true_and]
  exact ⟨trivial, h4⟩
theorem gT_size {b : List Int} (hb : okB b) (a : Int) : (gT b a).1.size ≤ b.length := by
  simp only [gT]
  split
  · rw [strB_size, List.length_take, List.length_drop]; omega
  · exact Nat.zero_le _
theorem gO_texts {b : List Int} (hb : okB b) (p : Int) : (gO b p).1.2.1.size ≤ b.length ∧ (gO b p).1.2.2.size ≤ b.length := ⟨gT_size hb _, gT_size hb _⟩
theorem sGetOps_it {b : List Int} (hb : okB b) (hl : b.length ≤ 1048576) (n p : Int) (hn : n ≤ 8) (h0 : 0 ≤ n) :
    (match pO n.toNat b p [] with
      | some (l, q) => it_sGetOps_0 b n p 0 [] [] = (1, false, [], b, q, l) ∧ okOps l = true
      | none => it_sGetOps_0 b n p 0 [] [] = (0, false, [], [], 0, [])) := by
  refine itX_inv (fun v : V_sGetOps_0 => ∃ (i : Nat) (p' : Int) (l : List (Int × ByteArray × ByteArray)), v = (b, n, p', (i : Int), [], l) ∧ (i : Int) ≤ n ∧ l.length = i ∧ okOps l = true ∧ pO (n.toNat - i) b p' l = pO n.toNat b p []) (fun a => match pO n.toNat b p [] with
      | some (l, q) => a = (1, false, [], b, q, l) ∧ okOps l = true
      | none => a = (0, false, [], [], 0, [])) (fun v => 8 - v.2.2.2.1.toNat) ?_ ⟨0, p, [], rfl, h0, rfl, rfl, rfl⟩ (by simp)
  rintro v ⟨i, p', l, rfl, hi, hll, hok, hp⟩
  by_cases h5 : (i : Int) < n
  · have e1 : decide ((i : Int) < n) = true := decide_eq_true h5
    obtain ⟨s1, s2⟩ := sGetNum_spec hb (by omega) p'
    obtain ⟨t1, t2⟩ := sGetText_spec hb (by omega) (gN b p').2.1
    obtain ⟨u1, u2⟩ := sGetText_spec hb (by omega) (gT b (gN b p').2.1).2.1
    have e2 : ∀ o : Int × ByteArray × ByteArray, decide ((l.length + [o].length) * 40 ≤ MAXB) = true := fun o => decide_eq_true (by simp only [List.length_singleton, MAXB]; omega)
    rw [show n.toNat - i = (n.toNat - (i + 1)) + 1 by omega, pO] at hp
    simp only [ss_sGetOps_0, e1, s1, s2, t1, t2, u1, u2, e2, cond_true]
    cases hc : (gO b p').2.2 with
    | true =>
      rw [hc, cond_true] at hp
      have hc' := hc
      simp only [gO, Bool.and_eq_true] at hc'
      simp only [hc'.1, hc'.2.1, hc'.2.2, Bool.not_true, cond_false]
      refine .inl ⟨_, rfl, ⟨i + 1, (gO b p').2.1, l ++ [(gO b p').1], ?_, by omega, by simp [hll], ?_, hp⟩, ?_⟩
      · rw [wrapU i (by omega)]; rfl
      · obtain ⟨x1, x2⟩ := gO_texts hb p'
        simp only [okOps, okL, List.length_append, List.length_singleton, List.all_append, List.all_cons, List.all_nil, Bool.and_true, Bool.and_eq_true, decide_eq_true_eq] at hok ⊢
        exact ⟨by omega, hok.2, by simp only [okOp, okS, Bool.and_eq_true, decide_eq_true_eq]; omega⟩
      · rw [wrapU i (by omega)]; simp; omega
    | false =>
      rw [hc, cond_false] at hp
      right
      rw [← hp]
      simp only [gO] at hc
      cases h1 : (gN b p').2.2 with
      | false => exact ⟨_, rfl, rfl⟩
      | true => cases h2 : (gT b (gN b p').2.1).2.2 with
        | false => exact ⟨_, rfl, rfl⟩
        | true => cases h3 : (gT b (gT b (gN b p').2.1).2.1).2.2 with
          | false => exact ⟨_, rfl, rfl⟩
          | true => rw [h1, h2, h3] at hc; cases hc
  · have e1 : decide ((i : Int) < n) = false := decide_eq_false h5
    have : n.toNat - i = 0 := by omega
    rw [this, pO] at hp
    simp only [ss_sGetOps_0, e1, cond_false]
    exact .inr ⟨_, rfl, by rw [← hp]; exact ⟨rfl, hok⟩⟩
theorem sGetOps_spec {b : List Int} (hb : okB b) (hl : b.length ≤ 1048576) : sGetOps b = gOps b ∧ q_sGetOps b = true := by
  obtain ⟨s1, s2⟩ := sGetNum_spec hb (by omega) 0
  simp only [sGetOps, q_sGetOps, gOps, s1, s2, Bool.true_and, k1_sGetOps]
  cases h : (gN b 0).2.2 with
  | false => simp
  | true =>
    obtain ⟨r1, r2, r3, r4, r5⟩ := gN_range hb h
    by_cases h8 : (gN b 0).1 ≤ 8
    · have e1 : decide ((gN b 0).1 > 8) = false := decide_eq_false (by omega)
      have := sGetOps_it hb hl (gN b 0).1 (gN b 0).2.1 h8 r4
      rw [if_pos ⟨rfl, h8⟩]
      simp only [Bool.not_true, cond_false, e1]
      cases hp : pO (gN b 0).1.toNat b (gN b 0).2.1 [] with
      | none => rw [hp] at this; simp only at this; rw [this]; exact ⟨rfl, rfl⟩
      | some x =>
        obtain ⟨l, q⟩ := x
        rw [hp] at this
        obtain ⟨this, hok⟩ := this
        rw [this]
        have h10 : ((1 : Nat) == 0) = false := rfl
        simp only [h10, cond_false, q_sOpsOk, hok, Nat.reduceBEq, beq_self_eq_true, Bool.true_and]
        by_cases hq : q = (b.length : Int)
        · have e2 : (q != ((b.length : Nat) : Int)) = false := by rw [hq]; simp
          simp only [e2, cond_false]
          cases ho : sOpsOk l with
          | true => rw [if_pos ⟨hq, rfl⟩]; exact ⟨rfl, trivial⟩
          | false => rw [if_neg (fun h => by cases h.2)]; exact ⟨rfl, trivial⟩
        · have e2 : (q != ((b.length : Nat) : Int)) = true := by rw [bne_iff_ne]; exact hq
          simp only [e2, cond_true]
          rw [if_neg (fun h => hq h.1)]; exact ⟨rfl, trivial⟩
    · have e1 : decide ((gN b 0).1 > 8) = true := decide_eq_true (by omega)
      rw [if_neg (fun h => h8 h.2)]
      simp only [Bool.not_true, cond_false, e1, cond_true]
      exact ⟨trivial, trivial⟩
theorem strInts_strB {l : List Int} (h : okB l) : strInts (strB l) = l := by
  simp only [strB, strInts, List.map_map, List.toList_toArray]
  conv => rhs; rw [← List.map_id l]
  apply List.map_congr_left
  intro n hn
  obtain ⟨h0, h1⟩ := h n hn
  simp only [Function.comp_apply, UInt8.toNat_ofNat', id_eq]
  omega
theorem gT_of {b : List Int} (hb : okB b) {a p : Int} {s : ByteArray} (h : gT b a = (s, p, true)) : ∃ pre post, b = pre ++ (textB s ++ post) ∧ a = pre.length ∧ p = a + (textB s).length ∧ s.size ≤ 1000000000 := by
  simp only [gT] at h
  split at h
  · rename_i hc
    obtain ⟨h1, h2⟩ := hc
    obtain ⟨pre, post, e1, e2, e3, e4, e5⟩ := gN_of hb (a := a) (n := (gN b a).1) (p := (gN b a).2.1) (by rw [← h1])
    simp only [Prod.mk.injEq, and_true] at h
    obtain ⟨h3, h4⟩ := h
    have hlen := congrArg List.length e1
    simp only [List.length_append] at hlen
    have ed : b.drop (gN b a).2.1.toNat = post := by
      have hd : ∀ n, b = pre ++ (numB n ++ post) → b.drop (pre.length + (numB n).length) = post := fun n e => by rw [e, ← List.append_assoc, ← List.length_append, List.drop_left]
      have : (gN b a).2.1.toNat = pre.length + (numB (gN b a).1).length := by omega
      rw [this]; exact hd _ e1
    rw [ed] at h3
    have hpl : (gN b a).1.toNat ≤ post.length := by omega
    have hz : s.size = (gN b a).1.toNat := by rw [← h3, strB_size, List.length_take]; omega
    have hpo : okB (post.take (gN b a).1.toNat) := (by rw [← ed]; exact (hb.drop _).take _)
    have hi : strInts s = post.take (gN b a).1.toNat := by rw [← h3, strInts_strB hpo]
    have hsz : (s.size : Int) = (gN b a).1 := by omega
    refine ⟨pre, post.drop (gN b a).1.toNat, ?_, e2, ?_, by omega⟩
    · rw [textB, hsz, hi, List.append_assoc, List.take_append_drop]; exact e1
    · simp only [textB, List.length_append, strInts_len, hsz]; omega
  · cases h
theorem gO_of {b : List Int} (hb : okB b) {p : Int} (h : (gO b p).2.2 = true) : ∃ pre post, b = pre ++ (opB (gO b p).1 ++ post) ∧ p = pre.length ∧ (gO b p).2.1 = p + (opB (gO b p).1).length ∧ fitO (gO b p).1 := by
  simp only [gO, Bool.and_eq_true] at h
  obtain ⟨h1, h2, h3⟩ := h
  obtain ⟨pre1, post1, a1, a2, a3, a4, a5⟩ := gN_of hb (a := p) (n := (gN b p).1) (p := (gN b p).2.1) (by rw [← h1])
  obtain ⟨pre2, post2, b1, b2, b3, b4⟩ := gT_of hb (a := (gN b p).2.1) (s := (gT b (gN b p).2.1).1) (p := (gT b (gN b p).2.1).2.1) (by rw [← h2])
  obtain ⟨pre3, post3, c1, c2, c3, c4⟩ := gT_of hb (a := (gT b (gN b p).2.1).2.1) (s := (gT b (gT b (gN b p).2.1).2.1).1) (p := (gT b (gT b (gN b p).2.1).2.1).2.1) (by rw [← h3])
  have d1 : post1 = b.drop (pre1 ++ numB (gN b p).1).length := by
    have hd : ∀ (u v w x : List Int), x = u ++ (v ++ w) → w = x.drop (u ++ v).length := fun u v w x e => by rw [e, ← List.append_assoc, List.drop_left]
    exact hd _ _ _ _ a1
  have d2 : textB (gT b (gN b p).2.1).1 ++ post2 = b.drop pre2.length := by
    have hd : ∀ (u v x : List Int), x = u ++ v → v = x.drop u.length := fun u v x e => by rw [e, List.drop_left]
    exact hd _ _ _ b1
  have d3 : post2 = b.drop (pre2 ++ textB (gT b (gN b p).2.1).1).length := by
    have hd : ∀ (u v w x : List Int), x = u ++ (v ++ w) → w = x.drop (u ++ v).length := fun u v w x e => by rw [e, ← List.append_assoc, List.drop_left]
    exact hd _ _ _ _ b1
  have d4 : textB (gT b (gT b (gN b p).2.1).2.1).1 ++ post3 = b.drop pre3.length := by
    have hd : ∀ (u v x : List Int), x = u ++ v → v = x.drop u.length := fun u v x e => by rw [e, List.drop_left]
    exact hd _ _ _ c1
  have f1 : post1 = textB (gT b (gN b p).2.1).1 ++ post2 := by rw [d1, d2]; congr 1; simp only [List.length_append]; omega
  have f2 : post2 = textB (gT b (gT b (gN b p).2.1).2.1).1 ++ post3 := by rw [d3, d4]; congr 1; simp only [List.length_append]; omega
  have hk : clampN (gN b p).1 = (gN b p).1 := clampN_of a4 a5
  refine ⟨pre1, post3, ?_, a2, ?_, a4, a5, b4, c4⟩
  · simp only [opB, gO, hk, List.append_assoc]
    rw [← f2, ← f1]; exact a1
  · simp only [opB, gO, hk, List.length_append]; omega
theorem pO_of {b : List Int} (hb : okB b) : ∀ (k : Nat) (p : Int) (acc l : List (Int × ByteArray × ByteArray)) (q : Int), 0 ≤ p → p ≤ b.length → pO k b p acc = some (l, q) →
    ∃ l' pre post, l = acc ++ l' ∧ l'.length = k ∧ b = pre ++ ((l'.map opB).flatten ++ post) ∧ p = pre.length ∧ q = p + (l'.map opB).flatten.length ∧ ∀ o ∈ l', fitO o := by
  intro k
  induction k with
  | zero =>
    intro p acc l q h0 h1 h
    simp only [pO, Option.some.injEq, Prod.mk.injEq] at h
    obtain ⟨rfl, rfl⟩ := h
    exact ⟨[], b.take p.toNat, b.drop p.toNat, by simp, rfl, by simp, by rw [List.length_take]; omega, by simp, by simp⟩
  | succ k ih =>
    intro p acc l q h0 h1 h
    simp only [pO] at h
    cases hc : (gO b p).2.2 with
    | false => rw [hc] at h; cases h
    | true =>
      rw [hc, cond_true] at h
      obtain ⟨pre, post, a1, a2, a3, a4⟩ := gO_of hb hc
      have hlen := congrArg List.length a1
      simp only [List.length_append] at hlen
      obtain ⟨l', pre', post', b1, b2, b3, b4, b5, b6⟩ := ih (gO b p).2.1 (acc ++ [(gO b p).1]) l q (by omega) (by omega) h
      have d1 : post = b.drop (pre ++ opB (gO b p).1).length := by
        have hd : ∀ (u v w x : List Int), x = u ++ (v ++ w) → w = x.drop (u ++ v).length := fun u v w x e => by rw [e, ← List.append_assoc, List.drop_left]
        exact hd _ _ _ _ a1
      have d2 : (l'.map opB).flatten ++ post' = b.drop pre'.length := by
        have hd : ∀ (u v x : List Int), x = u ++ v → v = x.drop u.length := fun u v x e => by rw [e, List.drop_left]
        exact hd _ _ _ b3
      have f1 : post = (l'.map opB).flatten ++ post' := by rw [d1, d2]; congr 1; simp only [List.length_append]; omega
      refine ⟨(gO b p).1 :: l', pre, post', by rw [b1]; simp, by simp [b2], ?_, a2, ?_, ?_⟩
      · simp only [List.map_cons, List.flatten_cons, List.append_assoc]
        rw [← f1]; exact a1
      · simp only [List.map_cons, List.flatten_cons, List.length_append]; omega
      · intro o ho
        rcases List.mem_cons.1 ho with rfl | ho
        · exact a4
        · exact b6 o ho
theorem gOps_of {b : List Int} (hb : okB b) {l : List (Int × ByteArray × ByteArray)} (h : gOps b = (l, true)) : sOpsOk l = true ∧ b = opsB l := by
  simp only [gOps] at h
  split at h
  · rename_i hc
    obtain ⟨c1, c2⟩ := hc
    obtain ⟨post, e1, e2, e3, e4⟩ := gN_at0 hb (n := (gN b 0).1) (p := (gN b 0).2.1) (by rw [← c1])
    have hlen := congrArg List.length e1
    rw [List.length_append] at hlen
    split at h
    · rename_i l' q hp
      split at h
      · rename_i hq
        simp only [Prod.mk.injEq, and_true] at h
        subst h
        obtain ⟨l2, pre, post2, f1, f2, f3, f4, f5, f6⟩ := pO_of hb _ _ _ _ _ (by omega) (by omega) hp
        simp only [List.nil_append] at f1
        subst f1
        refine ⟨hq.2, ?_⟩
        have g1 : (l'.length : Int) = (gN b 0).1 := by omega
        have hlen2 := congrArg List.length f3
        simp only [List.length_append] at hlen2
        have hp2 : post2 = [] := List.eq_nil_of_length_eq_zero (by have := hq.1; omega)
        subst hp2
        have key : ∀ b' : List Int, b' = numB (gN b 0).1 ++ post → b' = pre ++ ((l'.map opB).flatten ++ []) → pre.length = (numB (gN b 0).1).length → b' = numB (gN b 0).1 ++ (l'.map opB).flatten := by
          intro b' x1 x2 x3
          obtain ⟨q1, q2⟩ := List.append_inj (x2.symm.trans x1) x3
          rw [x2, q1, List.append_nil]
        rw [opsB, g1]
        exact key b e1 f3 (by omega)
      · cases h
    · cases h
  · cases h
theorem sOpsOk_len {l : List (Int × ByteArray × ByteArray)} (h : sOpsOk l = true) : 1 ≤ l.length := by
  simp only [sOpsOk] at h
  cases h5 : allF (sOpAt l) (l.length - (0 : Int).toNat) (0 : Int).toNat with
  | false => rw [h5] at h; simp at h
  | true =>
    rw [h5] at h
    simp only [cond_true, sl1In] at h
    cases h6 : decide (((l.length : Nat) : Int) ≥ 1) with
    | false => simp [h6] at h
    | true => have := of_decide_eq_true h6; omega
theorem sGetWord_of {b : List Int} (hb : okB b) (hl : b.length ≤ 1048576) : q_sGetWord b = true ∧ ((∃ k s t l y, sGetWord b = (k, s, t, l, y, true) ∧ sWordOk k s t l y = true ∧ b = wordB k s t l y) ∨ sGetWord b = (0, 0, 0, [], false, false)) := by
  have sg := fun a => (sGetNum_spec hb (by omega) a)
  simp only [sGetWord, q_sGetWord, sg, Bool.true_and, k1_sGetWord, k2_sGetWord, k3_sGetWord]
  cases h1 : (gN b 0).2.2 with
  | false => exact ⟨rfl, .inr rfl⟩
  | true =>
  cases h2 : (gN b (gN b 0).2.1).2.2 with
  | false => exact ⟨rfl, .inr rfl⟩
  | true =>
  cases h3 : (gN b (gN b (gN b 0).2.1).2.1).2.2 with
  | false => exact ⟨rfl, .inr rfl⟩
  | true =>
  cases h4 : (gN b (gN b (gN b (gN b 0).2.1).2.1).2.1).2.2 with
  | false => exact ⟨rfl, .inr rfl⟩
  | true =>
  cases h5 : decide ((gN b (gN b (gN b (gN b 0).2.1).2.1).2.1).1 > 1) with
  | true => exact ⟨rfl, .inr rfl⟩
  | false =>
  have hv := of_decide_eq_false h5
  generalize e1 : gN b 0 = g1 at *
  obtain ⟨k, p1, o1⟩ := g1
  simp only at h1 h2 h3 h4 h5 hv ⊢
  subst h1
  obtain ⟨r1, x1, y1, z1, z1'⟩ := gN_at0 hb e1
  subst y1
  generalize e2 : gN b ((numB k).length : Int) = g2 at *
  obtain ⟨s, p2, o2⟩ := g2
  simp only at h2 h3 h4 h5 hv ⊢
  subst h2
  obtain ⟨r2, x2, y2, z2, z2'⟩ := gN_at (pre := numB k) (rest := r1) (by rw [← x1]; exact hb) (by rw [← x1]; exact e2)
  subst y2
  generalize e3 : gN b ((numB k ++ numB s).length : Int) = g3 at *
  obtain ⟨t, p3, o3⟩ := g3
  simp only at h3 h4 h5 hv ⊢
  subst h3
  have x2' : b = (numB k ++ numB s) ++ r2 := by rw [x1, x2, List.append_assoc]
  obtain ⟨r3, x3, y3, z3, z3'⟩ := gN_at (pre := numB k ++ numB s) (rest := r2) (by rw [← x2']; exact hb) (by rw [← x2']; exact e3)
  subst y3
  generalize e4 : gN b ((numB k ++ numB s ++ numB t).length : Int) = g4 at *
  obtain ⟨v, p4, o4⟩ := g4
  simp only at h4 h5 hv ⊢
  subst h4
  have x3' : b = (numB k ++ numB s ++ numB t) ++ r3 := by rw [x2', x3]; simp only [List.append_assoc]
  obtain ⟨r4, x4, y4, z4, z4'⟩ := gN_at (pre := numB k ++ numB s ++ numB t) (rest := r3) (by rw [← x3']; exact hb) (by rw [← x3']; exact e4)
  subst y4
  have x4' : b = (numB k ++ numB s ++ numB t ++ numB v) ++ r4 := by rw [x3', x4]; simp only [List.append_assoc]
  have hlen := congrArg List.length x4'
  rw [List.length_append] at hlen
  have hvb : v = bN (v == 1) := by
    have : v = 0 ∨ v = 1 := by omega
    rcases this with rfl | rfl <;> rfl
  have e2 : ([] : List Int) ++ (b.take ((b.length : Nat) : Int).toNat).drop (((numB k ++ numB s ++ numB t ++ numB v).length : Nat) : Int).toNat = r4 := by
    rw [Int.toNat_natCast, Int.toNat_natCast, List.take_length, List.nil_append, x4', List.drop_left]
  have hb4 : okB r4 := okB.right (by rw [← x4']; exact hb)
  simp only [e2, Bool.not_true, cond_false]
  by_cases hr : ((numB k ++ numB s ++ numB t ++ numB v).length : Int) < ((b.length : Nat) : Int)
  · obtain ⟨so1, so2⟩ := sGetOps_spec hb4 (by omega)
    have d1 : decide (0 ≤ ((numB k ++ numB s ++ numB t ++ numB v).length : Int) ∧ ((numB k ++ numB s ++ numB t ++ numB v).length : Int) ≤ ((b.length : Nat) : Int) ∧ ((b.length : Nat) : Int) ≤ ((b.length : Nat) : Int)) = true := decide_eq_true (by omega)
    have d2 : decide ((([] : List Int).length + ((b.take ((b.length : Nat) : Int).toNat).drop (((numB k ++ numB s ++ numB t ++ numB v).length : Nat) : Int).toNat).length) * 1 ≤ MAXB) = true := decide_eq_true (by
      rw [List.nil_append] at e2
      rw [e2]; simp only [List.length_nil, MAXB]; omega)
    simp only [decide_eq_true hr, cond_true, so1, so2, d1, d2, Bool.true_and]
    cases ho : (gOps r4).2 with
    | false => exact ⟨rfl, .inr rfl⟩
    | true =>
      obtain ⟨m1, m2⟩ := gOps_of hb4 (l := (gOps r4).1) (by rw [← ho])
      simp only [Bool.not_true, cond_false, q_sWordOk, opsOk_okOps m1]
      cases hw : sWordOk k s t (gOps r4).1 (v == 1) with
      | false => exact ⟨trivial, .inr rfl⟩
      | true =>
        refine ⟨trivial, .inl ⟨k, s, t, _, _, rfl, hw, ?_⟩⟩
        have hk : (k == 1) = true := by
          cases hk : (k == 1) with
          | true => rfl
          | false =>
            obtain ⟨a1, a2, a3, a4, a5, a6, a7, a8, a9⟩ := wordOk_is hw
            have := a8 (by simpa using hk)
            have := sOpsOk_len m1
            rw [a8 (by simpa using hk)] at this; simp at this
        rw [wordB, hk, cond_true, ← hvb, ← m2, x4']
        simp only [List.append_assoc]
  · simp only [decide_eq_false hr, cond_false, q_sWordOk]
    have hr4 : r4 = [] := List.eq_nil_of_length_eq_zero (by omega)
    cases hw : sWordOk k s t [] (v == 1) with
    | false => exact ⟨rfl, .inr rfl⟩
    | true =>
      refine ⟨rfl, .inl ⟨k, s, t, _, _, rfl, hw, ?_⟩⟩
      have hk : (k == 1) = false := by
        cases hk : (k == 1) with
        | false => rfl
        | true =>
          obtain ⟨a1, a2, a3, a4, a5, a6, a7, a8, a9⟩ := wordOk_is hw
          have := sOpsOk_len (a7 (eq_of_beq hk))
          simp at this
      rw [wordB, hk, cond_false, ← hvb, x4', hr4]
      simp only [List.append_assoc]
theorem iGetNum_it {b : List Int} (hb : okB b) (hl : b.length ≤ 1099511627776) {i : Nat} (hi : i < b.length) :
    (match pN 5 0 0 (b.drop i) with
      | some (n, l) => it_iGetNum_0 b (i : Int) 0 0 = (0, (n : Int), (i : Int) + l, true)
      | none => it_iGetNum_0 b (i : Int) 0 0 = (0, 0, 0, false) ∨ (it_iGetNum_0 b (i : Int) 0 0).1 = 1) := by
  refine itX_inv (fun v => ∃ k n : Nat, v = (b, ((i + k : Nat) : Int), (n : Int), (k : Int)) ∧ k ≤ 5 ∧ n < 2 ^ (7 * k) ∧ pN (5 - k) k n (b.drop (i + k)) = pN 5 0 0 (b.drop i)) (fun a => match pN 5 0 0 (b.drop i) with
      | some (n, l) => a = (0, (n : Int), (i : Int) + l, true)
      | none => a = (0, 0, 0, false) ∨ a.1 = 1) (fun v => 5 - v.2.2.2.toNat) ?_ ⟨0, 0, rfl, by omega, by simp, rfl⟩ (by simp)
  rintro v ⟨k, n, rfl, hk, hn, hp⟩
  by_cases h5 : k < 5
  · have e1 : decide ((k : Int) < 5) = true := decide_eq_true (by omega)
    by_cases hik : i + k < b.length
    · have e5 : decide (((i + k : Nat) : Int) < ((b.length : Nat) : Int)) = true := decide_eq_true (by omega)
      have e6 : decide (0 ≤ ((i + k : Nat) : Int) ∧ ((i + k : Nat) : Int) < ((b.length : Nat) : Int)) = true := decide_eq_true (by omega)
      have e7 : decide (0 ≤ (IntKind.wrap .u64 (IntKind.wrap .i64 ((7 : Int) * (k : Int))))) = true := by
        rw [wrap64 (n := (7 : Int) * (k : Int)) (by omega) (by omega), wrapU64 (by omega) (by omega)]; exact decide_eq_true (by omega)
      obtain ⟨hc0, hc1⟩ := hb.getD (i + k)
      have hdc := drop_cons hik
      obtain ⟨c, hc⟩ := Int.eq_ofNat_of_zero_le hc0
      rw [hc] at hc1 hdc
      have hc255 : c ≤ 255 := by omega
      obtain ⟨f1, f2, f3⟩ := acc7 n c k hc255 h5 hn
      have e8 : IntKind.wrap .i64 (c : Int) = (c : Int) := wrap64 (by omega) (by omega)
      have e13 : IntKind.wrap .i64 (((i + k : Nat) : Int) + 1) = ((i + k + 1 : Nat) : Int) := wrapU (i + k) (by omega)
      rw [hdc, show 5 - k = (4 - k) + 1 by omega, pN] at hp
      simp only [Int.toNat_natCast] at hp
      simp only [ss_iGetNum_0, e1, e5, e6, e7, cond_true, Int.toNat_natCast, hc, f1, e13]
      simp only [e8]
      by_cases h127 : c > 127
      · rw [if_pos (by omega)] at hp
        have e9 : decide ((c : Int) < 128) = false := decide_eq_false (by omega)
        simp only [e9, cond_false]
        refine .inl ⟨_, rfl, ⟨k + 1, n + c % 128 * 2 ^ (7 * k), ?_, by omega, f2, ?_⟩, ?_⟩
        · rw [wrapU k (by omega)]; rfl
        · rw [show 5 - (k + 1) = 4 - k by omega, ← hp]; rfl
        · rw [wrapU k (by omega)]; simp; omega
      · rw [if_neg (by omega)] at hp
        have e9 : decide ((c : Int) < 128) = true := decide_eq_true (by omega)
        have hcm : c % 128 = c := by omega
        rw [hcm] at f3 ⊢
        simp only [e9, cond_true]
        right
        by_cases hz : 0 < k ∧ c = 0
        · rw [if_pos (by omega)] at hp
          have e10 : decide ((k : Int) > 0) = true := decide_eq_true (by omega)
          have e11 : ((c : Int) == 0) = true := by rw [beq_iff_eq]; omega
          simp only [e10, e11, cond_true]
          exact ⟨_, rfl, by rw [← hp]; exact .inl rfl⟩
        · by_cases hg : n + c * 2 ^ (7 * k) > 1000000000
          · rw [if_pos (.inr hg)] at hp
            have e12 : decide (((n + c * 2 ^ (7 * k) : Nat) : Int) > 1000000000) = true := decide_eq_true (by omega)
            simp only [e12, cond_true]
            refine ⟨(0, 0, 0, false), ?_, by rw [← hp]; exact .inl rfl⟩
            cases decide ((k : Int) > 0) <;> cases ((c : Int) == 0) <;> rfl
          · rw [if_neg (fun h => h.elim (fun h => hz ⟨h.1, by omega⟩) hg)] at hp
            have e12 : decide (((n + c * 2 ^ (7 * k) : Nat) : Int) > 1000000000) = false := decide_eq_false (by omega)
            simp only [e12, cond_false]
            refine ⟨(0, ((n + c * 2 ^ (7 * k) : Nat) : Int), ((i + k + 1 : Nat) : Int), true), ?_, ?_⟩
            · by_cases h0 : 0 < k
              · have e10 : decide ((k : Int) > 0) = true := decide_eq_true (by omega)
                have e11 : ((c : Int) == 0) = false := by rw [beq_eq_false_iff_ne]; intro h; exact hz ⟨h0, by omega⟩
                simp only [e10, e11, cond_true, cond_false]
              · have e10 : decide ((k : Int) > 0) = false := decide_eq_false (by omega)
                simp only [e10, cond_false]
                cases ((c : Int) == 0) <;> rfl
            · rw [← hp]; show _ = _
              congr 3
    · have e5 : decide (((i + k : Nat) : Int) < ((b.length : Nat) : Int)) = false := decide_eq_false (by omega)
      rw [show 5 - k = (4 - k) + 1 by omega, List.drop_eq_nil_of_le (by omega), pN] at hp
      simp only [ss_iGetNum_0, e1, e5, cond_true, cond_false]
      exact .inr ⟨_, rfl, by rw [← hp]; exact .inr rfl⟩
  · obtain rfl : k = 5 := by omega
    have e1 : decide (((5 : Nat) : Int) < 5) = false := by decide
    simp only [ss_iGetNum_0, e1, cond_false]
    exact .inr ⟨_, rfl, by rw [← hp]; exact .inr rfl⟩
theorem iGetNum_spec {b : List Int} (hb : okB b) (hl : b.length ≤ 1099511627776) (a : Int) : iGetNum b a = gN b a ∧ q_iGetNum b a = true := by
  have hw : IntKind.wrap .i64 (((b.length : Nat) : Int) - 1) = ((b.length : Nat) : Int) - 1 := wrap64 (by omega) (by omega)
  simp only [iGetNum, q_iGetNum, gN, iinRange, hw]
  by_cases h : 0 ≤ a ∧ a < b.length
  · obtain ⟨i, rfl⟩ := Int.eq_ofNat_of_zero_le h.1
    have hi : i < b.length := by omega
    have e1 : decide ((i : Int) ≥ 0) = true := decide_eq_true (by omega)
    have e2 : decide ((i : Int) ≤ ((b.length : Nat) : Int) - 1) = true := decide_eq_true (by omega)
    rw [if_pos h, Int.toNat_natCast]
    simp only [e1, e2, cond_true, Bool.not_true, cond_false]
    have := iGetNum_it hb hl hi
    cases hp : pN 5 0 0 (b.drop i) with
    | some x =>
      rw [hp] at this
      simp only at this
      rw [this]; exact ⟨rfl, rfl⟩
    | none =>
      rw [hp] at this
      rcases this with h1 | h1
      · rw [h1]; exact ⟨rfl, rfl⟩
      · rw [h1]; exact ⟨rfl, rfl⟩
  · rw [if_neg h]
    have e : cond (decide (a ≥ 0)) (decide (a ≤ ((b.length : Nat) : Int) - 1)) false = false := by
      by_cases h1 : a ≥ 0
      · rw [decide_eq_true h1, cond_true, decide_eq_false (by omega)]
      · rw [decide_eq_false h1, cond_false]
    rw [e]; exact ⟨rfl, rfl⟩
theorem igetter_num_spec {b : List Int} (hb : okB b) (hl : b.length ≤ 1048576) (a : Int) (bad : Bool) : q_igetter_num b a bad = true ∧ igetter_num b a bad = cond bad ((0 : Int), b, a, true) (cond (gN b a).2.2 ((gN b a).1, b, (gN b a).2.1, false) ((0 : Int), b, a, true)) := by
  obtain ⟨h1, h2⟩ := iGetNum_spec hb (by omega) a
  simp only [igetter_num, q_igetter_num, h1, h2]
  cases bad <;> cases (gN b a).2.2 <;> simp
/-- All ops by the getter. -/
noncomputable def gOpsI (b : List Int) (a : Int) : Option (List (Int × ByteArray × ByteArray) × Int) :=
  cond (gN b a).2.2 (cond (decide ((gN b a).1 ≤ 8)) (pO (gN b a).1.toNat b (gN b a).2.1 []) none) none
theorem iGetText_spec {b : List Int} (hb : okB b) (hl : b.length ≤ 1099511627776) (a : Int) : iGetText b a = gT b a ∧ q_iGetText b a = true := by
  obtain ⟨h1, h2⟩ := iGetNum_spec hb hl a
  obtain ⟨h3, h4⟩ := gT_eq hb hl a
  rw [h3]
  simp only [iGetText, q_iGetText, h1, h2, Bool.true_and]
  exact ⟨trivial, h4⟩
theorem igetter_text_spec {b : List Int} (hb : okB b) (hl : b.length ≤ 1048576) (a : Int) (bad : Bool) : q_igetter_text b a bad = true ∧ igetter_text b a bad = cond bad ((⟨#[]⟩ : ByteArray), b, a, true) (cond (gT b a).2.2 ((gT b a).1, b, (gT b a).2.1, false) ((⟨#[]⟩ : ByteArray), b, a, true)) := by
  obtain ⟨h1, h2⟩ := iGetText_spec hb (by omega) a
  simp only [igetter_text, q_igetter_text, h1, h2]
  cases bad <;> cases (gT b a).2.2 <;> simp
/-- One op by the getter. -/
theorem igetter_one {b : List Int} (hb : okB b) (hl : b.length ≤ 1048576) (a : Int) (bad : Bool) :
    q_igetter_num b a bad = true ∧ q_igetter_text (igetter_num b a bad).2.1 (igetter_num b a bad).2.2.1 (igetter_num b a bad).2.2.2 = true ∧
    q_igetter_text (k1_igetter_ops b a bad).2.1 (k1_igetter_ops b a bad).2.2.1 (k1_igetter_ops b a bad).2.2.2 = true ∧
    (k2_igetter_ops b a bad).2.1 = b ∧ (k1_igetter_ops b a bad).1.size ≤ b.length ∧ (k2_igetter_ops b a bad).1.size ≤ b.length ∧
    (bad = true → (k2_igetter_ops b a bad).2.2.2 = true) ∧
    (bad = false → (k2_igetter_ops b a bad).2.2.2 = !(gO b a).2.2) ∧
    (bad = false → (gO b a).2.2 = true → (k2_igetter_ops b a bad).2.2.1 = (gO b a).2.1 ∧ ((igetter_num b a bad).1, (k1_igetter_ops b a bad).1, (k2_igetter_ops b a bad).1) = (gO b a).1) := by
  obtain ⟨n1, n2⟩ := igetter_num_spec hb hl a bad
  have nb : (igetter_num b a bad).2.1 = b := by rw [n2]; cases bad <;> cases (gN b a).2.2 <;> rfl
  have t := fun (x : Int) (y : Bool) => igetter_text_spec hb hl x y
  have tb : ∀ x y, (igetter_text b x y).2.1 = b := fun x y => by rw [(t x y).2]; cases y <;> cases (gT b x).2.2 <;> rfl
  have ts : ∀ x y, (igetter_text b x y).1.size ≤ b.length := fun x y => by
    rw [(t x y).2]
    cases y with
    | true => exact Nat.zero_le _
    | false => cases (gT b x).2.2 with
      | true => exact gT_size hb x
      | false => exact Nat.zero_le _
  refine ⟨n1, by rw [nb]; exact (t _ _).1, ?_, ?_, ?_, ?_, ?_, ?_, ?_⟩
  · simp only [k1_igetter_ops, nb, tb]; exact (t _ _).1
  · simp only [k2_igetter_ops, k1_igetter_ops, nb, tb]
  · simp only [k1_igetter_ops, nb]; exact ts _ _
  · simp only [k2_igetter_ops, k1_igetter_ops, nb, tb]; exact ts _ _
  · rintro rfl
    simp only [k2_igetter_ops, k1_igetter_ops, nb, tb]
    simp only [n2, t, cond_true]
  · rintro rfl
    simp only [k2_igetter_ops, k1_igetter_ops, nb, tb]
    simp only [n2, cond_false, gO]
    cases h1 : (gN b a).2.2 with
    | false => simp only [cond_false, t, cond_true]; rfl
    | true =>
      simp only [cond_true, t, cond_false]
      cases h2 : (gT b (gN b a).2.1).2.2 with
      | false => simp only [cond_false, cond_true]; rfl
      | true =>
        simp only [cond_true, cond_false]
        cases h3 : (gT b (gT b (gN b a).2.1).2.1).2.2 <;> rfl
  · rintro rfl hc
    simp only [k2_igetter_ops, k1_igetter_ops, nb, tb]
    simp only [gO, Bool.and_eq_true] at hc ⊢
    obtain ⟨h1, h2, h3⟩ := hc
    simp only [n2, cond_false, h1, cond_true, t, h2, h3]
    exact ⟨trivial, trivial⟩
theorem igetter_ops_it {b : List Int} (hb : okB b) (hl : b.length ≤ 1048576) (n p : Int) (bad : Bool) (hn : n ≤ 8) (h0 : 0 ≤ n) :
    (it_igetter_ops_0 n 0 b p bad []).1 = 0 ∧ (it_igetter_ops_0 n 0 b p bad []).2.1 = b ∧ okOps (it_igetter_ops_0 n 0 b p bad []).2.2.2.2 = true ∧ (match cond bad none (pO n.toNat b p []) with
      | some (l, q) => it_igetter_ops_0 n 0 b p bad [] = (0, b, q, false, l)
      | none => (it_igetter_ops_0 n 0 b p bad []).2.2.2.1 = true) := by
  refine itX_inv (fun v : V_igetter_ops_0 => ∃ (i : Nat) (p' : Int) (bd : Bool) (l : List (Int × ByteArray × ByteArray)), v = (n, (i : Int), b, p', bd, l) ∧ (i : Int) ≤ n ∧ l.length = i ∧ okOps l = true ∧ cond bd none (pO (n.toNat - i) b p' l) = cond bad none (pO n.toNat b p [])) (fun a : A_igetter_ops_0 => a.1 = 0 ∧ a.2.1 = b ∧ okOps a.2.2.2.2 = true ∧ (match cond bad none (pO n.toNat b p []) with
      | some (l, q) => a = (0, b, q, false, l)
      | none => a.2.2.2.1 = true)) (fun v => 8 - v.2.1.toNat) ?_ ⟨0, p, bad, [], rfl, h0, rfl, rfl, rfl⟩ (by simp)
  rintro v ⟨i, p', bd, l, rfl, hi, hll, hok, hp⟩
  by_cases h5 : (i : Int) < n
  · have e1 : decide ((i : Int) < n) = true := decide_eq_true h5
    obtain ⟨q1, q2, q3, q4, q5, q6, q7, q8, q9⟩ := igetter_one hb hl p' bd
    have e2 : ∀ o : Int × ByteArray × ByteArray, decide ((l.length + [o].length) * 40 ≤ MAXB) = true := fun o => decide_eq_true (by simp only [List.length_singleton, MAXB]; omega)
    simp only [ss_igetter_ops_0, e1, q1, q2, q3, q4, e2, cond_true]
    refine .inl ⟨_, rfl, ⟨i + 1, _, _, l ++ [((igetter_num b p' bd).1, (k1_igetter_ops b p' bd).1, (k2_igetter_ops b p' bd).1)], by rw [wrapU i (by omega)], by omega, by simp [hll], ?_, ?_⟩, ?_⟩
    · simp only [okOps, okL, List.length_append, List.length_singleton, List.all_append, List.all_cons, List.all_nil, Bool.and_true, Bool.and_eq_true, decide_eq_true_eq] at hok ⊢
      exact ⟨by omega, hok.2, by simp only [okOp, okS, Bool.and_eq_true, decide_eq_true_eq]; omega⟩
    · rw [← hp]
      cases bd with
      | true => rw [q7 rfl]; rfl
      | false =>
        rw [q8 rfl, show n.toNat - i = (n.toNat - (i + 1)) + 1 by omega, pO]
        cases hc : (gO b p').2.2 with
        | false => rfl
        | true =>
          obtain ⟨z1, z2⟩ := q9 rfl hc
          rw [z1, z2]; rfl
    · rw [wrapU i (by omega)]; simp; omega
  · have e1 : decide ((i : Int) < n) = false := decide_eq_false h5
    have e3 : n.toNat - i = 0 := by omega
    rw [e3, pO] at hp
    simp only [ss_igetter_ops_0, e1, cond_false]
    refine .inr ⟨_, rfl, rfl, rfl, hok, ?_⟩
    rw [← hp]
    cases bd <;> rfl
theorem igetter_ops_spec {b : List Int} (hb : okB b) (hl : b.length ≤ 1048576) (a : Int) (bad : Bool) : q_igetter_ops b a bad = true ∧ (igetter_ops b a bad).1 = b ∧ okOps (igetter_ops b a bad).2.2.2 = true ∧
    (match cond bad none (gOpsI b a) with
      | some (l, q) => igetter_ops b a bad = (b, q, false, l)
      | none => (igetter_ops b a bad).2.2.1 = true) := by
  obtain ⟨n1, n2⟩ := igetter_num_spec hb hl a bad
  have nb : (igetter_num b a bad).2.1 = b := by rw [n2]; cases bad <;> cases (gN b a).2.2 <;> rfl
  have nr : 0 ≤ (igetter_num b a bad).1 := by
    rw [n2]
    cases bad with
    | true => exact Int.le_refl _
    | false => cases h : (gN b a).2.2 with
      | true => exact (gN_range hb h).2.2.2.1
      | false => exact Int.le_refl _
  simp only [igetter_ops, q_igetter_ops, k3_igetter_ops, n1, nb, Bool.true_and]
  by_cases h8 : (igetter_num b a bad).1 ≤ 8
  · have e1 : decide ((igetter_num b a bad).1 > 8) = false := decide_eq_false (by omega)
    obtain ⟨i1, i2, i3, i4⟩ := igetter_ops_it hb hl (igetter_num b a bad).1 (igetter_num b a bad).2.2.1 (igetter_num b a bad).2.2.2 h8 nr
    simp only [e1, cond_false, i1, i2, i3]
    refine ⟨rfl, trivial, trivial, ?_⟩
    revert i4
    rw [n2]
    cases bad with
    | true => simp
    | false =>
      simp only [cond_false, gOpsI]
      cases h : (gN b a).2.2 with
      | false => simp
      | true =>
        have h9 : decide ((gN b a).1 ≤ 8) = true := by rw [n2] at h8; simp only [cond_false, h, cond_true] at h8; exact decide_eq_true h8
        simp only [cond_true, h9, cond_false]
        cases pO (gN b a).1.toNat b (gN b a).2.1 [] with
        | none => exact id
        | some x => intro i4; simp only at i4 ⊢; rw [i4]
  · have e1 : decide ((igetter_num b a bad).1 > 8) = true := decide_eq_true (by omega)
    simp only [e1, cond_true]
    refine ⟨trivial, trivial, rfl, ?_⟩
    cases bad with
    | true => simp
    | false =>
      simp only [cond_false, gOpsI]
      rw [n2] at h8
      cases h : (gN b a).2.2 with
      | false => rw [h] at h8; simp at h8
      | true =>
        simp only [cond_false, h, cond_true] at h8
        simp only [cond_true, decide_eq_false h8, cond_false]
theorem bytesEqual_ok {a b : List Int} (ha : okB a) (hb : okB b) : bytes_Equal a b = true ↔ a = b := by
  have e : bytes_Equal a b = ((strB a).toList == (strB b).toList) := rfl
  rw [e, beq_iff_eq]
  constructor
  · intro h
    have h2 : strB a = strB b := by
      have h3 := congrArg (fun l => (⟨l.toArray⟩ : ByteArray)) h
      have k : ∀ s : ByteArray, (⟨s.toList.toArray⟩ : ByteArray) = s := fun s => by rw [ByteArray.toList_eq]
      simpa only [k] using h3
    rw [← strInts_strB ha, ← strInts_strB hb, h2]
  · rintro rfl; rfl
theorem putB_ok {k s t : Int} {l : List (Int × ByteArray × ByteArray)} {y : Bool} (ho : okOps l = true) : okB (iPutWord k s t l y) := by
  rw [iPutWord_eq ho]
  cases hw : sWordOk k s t l y with
  | false => intro c hc; simp at hc
  | true => exact (wordB_ok hw).1
theorem iGetWord_of {b : List Int} (hb : okB b) (hl : b.length ≤ 1048576) : q_iGetWord b = true ∧ ((∃ k s t l y, iGetWord b = (k, s, t, y, true, l) ∧ sWordOk k s t l y = true ∧ b = wordB k s t l y) ∨ iGetWord b = (0, 0, 0, false, false, [])) := by
  have gn := fun a bad => igetter_num_spec hb hl a bad
  have nb : ∀ a bad, (igetter_num b a bad).2.1 = b := fun a bad => by rw [(gn a bad).2]; cases bad <;> cases (gN b a).2.2 <;> rfl
  have gq : ∀ a bad, q_igetter_num b a bad = true := fun a bad => (gn a bad).1
  have go := fun a bad => igetter_ops_spec hb hl a bad
  simp only [iGetWord, q_iGetWord, k1_iGetWord, k2_iGetWord, k3_iGetWord, k4_iGetWord, k5_iGetWord, k6_iGetWord, nb, gq, Bool.true_and]
  generalize igetter_num b 0 false = g1
  generalize igetter_num b g1.2.2.1 g1.2.2.2 = g2
  generalize igetter_num b g2.2.2.1 g2.2.2.2 = g3
  generalize igetter_num b g3.2.2.1 g3.2.2.2 = g4
  cases hk : (g1.1 == 1) with
  | true =>
    obtain ⟨o1, o2, o3, o4⟩ := go g4.2.2.1 g4.2.2.2
    simp only [cond_true, o1, Bool.true_and]
    cases hbad : (igetter_ops b g4.2.2.1 g4.2.2.2).2.2.1 with
    | true => exact ⟨rfl, .inr rfl⟩
    | false =>
      simp only [cond_false, q_iWordOk, q_iPutWord, o3, Bool.true_and]
      cases hw : iWordOk g1.1 g2.1 g3.1 (igetter_ops b g4.2.2.1 g4.2.2.2).2.2.2 (g4.1 == 1) with
      | false => exact ⟨rfl, .inr rfl⟩
      | true =>
        cases he : bytes_Equal (iPutWord g1.1 g2.1 g3.1 (igetter_ops b g4.2.2.1 g4.2.2.2).2.2.2 (g4.1 == 1)) b with
        | false => exact ⟨rfl, .inr rfl⟩
        | true =>
          have h2 := (bytesEqual_ok (putB_ok o3) hb).1 he
          rw [iPutWord_eq o3, wordOk_same, hw, cond_true] at h2
          exact ⟨rfl, .inl ⟨_, _, _, _, _, rfl, by rw [wordOk_same]; exact hw, h2.symm⟩⟩
  | false =>
    simp only [cond_false]
    cases hbad : g4.2.2.2 with
    | true => exact ⟨rfl, .inr rfl⟩
    | false =>
      have o3 : okOps [] = true := rfl
      simp only [cond_false, q_iWordOk, q_iPutWord, o3, Bool.true_and]
      cases hw : iWordOk g1.1 g2.1 g3.1 [] (g4.1 == 1) with
      | false => exact ⟨rfl, .inr rfl⟩
      | true =>
        cases he : bytes_Equal (iPutWord g1.1 g2.1 g3.1 [] (g4.1 == 1)) b with
        | false => exact ⟨rfl, .inr rfl⟩
        | true =>
          have h2 := (bytesEqual_ok (putB_ok o3) hb).1 he
          rw [iPutWord_eq o3, wordOk_same, hw, cond_true] at h2
          exact ⟨rfl, .inl ⟨_, _, _, _, _, rfl, by rw [wordOk_same]; exact hw, h2.symm⟩⟩
theorem pN_hiB : ∀ (j k n x : Nat) (post : List Int), x < 128 ^ (j + 1) → (0 < k → 0 < x) → n + x * 2 ^ (7 * k) ≤ 1000000000 → pN (j + 1) k n (hiB j x ++ post) = some (n + x * 2 ^ (7 * k), k + (hiB j x).length) := by
  intro j
  induction j with
  | zero =>
    intro k n x post h1 h2 h3
    have hx : ¬ 127 < x := by simp at h1; omega
    rw [hiB_stop 0 x hx]
    simp only [List.cons_append, List.nil_append, pN, List.length_singleton, Int.toNat_natCast]
    rw [if_neg (by omega), if_neg (by omega)]
  | succ j ih =>
    intro k n x post h1 h2 h3
    by_cases hx : 127 < x
    · have hb : x < 9223372036854775808 := by
        have : x * 1 ≤ x * 2 ^ (7 * k) := Nat.mul_le_mul_left _ (Nat.pow_pos (by decide))
        omega
      rw [hiB_step j x hx hb]
      have hx' : x / 128 < 128 ^ (j + 1) := Nat.div_lt_of_lt_mul (by rw [Nat.pow_succ] at h1; rw [Nat.mul_comm]; exact h1)
      have e : n + x % 128 * 2 ^ (7 * k) + x / 128 * 2 ^ (7 * (k + 1)) = n + x * 2 ^ (7 * k) := by
        rw [show 7 * (k + 1) = 7 * k + 7 by omega, Nat.pow_add]
        have := Nat.div_add_mod x 128
        have h4 : x * 2 ^ (7 * k) = (128 * (x / 128) + x % 128) * 2 ^ (7 * k) := by rw [this]
        rw [h4, Nat.add_mul, show (2 : Nat) ^ 7 = 128 from rfl, Nat.mul_comm 128 (x / 128), Nat.mul_assoc, Nat.mul_comm 128 (2 ^ (7 * k)), ← Nat.mul_assoc]
        omega
      have := ih (k + 1) (n + x % 128 * 2 ^ (7 * k)) (x / 128) post hx' (fun _ => by omega) (by rw [e]; exact h3)
      simp only [List.cons_append, pN]
      rw [if_pos (by omega)]
      have e2 : (((128 + x % 128 : Nat) : Int).toNat % 128) = x % 128 := by omega
      rw [e2, this, e]
      simp only [List.length_cons]
      congr 2; omega
    · rw [hiB_stop _ x hx]
      simp only [List.cons_append, List.nil_append, pN, List.length_singleton, Int.toNat_natCast]
      rw [if_neg (by omega), if_neg (by omega)]
theorem pN_num {n : Int} (h0 : 0 ≤ n) (h1 : n ≤ 1000000000) (post : List Int) : pN 5 0 0 (numB n ++ post) = some (n.toNat, (numB n).length) := by
  obtain ⟨x, rfl⟩ := Int.eq_ofNat_of_zero_le h0
  rw [numB_hi, pN_hiB 4 0 0 x post (by simp; omega) (by omega) (by simp; omega)]
  simp
theorem gN_num {n : Int} (h0 : 0 ≤ n) (h1 : n ≤ 1000000000) (pre post : List Int) : gN (pre ++ (numB n ++ post)) (pre.length : Int) = (n, (pre.length : Int) + (numB n).length, true) := by
  have hl : 1 ≤ (numB n).length := by simp [numB]
  simp only [gN]
  rw [if_pos (by simp only [List.length_append]; omega), Int.toNat_natCast, List.drop_left, pN_num h0 h1]
  show ((n.toNat : Int), _, _) = _
  rw [Int.toNat_of_nonneg h0]
/-- The numbers at a word's head. -/
theorem wordB_nums {k s t v : Int} (hk : 0 ≤ k ∧ k ≤ 1000000000) (hs : 0 ≤ s ∧ s ≤ 1000000000) (ht : 0 ≤ t ∧ t ≤ 1000000000) (hv : 0 ≤ v ∧ v ≤ 1000000000) (r b : List Int) (e : b = numB k ++ (numB s ++ (numB t ++ (numB v ++ r)))) :
    gN b 0 = (k, ((numB k).length : Int), true) ∧ gN b ((numB k).length : Int) = (s, ((numB k ++ numB s).length : Int), true) ∧ gN b ((numB k ++ numB s).length : Int) = (t, ((numB k ++ numB s ++ numB t).length : Int), true) ∧
    gN b ((numB k ++ numB s ++ numB t).length : Int) = (v, ((numB k ++ numB s ++ numB t ++ numB v).length : Int), true) := by
  have h1 := gN_num hk.1 hk.2 [] (numB s ++ (numB t ++ (numB v ++ r)))
  have h2 := gN_num hs.1 hs.2 (numB k) (numB t ++ (numB v ++ r))
  have h3 := gN_num ht.1 ht.2 (numB k ++ numB s) (numB v ++ r)
  have h4 := gN_num hv.1 hv.2 (numB k ++ numB s ++ numB t) r
  simp only [List.append_assoc, List.nil_append] at h1 h2 h3 h4
  rw [← e] at h1 h2 h3 h4
  simp only [List.length_append, Int.natCast_add, List.length_nil] at h1 h2 h3 h4 ⊢
  rw [show (((numB k).length : Int) + (((numB s).length : Int) + ((numB t).length : Int))) = ((numB k).length : Int) + ((numB s).length : Int) + ((numB t).length : Int) by omega] at h4
  exact ⟨by simpa using h1, h2, h3, h4⟩
theorem bN_eq (y : Bool) : (bN y == 1) = y := by cases y <;> rfl
theorem strB_ints (s : ByteArray) : strB (strInts s) = s := by
  cases s with
  | mk a =>
    simp only [strB, strInts, List.map_map]
    congr 1
    apply Array.toList_inj.1
    simp only [List.toList_toArray]
    conv => rhs; rw [← List.map_id a.toList]
    apply List.map_congr_left
    intro b _
    simp
theorem gT_text {s : ByteArray} (h : s.size ≤ 1000000000) (pre post : List Int) : gT (pre ++ (textB s ++ post)) (pre.length : Int) = (s, (pre.length : Int) + (textB s).length, true) := by
  have h1 := gN_num (n := (s.size : Int)) (by omega) (by omega) pre (strInts s ++ post)
  have e : pre ++ (textB s ++ post) = pre ++ (numB (s.size : Int) ++ (strInts s ++ post)) := by simp only [textB, List.append_assoc]
  rw [e]
  simp only [gT, h1]
  have hs := strInts_len s
  rw [if_pos ⟨trivial, by simp only [List.length_append]; omega⟩]
  have e2 : ((pre.length : Int) + ((numB (s.size : Int)).length : Int)).toNat = pre.length + (numB (s.size : Int)).length := by omega
  rw [e2, Int.toNat_natCast, ← List.append_assoc, ← List.length_append, List.drop_left, List.take_left' hs, strB_ints]
  congr 2
  simp only [textB, List.length_append]; omega
theorem gO_op {o : Int × ByteArray × ByteArray} (h : fitO o) (pre post : List Int) : gO (pre ++ (opB o ++ post)) (pre.length : Int) = (o, (pre.length : Int) + (opB o).length, true) := by
  obtain ⟨h0, h1, h2, h3⟩ := h
  have e : opB o = numB o.1 ++ (textB o.2.1 ++ textB o.2.2) := by simp only [opB, clampN_of h0 h1]
  have q1 := gN_num h0 h1 pre (textB o.2.1 ++ (textB o.2.2 ++ post))
  have q2 := gT_text h2 (pre ++ numB o.1) (textB o.2.2 ++ post)
  have q3 := gT_text h3 (pre ++ numB o.1 ++ textB o.2.1) post
  have e1 : pre ++ (opB o ++ post) = pre ++ (numB o.1 ++ (textB o.2.1 ++ (textB o.2.2 ++ post))) := by simp only [e, List.append_assoc]
  have e2 : pre ++ (opB o ++ post) = pre ++ numB o.1 ++ (textB o.2.1 ++ (textB o.2.2 ++ post)) := by simp only [e, List.append_assoc]
  have e3 : pre ++ (opB o ++ post) = pre ++ numB o.1 ++ textB o.2.1 ++ (textB o.2.2 ++ post) := by simp only [e, List.append_assoc]
  rw [← e1] at q1; rw [← e2] at q2; rw [← e3] at q3
  have l1 : ((pre ++ numB o.1).length : Int) = (pre.length : Int) + (numB o.1).length := by simp
  have l2 : ((pre ++ numB o.1 ++ textB o.2.1).length : Int) = ((pre ++ numB o.1).length : Int) + (textB o.2.1).length := by simp; omega
  rw [l1] at q2; rw [l2, l1] at q3
  simp only [gO, q1, q2, q3, Bool.and_true]
  congr 2
  simp only [e, List.length_append]; omega
theorem pO_ops : ∀ (l : List (Int × ByteArray × ByteArray)) (pre post : List Int) (acc : List (Int × ByteArray × ByteArray)), (∀ o ∈ l, fitO o) → pO l.length (pre ++ ((l.map opB).flatten ++ post)) (pre.length : Int) acc = some (acc ++ l, (pre.length : Int) + (l.map opB).flatten.length) := by
  intro l
  induction l with
  | nil => intro pre post acc _; simp [pO]
  | cons o l ih =>
    intro pre post acc h
    have h1 := gO_op (h o (by simp)) pre ((l.map opB).flatten ++ post)
    have h2 := ih (pre ++ opB o) post (acc ++ [o]) (fun x hx => h x (by simp [hx]))
    have e : pre ++ (((o :: l).map opB).flatten ++ post) = pre ++ (opB o ++ ((l.map opB).flatten ++ post)) := by simp
    have e2 : pre ++ opB o ++ ((l.map opB).flatten ++ post) = pre ++ (opB o ++ ((l.map opB).flatten ++ post)) := by simp
    rw [e2, List.length_append, Int.natCast_add] at h2
    rw [e]
    simp only [List.length_cons, pO, h1, cond_true, h2]
    simp only [List.append_assoc, List.singleton_append, List.map_cons, List.flatten_cons, List.length_append, Int.natCast_add]
    congr 2; omega
theorem pO_put {l : List (Int × ByteArray × ByteArray)} (h : sOpsOk l = true) (pre post : List Int) : gN (pre ++ (opsB l ++ post)) (pre.length : Int) = ((l.length : Int), ((pre ++ numB (l.length : Int)).length : Int), true) ∧ pO l.length (pre ++ (opsB l ++ post)) ((pre ++ numB (l.length : Int)).length : Int) [] = some (l, (((pre ++ opsB l).length : Nat) : Int)) := by
  obtain ⟨a1, _⟩ := opsOk_small h
  have e : pre ++ (opsB l ++ post) = pre ++ (numB (l.length : Int) ++ ((l.map opB).flatten ++ post)) := by simp only [opsB, List.append_assoc]
  have h1 := gN_num (n := (l.length : Int)) (by omega) (by omega) pre ((l.map opB).flatten ++ post)
  have h2 := pO_ops l (pre ++ numB (l.length : Int)) post [] (opsOk_fit h)
  rw [List.append_assoc] at h2
  rw [e]
  refine ⟨?_, ?_⟩
  · rw [h1, List.length_append, Int.natCast_add]
  · rw [h2]; simp only [List.nil_append, opsB, List.length_append, Int.natCast_add]; congr 2; omega
theorem iGetWord_put {k s t : Int} {l : List (Int × ByteArray × ByteArray)} {y : Bool} (h : sWordOk k s t l y = true) : iGetWord (wordB k s t l y) = (k, s, t, y, true, l) := by
  obtain ⟨hb, hl⟩ := wordB_ok h
  have hl' : (wordB k s t l y).length ≤ 1048576 := by omega
  obtain ⟨a1, a2, a3, a4, a5, a6, a7, a8, a9⟩ := wordOk_is h
  obtain ⟨b1, b2⟩ := bN_range y
  obtain ⟨n1, n2, n3, n4⟩ := wordB_nums (k := k) (s := s) (t := t) (v := bN y) ⟨by omega, by omega⟩ ⟨by omega, by omega⟩ ⟨by omega, by omega⟩ ⟨by omega, by omega⟩ (cond (k == 1) (opsB l) []) (wordB k s t l y) rfl
  have gn := fun a bad => (igetter_num_spec hb hl' a bad).2
  have hw : iWordOk k s t l y = true := by rw [← wordOk_same]; exact h
  have he : bytes_Equal (iPutWord k s t l y) (wordB k s t l y) = true := (bytesEqual_ok (putB_ok a9) hb).2 (by rw [iPutWord_eq a9, h, cond_true])
  simp only [iGetWord, k1_iGetWord, k2_iGetWord, k3_iGetWord, k4_iGetWord, k5_iGetWord, k6_iGetWord, gn, n1, n2, n3, n4, cond_true, cond_false, bN_eq]
  cases hk : (k == 1) with
  | true =>
    have ho := a7 (eq_of_beq hk)
    have hlo := (opsOk_small ho).1
    obtain ⟨_, _, _, o4⟩ := igetter_ops_spec hb hl' ((numB k ++ numB s ++ numB t ++ numB (bN y)).length : Int) false
    have e : wordB k s t l y = (numB k ++ numB s ++ numB t ++ numB (bN y)) ++ (opsB l ++ []) := by simp only [wordB, hk, cond_true, List.append_assoc, List.append_nil]
    obtain ⟨p1, p2⟩ := pO_put ho (numB k ++ numB s ++ numB t ++ numB (bN y)) []
    rw [← e] at p1 p2
    have e8 : decide ((l.length : Int) ≤ 8) = true := decide_eq_true (by omega)
    simp only [cond_false, gOpsI, p1, cond_true, e8, Int.toNat_natCast, p2] at o4
    simp only [cond_true, o4, cond_false, hw, Bool.not_true, he]
  | false =>
    have hl0 : l = [] := a8 (by simpa using hk)
    subst hl0
    simp only [cond_false, hw, Bool.not_true, he]
theorem gOps_put {l : List (Int × ByteArray × ByteArray)} (h : sOpsOk l = true) : gOps (opsB l) = (l, true) := by
  obtain ⟨a1, _⟩ := opsOk_small h
  obtain ⟨h1, h2⟩ := pO_put h [] []
  simp only [List.nil_append, List.append_nil, List.length_nil] at h1 h2
  have h1' : gN (opsB l) 0 = ((l.length : Int), ((numB (l.length : Int)).length : Int), true) := h1
  simp only [gOps, h1']
  rw [if_pos ⟨trivial, by omega⟩, Int.toNat_natCast, h2]
  simp only
  rw [if_pos ⟨trivial, h⟩]
theorem sGetWord_put {k s t : Int} {l : List (Int × ByteArray × ByteArray)} {y : Bool} (h : sWordOk k s t l y = true) : sGetWord (wordB k s t l y) = (k, s, t, l, y, true) := by
  obtain ⟨hb, hl⟩ := wordB_ok h
  obtain ⟨a1, a2, a3, a4, a5, a6, a7, a8, a9⟩ := wordOk_is h
  obtain ⟨b1, b2⟩ := bN_range y
  obtain ⟨n1, n2, n3, n4⟩ := wordB_nums (k := k) (s := s) (t := t) (v := bN y) ⟨by omega, by omega⟩ ⟨by omega, by omega⟩ ⟨by omega, by omega⟩ ⟨by omega, by omega⟩ (cond (k == 1) (opsB l) []) (wordB k s t l y) rfl
  have sg := fun a => (sGetNum_spec hb (by omega) a).1
  have hv : decide (bN y > 1) = false := decide_eq_false (by omega)
  simp only [sGetWord, sg, n1, n2, n3, n4, Bool.not_true, cond_false, hv, k1_sGetWord, k2_sGetWord, k3_sGetWord, bN_eq]
  cases hk : (k == 1) with
  | true =>
    have ho := a7 (eq_of_beq hk)
    have e : wordB k s t l y = (numB k ++ numB s ++ numB t ++ numB (bN y)) ++ opsB l := by simp only [wordB, hk, cond_true, List.append_assoc]
    have hlen : (wordB k s t l y).length = (numB k ++ numB s ++ numB t ++ numB (bN y)).length + (opsB l).length := by rw [e, List.length_append]
    have hpos : 1 ≤ (opsB l).length := by simp [opsB, numB]; omega
    have e1 : decide (((numB k ++ numB s ++ numB t ++ numB (bN y)).length : Int) < (((wordB k s t l y).length : Nat) : Int)) = true := decide_eq_true (by omega)
    have e2 : ([] : List Int) ++ ((wordB k s t l y).take (((wordB k s t l y).length : Nat) : Int).toNat).drop (((numB k ++ numB s ++ numB t ++ numB (bN y)).length : Nat) : Int).toNat = opsB l := by
      rw [Int.toNat_natCast, Int.toNat_natCast, List.take_length, List.nil_append, e, List.drop_left]
    have g1 := (sGetOps_spec (opsB_ok ho) (by have := opsB_len ho; omega)).1
    rw [gOps_put ho] at g1
    simp only [e1, cond_true, e2, g1, Bool.not_true, cond_false, h]
  | false =>
    have hl0 : l = [] := a8 (by simpa using hk)
    subst hl0
    have e : wordB k s t [] y = (numB k ++ numB s ++ numB t ++ numB (bN y)) := by simp only [wordB, hk, cond_false, List.append_assoc, List.append_nil]
    have e1 : decide (((numB k ++ numB s ++ numB t ++ numB (bN y)).length : Int) < (((wordB k s t [] y).length : Nat) : Int)) = false := decide_eq_false (by rw [e]; omega)
    simp only [e1, cond_false, h, Bool.not_true]
theorem getWord_both {b : List Int} (hb : okB b) (hl : b.length ≤ 1048576) : q_sGetWord b = true ∧ q_iGetWord b = true ∧ ((∃ k s t l y, sGetWord b = (k, s, t, l, y, true) ∧ iGetWord b = (k, s, t, y, true, l) ∧ sWordOk k s t l y = true ∧ b = wordB k s t l y) ∨ sGetWord b = (0, 0, 0, [], false, false) ∧ iGetWord b = (0, 0, 0, false, false, [])) := by
  obtain ⟨s1, s2⟩ := sGetWord_of hb hl
  obtain ⟨i1, i2⟩ := iGetWord_of hb hl
  refine ⟨s1, i1, ?_⟩
  rcases s2 with ⟨k, s, t, l, y, e1, e2, e3⟩ | e1
  · exact .inl ⟨k, s, t, l, y, e1, by rw [e3]; exact iGetWord_put e2, e2, e3⟩
  · rcases i2 with ⟨k, s, t, l, y, f1, f2, f3⟩ | f1
    · rw [f3, sGetWord_put f2] at e1
      simp at e1
    · exact .inr ⟨e1, f1⟩
theorem sameOps_self {l : List (Int × ByteArray × ByteArray)} (h : l.length ≤ 1048576) : q_lsameOps l l = true ∧ lsameOps l l = true := by
  have hn : (((l.length : Nat) : Int) != ((l.length : Nat) : Int)) = false := by simp
  have key : (it_lsameOps_0 l l 0).1 = 1 := by
    refine itX_inv (fun v : V_lsameOps_0 => ∃ i : Nat, v = (l, l, (i : Int)) ∧ i ≤ l.length) (fun a : A_lsameOps_0 => a.1 = 1) (fun v => l.length - v.2.2.toNat) ?_ ⟨0, rfl, Nat.zero_le _⟩ (by simp; omega)
    rintro v ⟨i, rfl, hi⟩
    by_cases hlt : i < l.length
    · have e1 : decide ((i : Int) < ((l.length : Nat) : Int)) = true := decide_eq_true (by omega)
      have e2 : decide (0 ≤ (i : Int) ∧ (i : Int) < ((l.length : Nat) : Int)) = true := decide_eq_true (by omega)
      have e3 : ∀ x : Int, (x == x) = true := fun x => by simp
      have e4 : ∀ x : List UInt8, (x == x) = true := fun x => by simp
      simp only [ss_lsameOps_0, e1, e2, e3, e4, Int.toNat_natCast, cond_true, cond_false, Bool.true_and, Bool.not_true, wrapU i (by omega)]
      exact .inl ⟨_, rfl, ⟨i + 1, rfl, by omega⟩, by simp only [Int.toNat_natCast]; omega⟩
    · have e1 : decide ((i : Int) < ((l.length : Nat) : Int)) = false := decide_eq_false (by omega)
      simp only [ss_lsameOps_0, e1, cond_false]
      exact .inr ⟨_, rfl, rfl⟩
  simp only [q_lsameOps, lsameOps, hn, key, cond_false]
  exact ⟨rfl, rfl⟩
theorem sameBytes_self {l : List Int} (h : l.length ≤ 1048576) : q_lsameBytes l l = true ∧ lsameBytes l l = true := by
  have hn : (((l.length : Nat) : Int) != ((l.length : Nat) : Int)) = false := by simp
  have key : (it_lsameBytes_0 l l 0).1 = 1 := by
    refine itX_inv (fun v : V_lsameBytes_0 => ∃ i : Nat, v = (l, l, (i : Int)) ∧ i ≤ l.length) (fun a : A_lsameBytes_0 => a.1 = 1) (fun v => l.length - v.2.2.toNat) ?_ ⟨0, rfl, Nat.zero_le _⟩ (by simp; omega)
    rintro v ⟨i, rfl, hi⟩
    by_cases hlt : i < l.length
    · have e1 : decide ((i : Int) < ((l.length : Nat) : Int)) = true := decide_eq_true (by omega)
      have e2 : decide (0 ≤ (i : Int) ∧ (i : Int) < ((l.length : Nat) : Int)) = true := decide_eq_true (by omega)
      have e3 : (l.getD i (0 : Int) != l.getD i (0 : Int)) = false := by simp
      simp only [ss_lsameBytes_0, e1, e2, Int.toNat_natCast, e3, cond_true, cond_false, wrapU i (by omega)]
      exact .inl ⟨_, rfl, ⟨i + 1, rfl, by omega⟩, by simp only [Int.toNat_natCast]; omega⟩
    · have e1 : decide ((i : Int) < ((l.length : Nat) : Int)) = false := decide_eq_false (by omega)
      simp only [ss_lsameBytes_0, e1, cond_false]
      exact .inr ⟨_, rfl, rfl⟩
  simp only [q_lsameBytes, lsameBytes, hn, key, cond_false]
  exact ⟨rfl, rfl⟩
theorem words_all {b : List Int} (h : bigT (.sl (.int .u8)) b = true) : q_lFnWords b = true ∧ lFnWords b = true := by
  have hb := bigB_ok h
  cases hd : lbig b with
  | true => simp only [q_lFnWords, lFnWords, hd, cond_true]; exact ⟨trivial, trivial⟩
  | false =>
    have hl : b.length ≤ 1048576 := by simp only [lbig] at hd; have := of_decide_eq_false hd; omega
    obtain ⟨a1, a2⟩ := sDrawPutWord_spec hb hl
    obtain ⟨c1, c2, c3⟩ := sDrawGetWord_spec hb hl
    obtain ⟨g1, g2, g3⟩ := getWord_both c2 (by omega)
    simp only [q_lFnWords, lFnWords, k1_lFnWords, k2_lFnWords, k3_lFnWords, k4_lFnWords, k5_lFnWords, hd, a1, c1, g1, g2, cond_false, Bool.true_and, q_iPutWord, q_sWordOk, q_iWordOk, a2, iPutWord_eq a2, ← wordOk_same]
    generalize sDrawPutWord b = w at *
    generalize sDrawGetWord b = c at *
    have hlo := okL_le (okOps_okL a2)
    have e0 : ∀ x : Int, (x == x) = true := fun x => by simp
    have e5 : ∀ x : Bool, (x == x) = true := fun x => by simp
    obtain ⟨so1, so2⟩ := sameOps_self hlo
    rcases g3 with ⟨k, s, t, l, y, e1, e2, e3, e4⟩ | ⟨e1, e2⟩
    · have ol := (wordOk_is e3).2.2.2.2.2.2.2.2
      have pe : iPutWord k s t l y = c := by rw [iPutWord_eq ol, e3, cond_true, e4]
      obtain ⟨sb1, sb2⟩ := sameBytes_self (l := c) (by omega)
      simp only [e1, e2, ol, pe, sb1, sb2, e5, Bool.not_true, cond_false, cond_true, Bool.true_and]
      cases hw : sWordOk w.1 w.2.1 w.2.2.1 w.2.2.2.1 w.2.2.2.2 with
      | false => exact ⟨rfl, rfl⟩
      | true =>
        obtain ⟨w1, w2⟩ := wordB_ok hw
        have gq := (iGetWord_of w1 (by omega)).1
        simp only [Bool.not_true, cond_false, cond_true, iGetWord_put hw, gq, lsameWord, q_lsameWord, e0, e5, so1, so2, Bool.and_self]
        exact ⟨trivial, trivial⟩
    · simp only [e1, e2, e5, Bool.not_true, cond_false, Bool.true_and]
      cases hw : sWordOk w.1 w.2.1 w.2.2.1 w.2.2.2.1 w.2.2.2.2 with
      | false => exact ⟨rfl, rfl⟩
      | true =>
        obtain ⟨w1, w2⟩ := wordB_ok hw
        have gq := (iGetWord_of w1 (by omega)).1
        simp only [Bool.not_true, cond_false, cond_true, iGetWord_put hw, gq, lsameWord, q_lsameWord, e0, e5, so1, so2, Bool.and_self]
        exact ⟨trivial, trivial⟩
theorem pre_of_lFnWords (b : List Int) (h : bigT (.sl (.int .u8)) b = true) : pre_lFnWords (b, ()) = true := (words_all h).1
theorem exact_lFnWords (b : List Int) (h : bigT (.sl (.int .u8)) b = true) : lFnWords b = true := (words_all h).2

end Go.Proofs.Ytoddiofedjnapaa.Eng

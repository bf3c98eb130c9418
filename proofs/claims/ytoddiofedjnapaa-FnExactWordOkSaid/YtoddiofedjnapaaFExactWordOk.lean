/- What the functions that FnExactWordOk reaches compute, and that it answers true. -/
import Derived.Test.YtoddiofedjnapaaT
import Derived.Test.YtoddiofedjnapaaRows
namespace Go.Proofs.Ytoddiofedjnapaa.Eng
open Go Go.RowKit
set_option linter.unusedSimpArgs false
set_option linter.unusedVariables false
set_option maxRecDepth 10000
def S0 : Tab := fun _ => none
def QF0 : FuncId → Bool := fun _ => false
theorem G0 : Good Try.prog tt S0 QF0 := Good.start tt_ok (by kernel_rfl)
/-! Plain laws: order of bytes, keys, ops. -/
theorem bytesLess_irrefl : ∀ a : List UInt8, Op.bytesLess a a = false := by
  intro a
  induction a with
  | nil => rfl
  | cons x a ih => simp only [Op.bytesLess, ih, Bool.and_false, Bool.or_false, decide_eq_false_iff_not]; exact UInt8.lt_irrefl x
theorem bytesLess_ge : ∀ a b : List UInt8, (!(Op.bytesLess a b)) = (Op.bytesLess b a || b == a) := by
  intro a
  induction a with
  | nil => intro b; cases b <;> simp [Op.bytesLess]
  | cons x a ih =>
    intro b
    cases b with
    | nil => simp [Op.bytesLess]
    | cons y b =>
      simp only [Op.bytesLess]
      by_cases h1 : x < y
      · have h2 : ¬ y < x := fun h => UInt8.lt_irrefl _ (UInt8.lt_trans h1 h)
        have h3 : (y == x) = false := by rw [beq_eq_false_iff_ne]; intro h; subst h; exact h2 h1
        have h4 : (y :: b == x :: a) = false := by rw [List.cons_beq_cons, h3, Bool.false_and]
        simp [h1, h2, h3, h4]
      · by_cases h5 : x = y
        · subst h5
          have h6 : (x :: b == x :: a) = (b == a) := by rw [List.cons_beq_cons]; simp
          have := ih b
          simp only [h1, decide_false, Bool.false_or, beq_self_eq_true, Bool.true_and, h6, this]
        · have h7 : y < x := by
            rcases Nat.lt_trichotomy x.toNat y.toNat with h | h | h
            · exact absurd (UInt8.lt_iff_toNat_lt.2 h) h1
            · exact absurd (UInt8.toNat_inj.1 h) h5
            · exact UInt8.lt_iff_toNat_lt.2 h
          have h8 : (x == y) = false := by rw [beq_eq_false_iff_ne]; exact h5
          simp [h1, h7, h8]
theorem allF_congr {p q : Nat → Bool} : ∀ k i, (∀ j, i ≤ j → j < i + k → p j = q j) → allF p k i = allF q k i := by
  intro k
  induction k with
  | zero => intro i h; rfl
  | succ k ih => intro i h; simp only [allF]; rw [h i (Nat.le_refl _) (by omega), ih (i + 1) (fun j h1 h2 => h j (by omega) (by omega))]
theorem allF_same {p : Nat → Bool} (k i : Nat) (h : ∀ j, i ≤ j → j < i + k → p j = true) : allF p k i = true := (allF_true k i).2 h
theorem szN_all {f : Nat → Int → Int} {Q : Nat → Prop} {M : Int} : ∀ (k i : Nat) (b : Int), (∀ j b, i ≤ j → j < i + k → 0 ≤ b → b ≤ M → 0 ≤ f j b → Q j ∧ f j b ≤ b) → 0 ≤ b → b ≤ M → isInl (szN f k i b) = true →
    (∀ j, i ≤ j → j < i + k → Q j) ∧ 0 ≤ getInl (-1) (szN f k i b) ∧ getInl (-1) (szN f k i b) ≤ b := by
  intro k
  induction k with
  | zero => intro i b hf h1 h2 h3; exact ⟨fun j hj hk => by omega, h1, Int.le_refl _⟩
  | succ k ih =>
    intro i b hf h1 h2 h3
    have e : szN f (k + 1) i b = cond (decide (f i b < 0)) (.inr ()) (szN f k (i + 1) (f i b)) := by
      simp only [szN, loopN]
      cases decide (f i b < 0) <;> rfl
    rw [e] at h3 ⊢
    cases hd : decide (f i b < 0) with
    | true => rw [hd] at h3; cases h3
    | false =>
      rw [hd] at h3
      simp only [cond_false] at h3 ⊢
      have h0 : 0 ≤ f i b := by have := of_decide_eq_false hd; omega
      obtain ⟨q1, q2⟩ := hf i b (Nat.le_refl _) (by omega) h1 h2 h0
      obtain ⟨r1, r2, r3⟩ := ih (i + 1) (f i b) (fun j b hj hk => hf j b (by omega) (by omega)) h0 (by omega) h3
      refine ⟨fun j hj hk => ?_, r2, by omega⟩
      by_cases ej : j = i
      · exact ej ▸ q1
      · exact r1 j (by omega) (by omega)
abbrev OpT : Type := Int × ByteArray × ByteArray
def dOp : Int × ByteArray × ByteArray := ((0 : Int), ((⟨#[]⟩ : ByteArray), (⟨#[]⟩ : ByteArray)))
def okOp (o : Int × ByteArray × ByteArray) : Bool := okS o.2.1 && okS o.2.2
def okOps (l : List (Int × ByteArray × ByteArray)) : Bool := okL l && l.all okOp
theorem okOps_at {l : List (Int × ByteArray × ByteArray)} (h : okOps l = true) (i : Nat) (hi : i < l.length) : okS (l.getD i dOp).2.1 = true ∧ okS (l.getD i dOp).2.2 = true := by
  simp only [okOps, Bool.and_eq_true, List.all_eq_true] at h
  have := h.2 (l.getD i dOp) (by simp [List.getD_eq_getElem?_getD, hi])
  simpa [okOp] using this
theorem okOps_len {l : List (Int × ByteArray × ByteArray)} (h : okOps l = true) : l.length ≤ 1048576 := by
  simp only [okOps, Bool.and_eq_true] at h
  exact okL_le h.1
def bigS (s : ByteArray) : Bool := decide (s.size ≤ 9223372036854775807)
def bigOps (l : List (Int × ByteArray × ByteArray)) : Bool := decide (l.length ≤ 9223372036854775807) && l.all (fun o => bigS o.2.1 && bigS o.2.2)
theorem bigOps_at {l : List (Int × ByteArray × ByteArray)} (h : bigOps l = true) (i : Nat) (hi : i < l.length) : bigS (l.getD i dOp).2.1 = true ∧ bigS (l.getD i dOp).2.2 = true := by
  simp only [bigOps, Bool.and_eq_true, List.all_eq_true] at h
  exact h.2 (l.getD i dOp) (by simp [List.getD_eq_getElem?_getD, hi])
theorem okOps_of {l : List (Int × ByteArray × ByteArray)} (h1 : l.length ≤ 1048576) (h2 : ∀ i, i < l.length → okS (l.getD i dOp).2.1 = true ∧ okS (l.getD i dOp).2.2 = true) : okOps l = true := by
  simp only [okOps, okL, Bool.and_eq_true, decide_eq_true_eq, List.all_eq_true]
  refine ⟨h1, fun o ho => ?_⟩
  obtain ⟨i, hi, rfl⟩ := List.getElem_of_mem ho
  have := h2 i hi
  simp only [List.getD_eq_getElem?_getD, List.getElem?_eq_getElem hi, Option.getD_some] at this
  simp [okOp, this.1, this.2]
theorem ba_beq (a b : ByteArray) : (a.toList == b.toList) = decide (a = b) := by
  rw [ByteArray.toList_eq, ByteArray.toList_eq]
  by_cases h : a = b
  · subst h; simp
  · rw [decide_eq_false h, beq_eq_false_iff_ne]
    intro e
    exact h (by cases a; cases b; simp at e; rw [e])
theorem bigOps_len {l : List (Int × ByteArray × ByteArray)} (h : bigOps l = true) : l.length ≤ 9223372036854775807 := by
  simp only [bigOps, Bool.and_eq_true, decide_eq_true_eq] at h; exact h.1
theorem okOps_okL {l : List (Int × ByteArray × ByteArray)} (h : okOps l = true) : okL l = true := by
  simp only [okOps, Bool.and_eq_true] at h; exact h.1
theorem bigOps_of {l : List (Int × ByteArray × ByteArray)} (h : bigT (.sl (.pair (.int .i64) (.pair .str .str))) l = true) : bigOps l = true := by
  have h : (decide (l.length ≤ maxLen) && l.all fun o => (Lit.int .i64 o.1).wf && (decide (o.2.1.size ≤ maxLen) && decide (o.2.2.size ≤ maxLen))) = true := h
  have hm : maxLen = 9223372036854775807 := by decide
  rw [hm] at h
  simp only [Bool.and_eq_true, decide_eq_true_eq, List.all_eq_true] at h
  simp only [bigOps, bigS, Bool.and_eq_true, decide_eq_true_eq, List.all_eq_true]
  exact ⟨h.1, fun o ho => (h.2 o ho).2⟩
theorem bigRec_ops {k t : Int} {l : List (Int × ByteArray × ByteArray)} (h : bigT (.pair (.int .i64) (.pair (.int .i64) (.sl (.pair (.int .i64) (.pair .str .str))))) (k, (t, l)) = true) : bigOps l = true := by
  have hb : ((Lit.int .i64 k).wf && ((Lit.int .i64 t).wf && bigT (.sl (.pair (.int .i64) (.pair .str .str))) l)) = true := h
  rw [Bool.and_eq_true, Bool.and_eq_true] at hb
  exact bigOps_of hb.2.2

/-! 102 loop.example/g00244/laws.szOp -/
abbrev P_lszOp : List PSh := [.agg [(.int .i64), .str, .str], .t (.int .i64)]
def lszOp (a0 : Int) (a1 : ByteArray) (a2 : ByteArray) (a3 : Int) : Int := (cond (decide ((IntKind.wrap .i64 (a3 - ((a1.size : Nat) : Int))) < (0 : Int))) (-1 : Int) (cond (decide ((IntKind.wrap .i64 ((IntKind.wrap .i64 (a3 - ((a1.size : Nat) : Int))) - ((a2.size : Nat) : Int))) < (0 : Int))) (-1 : Int) (IntKind.wrap .i64 ((IntKind.wrap .i64 (a3 - ((a1.size : Nat) : Int))) - ((a2.size : Nat) : Int)))))
abbrev e_lszOp (r : Int) : AV × List AObj := ((.t true (.int .i64) r), [])
abbrev g_lszOp : pshsDen P_lszOp → AV × List AObj := fun d => e_lszOp (lszOp d.1.1 d.1.2.1 d.1.2.2.1 d.2.1)
abbrev pre_lszOp : pshsDen P_lszOp → Bool := fun d => true
theorem runA_lszOp (a0 : Int) (a1 : ByteArray) (a2 : ByteArray) (a3 : Int) : runP true Try.prog tt S0 QF0 (fun _ _ => none) Try.f102 (argsMk P_lszOp ((a0, (a1, (a2, ()))), (a3, ()))) = some (g_lszOp ((a0, (a1, (a2, ()))), (a3, ()))) := by
  refine Eq.trans (b := (cond (decide ((IntKind.wrap .i64 (a3 - ((a1.size : Nat) : Int))) < (0 : Int))) (some (e_lszOp (-1 : Int))) (cond (decide ((IntKind.wrap .i64 ((IntKind.wrap .i64 (a3 - ((a1.size : Nat) : Int))) - ((a2.size : Nat) : Int))) < (0 : Int))) (some (e_lszOp (-1 : Int))) (some (e_lszOp (IntKind.wrap .i64 ((IntKind.wrap .i64 (a3 - ((a1.size : Nat) : Int))) - ((a2.size : Nat) : Int)))))))) (by kernel_rfl) ?_
  exact (cnd (F := fun r => some (e_lszOp r)) (fun _h => rfl) (fun _h => (cnd (F := fun r => some (e_lszOp r)) (fun _h => rfl) (fun _h => rfl))))
theorem run_lszOp : ∀ d, pre_lszOp d = true → runP true Try.prog tt S0 QF0 (fun _ _ => none) Try.f102 (argsMk P_lszOp d) = some (g_lszOp d) := fun d hp => runA_lszOp d.1.1 d.1.2.1 d.1.2.2.1 d.2.1
theorem c_lszOp : PContract Try.prog 102 (sumOf P_lszOp pre_lszOp g_lszOp) := PContract.of_data true G0 (fn := Try.f102) (by kernel_rfl) (L := fun _ _ => none) (by rw [show loopsIn 0 (bodyOf Try.f102) = [] by kernel_rfl]; simp) P_lszOp pre_lszOp g_lszOp run_lszOp
def S1 : Tab := Tab.add S0 102 (lift (sumOf P_lszOp pre_lszOp g_lszOp))
def QF1 : FuncId → Bool := qadd QF0 102
theorem G1 : Good Try.prog tt S1 QF1 := G0.addQ c_lszOp ⟨Try.f102, by kernel_rfl, by kernel_rfl, by kernel_rfl⟩ (fun _ => rfl)

/-! 42 loop.example/g00244/laws.szOpS -/
def f_lszOpS_0 (x0 : List (Int × ByteArray × ByteArray)) (i : Nat) (b : Int) : Int := (lszOp ((x0.getD i ((0 : Int), ((⟨#[]⟩ : ByteArray), (⟨#[]⟩ : ByteArray)))).1) (((x0.getD i ((0 : Int), ((⟨#[]⟩ : ByteArray), (⟨#[]⟩ : ByteArray)))).2).1) (((x0.getD i ((0 : Int), ((⟨#[]⟩ : ByteArray), (⟨#[]⟩ : ByteArray)))).2).2) b)
abbrev P_lszOpS : List PSh := [.t (.sl (.pair (.int .i64) (.pair .str .str))), .t (.int .i64)]
abbrev S_lszOpS_0 : SS := ⟨[.t false (.sl (.pair (.int .i64) (.pair .str .str))), .t true (.int .i64), .junk, .junk, .junk, .t true (.int .i64), .junk, .junk, .junk, .junk, .junk, .junk, .junk, .junk, .junk, .junk, .junk, .junk, .junk, .junk, .junk, .junk, .junk, .junk, .junk, .junk, .junk], []⟩
abbrev E_lszOpS_0_0 : SS := ⟨[.junk, .junk, .junk, .junk, .t true (.int .i64), .junk, .junk, .junk, .junk, .junk, .junk, .junk, .junk, .junk, .junk, .junk, .junk, .junk, .junk, .junk, .junk, .junk, .junk, .junk, .junk, .junk, .junk], []⟩
abbrev E_lszOpS_0_1 : SS := ⟨[.junk, .t true (.int .i64), .junk, .junk, .junk, .junk, .junk, .junk, .junk, .junk, .junk, .junk, .junk, .junk, .junk, .junk, .junk, .junk, .junk, .junk, .junk, .junk, .junk, .junk, .junk, .junk, .junk], []⟩
def st_lszOpS_0 (x0 : List (Int × ByteArray × ByteArray)) (x1 : Int) (x5 : Int) : RT S_lszOpS_0.den := (.br (decide (x5 < ((x0.length : Nat) : Int))) (.br (decide (0 ≤ x5 ∧ x5 < ((x0.length : Nat) : Int))) (.br (decide ((lszOp ((x0.getD x5.toNat ((0 : Int), ((⟨#[]⟩ : ByteArray), (⟨#[]⟩ : ByteArray)))).1) (((x0.getD x5.toNat ((0 : Int), ((⟨#[]⟩ : ByteArray), (⟨#[]⟩ : ByteArray)))).2).1) (((x0.getD x5.toNat ((0 : Int), ((⟨#[]⟩ : ByteArray), (⟨#[]⟩ : ByteArray)))).2).2) x1) < (0 : Int))) (.done .ret E_lszOpS_0_0 (((), (), (), (), (-1 : Int), (), (), (), (), (), (), (), (), (), (), (), (), (), (), (), (), (), (), (), (), (), (), ()), ())) (.next ((x0, (lszOp ((x0.getD x5.toNat ((0 : Int), ((⟨#[]⟩ : ByteArray), (⟨#[]⟩ : ByteArray)))).1) (((x0.getD x5.toNat ((0 : Int), ((⟨#[]⟩ : ByteArray), (⟨#[]⟩ : ByteArray)))).2).1) (((x0.getD x5.toNat ((0 : Int), ((⟨#[]⟩ : ByteArray), (⟨#[]⟩ : ByteArray)))).2).2) x1), (), (), (), IntKind.wrap .i64 (x5 + (1 : Int)), (), (), (), (), (), (), (), (), (), (), (), (), (), (), (), (), (), (), (), (), (), ()), ()))) .fail) (.done (.exit 0) E_lszOpS_0_1 (((), x1, (), (), (), (), (), (), (), (), (), (), (), (), (), (), (), (), (), (), (), (), (), (), (), (), (), ()), ())))
def T_lszOpS_0 (x0 : List (Int × ByteArray × ByteArray)) (x1 : Int) (x5 : Int) : CT := (.br (decide (0 ≤ x5) && okL x0) (.br (isInl (szN (f_lszOpS_0 x0) (x0.length - x5.toNat) x5.toNat x1)) (.done (.exit 0) E_lszOpS_0_1 (((), (getInl (-1) (szN (f_lszOpS_0 x0) (x0.length - x5.toNat) x5.toNat x1)), (), (), (), (), (), (), (), (), (), (), (), (), (), (), (), (), (), (), (), (), (), (), (), (), (), ()), ())) (.done .ret E_lszOpS_0_0 (((), (), (), (), (-1 : Int), (), (), (), (), (), (), (), (), (), (), (), (), (), (), (), (), (), (), (), (), (), (), ()), ()))) .fail)
abbrev sp_lszOpS_0 : S_lszOpS_0.den → RT S_lszOpS_0.den := fun d => st_lszOpS_0 d.1.1 d.1.2.1 d.1.2.2.2.2.2.1
abbrev pk_lszOpS_0 (x0 : List (Int × ByteArray × ByteArray)) (x1 : Int) (x5 : Int) : S_lszOpS_0.den := ((x0, x1, (), (), (), x5, (), (), (), (), (), (), (), (), (), (), (), (), (), (), (), (), (), (), (), (), (), ()), ())
noncomputable def body_lszOpS_0 : Code := ((loopsIn 0 (bodyOf Try.f42)).getD 0 (0, .skip)).2
theorem R_lszOpS_0 (x0 : List (Int × ByteArray × ByteArray)) (x1 : Int) (x5 : Int) : (T_lszOpS_0 x0 x1 x5).val (D := S_lszOpS_0.den) = .fail ∨ Runs sp_lszOpS_0 (pk_lszOpS_0 x0 x1 x5) (T_lszOpS_0 x0 x1 x5).val := by
  cases hc : (decide (0 ≤ x5) && okL x0) with
  | false => left; simp only [T_lszOpS_0, CT.val, hc, cond_false]
  | true =>
    right
    simp only [T_lszOpS_0, CT.val, hc, cond_true]
    simp only [Bool.and_eq_true, decide_eq_true_eq] at hc
    obtain ⟨i, rfl⟩ := Int.eq_ofNat_of_zero_le hc.1
    have hs := okL_le hc.2
    simp only [Int.toNat_natCast]
    have h := Runs.loopN (step := sp_lszOpS_0) (fun j b => pk_lszOpS_0 x0 b (j : Int)) (fun _ _ => True) (x0.length) (fun i b => cond (decide (f_lszOpS_0 x0 i b < 0)) (.inr ()) (.inl (f_lszOpS_0 x0 i b)))
      (fin := fun b => ((.done (.exit 0) E_lszOpS_0_1 (((), b, (), (), (), (), (), (), (), (), (), (), (), (), (), (), (), (), (), (), (), (), (), (), (), (), (), ()), ())) : CT).val) (bad := fun _ => ((.done .ret E_lszOpS_0_0 (((), (), (), (), (-1 : Int), (), (), (), (), (), (), (), (), (), (), (), (), (), (), (), (), (), (), (), (), (), (), ()), ())) : CT).val)
      (fun i b hi _ => ?_) (fun i b hi _ => ?_) (x0.length - i) i x1 rfl trivial
    · simp only [szN]
      revert h
      cases loopN (fun i b => cond (decide (f_lszOpS_0 x0 i b < 0)) (.inr ()) (.inl (f_lszOpS_0 x0 i b))) (x0.length - i) i x1 with
      | inl b => exact id
      | inr c => exact id
    · 
      have h0a : decide ((i : Int) < ((x0.length : Nat) : Int)) = true := decide_eq_true (by omega)
      have h0b : decide (0 ≤ (i : Int) ∧ (i : Int) < ((x0.length : Nat) : Int)) = true := decide_eq_true (by omega)
      have e : (sp_lszOpS_0 (pk_lszOpS_0 x0 b (i : Int))).val = cond (decide (f_lszOpS_0 x0 i b < 0)) ((.done .ret E_lszOpS_0_0 (((), (), (), (), (-1 : Int), (), (), (), (), (), (), (), (), (), (), (), (), (), (), (), (), (), (), (), (), (), (), ()), ())) : CT).val (.next (pk_lszOpS_0 x0 (f_lszOpS_0 x0 i b) ((i + 1 : Nat) : Int))) := by
        simp only [sp_lszOpS_0, st_lszOpS_0, RT.val, h0a, h0b, cond_true, wrapS i (by omega), Int.toNat_natCast]
        rfl
      cases hr : decide (f_lszOpS_0 x0 i b < 0) with
      | true => exact .inr ⟨(), _, _, _, rfl, by rw [e, hr]; rfl, rfl, by simp⟩
      | false => exact .inl ⟨_, rfl, trivial, by rw [e, hr]; rfl⟩
    · have h1 : decide ((i : Int) < ((x0.length : Nat) : Int)) = false := decide_eq_false (by omega)
      exact ⟨by simp only [sp_lszOpS_0, st_lszOpS_0, RT.val, h1, cond_false]; rfl, _, _, _, rfl, by simp⟩
theorem rd_lszOpS_0 : ∀ d base killed, execC Try.prog tt S1 QF1 (fun _ _ => none) 0 body_lszOpS_0 (S_lszOpS_0.st d base killed) (fun e s' => some (e, S_lszOpS_0.cutE (kepts [4] [(0, [1])]) e s')) = (sp_lszOpS_0 d).opt base killed := by
  intro d base killed
  kernel_rfl
abbrev say_lszOpS_0 : St → Option Tree := S_lszOpS_0.say [] (fun d => T_lszOpS_0 d.1.1 d.1.2.1 d.1.2.2.2.2.2.1)
theorem lw_lszOpS_0 : LoopWp Try.prog say_lszOpS_0 body_lszOpS_0 := SS.wp G1 (fun _ _ => none) (by rw [show loopsIn 0 body_lszOpS_0 = [] by kernel_rfl]; simp) S_lszOpS_0 (kepts [4] [(0, [1])]) [] sp_lszOpS_0 rd_lszOpS_0 _ (fun d => R_lszOpS_0 d.1.1 d.1.2.1 d.1.2.2.2.2.2.1)
def lszOpS (a0 : List (Int × ByteArray × ByteArray)) (a1 : Int) : Int := (cond (decide ((IntKind.wrap .i64 (a1 - ((a0.length : Nat) : Int))) < (0 : Int))) (-1 : Int) (cond (isInl (szN (f_lszOpS_0 a0) (a0.length - (0 : Int).toNat) (0 : Int).toNat (IntKind.wrap .i64 (a1 - ((a0.length : Nat) : Int))))) (getInl (-1) (szN (f_lszOpS_0 a0) (a0.length - (0 : Int).toNat) (0 : Int).toNat (IntKind.wrap .i64 (a1 - ((a0.length : Nat) : Int))))) (-1 : Int)))
abbrev e_lszOpS (r : Int) : AV × List AObj := ((.t true (.int .i64) r), [])
abbrev g_lszOpS : pshsDen P_lszOpS → AV × List AObj := fun d => e_lszOpS (lszOpS d.1 d.2.1)
def q_lszOpS (a0 : List (Int × ByteArray × ByteArray)) (a1 : Int) : Bool := decide (0 ≤ a1 ∧ a1 ≤ 1048576 ∧ a0.length ≤ 9223372036854775807)
abbrev pre_lszOpS : pshsDen P_lszOpS → Bool := fun d => q_lszOpS d.1 d.2.1
theorem runA_lszOpS (a0 : List (Int × ByteArray × ByteArray)) (a1 : Int) (hp : (decide (0 ≤ a1 ∧ a1 ≤ 1048576 ∧ a0.length ≤ 9223372036854775807)) = true) : runP true Try.prog tt S1 QF1 (fun b => match b with | 0 => say_lszOpS_0 | _ => fun _ => none) Try.f42 (argsMk P_lszOpS (a0, (a1, ()))) = some (g_lszOpS (a0, (a1, ()))) := by
  refine Eq.trans (b := (cond (decide ((IntKind.wrap .i64 (a1 - ((a0.length : Nat) : Int))) < (0 : Int))) (some (e_lszOpS (-1 : Int))) (cond (decide (0 ≤ (0 : Int)) && okL a0) (cond (isInl (szN (f_lszOpS_0 a0) (a0.length - (0 : Int).toNat) (0 : Int).toNat (IntKind.wrap .i64 (a1 - ((a0.length : Nat) : Int))))) (some (e_lszOpS (getInl (-1) (szN (f_lszOpS_0 a0) (a0.length - (0 : Int).toNat) (0 : Int).toNat (IntKind.wrap .i64 (a1 - ((a0.length : Nat) : Int))))))) (some (e_lszOpS (-1 : Int)))) none))) (by kernel_rfl) ?_
  exact (cnd (F := fun r => some (e_lszOpS r)) (fun _h => rfl) (fun _h => (cndT (by simp only [decide_eq_true_eq, decide_eq_false_iff_not] at hp _h; have hw := wrap64 (n := a1 - ((a0.length : Nat) : Int)) (by omega) (by omega); rw [hw] at _h; simp [okL]; omega) (fun _h => (cnd (F := fun r => some (e_lszOpS r)) (fun _h => rfl) (fun _h => rfl))))))
theorem run_lszOpS : ∀ d, pre_lszOpS d = true → runP true Try.prog tt S1 QF1 (fun b => match b with | 0 => say_lszOpS_0 | _ => fun _ => none) Try.f42 (argsMk P_lszOpS d) = some (g_lszOpS d) := fun d hp => runA_lszOpS d.1 d.2.1 hp
theorem c_lszOpS : PContract Try.prog 42 (sumOf P_lszOpS pre_lszOpS g_lszOpS) := PContract.of_data true G1 (fn := Try.f42) (by kernel_rfl) (L := fun b => match b with | 0 => say_lszOpS_0 | _ => fun _ => none) (by rw [show loopsIn 0 (bodyOf Try.f42) = [(0, body_lszOpS_0)] by kernel_rfl]; intro p hp; simp only [List.mem_singleton] at hp; subst hp; exact lw_lszOpS_0) P_lszOpS pre_lszOpS g_lszOpS run_lszOpS
def S2 : Tab := Tab.add S1 42 (lift (sumOf P_lszOpS pre_lszOpS g_lszOpS))
def QF2 : FuncId → Bool := qadd QF1 42
theorem G2 : Good Try.prog tt S2 QF2 := G1.addQ c_lszOpS ⟨Try.f42, by kernel_rfl, by kernel_rfl, by kernel_rfl⟩ (fun _ => rfl)

/-! 20 loop.example/g00244/laws.szWord -/
abbrev P_lszWord : List PSh := [.agg [(.int .i64), (.int .i64), (.int .i64), (.sl (.pair (.int .i64) (.pair .str .str))), .bool], .t (.int .i64)]
def lszWord (a0 : Int) (a1 : Int) (a2 : Int) (a3 : List (Int × ByteArray × ByteArray)) (a4 : Bool) (a5 : Int) : Int := (cond (decide ((lszOpS a3 a5) < (0 : Int))) (-1 : Int) (lszOpS a3 a5))
abbrev e_lszWord (r : Int) : AV × List AObj := ((.t true (.int .i64) r), [])
abbrev g_lszWord : pshsDen P_lszWord → AV × List AObj := fun d => e_lszWord (lszWord d.1.1 d.1.2.1 d.1.2.2.1 d.1.2.2.2.1 d.1.2.2.2.2.1 d.2.1)
def q_lszWord (a0 : Int) (a1 : Int) (a2 : Int) (a3 : List (Int × ByteArray × ByteArray)) (a4 : Bool) (a5 : Int) : Bool := decide (0 ≤ a5 ∧ a5 ≤ 1048576 ∧ a3.length ≤ 9223372036854775807)
abbrev pre_lszWord : pshsDen P_lszWord → Bool := fun d => q_lszWord d.1.1 d.1.2.1 d.1.2.2.1 d.1.2.2.2.1 d.1.2.2.2.2.1 d.2.1
theorem runA_lszWord (a0 : Int) (a1 : Int) (a2 : Int) (a3 : List (Int × ByteArray × ByteArray)) (a4 : Bool) (a5 : Int) (hp : (decide (0 ≤ a5 ∧ a5 ≤ 1048576 ∧ a3.length ≤ 9223372036854775807)) = true) : runP true Try.prog tt S2 QF2 (fun _ _ => none) Try.f20 (argsMk P_lszWord ((a0, (a1, (a2, (a3, (a4, ()))))), (a5, ()))) = some (g_lszWord ((a0, (a1, (a2, (a3, (a4, ()))))), (a5, ()))) := by
  refine Eq.trans (b := (cond (q_lszOpS a3 a5) (cond (decide ((lszOpS a3 a5) < (0 : Int))) (some (e_lszWord (-1 : Int))) (some (e_lszWord (lszOpS a3 a5)))) none)) (by kernel_rfl) ?_
  exact (cndT (by first | rfl | decide | exact hp | (simp [*]; done) | (simp [okL] at hp; simp [okL, MAXB]; omega) | (simp_all; done) | (simp at *; omega)) (fun _h => (cnd (F := fun r => some (e_lszWord r)) (fun _h => rfl) (fun _h => rfl))))
theorem run_lszWord : ∀ d, pre_lszWord d = true → runP true Try.prog tt S2 QF2 (fun _ _ => none) Try.f20 (argsMk P_lszWord d) = some (g_lszWord d) := fun d hp => runA_lszWord d.1.1 d.1.2.1 d.1.2.2.1 d.1.2.2.2.1 d.1.2.2.2.2.1 d.2.1 hp
theorem c_lszWord : PContract Try.prog 20 (sumOf P_lszWord pre_lszWord g_lszWord) := PContract.of_data true G2 (fn := Try.f20) (by kernel_rfl) (L := fun _ _ => none) (by rw [show loopsIn 0 (bodyOf Try.f20) = [] by kernel_rfl]; simp) P_lszWord pre_lszWord g_lszWord run_lszWord
def S3 : Tab := Tab.add S2 20 (lift (sumOf P_lszWord pre_lszWord g_lszWord))
def QF3 : FuncId → Bool := qadd QF2 20
theorem G3 : Good Try.prog tt S3 QF3 := G2.addQ c_lszWord ⟨Try.f20, by kernel_rfl, by kernel_rfl, by kernel_rfl⟩ (fun _ => rfl)

/-! 106 loop.example/g00244/laws.toOp -/
abbrev P_ltoOp : List PSh := [.agg [(.int .i64), .str, .str]]
def ltoOp (a0 : Int) (a1 : ByteArray) (a2 : ByteArray) : Int × ByteArray × ByteArray := (a0, a1, a2)
abbrev e_ltoOp (r : Int × ByteArray × ByteArray) : AV × List AObj := ((.agg [(.t true (.int .i64) r.1), (.t true .str r.2.1), (.t true .str r.2.2)]), [])
abbrev g_ltoOp : pshsDen P_ltoOp → AV × List AObj := fun d => e_ltoOp (ltoOp d.1.1 d.1.2.1 d.1.2.2.1)
abbrev pre_ltoOp : pshsDen P_ltoOp → Bool := fun d => true
theorem runA_ltoOp (a0 : Int) (a1 : ByteArray) (a2 : ByteArray) : runP true Try.prog tt S3 QF3 (fun _ _ => none) Try.f106 (argsMk P_ltoOp ((a0, (a1, (a2, ()))), ())) = some (g_ltoOp ((a0, (a1, (a2, ()))), ())) := by
  kernel_rfl
theorem run_ltoOp : ∀ d, pre_ltoOp d = true → runP true Try.prog tt S3 QF3 (fun _ _ => none) Try.f106 (argsMk P_ltoOp d) = some (g_ltoOp d) := fun d hp => runA_ltoOp d.1.1 d.1.2.1 d.1.2.2.1
theorem c_ltoOp : PContract Try.prog 106 (sumOf P_ltoOp pre_ltoOp g_ltoOp) := PContract.of_data true G3 (fn := Try.f106) (by kernel_rfl) (L := fun _ _ => none) (by rw [show loopsIn 0 (bodyOf Try.f106) = [] by kernel_rfl]; simp) P_ltoOp pre_ltoOp g_ltoOp run_ltoOp
def S4 : Tab := Tab.add S3 106 (lift (sumOf P_ltoOp pre_ltoOp g_ltoOp))
def QF4 : FuncId → Bool := qadd QF3 106
theorem G4 : Good Try.prog tt S4 QF4 := G3.addQ c_ltoOp ⟨Try.f106, by kernel_rfl, by kernel_rfl, by kernel_rfl⟩ (fun _ => rfl)

/-! 45 loop.example/g00244/laws.toOpS -/
def f_ltoOpS_0 (x0 : List (Int × ByteArray × ByteArray)) (i : Nat) : Int × ByteArray × ByteArray := (((ltoOp ((x0.getD i ((0 : Int), ((⟨#[]⟩ : ByteArray), (⟨#[]⟩ : ByteArray)))).1) (((x0.getD i ((0 : Int), ((⟨#[]⟩ : ByteArray), (⟨#[]⟩ : ByteArray)))).2).1) (((x0.getD i ((0 : Int), ((⟨#[]⟩ : ByteArray), (⟨#[]⟩ : ByteArray)))).2).2)).1), (((ltoOp ((x0.getD i ((0 : Int), ((⟨#[]⟩ : ByteArray), (⟨#[]⟩ : ByteArray)))).1) (((x0.getD i ((0 : Int), ((⟨#[]⟩ : ByteArray), (⟨#[]⟩ : ByteArray)))).2).1) (((x0.getD i ((0 : Int), ((⟨#[]⟩ : ByteArray), (⟨#[]⟩ : ByteArray)))).2).2)).2.1), ((ltoOp ((x0.getD i ((0 : Int), ((⟨#[]⟩ : ByteArray), (⟨#[]⟩ : ByteArray)))).1) (((x0.getD i ((0 : Int), ((⟨#[]⟩ : ByteArray), (⟨#[]⟩ : ByteArray)))).2).1) (((x0.getD i ((0 : Int), ((⟨#[]⟩ : ByteArray), (⟨#[]⟩ : ByteArray)))).2).2)).2.2)))
abbrev P_ltoOpS : List PSh := [.t (.sl (.pair (.int .i64) (.pair .str .str)))]
abbrev S_ltoOpS_0 : SS := ⟨[.t false (.sl (.pair (.int .i64) (.pair .str .str))), .junk, .junk, .all 0 3, .t true (.int .i64), .junk, .junk, .junk, .junk, .junk, .junk, .junk, .junk, .junk, .junk, .junk, .junk, .junk, .junk, .junk, .junk, .junk, .junk], [.rows 85 true (.pair (.int .i64) (.pair .str .str))]⟩
abbrev E_ltoOpS_0_0 : SS := ⟨[.junk, .junk, .junk, .all 0 3, .junk, .junk, .junk, .junk, .junk, .junk, .junk, .junk, .junk, .junk, .junk, .junk, .junk, .junk, .junk, .junk, .junk, .junk, .junk], [.rows 85 true (.pair (.int .i64) (.pair .str .str))]⟩
def st_ltoOpS_0 (x0 : List (Int × ByteArray × ByteArray)) (x4 : Int) (h0 : List (Int × ByteArray × ByteArray)) : RT S_ltoOpS_0.den := (.br (decide (x4 < ((x0.length : Nat) : Int))) (.br (decide (0 ≤ x4 ∧ x4 < ((x0.length : Nat) : Int))) (.br (decide (0 ≤ x4 ∧ x4 < ((h0.length : Nat) : Int))) (.next ((x0, (), (), (), IntKind.wrap .i64 (x4 + (1 : Int)), (), (), (), (), (), (), (), (), (), (), (), (), (), (), (), (), (), (), ()), (h0.set x4.toNat (((ltoOp ((x0.getD x4.toNat ((0 : Int), ((⟨#[]⟩ : ByteArray), (⟨#[]⟩ : ByteArray)))).1) (((x0.getD x4.toNat ((0 : Int), ((⟨#[]⟩ : ByteArray), (⟨#[]⟩ : ByteArray)))).2).1) (((x0.getD x4.toNat ((0 : Int), ((⟨#[]⟩ : ByteArray), (⟨#[]⟩ : ByteArray)))).2).2)).1), (((ltoOp ((x0.getD x4.toNat ((0 : Int), ((⟨#[]⟩ : ByteArray), (⟨#[]⟩ : ByteArray)))).1) (((x0.getD x4.toNat ((0 : Int), ((⟨#[]⟩ : ByteArray), (⟨#[]⟩ : ByteArray)))).2).1) (((x0.getD x4.toNat ((0 : Int), ((⟨#[]⟩ : ByteArray), (⟨#[]⟩ : ByteArray)))).2).2)).2.1), ((ltoOp ((x0.getD x4.toNat ((0 : Int), ((⟨#[]⟩ : ByteArray), (⟨#[]⟩ : ByteArray)))).1) (((x0.getD x4.toNat ((0 : Int), ((⟨#[]⟩ : ByteArray), (⟨#[]⟩ : ByteArray)))).2).1) (((x0.getD x4.toNat ((0 : Int), ((⟨#[]⟩ : ByteArray), (⟨#[]⟩ : ByteArray)))).2).2)).2.2))), ()))) .fail) .fail) (.done (.exit 0) E_ltoOpS_0_0 (((), (), (), (), (), (), (), (), (), (), (), (), (), (), (), (), (), (), (), (), (), (), (), ()), (h0, ()))))
def T_ltoOpS_0 (x0 : List (Int × ByteArray × ByteArray)) (x4 : Int) (h0 : List (Int × ByteArray × ByteArray)) : CT := (.br (decide (0 ≤ x4) && (decide (h0.length = x0.length) && okL x0)) (.done (.exit 0) E_ltoOpS_0_0 (((), (), (), (), (), (), (), (), (), (), (), (), (), (), (), (), (), (), (), (), (), (), (), ()), ((foldN (fun i h => h.set i (f_ltoOpS_0 x0 i)) (x0.length - x4.toNat) x4.toNat h0), ()))) .fail)
abbrev sp_ltoOpS_0 : S_ltoOpS_0.den → RT S_ltoOpS_0.den := fun d => st_ltoOpS_0 d.1.1 d.1.2.2.2.2.1 d.2.1
abbrev pk_ltoOpS_0 (x0 : List (Int × ByteArray × ByteArray)) (x4 : Int) (h0 : List (Int × ByteArray × ByteArray)) : S_ltoOpS_0.den := ((x0, (), (), (), x4, (), (), (), (), (), (), (), (), (), (), (), (), (), (), (), (), (), (), ()), (h0, ()))
noncomputable def body_ltoOpS_0 : Code := ((loopsIn 0 (bodyOf Try.f45)).getD 0 (0, .skip)).2
theorem R_ltoOpS_0 (x0 : List (Int × ByteArray × ByteArray)) (x4 : Int) (h0 : List (Int × ByteArray × ByteArray)) : (T_ltoOpS_0 x0 x4 h0).val (D := S_ltoOpS_0.den) = .fail ∨ Runs sp_ltoOpS_0 (pk_ltoOpS_0 x0 x4 h0) (T_ltoOpS_0 x0 x4 h0).val := by
  cases hc : (decide (0 ≤ x4) && (decide (h0.length = x0.length) && okL x0)) with
  | false => left; simp only [T_ltoOpS_0, CT.val, hc, cond_false]
  | true =>
    right
    simp only [T_ltoOpS_0, CT.val, hc, cond_true]
    simp only [Bool.and_eq_true, decide_eq_true_eq] at hc
    obtain ⟨i, rfl⟩ := Int.eq_ofNat_of_zero_le hc.1
    have hs := okL_le hc.2.2
    simp only [Int.toNat_natCast]
    refine Runs.foldN (step := sp_ltoOpS_0) (fun j b => pk_ltoOpS_0 x0 (j : Int) b) (fun _ b => b.length = x0.length) (x0.length) (fun i h => h.set i (f_ltoOpS_0 x0 i))
      (fin := fun b => ((.done (.exit 0) E_ltoOpS_0_0 (((), (), (), (), (), (), (), (), (), (), (), (), (), (), (), (), (), (), (), (), (), (), (), ()), (b, ()))) : CT).val) (fun i b hi hb => ⟨by simpa using hb, ?_⟩) (fun i b hi hb => ?_) (x0.length - i) i h0 rfl hc.2.1
    · 
      have h0a : decide ((i : Int) < ((x0.length : Nat) : Int)) = true := decide_eq_true (by omega)
      have h0b : decide (0 ≤ (i : Int) ∧ (i : Int) < ((x0.length : Nat) : Int)) = true := decide_eq_true (by omega)
      have h9 : decide (0 ≤ (i : Int) ∧ (i : Int) < ((b.length : Nat) : Int)) = true := decide_eq_true (by omega)
      simp only [sp_ltoOpS_0, st_ltoOpS_0, RT.val, h0a, h0b, h9, cond_true, wrapS i (by omega), Int.toNat_natCast]
      rfl
    · have h1 : decide ((i : Int) < ((x0.length : Nat) : Int)) = false := decide_eq_false (by omega)
      exact ⟨by simp only [sp_ltoOpS_0, st_ltoOpS_0, RT.val, h1, cond_false]; rfl, _, _, _, rfl, by simp⟩
theorem rd_ltoOpS_0 : ∀ d base killed, execC Try.prog tt S4 QF4 (fun _ _ => none) 0 body_ltoOpS_0 (S_ltoOpS_0.st d base killed) (fun e s' => some (e, S_ltoOpS_0.cutE (kepts [] [(0, [3])]) e s')) = (sp_ltoOpS_0 d).opt base killed := by
  intro d base killed
  kernel_rfl
abbrev say_ltoOpS_0 : St → Option Tree := S_ltoOpS_0.say [] (fun d => T_ltoOpS_0 d.1.1 d.1.2.2.2.2.1 d.2.1)
theorem lw_ltoOpS_0 : LoopWp Try.prog say_ltoOpS_0 body_ltoOpS_0 := SS.wp G4 (fun _ _ => none) (by rw [show loopsIn 0 body_ltoOpS_0 = [] by kernel_rfl]; simp) S_ltoOpS_0 (kepts [] [(0, [3])]) [] sp_ltoOpS_0 rd_ltoOpS_0 _ (fun d => R_ltoOpS_0 d.1.1 d.1.2.2.2.2.1 d.2.1)
def ltoOpS (a0 : List (Int × ByteArray × ByteArray)) : List (Int × ByteArray × ByteArray) := (foldN (fun i h => h.set i (f_ltoOpS_0 a0 i)) (a0.length - (0 : Int).toNat) (0 : Int).toNat (List.replicate ((a0.length : Nat) : Int).toNat ((0 : Int), ((⟨#[]⟩ : ByteArray), (⟨#[]⟩ : ByteArray)))))
abbrev e_ltoOpS (r : List (Int × ByteArray × ByteArray)) : AV × List AObj := ((.t true (.sl (.pair (.int .i64) (.pair .str .str))) r), [])
abbrev g_ltoOpS : pshsDen P_ltoOpS → AV × List AObj := fun d => e_ltoOpS (ltoOpS d.1)
def q_ltoOpS (a0 : List (Int × ByteArray × ByteArray)) : Bool := okL a0
abbrev pre_ltoOpS : pshsDen P_ltoOpS → Bool := fun d => q_ltoOpS d.1
theorem runA_ltoOpS (a0 : List (Int × ByteArray × ByteArray)) (hp : (okL a0) = true) : runP true Try.prog tt S4 QF4 (fun b => match b with | 0 => say_ltoOpS_0 | _ => fun _ => none) Try.f45 (argsMk P_ltoOpS (a0, ())) = some (g_ltoOpS (a0, ())) := by
  refine Eq.trans (b := (cond (decide (0 ≤ ((a0.length : Nat) : Int) ∧ ((a0.length : Nat) : Int) = ((a0.length : Nat) : Int) ∧ ((a0.length : Nat) : Int).toNat * 40 ≤ MAXB ∧ ((a0.length : Nat) : Int) ≤ 9223372036854775807)) (cond (decide (0 ≤ (0 : Int)) && (decide ((List.replicate ((a0.length : Nat) : Int).toNat ((0 : Int), ((⟨#[]⟩ : ByteArray), (⟨#[]⟩ : ByteArray)))).length = a0.length) && okL a0)) (some (e_ltoOpS (foldN (fun i h => h.set i (f_ltoOpS_0 a0 i)) (a0.length - (0 : Int).toNat) (0 : Int).toNat (List.replicate ((a0.length : Nat) : Int).toNat ((0 : Int), ((⟨#[]⟩ : ByteArray), (⟨#[]⟩ : ByteArray))))))) none) none)) (by kernel_rfl) ?_
  exact (cndT (by first | rfl | decide | exact hp | (simp [*]; done) | (simp [okL] at hp; simp [okL, MAXB]; omega) | (simp_all; done) | (simp at *; omega)) (fun _h => (cndT (by first | rfl | decide | exact hp | (simp [*]; done) | (simp [okL] at hp; simp [okL, MAXB]; omega) | (simp_all; done) | (simp at *; omega)) (fun _h => rfl))))
theorem run_ltoOpS : ∀ d, pre_ltoOpS d = true → runP true Try.prog tt S4 QF4 (fun b => match b with | 0 => say_ltoOpS_0 | _ => fun _ => none) Try.f45 (argsMk P_ltoOpS d) = some (g_ltoOpS d) := fun d hp => runA_ltoOpS d.1 hp
theorem c_ltoOpS : PContract Try.prog 45 (sumOf P_ltoOpS pre_ltoOpS g_ltoOpS) := PContract.of_data true G4 (fn := Try.f45) (by kernel_rfl) (L := fun b => match b with | 0 => say_ltoOpS_0 | _ => fun _ => none) (by rw [show loopsIn 0 (bodyOf Try.f45) = [(0, body_ltoOpS_0)] by kernel_rfl]; intro p hp; simp only [List.mem_singleton] at hp; subst hp; exact lw_ltoOpS_0) P_ltoOpS pre_ltoOpS g_ltoOpS run_ltoOpS
def S5 : Tab := Tab.add S4 45 (lift (sumOf P_ltoOpS pre_ltoOpS g_ltoOpS))
def QF5 : FuncId → Bool := qadd QF4 45
theorem G5 : Good Try.prog tt S5 QF5 := G4.addQ c_ltoOpS ⟨Try.f45, by kernel_rfl, by kernel_rfl, by kernel_rfl⟩ (fun _ => rfl)

/-! 22 loop.example/g00244/laws.toWord -/
abbrev P_ltoWord : List PSh := [.agg [(.int .i64), (.int .i64), (.int .i64), (.sl (.pair (.int .i64) (.pair .str .str))), .bool]]
def ltoWord (a0 : Int) (a1 : Int) (a2 : Int) (a3 : List (Int × ByteArray × ByteArray)) (a4 : Bool) : Int × Int × Int × (List (Int × ByteArray × ByteArray)) × Bool := (a0, a1, a2, (ltoOpS a3), a4)
abbrev e_ltoWord (r : Int × Int × Int × (List (Int × ByteArray × ByteArray)) × Bool) : AV × List AObj := ((.agg [(.t true (.int .i64) r.1), (.t true (.int .i64) r.2.1), (.t true (.int .i64) r.2.2.1), (.t true (.sl (.pair (.int .i64) (.pair .str .str))) r.2.2.2.1), (.t true .bool r.2.2.2.2)]), [])
abbrev g_ltoWord : pshsDen P_ltoWord → AV × List AObj := fun d => e_ltoWord (ltoWord d.1.1 d.1.2.1 d.1.2.2.1 d.1.2.2.2.1 d.1.2.2.2.2.1)
def q_ltoWord (a0 : Int) (a1 : Int) (a2 : Int) (a3 : List (Int × ByteArray × ByteArray)) (a4 : Bool) : Bool := okL a3
abbrev pre_ltoWord : pshsDen P_ltoWord → Bool := fun d => q_ltoWord d.1.1 d.1.2.1 d.1.2.2.1 d.1.2.2.2.1 d.1.2.2.2.2.1
theorem runA_ltoWord (a0 : Int) (a1 : Int) (a2 : Int) (a3 : List (Int × ByteArray × ByteArray)) (a4 : Bool) (hp : (okL a3) = true) : runP true Try.prog tt S5 QF5 (fun _ _ => none) Try.f22 (argsMk P_ltoWord ((a0, (a1, (a2, (a3, (a4, ()))))), ())) = some (g_ltoWord ((a0, (a1, (a2, (a3, (a4, ()))))), ())) := by
  refine Eq.trans (b := (cond (q_ltoOpS a3) (some (e_ltoWord (a0, a1, a2, (ltoOpS a3), a4))) none)) (by kernel_rfl) ?_
  exact (cndT (by first | rfl | decide | exact hp | (simp [*]; done) | (simp [okL] at hp; simp [okL, MAXB]; omega) | (simp_all; done) | (simp at *; omega)) (fun _h => rfl))
theorem run_ltoWord : ∀ d, pre_ltoWord d = true → runP true Try.prog tt S5 QF5 (fun _ _ => none) Try.f22 (argsMk P_ltoWord d) = some (g_ltoWord d) := fun d hp => runA_ltoWord d.1.1 d.1.2.1 d.1.2.2.1 d.1.2.2.2.1 d.1.2.2.2.2.1 hp
theorem c_ltoWord : PContract Try.prog 22 (sumOf P_ltoWord pre_ltoWord g_ltoWord) := PContract.of_data true G5 (fn := Try.f22) (by kernel_rfl) (L := fun _ _ => none) (by rw [show loopsIn 0 (bodyOf Try.f22) = [] by kernel_rfl]; simp) P_ltoWord pre_ltoWord g_ltoWord run_ltoWord
def S6 : Tab := Tab.add S5 22 (lift (sumOf P_ltoWord pre_ltoWord g_ltoWord))
def QF6 : FuncId → Bool := qadd QF5 22
theorem G6 : Good Try.prog tt S6 QF6 := G5.addQ c_ltoWord ⟨Try.f22, by kernel_rfl, by kernel_rfl, by kernel_rfl⟩ (fun _ => rfl)

/-! 83 loop.example/g00244/spec.l1In -/
abbrev P_sl1In : List PSh := [.t (.int .i64), .t (.int .i64), .t (.int .i64)]
def sl1In (a0 : Int) (a1 : Int) (a2 : Int) : Bool := (cond (decide (a0 ≥ a1)) (decide (a0 ≤ a2)) false)
abbrev e_sl1In (r : Bool) : AV × List AObj := ((.t true .bool r), [])
abbrev g_sl1In : pshsDen P_sl1In → AV × List AObj := fun d => e_sl1In (sl1In d.1 d.2.1 d.2.2.1)
abbrev pre_sl1In : pshsDen P_sl1In → Bool := fun d => true
theorem runA_sl1In (a0 : Int) (a1 : Int) (a2 : Int) : runP true Try.prog tt S6 QF6 (fun _ _ => none) Try.f83 (argsMk P_sl1In (a0, (a1, (a2, ())))) = some (g_sl1In (a0, (a1, (a2, ())))) := by
  refine Eq.trans (b := (cond (decide (a0 ≥ a1)) (some (e_sl1In (decide (a0 ≤ a2)))) (some (e_sl1In false)))) (by kernel_rfl) ?_
  exact (cnd (F := fun r => some (e_sl1In r)) (fun _h => rfl) (fun _h => rfl))
theorem run_sl1In : ∀ d, pre_sl1In d = true → runP true Try.prog tt S6 QF6 (fun _ _ => none) Try.f83 (argsMk P_sl1In d) = some (g_sl1In d) := fun d hp => runA_sl1In d.1 d.2.1 d.2.2.1
theorem c_sl1In : PContract Try.prog 83 (sumOf P_sl1In pre_sl1In g_sl1In) := PContract.of_data true G6 (fn := Try.f83) (by kernel_rfl) (L := fun _ _ => none) (by rw [show loopsIn 0 (bodyOf Try.f83) = [] by kernel_rfl]; simp) P_sl1In pre_sl1In g_sl1In run_sl1In
def S7 : Tab := Tab.add S6 83 (lift (sumOf P_sl1In pre_sl1In g_sl1In))
def QF7 : FuncId → Bool := qadd QF6 83
theorem G7 : Good Try.prog tt S7 QF7 := G6.addQ c_sl1In ⟨Try.f83, by kernel_rfl, by kernel_rfl, by kernel_rfl⟩ (fun _ => rfl)

/-! 149 loop.example/g00244/spec.KeyOk -/
def sKeyAt (s : ByteArray) (i : Nat) : Bool := sl1In (IntKind.wrap .i64 (bt s (i : Int))) 97 122 || sl1In (IntKind.wrap .i64 (bt s (i : Int))) 48 57
abbrev P_sKeyOk : List PSh := [.t .str]
abbrev S_sKeyOk_0 : SS := ⟨[.t true .str, .junk, .junk, .t true (.int .i64), .junk, .junk, .junk, .junk, .junk, .junk, .junk, .junk, .junk, .junk, .junk, .junk, .junk, .junk, .junk, .junk, .junk, .junk, .junk, .junk, .junk, .junk, .junk], []⟩
abbrev E_sKeyOk_0_0 : SS := ⟨[.junk, .junk, .t true .bool, .junk, .junk, .junk, .junk, .junk, .junk, .junk, .junk, .junk, .junk, .junk, .junk, .junk, .junk, .junk, .junk, .junk, .junk, .junk, .junk, .junk, .junk, .junk, .junk], []⟩
abbrev E_sKeyOk_0_1 : SS := ⟨[.t true .str, .junk, .junk, .junk, .junk, .junk, .junk, .junk, .junk, .junk, .junk, .junk, .junk, .junk, .junk, .junk, .junk, .junk, .junk, .junk, .junk, .junk, .junk, .junk, .junk, .junk, .junk], []⟩
def st_sKeyOk_0 (x0 : ByteArray) (x3 : Int) : RT S_sKeyOk_0.den := (.br (decide (x3 < ((x0.size : Nat) : Int))) (.br (decide (0 ≤ x3 ∧ x3 < ((x0.size : Nat) : Int))) (.br (!(sl1In (IntKind.wrap .i64 (bt x0 x3)) (97 : Int) (122 : Int))) (.br (decide (0 ≤ x3 ∧ x3 < ((x0.size : Nat) : Int))) (.br (!(sl1In (IntKind.wrap .i64 (bt x0 x3)) (48 : Int) (57 : Int))) (.done .ret E_sKeyOk_0_0 (((), (), false, (), (), (), (), (), (), (), (), (), (), (), (), (), (), (), (), (), (), (), (), (), (), (), (), ()), ())) (.next ((x0, (), (), IntKind.wrap .i64 (x3 + (1 : Int)), (), (), (), (), (), (), (), (), (), (), (), (), (), (), (), (), (), (), (), (), (), (), (), ()), ()))) .fail) (.next ((x0, (), (), IntKind.wrap .i64 (x3 + (1 : Int)), (), (), (), (), (), (), (), (), (), (), (), (), (), (), (), (), (), (), (), (), (), (), (), ()), ()))) .fail) (.done (.exit 0) E_sKeyOk_0_1 ((x0, (), (), (), (), (), (), (), (), (), (), (), (), (), (), (), (), (), (), (), (), (), (), (), (), (), (), ()), ())))
def T_sKeyOk_0 (x0 : ByteArray) (x3 : Int) : CT := (.br (decide (0 ≤ x3) && okS x0) (.br (allF (sKeyAt x0) (x0.size - x3.toNat) x3.toNat) (.done (.exit 0) E_sKeyOk_0_1 ((x0, (), (), (), (), (), (), (), (), (), (), (), (), (), (), (), (), (), (), (), (), (), (), (), (), (), (), ()), ())) (.done .ret E_sKeyOk_0_0 (((), (), false, (), (), (), (), (), (), (), (), (), (), (), (), (), (), (), (), (), (), (), (), (), (), (), (), ()), ()))) .fail)
abbrev sp_sKeyOk_0 : S_sKeyOk_0.den → RT S_sKeyOk_0.den := fun d => st_sKeyOk_0 d.1.1 d.1.2.2.2.1
abbrev pk_sKeyOk_0 (x0 : ByteArray) (x3 : Int) : S_sKeyOk_0.den := ((x0, (), (), x3, (), (), (), (), (), (), (), (), (), (), (), (), (), (), (), (), (), (), (), (), (), (), (), ()), ())
noncomputable def body_sKeyOk_0 : Code := ((loopsIn 0 (bodyOf Try.f149)).getD 0 (0, .skip)).2
theorem R_sKeyOk_0 (x0 : ByteArray) (x3 : Int) : (T_sKeyOk_0 x0 x3).val (D := S_sKeyOk_0.den) = .fail ∨ Runs sp_sKeyOk_0 (pk_sKeyOk_0 x0 x3) (T_sKeyOk_0 x0 x3).val := by
  cases hc : (decide (0 ≤ x3) && okS x0) with
  | false => left; simp only [T_sKeyOk_0, CT.val, hc, cond_false]
  | true =>
    right
    simp only [T_sKeyOk_0, CT.val, hc, cond_true]
    simp only [Bool.and_eq_true, decide_eq_true_eq] at hc
    obtain ⟨i, rfl⟩ := Int.eq_ofNat_of_zero_le hc.1
    have hs := okS_le hc.2
    simp only [Int.toNat_natCast]
    refine Runs.scan (fun j => pk_sKeyOk_0 x0 (j : Int)) (x0.size) (sKeyAt x0) (fun i hi => ?_) (fun i hi => ?_) ⟨_, _, _, rfl, by simp⟩ ⟨_, _, _, rfl, by simp⟩ _ _ rfl
    · 
      have h0a : decide ((i : Int) < ((x0.size : Nat) : Int)) = true := decide_eq_true (by omega)
      have h0b : decide (0 ≤ (i : Int) ∧ (i : Int) < ((x0.size : Nat) : Int)) = true := decide_eq_true (by omega)
      simp only [sp_sKeyOk_0, st_sKeyOk_0, RT.val, h0a, h0b, cond_true, wrapS i (by omega), Int.toNat_natCast]
      simp only [sKeyAt]
      cases sl1In (IntKind.wrap .i64 (bt x0 (i : Int))) 97 122 <;> cases sl1In (IntKind.wrap .i64 (bt x0 (i : Int))) 48 57 <;> rfl
    · have h1 : decide ((i : Int) < ((x0.size : Nat) : Int)) = false := decide_eq_false (by omega)
      simp only [sp_sKeyOk_0, st_sKeyOk_0, RT.val, h1, cond_false]
theorem rd_sKeyOk_0 : ∀ d base killed, execC Try.prog tt S7 QF7 (fun _ _ => none) 0 body_sKeyOk_0 (S_sKeyOk_0.st d base killed) (fun e s' => some (e, S_sKeyOk_0.cutE (kepts [2] [(0, [0])]) e s')) = (sp_sKeyOk_0 d).opt base killed := by
  intro d base killed
  kernel_rfl
abbrev say_sKeyOk_0 : St → Option Tree := S_sKeyOk_0.say [] (fun d => T_sKeyOk_0 d.1.1 d.1.2.2.2.1)
theorem lw_sKeyOk_0 : LoopWp Try.prog say_sKeyOk_0 body_sKeyOk_0 := SS.wp G7 (fun _ _ => none) (by rw [show loopsIn 0 body_sKeyOk_0 = [] by kernel_rfl]; simp) S_sKeyOk_0 (kepts [2] [(0, [0])]) [] sp_sKeyOk_0 rd_sKeyOk_0 _ (fun d => R_sKeyOk_0 d.1.1 d.1.2.2.2.1)
def sKeyOk (a0 : ByteArray) : Bool := (cond (allF (sKeyAt a0) (a0.size - (0 : Int).toNat) (0 : Int).toNat) (sl1In ((a0.size : Nat) : Int) (1 : Int) (12 : Int)) false)
abbrev e_sKeyOk (r : Bool) : AV × List AObj := ((.t true .bool r), [])
abbrev g_sKeyOk : pshsDen P_sKeyOk → AV × List AObj := fun d => e_sKeyOk (sKeyOk d.1)
def q_sKeyOk (a0 : ByteArray) : Bool := okS a0
abbrev pre_sKeyOk : pshsDen P_sKeyOk → Bool := fun d => q_sKeyOk d.1
theorem runA_sKeyOk (a0 : ByteArray) (hp : (okS a0) = true) : runP true Try.prog tt S7 QF7 (fun b => match b with | 0 => say_sKeyOk_0 | _ => fun _ => none) Try.f149 (argsMk P_sKeyOk (a0, ())) = some (g_sKeyOk (a0, ())) := by
  refine Eq.trans (b := (cond (decide (0 ≤ (0 : Int)) && okS a0) (cond (allF (sKeyAt a0) (a0.size - (0 : Int).toNat) (0 : Int).toNat) (some (e_sKeyOk (sl1In ((a0.size : Nat) : Int) (1 : Int) (12 : Int)))) (some (e_sKeyOk false))) none)) (by kernel_rfl) ?_
  exact (cndT (by first | rfl | decide | exact hp | (simp [*]; done) | (simp [okL] at hp; simp [okL, MAXB]; omega) | (simp_all; done) | (simp at *; omega)) (fun _h => (cnd (F := fun r => some (e_sKeyOk r)) (fun _h => rfl) (fun _h => rfl))))
theorem run_sKeyOk : ∀ d, pre_sKeyOk d = true → runP true Try.prog tt S7 QF7 (fun b => match b with | 0 => say_sKeyOk_0 | _ => fun _ => none) Try.f149 (argsMk P_sKeyOk d) = some (g_sKeyOk d) := fun d hp => runA_sKeyOk d.1 hp
theorem c_sKeyOk : PContract Try.prog 149 (sumOf P_sKeyOk pre_sKeyOk g_sKeyOk) := PContract.of_data true G7 (fn := Try.f149) (by kernel_rfl) (L := fun b => match b with | 0 => say_sKeyOk_0 | _ => fun _ => none) (by rw [show loopsIn 0 (bodyOf Try.f149) = [(0, body_sKeyOk_0)] by kernel_rfl]; intro p hp; simp only [List.mem_singleton] at hp; subst hp; exact lw_sKeyOk_0) P_sKeyOk pre_sKeyOk g_sKeyOk run_sKeyOk
def S8 : Tab := Tab.add S7 149 (lift (sumOf P_sKeyOk pre_sKeyOk g_sKeyOk))
def QF8 : FuncId → Bool := qadd QF7 149
theorem G8 : Good Try.prog tt S8 QF8 := G7.addQ c_sKeyOk ⟨Try.f149, by kernel_rfl, by kernel_rfl, by kernel_rfl⟩ (fun _ => rfl)

/-! 122 loop.example/g00244/spec.l7Op -/
abbrev P_sl7Op : List PSh := [.agg [(.int .i64), .str, .str]]
def sl7Op (a0 : Int) (a1 : ByteArray) (a2 : ByteArray) : Bool := (cond (!(sl1In a0 (1 : Int) (3 : Int))) false (cond (a0 == (2 : Int)) (cond (!(a2.toList == (⟨#[]⟩ : ByteArray).toList)) false (cond (sKeyOk a1) (decide (((a2.size : Nat) : Int) ≤ (20 : Int))) false)) (cond (sKeyOk a1) (decide (((a2.size : Nat) : Int) ≤ (20 : Int))) false)))
abbrev e_sl7Op (r : Bool) : AV × List AObj := ((.t true .bool r), [])
abbrev g_sl7Op : pshsDen P_sl7Op → AV × List AObj := fun d => e_sl7Op (sl7Op d.1.1 d.1.2.1 d.1.2.2.1)
def q_sl7Op (a0 : Int) (a1 : ByteArray) (a2 : ByteArray) : Bool := okS a1
abbrev pre_sl7Op : pshsDen P_sl7Op → Bool := fun d => q_sl7Op d.1.1 d.1.2.1 d.1.2.2.1
theorem runA_sl7Op (a0 : Int) (a1 : ByteArray) (a2 : ByteArray) (hp : (okS a1) = true) : runP true Try.prog tt S8 QF8 (fun _ _ => none) Try.f122 (argsMk P_sl7Op ((a0, (a1, (a2, ()))), ())) = some (g_sl7Op ((a0, (a1, (a2, ()))), ())) := by
  refine Eq.trans (b := (cond (!(sl1In a0 (1 : Int) (3 : Int))) (some (e_sl7Op false)) (cond (a0 == (2 : Int)) (cond (!(a2.toList == (⟨#[]⟩ : ByteArray).toList)) (some (e_sl7Op false)) (cond (q_sKeyOk a1) (cond (sKeyOk a1) (some (e_sl7Op (decide (((a2.size : Nat) : Int) ≤ (20 : Int))))) (some (e_sl7Op false))) none)) (cond (q_sKeyOk a1) (cond (sKeyOk a1) (some (e_sl7Op (decide (((a2.size : Nat) : Int) ≤ (20 : Int))))) (some (e_sl7Op false))) none)))) (by kernel_rfl) ?_
  exact (cnd (F := fun r => some (e_sl7Op r)) (fun _h => rfl) (fun _h => (cnd (F := fun r => some (e_sl7Op r)) (fun _h => (cnd (F := fun r => some (e_sl7Op r)) (fun _h => rfl) (fun _h => (cndT (by first | rfl | decide | exact hp | (simp [*]; done) | (simp [okL] at hp; simp [okL, MAXB]; omega) | (simp_all; done) | (simp at *; omega)) (fun _h => (cnd (F := fun r => some (e_sl7Op r)) (fun _h => rfl) (fun _h => rfl))))))) (fun _h => (cndT (by first | rfl | decide | exact hp | (simp [*]; done) | (simp [okL] at hp; simp [okL, MAXB]; omega) | (simp_all; done) | (simp at *; omega)) (fun _h => (cnd (F := fun r => some (e_sl7Op r)) (fun _h => rfl) (fun _h => rfl))))))))
theorem run_sl7Op : ∀ d, pre_sl7Op d = true → runP true Try.prog tt S8 QF8 (fun _ _ => none) Try.f122 (argsMk P_sl7Op d) = some (g_sl7Op d) := fun d hp => runA_sl7Op d.1.1 d.1.2.1 d.1.2.2.1 hp
theorem c_sl7Op : PContract Try.prog 122 (sumOf P_sl7Op pre_sl7Op g_sl7Op) := PContract.of_data true G8 (fn := Try.f122) (by kernel_rfl) (L := fun _ _ => none) (by rw [show loopsIn 0 (bodyOf Try.f122) = [] by kernel_rfl]; simp) P_sl7Op pre_sl7Op g_sl7Op run_sl7Op
def S9 : Tab := Tab.add S8 122 (lift (sumOf P_sl7Op pre_sl7Op g_sl7Op))
def QF9 : FuncId → Bool := qadd QF8 122
theorem G9 : Good Try.prog tt S9 QF9 := G8.addQ c_sl7Op ⟨Try.f122, by kernel_rfl, by kernel_rfl, by kernel_rfl⟩ (fun _ => rfl)

/-! 59 loop.example/g00244/spec.OpsOk -/
def sOpAt (l : List (Int × ByteArray × ByteArray)) (i : Nat) : Bool := sl7Op (l.getD i dOp).1 (l.getD i dOp).2.1 (l.getD i dOp).2.2 && (decide (i = 0) || Op.bytesLess (l.getD (i - 1) dOp).2.1.toList (l.getD i dOp).2.1.toList)
abbrev P_sOpsOk : List PSh := [.t (.sl (.pair (.int .i64) (.pair .str .str)))]
abbrev S_sOpsOk_0 : SS := ⟨[.t false (.sl (.pair (.int .i64) (.pair .str .str))), .junk, .junk, .t true (.int .i64), .junk, .junk, .junk, .junk, .junk, .junk, .junk, .junk, .junk, .junk, .junk, .junk, .junk, .junk, .junk, .junk, .junk, .junk, .junk, .junk, .junk, .junk, .junk, .junk, .junk, .junk, .junk, .junk, .junk, .junk, .junk, .junk, .junk], []⟩
abbrev E_sOpsOk_0_0 : SS := ⟨[.junk, .junk, .t true .bool, .junk, .junk, .junk, .junk, .junk, .junk, .junk, .junk, .junk, .junk, .junk, .junk, .junk, .junk, .junk, .junk, .junk, .junk, .junk, .junk, .junk, .junk, .junk, .junk, .junk, .junk, .junk, .junk, .junk, .junk, .junk, .junk, .junk, .junk], []⟩
abbrev E_sOpsOk_0_1 : SS := ⟨[.t false (.sl (.pair (.int .i64) (.pair .str .str))), .junk, .junk, .junk, .junk, .junk, .junk, .junk, .junk, .junk, .junk, .junk, .junk, .junk, .junk, .junk, .junk, .junk, .junk, .junk, .junk, .junk, .junk, .junk, .junk, .junk, .junk, .junk, .junk, .junk, .junk, .junk, .junk, .junk, .junk, .junk, .junk], []⟩
def st_sOpsOk_0 (x0 : List (Int × ByteArray × ByteArray)) (x3 : Int) : RT S_sOpsOk_0.den := (.br (decide (x3 < ((x0.length : Nat) : Int))) (.br (decide (0 ≤ x3 ∧ x3 < ((x0.length : Nat) : Int))) (.br (q_sl7Op ((x0.getD x3.toNat ((0 : Int), ((⟨#[]⟩ : ByteArray), (⟨#[]⟩ : ByteArray)))).1) (((x0.getD x3.toNat ((0 : Int), ((⟨#[]⟩ : ByteArray), (⟨#[]⟩ : ByteArray)))).2).1) (((x0.getD x3.toNat ((0 : Int), ((⟨#[]⟩ : ByteArray), (⟨#[]⟩ : ByteArray)))).2).2)) (.br (!(sl7Op ((x0.getD x3.toNat ((0 : Int), ((⟨#[]⟩ : ByteArray), (⟨#[]⟩ : ByteArray)))).1) (((x0.getD x3.toNat ((0 : Int), ((⟨#[]⟩ : ByteArray), (⟨#[]⟩ : ByteArray)))).2).1) (((x0.getD x3.toNat ((0 : Int), ((⟨#[]⟩ : ByteArray), (⟨#[]⟩ : ByteArray)))).2).2))) (.done .ret E_sOpsOk_0_0 (((), (), false, (), (), (), (), (), (), (), (), (), (), (), (), (), (), (), (), (), (), (), (), (), (), (), (), (), (), (), (), (), (), (), (), (), (), ()), ())) (.br (decide (x3 > (0 : Int))) (.br (decide (0 ≤ (IntKind.wrap .i64 (x3 - (1 : Int))) ∧ (IntKind.wrap .i64 (x3 - (1 : Int))) < ((x0.length : Nat) : Int))) (.br (decide (0 ≤ x3 ∧ x3 < ((x0.length : Nat) : Int))) (.br (!(Op.bytesLess (((x0.getD ((IntKind.wrap .i64 (x3 - (1 : Int))).toNat) ((0 : Int), ((⟨#[]⟩ : ByteArray), (⟨#[]⟩ : ByteArray)))).2).1).toList (((x0.getD x3.toNat ((0 : Int), ((⟨#[]⟩ : ByteArray), (⟨#[]⟩ : ByteArray)))).2).1).toList)) (.done .ret E_sOpsOk_0_0 (((), (), false, (), (), (), (), (), (), (), (), (), (), (), (), (), (), (), (), (), (), (), (), (), (), (), (), (), (), (), (), (), (), (), (), (), (), ()), ())) (.next ((x0, (), (), IntKind.wrap .i64 (x3 + (1 : Int)), (), (), (), (), (), (), (), (), (), (), (), (), (), (), (), (), (), (), (), (), (), (), (), (), (), (), (), (), (), (), (), (), (), ()), ()))) .fail) .fail) (.next ((x0, (), (), IntKind.wrap .i64 (x3 + (1 : Int)), (), (), (), (), (), (), (), (), (), (), (), (), (), (), (), (), (), (), (), (), (), (), (), (), (), (), (), (), (), (), (), (), (), ()), ())))) .fail) .fail) (.done (.exit 0) E_sOpsOk_0_1 ((x0, (), (), (), (), (), (), (), (), (), (), (), (), (), (), (), (), (), (), (), (), (), (), (), (), (), (), (), (), (), (), (), (), (), (), (), (), ()), ())))
def T_sOpsOk_0 (x0 : List (Int × ByteArray × ByteArray)) (x3 : Int) : CT := (.br (decide (0 ≤ x3) && okOps x0) (.br (allF (sOpAt x0) (x0.length - x3.toNat) x3.toNat) (.done (.exit 0) E_sOpsOk_0_1 ((x0, (), (), (), (), (), (), (), (), (), (), (), (), (), (), (), (), (), (), (), (), (), (), (), (), (), (), (), (), (), (), (), (), (), (), (), (), ()), ())) (.done .ret E_sOpsOk_0_0 (((), (), false, (), (), (), (), (), (), (), (), (), (), (), (), (), (), (), (), (), (), (), (), (), (), (), (), (), (), (), (), (), (), (), (), (), (), ()), ()))) .fail)
abbrev sp_sOpsOk_0 : S_sOpsOk_0.den → RT S_sOpsOk_0.den := fun d => st_sOpsOk_0 d.1.1 d.1.2.2.2.1
abbrev pk_sOpsOk_0 (x0 : List (Int × ByteArray × ByteArray)) (x3 : Int) : S_sOpsOk_0.den := ((x0, (), (), x3, (), (), (), (), (), (), (), (), (), (), (), (), (), (), (), (), (), (), (), (), (), (), (), (), (), (), (), (), (), (), (), (), (), ()), ())
noncomputable def body_sOpsOk_0 : Code := ((loopsIn 0 (bodyOf Try.f59)).getD 0 (0, .skip)).2
theorem R_sOpsOk_0 (x0 : List (Int × ByteArray × ByteArray)) (x3 : Int) : (T_sOpsOk_0 x0 x3).val (D := S_sOpsOk_0.den) = .fail ∨ Runs sp_sOpsOk_0 (pk_sOpsOk_0 x0 x3) (T_sOpsOk_0 x0 x3).val := by
  cases hc : (decide (0 ≤ x3) && okOps x0) with
  | false => left; simp only [T_sOpsOk_0, CT.val, hc, cond_false]
  | true =>
    right
    simp only [T_sOpsOk_0, CT.val, hc, cond_true]
    simp only [Bool.and_eq_true, decide_eq_true_eq] at hc
    obtain ⟨i, rfl⟩ := Int.eq_ofNat_of_zero_le hc.1
    have hs := okOps_len hc.2
    simp only [Int.toNat_natCast]
    refine Runs.scan (fun j => pk_sOpsOk_0 x0 (j : Int)) (x0.length) (sOpAt x0) (fun i hi => ?_) (fun i hi => ?_) ⟨_, _, _, rfl, by simp⟩ ⟨_, _, _, rfl, by simp⟩ _ _ rfl
    · 
      have h0a : decide ((i : Int) < ((x0.length : Nat) : Int)) = true := decide_eq_true (by omega)
      have h0b : decide (0 ≤ (i : Int) ∧ (i : Int) < ((x0.length : Nat) : Int)) = true := decide_eq_true (by omega)
      simp only [sp_sOpsOk_0, st_sOpsOk_0, RT.val, h0a, h0b, cond_true, wrapS i (by omega), Int.toNat_natCast]
      have hq : q_sl7Op (x0.getD i dOp).1 (x0.getD i dOp).2.1 (x0.getD i dOp).2.2 = true := (okOps_at hc.2 i hi).1
      simp only [dOp] at hq
      simp only [hq, cond_true, sOpAt, dOp]
      cases sl7Op (x0.getD i ((0 : Int), ((⟨#[]⟩ : ByteArray), (⟨#[]⟩ : ByteArray)))).1 (x0.getD i ((0 : Int), ((⟨#[]⟩ : ByteArray), (⟨#[]⟩ : ByteArray)))).2.1 (x0.getD i ((0 : Int), ((⟨#[]⟩ : ByteArray), (⟨#[]⟩ : ByteArray)))).2.2 with
      | false => rfl
      | true =>
        cases i with
        | zero => rfl
        | succ i =>
          have h3 : decide (((i + 1 : Nat) : Int) > 0) = true := decide_eq_true (by omega)
          have h4 : IntKind.wrap .i64 (((i + 1 : Nat) : Int) - 1) = (i : Int) := by have := wrap64 (n := ((i + 1 : Nat) : Int) - 1) (by omega) (by omega); omega
          have h5 : decide (0 ≤ (i : Int) ∧ (i : Int) < ((x0.length : Nat) : Int)) = true := decide_eq_true (by omega)
          have h6 : decide (i + 1 = 0) = false := by simp
          simp only [h3, h4, h5, h6, cond_true, Bool.true_and, Bool.false_or, Int.toNat_natCast, Nat.add_sub_cancel, Bool.not_true, cond_false]
          cases Op.bytesLess (x0.getD i ((0 : Int), ((⟨#[]⟩ : ByteArray), (⟨#[]⟩ : ByteArray)))).2.1.toList (x0.getD (i + 1) ((0 : Int), ((⟨#[]⟩ : ByteArray), (⟨#[]⟩ : ByteArray)))).2.1.toList <;> rfl
    · have h1 : decide ((i : Int) < ((x0.length : Nat) : Int)) = false := decide_eq_false (by omega)
      simp only [sp_sOpsOk_0, st_sOpsOk_0, RT.val, h1, cond_false]
theorem rd_sOpsOk_0 : ∀ d base killed, execC Try.prog tt S9 QF9 (fun _ _ => none) 0 body_sOpsOk_0 (S_sOpsOk_0.st d base killed) (fun e s' => some (e, S_sOpsOk_0.cutE (kepts [2] [(0, [0])]) e s')) = (sp_sOpsOk_0 d).opt base killed := by
  intro d base killed
  kernel_rfl
abbrev say_sOpsOk_0 : St → Option Tree := S_sOpsOk_0.say [] (fun d => T_sOpsOk_0 d.1.1 d.1.2.2.2.1)
theorem lw_sOpsOk_0 : LoopWp Try.prog say_sOpsOk_0 body_sOpsOk_0 := SS.wp G9 (fun _ _ => none) (by rw [show loopsIn 0 body_sOpsOk_0 = [] by kernel_rfl]; simp) S_sOpsOk_0 (kepts [2] [(0, [0])]) [] sp_sOpsOk_0 rd_sOpsOk_0 _ (fun d => R_sOpsOk_0 d.1.1 d.1.2.2.2.1)
def sOpsOk (a0 : List (Int × ByteArray × ByteArray)) : Bool := (cond (allF (sOpAt a0) (a0.length - (0 : Int).toNat) (0 : Int).toNat) (sl1In ((a0.length : Nat) : Int) (1 : Int) (8 : Int)) false)
abbrev e_sOpsOk (r : Bool) : AV × List AObj := ((.t true .bool r), [])
abbrev g_sOpsOk : pshsDen P_sOpsOk → AV × List AObj := fun d => e_sOpsOk (sOpsOk d.1)
def q_sOpsOk (a0 : List (Int × ByteArray × ByteArray)) : Bool := okOps a0
abbrev pre_sOpsOk : pshsDen P_sOpsOk → Bool := fun d => q_sOpsOk d.1
theorem runA_sOpsOk (a0 : List (Int × ByteArray × ByteArray)) (hp : (okOps a0) = true) : runP true Try.prog tt S9 QF9 (fun b => match b with | 0 => say_sOpsOk_0 | _ => fun _ => none) Try.f59 (argsMk P_sOpsOk (a0, ())) = some (g_sOpsOk (a0, ())) := by
  refine Eq.trans (b := (cond (decide (0 ≤ (0 : Int)) && okOps a0) (cond (allF (sOpAt a0) (a0.length - (0 : Int).toNat) (0 : Int).toNat) (some (e_sOpsOk (sl1In ((a0.length : Nat) : Int) (1 : Int) (8 : Int)))) (some (e_sOpsOk false))) none)) (by kernel_rfl) ?_
  exact (cndT (by first | rfl | decide | exact hp | (simp [*]; done) | (simp [okL] at hp; simp [okL, MAXB]; omega) | (simp_all; done) | (simp at *; omega)) (fun _h => (cnd (F := fun r => some (e_sOpsOk r)) (fun _h => rfl) (fun _h => rfl))))
theorem run_sOpsOk : ∀ d, pre_sOpsOk d = true → runP true Try.prog tt S9 QF9 (fun b => match b with | 0 => say_sOpsOk_0 | _ => fun _ => none) Try.f59 (argsMk P_sOpsOk d) = some (g_sOpsOk d) := fun d hp => runA_sOpsOk d.1 hp
theorem c_sOpsOk : PContract Try.prog 59 (sumOf P_sOpsOk pre_sOpsOk g_sOpsOk) := PContract.of_data true G9 (fn := Try.f59) (by kernel_rfl) (L := fun b => match b with | 0 => say_sOpsOk_0 | _ => fun _ => none) (by rw [show loopsIn 0 (bodyOf Try.f59) = [(0, body_sOpsOk_0)] by kernel_rfl]; intro p hp; simp only [List.mem_singleton] at hp; subst hp; exact lw_sOpsOk_0) P_sOpsOk pre_sOpsOk g_sOpsOk run_sOpsOk
def S10 : Tab := Tab.add S9 59 (lift (sumOf P_sOpsOk pre_sOpsOk g_sOpsOk))
def QF10 : FuncId → Bool := qadd QF9 59
theorem G10 : Good Try.prog tt S10 QF10 := G9.addQ c_sOpsOk ⟨Try.f59, by kernel_rfl, by kernel_rfl, by kernel_rfl⟩ (fun _ => rfl)

/-! 21 loop.example/g00244/spec.WordOk -/
abbrev P_sWordOk : List PSh := [.agg [(.int .i64), (.int .i64), (.int .i64), (.sl (.pair (.int .i64) (.pair .str .str))), .bool]]
def sWordOk (a0 : Int) (a1 : Int) (a2 : Int) (a3 : List (Int × ByteArray × ByteArray)) (a4 : Bool) : Bool := (cond (!(sl1In a1 (0 : Int) (7 : Int))) false (cond (!(sl1In a2 (1 : Int) (1000000 : Int))) false (cond (a0 == (1 : Int)) (cond (sOpsOk a3) (!a4) false) (cond (a0 == (2 : Int)) (((a3.length : Nat) : Int) == (0 : Int)) (cond (a0 == (3 : Int)) (((a3.length : Nat) : Int) == (0 : Int)) (cond (a0 == (4 : Int)) (cond (((a3.length : Nat) : Int) == (0 : Int)) (!a4) false) false))))))
abbrev e_sWordOk (r : Bool) : AV × List AObj := ((.t true .bool r), [])
abbrev g_sWordOk : pshsDen P_sWordOk → AV × List AObj := fun d => e_sWordOk (sWordOk d.1.1 d.1.2.1 d.1.2.2.1 d.1.2.2.2.1 d.1.2.2.2.2.1)
def q_sWordOk (a0 : Int) (a1 : Int) (a2 : Int) (a3 : List (Int × ByteArray × ByteArray)) (a4 : Bool) : Bool := okOps a3
abbrev pre_sWordOk : pshsDen P_sWordOk → Bool := fun d => q_sWordOk d.1.1 d.1.2.1 d.1.2.2.1 d.1.2.2.2.1 d.1.2.2.2.2.1
theorem runA_sWordOk (a0 : Int) (a1 : Int) (a2 : Int) (a3 : List (Int × ByteArray × ByteArray)) (a4 : Bool) (hp : (okOps a3) = true) : runP true Try.prog tt S10 QF10 (fun _ _ => none) Try.f21 (argsMk P_sWordOk ((a0, (a1, (a2, (a3, (a4, ()))))), ())) = some (g_sWordOk ((a0, (a1, (a2, (a3, (a4, ()))))), ())) := by
  refine Eq.trans (b := (cond (!(sl1In a1 (0 : Int) (7 : Int))) (some (e_sWordOk false)) (cond (!(sl1In a2 (1 : Int) (1000000 : Int))) (some (e_sWordOk false)) (cond (a0 == (1 : Int)) (cond (q_sOpsOk a3) (cond (sOpsOk a3) (some (e_sWordOk (!a4))) (some (e_sWordOk false))) none) (cond (a0 == (2 : Int)) (some (e_sWordOk (((a3.length : Nat) : Int) == (0 : Int)))) (cond (a0 == (3 : Int)) (some (e_sWordOk (((a3.length : Nat) : Int) == (0 : Int)))) (cond (a0 == (4 : Int)) (cond (((a3.length : Nat) : Int) == (0 : Int)) (some (e_sWordOk (!a4))) (some (e_sWordOk false))) (some (e_sWordOk false))))))))) (by kernel_rfl) ?_
  exact (cnd (F := fun r => some (e_sWordOk r)) (fun _h => rfl) (fun _h => (cnd (F := fun r => some (e_sWordOk r)) (fun _h => rfl) (fun _h => (cnd (F := fun r => some (e_sWordOk r)) (fun _h => (cndT (by first | rfl | decide | exact hp | (simp [*]; done) | (simp [okL] at hp; simp [okL, MAXB]; omega) | (simp_all; done) | (simp at *; omega)) (fun _h => (cnd (F := fun r => some (e_sWordOk r)) (fun _h => rfl) (fun _h => rfl))))) (fun _h => (cnd (F := fun r => some (e_sWordOk r)) (fun _h => rfl) (fun _h => (cnd (F := fun r => some (e_sWordOk r)) (fun _h => rfl) (fun _h => (cnd (F := fun r => some (e_sWordOk r)) (fun _h => (cnd (F := fun r => some (e_sWordOk r)) (fun _h => rfl) (fun _h => rfl))) (fun _h => rfl))))))))))))
theorem run_sWordOk : ∀ d, pre_sWordOk d = true → runP true Try.prog tt S10 QF10 (fun _ _ => none) Try.f21 (argsMk P_sWordOk d) = some (g_sWordOk d) := fun d hp => runA_sWordOk d.1.1 d.1.2.1 d.1.2.2.1 d.1.2.2.2.1 d.1.2.2.2.2.1 hp
theorem c_sWordOk : PContract Try.prog 21 (sumOf P_sWordOk pre_sWordOk g_sWordOk) := PContract.of_data true G10 (fn := Try.f21) (by kernel_rfl) (L := fun _ _ => none) (by rw [show loopsIn 0 (bodyOf Try.f21) = [] by kernel_rfl]; simp) P_sWordOk pre_sWordOk g_sWordOk run_sWordOk
def S11 : Tab := Tab.add S10 21 (lift (sumOf P_sWordOk pre_sWordOk g_sWordOk))
def QF11 : FuncId → Bool := qadd QF10 21
theorem G11 : Good Try.prog tt S11 QF11 := G10.addQ c_sWordOk ⟨Try.f21, by kernel_rfl, by kernel_rfl, by kernel_rfl⟩ (fun _ => rfl)

/-! 89 loop.example/g00244/impl.inRange -/
abbrev P_iinRange : List PSh := [.t (.int .i64), .t (.int .i64), .t (.int .i64)]
def iinRange (a0 : Int) (a1 : Int) (a2 : Int) : Bool := (cond (decide (a0 ≥ a1)) (decide (a0 ≤ a2)) false)
abbrev e_iinRange (r : Bool) : AV × List AObj := ((.t true .bool r), [])
abbrev g_iinRange : pshsDen P_iinRange → AV × List AObj := fun d => e_iinRange (iinRange d.1 d.2.1 d.2.2.1)
abbrev pre_iinRange : pshsDen P_iinRange → Bool := fun d => true
theorem runA_iinRange (a0 : Int) (a1 : Int) (a2 : Int) : runP true Try.prog tt S11 QF11 (fun _ _ => none) Try.f89 (argsMk P_iinRange (a0, (a1, (a2, ())))) = some (g_iinRange (a0, (a1, (a2, ())))) := by
  refine Eq.trans (b := (cond (decide (a0 ≥ a1)) (some (e_iinRange (decide (a0 ≤ a2)))) (some (e_iinRange false)))) (by kernel_rfl) ?_
  exact (cnd (F := fun r => some (e_iinRange r)) (fun _h => rfl) (fun _h => rfl))
theorem run_iinRange : ∀ d, pre_iinRange d = true → runP true Try.prog tt S11 QF11 (fun _ _ => none) Try.f89 (argsMk P_iinRange d) = some (g_iinRange d) := fun d hp => runA_iinRange d.1 d.2.1 d.2.2.1
theorem c_iinRange : PContract Try.prog 89 (sumOf P_iinRange pre_iinRange g_iinRange) := PContract.of_data true G11 (fn := Try.f89) (by kernel_rfl) (L := fun _ _ => none) (by rw [show loopsIn 0 (bodyOf Try.f89) = [] by kernel_rfl]; simp) P_iinRange pre_iinRange g_iinRange run_iinRange
def S12 : Tab := Tab.add S11 89 (lift (sumOf P_iinRange pre_iinRange g_iinRange))
def QF12 : FuncId → Bool := qadd QF11 89
theorem G12 : Good Try.prog tt S12 QF12 := G11.addQ c_iinRange ⟨Try.f89, by kernel_rfl, by kernel_rfl, by kernel_rfl⟩ (fun _ => rfl)

/-! 85 loop.example/g00244/impl.isId -/
abbrev P_iisId : List PSh := [.t (.int .i64)]
def iisId (a0 : Int) : Bool := (iinRange a0 (0 : Int) (7 : Int))
abbrev e_iisId (r : Bool) : AV × List AObj := ((.t true .bool r), [])
abbrev g_iisId : pshsDen P_iisId → AV × List AObj := fun d => e_iisId (iisId d.1)
abbrev pre_iisId : pshsDen P_iisId → Bool := fun d => true
theorem runA_iisId (a0 : Int) : runP true Try.prog tt S12 QF12 (fun _ _ => none) Try.f85 (argsMk P_iisId (a0, ())) = some (g_iisId (a0, ())) := by
  kernel_rfl
theorem run_iisId : ∀ d, pre_iisId d = true → runP true Try.prog tt S12 QF12 (fun _ _ => none) Try.f85 (argsMk P_iisId d) = some (g_iisId d) := fun d hp => runA_iisId d.1
theorem c_iisId : PContract Try.prog 85 (sumOf P_iisId pre_iisId g_iisId) := PContract.of_data true G12 (fn := Try.f85) (by kernel_rfl) (L := fun _ _ => none) (by rw [show loopsIn 0 (bodyOf Try.f85) = [] by kernel_rfl]; simp) P_iisId pre_iisId g_iisId run_iisId
def S13 : Tab := Tab.add S12 85 (lift (sumOf P_iisId pre_iisId g_iisId))
def QF13 : FuncId → Bool := qadd QF12 85
theorem G13 : Good Try.prog tt S13 QF13 := G12.addQ c_iisId ⟨Try.f85, by kernel_rfl, by kernel_rfl, by kernel_rfl⟩ (fun _ => rfl)

/-! 84 loop.example/g00244/impl.isTx -/
abbrev P_iisTx : List PSh := [.t (.int .i64)]
def iisTx (a0 : Int) : Bool := (iinRange a0 (1 : Int) (1000000 : Int))
abbrev e_iisTx (r : Bool) : AV × List AObj := ((.t true .bool r), [])
abbrev g_iisTx : pshsDen P_iisTx → AV × List AObj := fun d => e_iisTx (iisTx d.1)
abbrev pre_iisTx : pshsDen P_iisTx → Bool := fun d => true
theorem runA_iisTx (a0 : Int) : runP true Try.prog tt S13 QF13 (fun _ _ => none) Try.f84 (argsMk P_iisTx (a0, ())) = some (g_iisTx (a0, ())) := by
  kernel_rfl
theorem run_iisTx : ∀ d, pre_iisTx d = true → runP true Try.prog tt S13 QF13 (fun _ _ => none) Try.f84 (argsMk P_iisTx d) = some (g_iisTx d) := fun d hp => runA_iisTx d.1
theorem c_iisTx : PContract Try.prog 84 (sumOf P_iisTx pre_iisTx g_iisTx) := PContract.of_data true G13 (fn := Try.f84) (by kernel_rfl) (L := fun _ _ => none) (by rw [show loopsIn 0 (bodyOf Try.f84) = [] by kernel_rfl]; simp) P_iisTx pre_iisTx g_iisTx run_iisTx
def S14 : Tab := Tab.add S13 84 (lift (sumOf P_iisTx pre_iisTx g_iisTx))
def QF14 : FuncId → Bool := qadd QF13 84
theorem G14 : Good Try.prog tt S14 QF14 := G13.addQ c_iisTx ⟨Try.f84, by kernel_rfl, by kernel_rfl, by kernel_rfl⟩ (fun _ => rfl)

/-! 177 loop.example/g00244/impl.isKeyByte -/
abbrev P_iisKeyByte : List PSh := [.t (.int .u8)]
def iisKeyByte (a0 : Int) : Bool := (cond (decide (a0 ≥ (97 : Int))) (cond (decide (a0 ≤ (122 : Int))) true (cond (decide (a0 ≥ (48 : Int))) (decide (a0 ≤ (57 : Int))) false)) (cond (decide (a0 ≥ (48 : Int))) (decide (a0 ≤ (57 : Int))) false))
abbrev e_iisKeyByte (r : Bool) : AV × List AObj := ((.t true .bool r), [])
abbrev g_iisKeyByte : pshsDen P_iisKeyByte → AV × List AObj := fun d => e_iisKeyByte (iisKeyByte d.1)
abbrev pre_iisKeyByte : pshsDen P_iisKeyByte → Bool := fun d => true
theorem runA_iisKeyByte (a0 : Int) : runP true Try.prog tt S14 QF14 (fun _ _ => none) Try.f177 (argsMk P_iisKeyByte (a0, ())) = some (g_iisKeyByte (a0, ())) := by
  refine Eq.trans (b := (cond (decide (a0 ≥ (97 : Int))) (cond (decide (a0 ≤ (122 : Int))) (some (e_iisKeyByte true)) (cond (decide (a0 ≥ (48 : Int))) (some (e_iisKeyByte (decide (a0 ≤ (57 : Int))))) (some (e_iisKeyByte false)))) (cond (decide (a0 ≥ (48 : Int))) (some (e_iisKeyByte (decide (a0 ≤ (57 : Int))))) (some (e_iisKeyByte false))))) (by kernel_rfl) ?_
  exact (cnd (F := fun r => some (e_iisKeyByte r)) (fun _h => (cnd (F := fun r => some (e_iisKeyByte r)) (fun _h => rfl) (fun _h => (cnd (F := fun r => some (e_iisKeyByte r)) (fun _h => rfl) (fun _h => rfl))))) (fun _h => (cnd (F := fun r => some (e_iisKeyByte r)) (fun _h => rfl) (fun _h => rfl))))
theorem run_iisKeyByte : ∀ d, pre_iisKeyByte d = true → runP true Try.prog tt S14 QF14 (fun _ _ => none) Try.f177 (argsMk P_iisKeyByte d) = some (g_iisKeyByte d) := fun d hp => runA_iisKeyByte d.1
theorem c_iisKeyByte : PContract Try.prog 177 (sumOf P_iisKeyByte pre_iisKeyByte g_iisKeyByte) := PContract.of_data true G14 (fn := Try.f177) (by kernel_rfl) (L := fun _ _ => none) (by rw [show loopsIn 0 (bodyOf Try.f177) = [] by kernel_rfl]; simp) P_iisKeyByte pre_iisKeyByte g_iisKeyByte run_iisKeyByte
def S15 : Tab := Tab.add S14 177 (lift (sumOf P_iisKeyByte pre_iisKeyByte g_iisKeyByte))
def QF15 : FuncId → Bool := qadd QF14 177
theorem G15 : Good Try.prog tt S15 QF15 := G14.addQ c_iisKeyByte ⟨Try.f177, by kernel_rfl, by kernel_rfl, by kernel_rfl⟩ (fun _ => rfl)

/-! 164 loop.example/g00244/impl.isWord -/
def iKeyAt (s : ByteArray) (i : Nat) : Bool := iisKeyByte (bt s (i : Int))
abbrev P_iisWord : List PSh := [.t .str]
abbrev S_iisWord_0 : SS := ⟨[.t true .str, .junk, .junk, .t true (.int .i64), .junk, .junk, .junk, .junk, .junk, .junk, .junk, .junk, .junk, .junk, .junk], []⟩
abbrev E_iisWord_0_0 : SS := ⟨[.junk, .junk, .t true .bool, .junk, .junk, .junk, .junk, .junk, .junk, .junk, .junk, .junk, .junk, .junk, .junk], []⟩
abbrev E_iisWord_0_1 : SS := ⟨[.junk, .junk, .junk, .junk, .junk, .junk, .junk, .junk, .junk, .junk, .junk, .junk, .junk, .junk, .junk], []⟩
def st_iisWord_0 (x0 : ByteArray) (x3 : Int) : RT S_iisWord_0.den := (.br (decide (x3 < ((x0.size : Nat) : Int))) (.br (decide (0 ≤ x3 ∧ x3 < ((x0.size : Nat) : Int))) (.br (!(iisKeyByte (bt x0 x3))) (.done .ret E_iisWord_0_0 (((), (), false, (), (), (), (), (), (), (), (), (), (), (), (), ()), ())) (.next ((x0, (), (), IntKind.wrap .i64 (x3 + (1 : Int)), (), (), (), (), (), (), (), (), (), (), (), ()), ()))) .fail) (.done (.exit 0) E_iisWord_0_1 (((), (), (), (), (), (), (), (), (), (), (), (), (), (), (), ()), ())))
def T_iisWord_0 (x0 : ByteArray) (x3 : Int) : CT := (.br (decide (0 ≤ x3) && okS x0) (.br (allF (iKeyAt x0) (x0.size - x3.toNat) x3.toNat) (.done (.exit 0) E_iisWord_0_1 (((), (), (), (), (), (), (), (), (), (), (), (), (), (), (), ()), ())) (.done .ret E_iisWord_0_0 (((), (), false, (), (), (), (), (), (), (), (), (), (), (), (), ()), ()))) .fail)
abbrev sp_iisWord_0 : S_iisWord_0.den → RT S_iisWord_0.den := fun d => st_iisWord_0 d.1.1 d.1.2.2.2.1
abbrev pk_iisWord_0 (x0 : ByteArray) (x3 : Int) : S_iisWord_0.den := ((x0, (), (), x3, (), (), (), (), (), (), (), (), (), (), (), ()), ())
noncomputable def body_iisWord_0 : Code := ((loopsIn 0 (bodyOf Try.f164)).getD 0 (0, .skip)).2
theorem R_iisWord_0 (x0 : ByteArray) (x3 : Int) : (T_iisWord_0 x0 x3).val (D := S_iisWord_0.den) = .fail ∨ Runs sp_iisWord_0 (pk_iisWord_0 x0 x3) (T_iisWord_0 x0 x3).val := by
  cases hc : (decide (0 ≤ x3) && okS x0) with
  | false => left; simp only [T_iisWord_0, CT.val, hc, cond_false]
  | true =>
    right
    simp only [T_iisWord_0, CT.val, hc, cond_true]
    simp only [Bool.and_eq_true, decide_eq_true_eq] at hc
    obtain ⟨i, rfl⟩ := Int.eq_ofNat_of_zero_le hc.1
    have hs := okS_le hc.2
    simp only [Int.toNat_natCast]
    refine Runs.scan (fun j => pk_iisWord_0 x0 (j : Int)) (x0.size) (iKeyAt x0) (fun i hi => ?_) (fun i hi => ?_) ⟨_, _, _, rfl, by simp⟩ ⟨_, _, _, rfl, by simp⟩ _ _ rfl
    · 
      have h0a : decide ((i : Int) < ((x0.size : Nat) : Int)) = true := decide_eq_true (by omega)
      have h0b : decide (0 ≤ (i : Int) ∧ (i : Int) < ((x0.size : Nat) : Int)) = true := decide_eq_true (by omega)
      simp only [sp_iisWord_0, st_iisWord_0, RT.val, h0a, h0b, cond_true, wrapS i (by omega), Int.toNat_natCast]
      simp only [iKeyAt]
      cases iisKeyByte (bt x0 (i : Int)) <;> rfl
    · have h1 : decide ((i : Int) < ((x0.size : Nat) : Int)) = false := decide_eq_false (by omega)
      simp only [sp_iisWord_0, st_iisWord_0, RT.val, h1, cond_false]
theorem rd_iisWord_0 : ∀ d base killed, execC Try.prog tt S15 QF15 (fun _ _ => none) 0 body_iisWord_0 (S_iisWord_0.st d base killed) (fun e s' => some (e, S_iisWord_0.cutE (kepts [2] [(0, [])]) e s')) = (sp_iisWord_0 d).opt base killed := by
  intro d base killed
  kernel_rfl
abbrev say_iisWord_0 : St → Option Tree := S_iisWord_0.say [] (fun d => T_iisWord_0 d.1.1 d.1.2.2.2.1)
theorem lw_iisWord_0 : LoopWp Try.prog say_iisWord_0 body_iisWord_0 := SS.wp G15 (fun _ _ => none) (by rw [show loopsIn 0 body_iisWord_0 = [] by kernel_rfl]; simp) S_iisWord_0 (kepts [2] [(0, [])]) [] sp_iisWord_0 rd_iisWord_0 _ (fun d => R_iisWord_0 d.1.1 d.1.2.2.2.1)
def iisWord (a0 : ByteArray) : Bool := (cond (allF (iKeyAt a0) (a0.size - (0 : Int).toNat) (0 : Int).toNat) true false)
abbrev e_iisWord (r : Bool) : AV × List AObj := ((.t true .bool r), [])
abbrev g_iisWord : pshsDen P_iisWord → AV × List AObj := fun d => e_iisWord (iisWord d.1)
def q_iisWord (a0 : ByteArray) : Bool := okS a0
abbrev pre_iisWord : pshsDen P_iisWord → Bool := fun d => q_iisWord d.1
theorem runA_iisWord (a0 : ByteArray) (hp : (okS a0) = true) : runP true Try.prog tt S15 QF15 (fun b => match b with | 0 => say_iisWord_0 | _ => fun _ => none) Try.f164 (argsMk P_iisWord (a0, ())) = some (g_iisWord (a0, ())) := by
  refine Eq.trans (b := (cond (decide (0 ≤ (0 : Int)) && okS a0) (cond (allF (iKeyAt a0) (a0.size - (0 : Int).toNat) (0 : Int).toNat) (some (e_iisWord true)) (some (e_iisWord false))) none)) (by kernel_rfl) ?_
  exact (cndT (by first | rfl | decide | exact hp | (simp [*]; done) | (simp [okL] at hp; simp [okL, MAXB]; omega) | (simp_all; done) | (simp at *; omega)) (fun _h => (cnd (F := fun r => some (e_iisWord r)) (fun _h => rfl) (fun _h => rfl))))
theorem run_iisWord : ∀ d, pre_iisWord d = true → runP true Try.prog tt S15 QF15 (fun b => match b with | 0 => say_iisWord_0 | _ => fun _ => none) Try.f164 (argsMk P_iisWord d) = some (g_iisWord d) := fun d hp => runA_iisWord d.1 hp
theorem c_iisWord : PContract Try.prog 164 (sumOf P_iisWord pre_iisWord g_iisWord) := PContract.of_data true G15 (fn := Try.f164) (by kernel_rfl) (L := fun b => match b with | 0 => say_iisWord_0 | _ => fun _ => none) (by rw [show loopsIn 0 (bodyOf Try.f164) = [(0, body_iisWord_0)] by kernel_rfl]; intro p hp; simp only [List.mem_singleton] at hp; subst hp; exact lw_iisWord_0) P_iisWord pre_iisWord g_iisWord run_iisWord
def S16 : Tab := Tab.add S15 164 (lift (sumOf P_iisWord pre_iisWord g_iisWord))
def QF16 : FuncId → Bool := qadd QF15 164
theorem G16 : Good Try.prog tt S16 QF16 := G15.addQ c_iisWord ⟨Try.f164, by kernel_rfl, by kernel_rfl, by kernel_rfl⟩ (fun _ => rfl)

/-! 150 loop.example/g00244/impl.KeyOk -/
abbrev P_iKeyOk : List PSh := [.t .str]
def iKeyOk (a0 : ByteArray) : Bool := (cond (iinRange ((a0.size : Nat) : Int) (1 : Int) (12 : Int)) (iisWord a0) false)
abbrev e_iKeyOk (r : Bool) : AV × List AObj := ((.t true .bool r), [])
abbrev g_iKeyOk : pshsDen P_iKeyOk → AV × List AObj := fun d => e_iKeyOk (iKeyOk d.1)
def q_iKeyOk (a0 : ByteArray) : Bool := okS a0
abbrev pre_iKeyOk : pshsDen P_iKeyOk → Bool := fun d => q_iKeyOk d.1
theorem runA_iKeyOk (a0 : ByteArray) (hp : (okS a0) = true) : runP true Try.prog tt S16 QF16 (fun _ _ => none) Try.f150 (argsMk P_iKeyOk (a0, ())) = some (g_iKeyOk (a0, ())) := by
  refine Eq.trans (b := (cond (iinRange ((a0.size : Nat) : Int) (1 : Int) (12 : Int)) (cond (q_iisWord a0) (some (e_iKeyOk (iisWord a0))) none) (some (e_iKeyOk false)))) (by kernel_rfl) ?_
  exact (cnd (F := fun r => some (e_iKeyOk r)) (fun _h => (cndT (by first | rfl | decide | exact hp | (simp [*]; done) | (simp [okL] at hp; simp [okL, MAXB]; omega) | (simp_all; done) | (simp at *; omega)) (fun _h => rfl))) (fun _h => rfl))
theorem run_iKeyOk : ∀ d, pre_iKeyOk d = true → runP true Try.prog tt S16 QF16 (fun _ _ => none) Try.f150 (argsMk P_iKeyOk d) = some (g_iKeyOk d) := fun d hp => runA_iKeyOk d.1 hp
theorem c_iKeyOk : PContract Try.prog 150 (sumOf P_iKeyOk pre_iKeyOk g_iKeyOk) := PContract.of_data true G16 (fn := Try.f150) (by kernel_rfl) (L := fun _ _ => none) (by rw [show loopsIn 0 (bodyOf Try.f150) = [] by kernel_rfl]; simp) P_iKeyOk pre_iKeyOk g_iKeyOk run_iKeyOk
def S17 : Tab := Tab.add S16 150 (lift (sumOf P_iKeyOk pre_iKeyOk g_iKeyOk))
def QF17 : FuncId → Bool := qadd QF16 150
theorem G17 : Good Try.prog tt S17 QF17 := G16.addQ c_iKeyOk ⟨Try.f150, by kernel_rfl, by kernel_rfl, by kernel_rfl⟩ (fun _ => rfl)

/-! 123 loop.example/g00244/impl.opOk -/
abbrev P_iopOk : List PSh := [.agg [(.int .i64), .str, .str]]
def iopOk (a0 : Int) (a1 : ByteArray) (a2 : ByteArray) : Bool := (cond (a0 == (1 : Int)) (cond (iKeyOk a1) (decide (((a2.size : Nat) : Int) ≤ (20 : Int))) false) (cond (a0 == (3 : Int)) (cond (iKeyOk a1) (decide (((a2.size : Nat) : Int) ≤ (20 : Int))) false) (cond (a0 == (2 : Int)) (cond (iKeyOk a1) (a2.toList == (⟨#[]⟩ : ByteArray).toList) false) false)))
abbrev e_iopOk (r : Bool) : AV × List AObj := ((.t true .bool r), [])
abbrev g_iopOk : pshsDen P_iopOk → AV × List AObj := fun d => e_iopOk (iopOk d.1.1 d.1.2.1 d.1.2.2.1)
def q_iopOk (a0 : Int) (a1 : ByteArray) (a2 : ByteArray) : Bool := okS a1
abbrev pre_iopOk : pshsDen P_iopOk → Bool := fun d => q_iopOk d.1.1 d.1.2.1 d.1.2.2.1
theorem runA_iopOk (a0 : Int) (a1 : ByteArray) (a2 : ByteArray) (hp : (okS a1) = true) : runP true Try.prog tt S17 QF17 (fun _ _ => none) Try.f123 (argsMk P_iopOk ((a0, (a1, (a2, ()))), ())) = some (g_iopOk ((a0, (a1, (a2, ()))), ())) := by
  refine Eq.trans (b := (cond (a0 == (1 : Int)) (cond (q_iKeyOk a1) (cond (iKeyOk a1) (some (e_iopOk (decide (((a2.size : Nat) : Int) ≤ (20 : Int))))) (some (e_iopOk false))) none) (cond (a0 == (3 : Int)) (cond (q_iKeyOk a1) (cond (iKeyOk a1) (some (e_iopOk (decide (((a2.size : Nat) : Int) ≤ (20 : Int))))) (some (e_iopOk false))) none) (cond (a0 == (2 : Int)) (cond (q_iKeyOk a1) (cond (iKeyOk a1) (some (e_iopOk (a2.toList == (⟨#[]⟩ : ByteArray).toList))) (some (e_iopOk false))) none) (some (e_iopOk false)))))) (by kernel_rfl) ?_
  exact (cnd (F := fun r => some (e_iopOk r)) (fun _h => (cndT (by first | rfl | decide | exact hp | (simp [*]; done) | (simp [okL] at hp; simp [okL, MAXB]; omega) | (simp_all; done) | (simp at *; omega)) (fun _h => (cnd (F := fun r => some (e_iopOk r)) (fun _h => rfl) (fun _h => rfl))))) (fun _h => (cnd (F := fun r => some (e_iopOk r)) (fun _h => (cndT (by first | rfl | decide | exact hp | (simp [*]; done) | (simp [okL] at hp; simp [okL, MAXB]; omega) | (simp_all; done) | (simp at *; omega)) (fun _h => (cnd (F := fun r => some (e_iopOk r)) (fun _h => rfl) (fun _h => rfl))))) (fun _h => (cnd (F := fun r => some (e_iopOk r)) (fun _h => (cndT (by first | rfl | decide | exact hp | (simp [*]; done) | (simp [okL] at hp; simp [okL, MAXB]; omega) | (simp_all; done) | (simp at *; omega)) (fun _h => (cnd (F := fun r => some (e_iopOk r)) (fun _h => rfl) (fun _h => rfl))))) (fun _h => rfl))))))
theorem run_iopOk : ∀ d, pre_iopOk d = true → runP true Try.prog tt S17 QF17 (fun _ _ => none) Try.f123 (argsMk P_iopOk d) = some (g_iopOk d) := fun d hp => runA_iopOk d.1.1 d.1.2.1 d.1.2.2.1 hp
theorem c_iopOk : PContract Try.prog 123 (sumOf P_iopOk pre_iopOk g_iopOk) := PContract.of_data true G17 (fn := Try.f123) (by kernel_rfl) (L := fun _ _ => none) (by rw [show loopsIn 0 (bodyOf Try.f123) = [] by kernel_rfl]; simp) P_iopOk pre_iopOk g_iopOk run_iopOk
def S18 : Tab := Tab.add S17 123 (lift (sumOf P_iopOk pre_iopOk g_iopOk))
def QF18 : FuncId → Bool := qadd QF17 123
theorem G18 : Good Try.prog tt S18 QF18 := G17.addQ c_iopOk ⟨Try.f123, by kernel_rfl, by kernel_rfl, by kernel_rfl⟩ (fun _ => rfl)

/-! 60 loop.example/g00244/impl.OpsOk -/
def iOpAt (l : List (Int × ByteArray × ByteArray)) (i : Nat) : Bool := iopOk (l.getD i dOp).1 (l.getD i dOp).2.1 (l.getD i dOp).2.2 && (decide (i = 0) || !(Op.bytesLess (l.getD i dOp).2.1.toList (l.getD (i - 1) dOp).2.1.toList || ((l.getD i dOp).2.1.toList == (l.getD (i - 1) dOp).2.1.toList)))
abbrev P_iOpsOk : List PSh := [.t (.sl (.pair (.int .i64) (.pair .str .str)))]
abbrev S_iOpsOk_0 : SS := ⟨[.t false (.sl (.pair (.int .i64) (.pair .str .str))), .junk, .junk, .junk, .junk, .t false (.sl (.pair (.int .i64) (.pair .str .str))), .t true (.int .i64), .t true (.int .i64), .junk, .junk, .junk, .junk, .junk, .junk, .junk, .junk, .junk, .junk, .junk, .junk, .junk, .junk, .junk, .junk, .junk, .junk, .junk, .junk, .junk, .junk, .junk, .junk, .junk, .junk], []⟩
abbrev E_iOpsOk_0_0 : SS := ⟨[.junk, .junk, .t true .bool, .junk, .junk, .junk, .junk, .junk, .junk, .junk, .junk, .junk, .junk, .junk, .junk, .junk, .junk, .junk, .junk, .junk, .junk, .junk, .junk, .junk, .junk, .junk, .junk, .junk, .junk, .junk, .junk, .junk, .junk, .junk], []⟩
abbrev E_iOpsOk_0_1 : SS := ⟨[.t false (.sl (.pair (.int .i64) (.pair .str .str))), .junk, .junk, .junk, .junk, .junk, .junk, .junk, .junk, .junk, .junk, .junk, .junk, .junk, .junk, .junk, .junk, .junk, .junk, .junk, .junk, .junk, .junk, .junk, .junk, .junk, .junk, .junk, .junk, .junk, .junk, .junk, .junk, .junk], []⟩
def st_iOpsOk_0 (x0 : List (Int × ByteArray × ByteArray)) (x5 : List (Int × ByteArray × ByteArray)) (x6 : Int) (x7 : Int) : RT S_iOpsOk_0.den := (.br (decide (x7 < x6)) (.br (decide (0 ≤ x7 ∧ x7 < ((x5.length : Nat) : Int))) (.br (q_iopOk ((x5.getD x7.toNat ((0 : Int), ((⟨#[]⟩ : ByteArray), (⟨#[]⟩ : ByteArray)))).1) (((x5.getD x7.toNat ((0 : Int), ((⟨#[]⟩ : ByteArray), (⟨#[]⟩ : ByteArray)))).2).1) (((x5.getD x7.toNat ((0 : Int), ((⟨#[]⟩ : ByteArray), (⟨#[]⟩ : ByteArray)))).2).2)) (.br (!(iopOk ((x5.getD x7.toNat ((0 : Int), ((⟨#[]⟩ : ByteArray), (⟨#[]⟩ : ByteArray)))).1) (((x5.getD x7.toNat ((0 : Int), ((⟨#[]⟩ : ByteArray), (⟨#[]⟩ : ByteArray)))).2).1) (((x5.getD x7.toNat ((0 : Int), ((⟨#[]⟩ : ByteArray), (⟨#[]⟩ : ByteArray)))).2).2))) (.done .ret E_iOpsOk_0_0 (((), (), false, (), (), (), (), (), (), (), (), (), (), (), (), (), (), (), (), (), (), (), (), (), (), (), (), (), (), (), (), (), (), (), ()), ())) (.br (decide (x7 > (0 : Int))) (.br (decide (0 ≤ (IntKind.wrap .i64 (x7 - (1 : Int))) ∧ (IntKind.wrap .i64 (x7 - (1 : Int))) < ((x0.length : Nat) : Int))) (.br (Op.bytesLess (((x5.getD x7.toNat ((0 : Int), ((⟨#[]⟩ : ByteArray), (⟨#[]⟩ : ByteArray)))).2).1).toList (((x0.getD ((IntKind.wrap .i64 (x7 - (1 : Int))).toNat) ((0 : Int), ((⟨#[]⟩ : ByteArray), (⟨#[]⟩ : ByteArray)))).2).1).toList || ((((x5.getD x7.toNat ((0 : Int), ((⟨#[]⟩ : ByteArray), (⟨#[]⟩ : ByteArray)))).2).1).toList == (((x0.getD ((IntKind.wrap .i64 (x7 - (1 : Int))).toNat) ((0 : Int), ((⟨#[]⟩ : ByteArray), (⟨#[]⟩ : ByteArray)))).2).1).toList)) (.done .ret E_iOpsOk_0_0 (((), (), false, (), (), (), (), (), (), (), (), (), (), (), (), (), (), (), (), (), (), (), (), (), (), (), (), (), (), (), (), (), (), (), ()), ())) (.next ((x0, (), (), (), (), x5, x6, IntKind.wrap .i64 (x7 + (1 : Int)), (), (), (), (), (), (), (), (), (), (), (), (), (), (), (), (), (), (), (), (), (), (), (), (), (), (), ()), ()))) .fail) (.next ((x0, (), (), (), (), x5, x6, IntKind.wrap .i64 (x7 + (1 : Int)), (), (), (), (), (), (), (), (), (), (), (), (), (), (), (), (), (), (), (), (), (), (), (), (), (), (), ()), ())))) .fail) .fail) (.done (.exit 0) E_iOpsOk_0_1 ((x0, (), (), (), (), (), (), (), (), (), (), (), (), (), (), (), (), (), (), (), (), (), (), (), (), (), (), (), (), (), (), (), (), (), ()), ())))
def T_iOpsOk_0 (x0 : List (Int × ByteArray × ByteArray)) (x5 : List (Int × ByteArray × ByteArray)) (x6 : Int) (x7 : Int) : CT := (.br (decide (0 ≤ x7) && (decide (x6 = ((x5.length : Nat) : Int)) && (decide (x5 = x0) && okOps x5))) (.br (allF (iOpAt x5) (x5.length - x7.toNat) x7.toNat) (.done (.exit 0) E_iOpsOk_0_1 ((x0, (), (), (), (), (), (), (), (), (), (), (), (), (), (), (), (), (), (), (), (), (), (), (), (), (), (), (), (), (), (), (), (), (), ()), ())) (.done .ret E_iOpsOk_0_0 (((), (), false, (), (), (), (), (), (), (), (), (), (), (), (), (), (), (), (), (), (), (), (), (), (), (), (), (), (), (), (), (), (), (), ()), ()))) .fail)
abbrev sp_iOpsOk_0 : S_iOpsOk_0.den → RT S_iOpsOk_0.den := fun d => st_iOpsOk_0 d.1.1 d.1.2.2.2.2.2.1 d.1.2.2.2.2.2.2.1 d.1.2.2.2.2.2.2.2.1
abbrev pk_iOpsOk_0 (x0 : List (Int × ByteArray × ByteArray)) (x5 : List (Int × ByteArray × ByteArray)) (x6 : Int) (x7 : Int) : S_iOpsOk_0.den := ((x0, (), (), (), (), x5, x6, x7, (), (), (), (), (), (), (), (), (), (), (), (), (), (), (), (), (), (), (), (), (), (), (), (), (), (), ()), ())
noncomputable def body_iOpsOk_0 : Code := ((loopsIn 0 (bodyOf Try.f60)).getD 0 (0, .skip)).2
theorem R_iOpsOk_0 (x0 : List (Int × ByteArray × ByteArray)) (x5 : List (Int × ByteArray × ByteArray)) (x6 : Int) (x7 : Int) : (T_iOpsOk_0 x0 x5 x6 x7).val (D := S_iOpsOk_0.den) = .fail ∨ Runs sp_iOpsOk_0 (pk_iOpsOk_0 x0 x5 x6 x7) (T_iOpsOk_0 x0 x5 x6 x7).val := by
  cases hc : (decide (0 ≤ x7) && (decide (x6 = ((x5.length : Nat) : Int)) && (decide (x5 = x0) && okOps x5))) with
  | false => left; simp only [T_iOpsOk_0, CT.val, hc, cond_false]
  | true =>
    right
    simp only [T_iOpsOk_0, CT.val, hc, cond_true]
    simp only [Bool.and_eq_true, decide_eq_true_eq] at hc
    obtain ⟨i, rfl⟩ := Int.eq_ofNat_of_zero_le hc.1
    obtain ⟨_, e6, e5, hc⟩ := hc
    subst e5; subst e6
    have hs := okOps_len hc
    simp only [Int.toNat_natCast]
    refine Runs.scan (fun j => pk_iOpsOk_0 x5 x5 ((x5.length : Nat) : Int) (j : Int)) (x5.length) (iOpAt x5) (fun i hi => ?_) (fun i hi => ?_) ⟨_, _, _, rfl, by simp⟩ ⟨_, _, _, rfl, by simp⟩ _ _ rfl
    · 
      have h0a : decide ((i : Int) < ((x5.length : Nat) : Int)) = true := decide_eq_true (by omega)
      have h0b : decide (0 ≤ (i : Int) ∧ (i : Int) < ((x5.length : Nat) : Int)) = true := decide_eq_true (by omega)
      simp only [sp_iOpsOk_0, st_iOpsOk_0, RT.val, h0a, h0b, cond_true, wrapS i (by omega), Int.toNat_natCast]
      have hq : q_iopOk (x5.getD i dOp).1 (x5.getD i dOp).2.1 (x5.getD i dOp).2.2 = true := (okOps_at hc i hi).1
      simp only [dOp] at hq
      simp only [hq, cond_true, iOpAt, dOp]
      cases iopOk (x5.getD i ((0 : Int), ((⟨#[]⟩ : ByteArray), (⟨#[]⟩ : ByteArray)))).1 (x5.getD i ((0 : Int), ((⟨#[]⟩ : ByteArray), (⟨#[]⟩ : ByteArray)))).2.1 (x5.getD i ((0 : Int), ((⟨#[]⟩ : ByteArray), (⟨#[]⟩ : ByteArray)))).2.2 with
      | false => rfl
      | true =>
        cases i with
        | zero => rfl
        | succ i =>
          have h3 : decide (((i + 1 : Nat) : Int) > 0) = true := decide_eq_true (by omega)
          have h4 : IntKind.wrap .i64 (((i + 1 : Nat) : Int) - 1) = (i : Int) := by have := wrap64 (n := ((i + 1 : Nat) : Int) - 1) (by omega) (by omega); omega
          have h5 : decide (0 ≤ (i : Int) ∧ (i : Int) < ((x5.length : Nat) : Int)) = true := decide_eq_true (by omega)
          have h6 : decide (i + 1 = 0) = false := by simp
          simp only [h3, h4, h5, h6, cond_true, Bool.true_and, Bool.false_or, Int.toNat_natCast, Nat.add_sub_cancel, Bool.not_true, cond_false]
          cases (Op.bytesLess (x5.getD (i + 1) ((0 : Int), ((⟨#[]⟩ : ByteArray), (⟨#[]⟩ : ByteArray)))).2.1.toList (x5.getD i ((0 : Int), ((⟨#[]⟩ : ByteArray), (⟨#[]⟩ : ByteArray)))).2.1.toList || ((x5.getD (i + 1) ((0 : Int), ((⟨#[]⟩ : ByteArray), (⟨#[]⟩ : ByteArray)))).2.1.toList == (x5.getD i ((0 : Int), ((⟨#[]⟩ : ByteArray), (⟨#[]⟩ : ByteArray)))).2.1.toList)) <;> rfl
    · have h1 : decide ((i : Int) < ((x5.length : Nat) : Int)) = false := decide_eq_false (by omega)
      simp only [sp_iOpsOk_0, st_iOpsOk_0, RT.val, h1, cond_false]
theorem rd_iOpsOk_0 : ∀ d base killed, execC Try.prog tt S18 QF18 (fun _ _ => none) 0 body_iOpsOk_0 (S_iOpsOk_0.st d base killed) (fun e s' => some (e, S_iOpsOk_0.cutE (kepts [2] [(0, [0])]) e s')) = (sp_iOpsOk_0 d).opt base killed := by
  intro d base killed
  kernel_rfl
abbrev say_iOpsOk_0 : St → Option Tree := S_iOpsOk_0.say [] (fun d => T_iOpsOk_0 d.1.1 d.1.2.2.2.2.2.1 d.1.2.2.2.2.2.2.1 d.1.2.2.2.2.2.2.2.1)
theorem lw_iOpsOk_0 : LoopWp Try.prog say_iOpsOk_0 body_iOpsOk_0 := SS.wp G18 (fun _ _ => none) (by rw [show loopsIn 0 body_iOpsOk_0 = [] by kernel_rfl]; simp) S_iOpsOk_0 (kepts [2] [(0, [0])]) [] sp_iOpsOk_0 rd_iOpsOk_0 _ (fun d => R_iOpsOk_0 d.1.1 d.1.2.2.2.2.2.1 d.1.2.2.2.2.2.2.1 d.1.2.2.2.2.2.2.2.1)
def iOpsOk (a0 : List (Int × ByteArray × ByteArray)) : Bool := (cond (allF (iOpAt a0) (a0.length - (0 : Int).toNat) (0 : Int).toNat) (iinRange ((a0.length : Nat) : Int) (1 : Int) (8 : Int)) false)
abbrev e_iOpsOk (r : Bool) : AV × List AObj := ((.t true .bool r), [])
abbrev g_iOpsOk : pshsDen P_iOpsOk → AV × List AObj := fun d => e_iOpsOk (iOpsOk d.1)
def q_iOpsOk (a0 : List (Int × ByteArray × ByteArray)) : Bool := okOps a0
abbrev pre_iOpsOk : pshsDen P_iOpsOk → Bool := fun d => q_iOpsOk d.1
theorem runA_iOpsOk (a0 : List (Int × ByteArray × ByteArray)) (hp : (okOps a0) = true) : runP true Try.prog tt S18 QF18 (fun b => match b with | 0 => say_iOpsOk_0 | _ => fun _ => none) Try.f60 (argsMk P_iOpsOk (a0, ())) = some (g_iOpsOk (a0, ())) := by
  refine Eq.trans (b := (cond (decide (0 ≤ (0 : Int)) && (decide (((a0.length : Nat) : Int) = ((a0.length : Nat) : Int)) && (decide (a0 = a0) && okOps a0))) (cond (allF (iOpAt a0) (a0.length - (0 : Int).toNat) (0 : Int).toNat) (some (e_iOpsOk (iinRange ((a0.length : Nat) : Int) (1 : Int) (8 : Int)))) (some (e_iOpsOk false))) none)) (by kernel_rfl) ?_
  exact (cndT (by first | rfl | decide | exact hp | (simp [*]; done) | (simp [okL] at hp; simp [okL, MAXB]; omega) | (simp_all; done) | (simp at *; omega)) (fun _h => (cnd (F := fun r => some (e_iOpsOk r)) (fun _h => rfl) (fun _h => rfl))))
theorem run_iOpsOk : ∀ d, pre_iOpsOk d = true → runP true Try.prog tt S18 QF18 (fun b => match b with | 0 => say_iOpsOk_0 | _ => fun _ => none) Try.f60 (argsMk P_iOpsOk d) = some (g_iOpsOk d) := fun d hp => runA_iOpsOk d.1 hp
theorem c_iOpsOk : PContract Try.prog 60 (sumOf P_iOpsOk pre_iOpsOk g_iOpsOk) := PContract.of_data true G18 (fn := Try.f60) (by kernel_rfl) (L := fun b => match b with | 0 => say_iOpsOk_0 | _ => fun _ => none) (by rw [show loopsIn 0 (bodyOf Try.f60) = [(0, body_iOpsOk_0)] by kernel_rfl]; intro p hp; simp only [List.mem_singleton] at hp; subst hp; exact lw_iOpsOk_0) P_iOpsOk pre_iOpsOk g_iOpsOk run_iOpsOk
def S19 : Tab := Tab.add S18 60 (lift (sumOf P_iOpsOk pre_iOpsOk g_iOpsOk))
def QF19 : FuncId → Bool := qadd QF18 60
theorem G19 : Good Try.prog tt S19 QF19 := G18.addQ c_iOpsOk ⟨Try.f60, by kernel_rfl, by kernel_rfl, by kernel_rfl⟩ (fun _ => rfl)

/-! 23 loop.example/g00244/impl.WordOk -/
abbrev P_iWordOk : List PSh := [.agg [(.int .i64), (.int .i64), (.int .i64), (.sl (.pair (.int .i64) (.pair .str .str))), .bool]]
def iWordOk (a0 : Int) (a1 : Int) (a2 : Int) (a3 : List (Int × ByteArray × ByteArray)) (a4 : Bool) : Bool := (cond (!(iisId a1)) false (cond (!(iisTx a2)) false (cond (a0 == (1 : Int)) (cond (iOpsOk a3) (!a4) false) (cond (a0 == (2 : Int)) (((a3.length : Nat) : Int) == (0 : Int)) (cond (a0 == (3 : Int)) (((a3.length : Nat) : Int) == (0 : Int)) (cond (a0 == (4 : Int)) (cond (((a3.length : Nat) : Int) == (0 : Int)) (!a4) false) false))))))
abbrev e_iWordOk (r : Bool) : AV × List AObj := ((.t true .bool r), [])
abbrev g_iWordOk : pshsDen P_iWordOk → AV × List AObj := fun d => e_iWordOk (iWordOk d.1.1 d.1.2.1 d.1.2.2.1 d.1.2.2.2.1 d.1.2.2.2.2.1)
def q_iWordOk (a0 : Int) (a1 : Int) (a2 : Int) (a3 : List (Int × ByteArray × ByteArray)) (a4 : Bool) : Bool := okOps a3
abbrev pre_iWordOk : pshsDen P_iWordOk → Bool := fun d => q_iWordOk d.1.1 d.1.2.1 d.1.2.2.1 d.1.2.2.2.1 d.1.2.2.2.2.1
theorem runA_iWordOk (a0 : Int) (a1 : Int) (a2 : Int) (a3 : List (Int × ByteArray × ByteArray)) (a4 : Bool) (hp : (okOps a3) = true) : runP true Try.prog tt S19 QF19 (fun _ _ => none) Try.f23 (argsMk P_iWordOk ((a0, (a1, (a2, (a3, (a4, ()))))), ())) = some (g_iWordOk ((a0, (a1, (a2, (a3, (a4, ()))))), ())) := by
  refine Eq.trans (b := (cond (!(iisId a1)) (some (e_iWordOk false)) (cond (!(iisTx a2)) (some (e_iWordOk false)) (cond (a0 == (1 : Int)) (cond (q_iOpsOk a3) (cond (iOpsOk a3) (some (e_iWordOk (!a4))) (some (e_iWordOk false))) none) (cond (a0 == (2 : Int)) (some (e_iWordOk (((a3.length : Nat) : Int) == (0 : Int)))) (cond (a0 == (3 : Int)) (some (e_iWordOk (((a3.length : Nat) : Int) == (0 : Int)))) (cond (a0 == (4 : Int)) (cond (((a3.length : Nat) : Int) == (0 : Int)) (some (e_iWordOk (!a4))) (some (e_iWordOk false))) (some (e_iWordOk false))))))))) (by kernel_rfl) ?_
  exact (cnd (F := fun r => some (e_iWordOk r)) (fun _h => rfl) (fun _h => (cnd (F := fun r => some (e_iWordOk r)) (fun _h => rfl) (fun _h => (cnd (F := fun r => some (e_iWordOk r)) (fun _h => (cndT (by first | rfl | decide | exact hp | (simp [*]; done) | (simp [okL] at hp; simp [okL, MAXB]; omega) | (simp_all; done) | (simp at *; omega)) (fun _h => (cnd (F := fun r => some (e_iWordOk r)) (fun _h => rfl) (fun _h => rfl))))) (fun _h => (cnd (F := fun r => some (e_iWordOk r)) (fun _h => rfl) (fun _h => (cnd (F := fun r => some (e_iWordOk r)) (fun _h => rfl) (fun _h => (cnd (F := fun r => some (e_iWordOk r)) (fun _h => (cnd (F := fun r => some (e_iWordOk r)) (fun _h => rfl) (fun _h => rfl))) (fun _h => rfl))))))))))))
theorem run_iWordOk : ∀ d, pre_iWordOk d = true → runP true Try.prog tt S19 QF19 (fun _ _ => none) Try.f23 (argsMk P_iWordOk d) = some (g_iWordOk d) := fun d hp => runA_iWordOk d.1.1 d.1.2.1 d.1.2.2.1 d.1.2.2.2.1 d.1.2.2.2.2.1 hp
theorem c_iWordOk : PContract Try.prog 23 (sumOf P_iWordOk pre_iWordOk g_iWordOk) := PContract.of_data true G19 (fn := Try.f23) (by kernel_rfl) (L := fun _ _ => none) (by rw [show loopsIn 0 (bodyOf Try.f23) = [] by kernel_rfl]; simp) P_iWordOk pre_iWordOk g_iWordOk run_iWordOk
def S20 : Tab := Tab.add S19 23 (lift (sumOf P_iWordOk pre_iWordOk g_iWordOk))
def QF20 : FuncId → Bool := qadd QF19 23
theorem G20 : Good Try.prog tt S20 QF20 := G19.addQ c_iWordOk ⟨Try.f23, by kernel_rfl, by kernel_rfl, by kernel_rfl⟩ (fun _ => rfl)

/-! 111 loop.example/g00244/laws.eqOp -/
abbrev P_leqOp : List PSh := [.agg [(.int .i64), .str, .str], .agg [(.int .i64), .str, .str]]
def leqOp (a0 : Int) (a1 : ByteArray) (a2 : ByteArray) (a3 : Int) (a4 : ByteArray) (a5 : ByteArray) : Bool := (cond (a0 != a3) false (cond (!(a1.toList == a4.toList)) false (cond (!(a2.toList == a5.toList)) false true)))
abbrev e_leqOp (r : Bool) : AV × List AObj := ((.t true .bool r), [])
abbrev g_leqOp : pshsDen P_leqOp → AV × List AObj := fun d => e_leqOp (leqOp d.1.1 d.1.2.1 d.1.2.2.1 d.2.1.1 d.2.1.2.1 d.2.1.2.2.1)
abbrev pre_leqOp : pshsDen P_leqOp → Bool := fun d => true
theorem runA_leqOp (a0 : Int) (a1 : ByteArray) (a2 : ByteArray) (a3 : Int) (a4 : ByteArray) (a5 : ByteArray) : runP true Try.prog tt S20 QF20 (fun _ _ => none) Try.f111 (argsMk P_leqOp ((a0, (a1, (a2, ()))), ((a3, (a4, (a5, ()))), ()))) = some (g_leqOp ((a0, (a1, (a2, ()))), ((a3, (a4, (a5, ()))), ()))) := by
  refine Eq.trans (b := (cond (a0 != a3) (some (e_leqOp false)) (cond (!(a1.toList == a4.toList)) (some (e_leqOp false)) (cond (!(a2.toList == a5.toList)) (some (e_leqOp false)) (some (e_leqOp true)))))) (by kernel_rfl) ?_
  exact (cnd (F := fun r => some (e_leqOp r)) (fun _h => rfl) (fun _h => (cnd (F := fun r => some (e_leqOp r)) (fun _h => rfl) (fun _h => (cnd (F := fun r => some (e_leqOp r)) (fun _h => rfl) (fun _h => rfl))))))
theorem run_leqOp : ∀ d, pre_leqOp d = true → runP true Try.prog tt S20 QF20 (fun _ _ => none) Try.f111 (argsMk P_leqOp d) = some (g_leqOp d) := fun d hp => runA_leqOp d.1.1 d.1.2.1 d.1.2.2.1 d.2.1.1 d.2.1.2.1 d.2.1.2.2.1
theorem c_leqOp : PContract Try.prog 111 (sumOf P_leqOp pre_leqOp g_leqOp) := PContract.of_data true G20 (fn := Try.f111) (by kernel_rfl) (L := fun _ _ => none) (by rw [show loopsIn 0 (bodyOf Try.f111) = [] by kernel_rfl]; simp) P_leqOp pre_leqOp g_leqOp run_leqOp
def S21 : Tab := Tab.add S20 111 (lift (sumOf P_leqOp pre_leqOp g_leqOp))
def QF21 : FuncId → Bool := qadd QF20 111
theorem G21 : Good Try.prog tt S21 QF21 := G20.addQ c_leqOp ⟨Try.f111, by kernel_rfl, by kernel_rfl, by kernel_rfl⟩ (fun _ => rfl)

/-! 48 loop.example/g00244/laws.eqOpS -/
def f_leqOpS_0 (x0 x1 : List (Int × ByteArray × ByteArray)) (i : Nat) : Bool := (leqOp ((x0.getD i ((0 : Int), ((⟨#[]⟩ : ByteArray), (⟨#[]⟩ : ByteArray)))).1) (((x0.getD i ((0 : Int), ((⟨#[]⟩ : ByteArray), (⟨#[]⟩ : ByteArray)))).2).1) (((x0.getD i ((0 : Int), ((⟨#[]⟩ : ByteArray), (⟨#[]⟩ : ByteArray)))).2).2) ((x1.getD i ((0 : Int), ((⟨#[]⟩ : ByteArray), (⟨#[]⟩ : ByteArray)))).1) (((x1.getD i ((0 : Int), ((⟨#[]⟩ : ByteArray), (⟨#[]⟩ : ByteArray)))).2).1) (((x1.getD i ((0 : Int), ((⟨#[]⟩ : ByteArray), (⟨#[]⟩ : ByteArray)))).2).2))
abbrev P_leqOpS : List PSh := [.t (.sl (.pair (.int .i64) (.pair .str .str))), .t (.sl (.pair (.int .i64) (.pair .str .str)))]
abbrev S_leqOpS_0 : SS := ⟨[.t false (.sl (.pair (.int .i64) (.pair .str .str))), .t false (.sl (.pair (.int .i64) (.pair .str .str))), .junk, .junk, .junk, .t true (.int .i64), .junk, .junk, .junk, .junk, .junk, .junk, .junk, .junk, .junk, .junk, .junk, .junk, .junk, .junk, .junk, .junk, .junk, .junk, .junk, .junk, .junk], []⟩
abbrev E_leqOpS_0_0 : SS := ⟨[.junk, .junk, .junk, .junk, .t true .bool, .junk, .junk, .junk, .junk, .junk, .junk, .junk, .junk, .junk, .junk, .junk, .junk, .junk, .junk, .junk, .junk, .junk, .junk, .junk, .junk, .junk, .junk], []⟩
abbrev E_leqOpS_0_1 : SS := ⟨[.junk, .junk, .junk, .junk, .junk, .junk, .junk, .junk, .junk, .junk, .junk, .junk, .junk, .junk, .junk, .junk, .junk, .junk, .junk, .junk, .junk, .junk, .junk, .junk, .junk, .junk, .junk], []⟩
def st_leqOpS_0 (x0 : List (Int × ByteArray × ByteArray)) (x1 : List (Int × ByteArray × ByteArray)) (x5 : Int) : RT S_leqOpS_0.den := (.br (decide (x5 < ((x0.length : Nat) : Int))) (.br (decide (0 ≤ x5 ∧ x5 < ((x0.length : Nat) : Int))) (.br (decide (0 ≤ x5 ∧ x5 < ((x1.length : Nat) : Int))) (.br (!(leqOp ((x0.getD x5.toNat ((0 : Int), ((⟨#[]⟩ : ByteArray), (⟨#[]⟩ : ByteArray)))).1) (((x0.getD x5.toNat ((0 : Int), ((⟨#[]⟩ : ByteArray), (⟨#[]⟩ : ByteArray)))).2).1) (((x0.getD x5.toNat ((0 : Int), ((⟨#[]⟩ : ByteArray), (⟨#[]⟩ : ByteArray)))).2).2) ((x1.getD x5.toNat ((0 : Int), ((⟨#[]⟩ : ByteArray), (⟨#[]⟩ : ByteArray)))).1) (((x1.getD x5.toNat ((0 : Int), ((⟨#[]⟩ : ByteArray), (⟨#[]⟩ : ByteArray)))).2).1) (((x1.getD x5.toNat ((0 : Int), ((⟨#[]⟩ : ByteArray), (⟨#[]⟩ : ByteArray)))).2).2))) (.done .ret E_leqOpS_0_0 (((), (), (), (), false, (), (), (), (), (), (), (), (), (), (), (), (), (), (), (), (), (), (), (), (), (), (), ()), ())) (.next ((x0, x1, (), (), (), IntKind.wrap .i64 (x5 + (1 : Int)), (), (), (), (), (), (), (), (), (), (), (), (), (), (), (), (), (), (), (), (), (), ()), ()))) .fail) .fail) (.done (.exit 0) E_leqOpS_0_1 (((), (), (), (), (), (), (), (), (), (), (), (), (), (), (), (), (), (), (), (), (), (), (), (), (), (), (), ()), ())))
def T_leqOpS_0 (x0 : List (Int × ByteArray × ByteArray)) (x1 : List (Int × ByteArray × ByteArray)) (x5 : Int) : CT := (.br (decide (0 ≤ x5) && (decide (x0.length = x1.length) && okL x0)) (.br (allF (f_leqOpS_0 x0 x1) (x0.length - x5.toNat) x5.toNat) (.done (.exit 0) E_leqOpS_0_1 (((), (), (), (), (), (), (), (), (), (), (), (), (), (), (), (), (), (), (), (), (), (), (), (), (), (), (), ()), ())) (.done .ret E_leqOpS_0_0 (((), (), (), (), false, (), (), (), (), (), (), (), (), (), (), (), (), (), (), (), (), (), (), (), (), (), (), ()), ()))) .fail)
abbrev sp_leqOpS_0 : S_leqOpS_0.den → RT S_leqOpS_0.den := fun d => st_leqOpS_0 d.1.1 d.1.2.1 d.1.2.2.2.2.2.1
abbrev pk_leqOpS_0 (x0 : List (Int × ByteArray × ByteArray)) (x1 : List (Int × ByteArray × ByteArray)) (x5 : Int) : S_leqOpS_0.den := ((x0, x1, (), (), (), x5, (), (), (), (), (), (), (), (), (), (), (), (), (), (), (), (), (), (), (), (), (), ()), ())
noncomputable def body_leqOpS_0 : Code := ((loopsIn 0 (bodyOf Try.f48)).getD 0 (0, .skip)).2
theorem R_leqOpS_0 (x0 : List (Int × ByteArray × ByteArray)) (x1 : List (Int × ByteArray × ByteArray)) (x5 : Int) : (T_leqOpS_0 x0 x1 x5).val (D := S_leqOpS_0.den) = .fail ∨ Runs sp_leqOpS_0 (pk_leqOpS_0 x0 x1 x5) (T_leqOpS_0 x0 x1 x5).val := by
  cases hc : (decide (0 ≤ x5) && (decide (x0.length = x1.length) && okL x0)) with
  | false => left; simp only [T_leqOpS_0, CT.val, hc, cond_false]
  | true =>
    right
    simp only [T_leqOpS_0, CT.val, hc, cond_true]
    simp only [Bool.and_eq_true, decide_eq_true_eq] at hc
    obtain ⟨i, rfl⟩ := Int.eq_ofNat_of_zero_le hc.1
    have hs := okL_le hc.2.2
    simp only [Int.toNat_natCast]
    refine Runs.scan (fun j => pk_leqOpS_0 x0 x1 (j : Int)) (x0.length) (f_leqOpS_0 x0 x1) (fun i hi => ?_) (fun i hi => ?_) ⟨_, _, _, rfl, by simp⟩ ⟨_, _, _, rfl, by simp⟩ _ _ rfl
    · 
      have h0a : decide ((i : Int) < ((x0.length : Nat) : Int)) = true := decide_eq_true (by omega)
      have h0b : decide (0 ≤ (i : Int) ∧ (i : Int) < ((x0.length : Nat) : Int)) = true := decide_eq_true (by omega)
      simp only [sp_leqOpS_0, st_leqOpS_0, RT.val, h0a, h0b, cond_true, wrapS i (by omega), Int.toNat_natCast]
      have h9 : decide (0 ≤ (i : Int) ∧ (i : Int) < ((x1.length : Nat) : Int)) = true := decide_eq_true (by omega)
      simp only [h9, cond_true, f_leqOpS_0]
      generalize (leqOp ((x0.getD i ((0 : Int), ((⟨#[]⟩ : ByteArray), (⟨#[]⟩ : ByteArray)))).1) (((x0.getD i ((0 : Int), ((⟨#[]⟩ : ByteArray), (⟨#[]⟩ : ByteArray)))).2).1) (((x0.getD i ((0 : Int), ((⟨#[]⟩ : ByteArray), (⟨#[]⟩ : ByteArray)))).2).2) ((x1.getD i ((0 : Int), ((⟨#[]⟩ : ByteArray), (⟨#[]⟩ : ByteArray)))).1) (((x1.getD i ((0 : Int), ((⟨#[]⟩ : ByteArray), (⟨#[]⟩ : ByteArray)))).2).1) (((x1.getD i ((0 : Int), ((⟨#[]⟩ : ByteArray), (⟨#[]⟩ : ByteArray)))).2).2)) = c
      cases c <;> rfl
    · have h1 : decide ((i : Int) < ((x0.length : Nat) : Int)) = false := decide_eq_false (by omega)
      simp only [sp_leqOpS_0, st_leqOpS_0, RT.val, h1, cond_false]
theorem rd_leqOpS_0 : ∀ d base killed, execC Try.prog tt S21 QF21 (fun _ _ => none) 0 body_leqOpS_0 (S_leqOpS_0.st d base killed) (fun e s' => some (e, S_leqOpS_0.cutE (kepts [4] [(0, [])]) e s')) = (sp_leqOpS_0 d).opt base killed := by
  intro d base killed
  kernel_rfl
abbrev say_leqOpS_0 : St → Option Tree := S_leqOpS_0.say [] (fun d => T_leqOpS_0 d.1.1 d.1.2.1 d.1.2.2.2.2.2.1)
theorem lw_leqOpS_0 : LoopWp Try.prog say_leqOpS_0 body_leqOpS_0 := SS.wp G21 (fun _ _ => none) (by rw [show loopsIn 0 body_leqOpS_0 = [] by kernel_rfl]; simp) S_leqOpS_0 (kepts [4] [(0, [])]) [] sp_leqOpS_0 rd_leqOpS_0 _ (fun d => R_leqOpS_0 d.1.1 d.1.2.1 d.1.2.2.2.2.2.1)
def leqOpS (a0 : List (Int × ByteArray × ByteArray)) (a1 : List (Int × ByteArray × ByteArray)) : Bool := (cond (((a0.length : Nat) : Int) != ((a1.length : Nat) : Int)) false (cond (allF (f_leqOpS_0 a0 a1) (a0.length - (0 : Int).toNat) (0 : Int).toNat) true false))
abbrev e_leqOpS (r : Bool) : AV × List AObj := ((.t true .bool r), [])
abbrev g_leqOpS : pshsDen P_leqOpS → AV × List AObj := fun d => e_leqOpS (leqOpS d.1 d.2.1)
def q_leqOpS (a0 : List (Int × ByteArray × ByteArray)) (a1 : List (Int × ByteArray × ByteArray)) : Bool := okL a0
abbrev pre_leqOpS : pshsDen P_leqOpS → Bool := fun d => q_leqOpS d.1 d.2.1
theorem runA_leqOpS (a0 : List (Int × ByteArray × ByteArray)) (a1 : List (Int × ByteArray × ByteArray)) (hp : (okL a0) = true) : runP true Try.prog tt S21 QF21 (fun b => match b with | 0 => say_leqOpS_0 | _ => fun _ => none) Try.f48 (argsMk P_leqOpS (a0, (a1, ()))) = some (g_leqOpS (a0, (a1, ()))) := by
  refine Eq.trans (b := (cond (((a0.length : Nat) : Int) != ((a1.length : Nat) : Int)) (some (e_leqOpS false)) (cond (decide (0 ≤ (0 : Int)) && (decide (a0.length = a1.length) && okL a0)) (cond (allF (f_leqOpS_0 a0 a1) (a0.length - (0 : Int).toNat) (0 : Int).toNat) (some (e_leqOpS true)) (some (e_leqOpS false))) none))) (by kernel_rfl) ?_
  exact (cnd (F := fun r => some (e_leqOpS r)) (fun _h => rfl) (fun _h => (cndT (by simp only [okL, decide_eq_true_eq] at hp; simp at _h; simp [okL]; omega) (fun _h => (cnd (F := fun r => some (e_leqOpS r)) (fun _h => rfl) (fun _h => rfl))))))
theorem run_leqOpS : ∀ d, pre_leqOpS d = true → runP true Try.prog tt S21 QF21 (fun b => match b with | 0 => say_leqOpS_0 | _ => fun _ => none) Try.f48 (argsMk P_leqOpS d) = some (g_leqOpS d) := fun d hp => runA_leqOpS d.1 d.2.1 hp
theorem c_leqOpS : PContract Try.prog 48 (sumOf P_leqOpS pre_leqOpS g_leqOpS) := PContract.of_data true G21 (fn := Try.f48) (by kernel_rfl) (L := fun b => match b with | 0 => say_leqOpS_0 | _ => fun _ => none) (by rw [show loopsIn 0 (bodyOf Try.f48) = [(0, body_leqOpS_0)] by kernel_rfl]; intro p hp; simp only [List.mem_singleton] at hp; subst hp; exact lw_leqOpS_0) P_leqOpS pre_leqOpS g_leqOpS run_leqOpS
def S22 : Tab := Tab.add S21 48 (lift (sumOf P_leqOpS pre_leqOpS g_leqOpS))
def QF22 : FuncId → Bool := qadd QF21 48
theorem G22 : Good Try.prog tt S22 QF22 := G21.addQ c_leqOpS ⟨Try.f48, by kernel_rfl, by kernel_rfl, by kernel_rfl⟩ (fun _ => rfl)

/-! 24 loop.example/g00244/laws.eqWord -/
abbrev P_leqWord : List PSh := [.agg [(.int .i64), (.int .i64), (.int .i64), (.sl (.pair (.int .i64) (.pair .str .str))), .bool], .agg [(.int .i64), (.int .i64), (.int .i64), (.sl (.pair (.int .i64) (.pair .str .str))), .bool]]
def leqWord (a0 : Int) (a1 : Int) (a2 : Int) (a3 : List (Int × ByteArray × ByteArray)) (a4 : Bool) (a5 : Int) (a6 : Int) (a7 : Int) (a8 : List (Int × ByteArray × ByteArray)) (a9 : Bool) : Bool := (cond (a0 != a5) false (cond (a1 != a6) false (cond (a2 != a7) false (cond (!(leqOpS a3 a8)) false (cond (!(a4 == a9)) false true)))))
abbrev e_leqWord (r : Bool) : AV × List AObj := ((.t true .bool r), [])
abbrev g_leqWord : pshsDen P_leqWord → AV × List AObj := fun d => e_leqWord (leqWord d.1.1 d.1.2.1 d.1.2.2.1 d.1.2.2.2.1 d.1.2.2.2.2.1 d.2.1.1 d.2.1.2.1 d.2.1.2.2.1 d.2.1.2.2.2.1 d.2.1.2.2.2.2.1)
def q_leqWord (a0 : Int) (a1 : Int) (a2 : Int) (a3 : List (Int × ByteArray × ByteArray)) (a4 : Bool) (a5 : Int) (a6 : Int) (a7 : Int) (a8 : List (Int × ByteArray × ByteArray)) (a9 : Bool) : Bool := okL a3
abbrev pre_leqWord : pshsDen P_leqWord → Bool := fun d => q_leqWord d.1.1 d.1.2.1 d.1.2.2.1 d.1.2.2.2.1 d.1.2.2.2.2.1 d.2.1.1 d.2.1.2.1 d.2.1.2.2.1 d.2.1.2.2.2.1 d.2.1.2.2.2.2.1
theorem runA_leqWord (a0 : Int) (a1 : Int) (a2 : Int) (a3 : List (Int × ByteArray × ByteArray)) (a4 : Bool) (a5 : Int) (a6 : Int) (a7 : Int) (a8 : List (Int × ByteArray × ByteArray)) (a9 : Bool) (hp : (okL a3) = true) : runP true Try.prog tt S22 QF22 (fun _ _ => none) Try.f24 (argsMk P_leqWord ((a0, (a1, (a2, (a3, (a4, ()))))), ((a5, (a6, (a7, (a8, (a9, ()))))), ()))) = some (g_leqWord ((a0, (a1, (a2, (a3, (a4, ()))))), ((a5, (a6, (a7, (a8, (a9, ()))))), ()))) := by
  refine Eq.trans (b := (cond (a0 != a5) (some (e_leqWord false)) (cond (a1 != a6) (some (e_leqWord false)) (cond (a2 != a7) (some (e_leqWord false)) (cond (q_leqOpS a3 a8) (cond (!(leqOpS a3 a8)) (some (e_leqWord false)) (cond (!(a4 == a9)) (some (e_leqWord false)) (some (e_leqWord true)))) none))))) (by kernel_rfl) ?_
  exact (cnd (F := fun r => some (e_leqWord r)) (fun _h => rfl) (fun _h => (cnd (F := fun r => some (e_leqWord r)) (fun _h => rfl) (fun _h => (cnd (F := fun r => some (e_leqWord r)) (fun _h => rfl) (fun _h => (cndT (by first | rfl | decide | exact hp | (simp [*]; done) | (simp [okL] at hp; simp [okL, MAXB]; omega) | (simp_all; done) | (simp at *; omega)) (fun _h => (cnd (F := fun r => some (e_leqWord r)) (fun _h => rfl) (fun _h => (cnd (F := fun r => some (e_leqWord r)) (fun _h => rfl) (fun _h => rfl))))))))))))
theorem run_leqWord : ∀ d, pre_leqWord d = true → runP true Try.prog tt S22 QF22 (fun _ _ => none) Try.f24 (argsMk P_leqWord d) = some (g_leqWord d) := fun d hp => runA_leqWord d.1.1 d.1.2.1 d.1.2.2.1 d.1.2.2.2.1 d.1.2.2.2.2.1 d.2.1.1 d.2.1.2.1 d.2.1.2.2.1 d.2.1.2.2.2.1 d.2.1.2.2.2.2.1 hp
theorem c_leqWord : PContract Try.prog 24 (sumOf P_leqWord pre_leqWord g_leqWord) := PContract.of_data true G22 (fn := Try.f24) (by kernel_rfl) (L := fun _ _ => none) (by rw [show loopsIn 0 (bodyOf Try.f24) = [] by kernel_rfl]; simp) P_leqWord pre_leqWord g_leqWord run_leqWord
def S23 : Tab := Tab.add S22 24 (lift (sumOf P_leqWord pre_leqWord g_leqWord))
def QF23 : FuncId → Bool := qadd QF22 24
theorem G23 : Good Try.prog tt S23 QF23 := G22.addQ c_leqWord ⟨Try.f24, by kernel_rfl, by kernel_rfl, by kernel_rfl⟩ (fun _ => rfl)

/-! 4 loop.example/g00244/laws.FnExactWordOk -/
theorem szOp_spec (k : Int) (s v : ByteArray) (b : Int) (h0 : 0 ≤ b) (h1 : b ≤ 1048576) (hs : bigS s = true) (hv : bigS v = true) (h : 0 ≤ lszOp k s v b) : lszOp k s v b ≤ b ∧ okS s = true ∧ okS v = true := by
  simp only [bigS, decide_eq_true_eq] at hs hv
  have e1 := wrap64 (n := b - ((s.size : Nat) : Int)) (by omega) (by omega)
  simp only [lszOp, e1] at h ⊢
  cases hd : decide (b - ((s.size : Nat) : Int) < 0) with
  | true => rw [hd] at h; simp at h
  | false =>
    rw [hd] at h
    have := of_decide_eq_false hd
    have e2 := wrap64 (n := b - ((s.size : Nat) : Int) - ((v.size : Nat) : Int)) (by omega) (by omega)
    simp only [cond_false, e2] at h ⊢
    cases hd2 : decide (b - ((s.size : Nat) : Int) - ((v.size : Nat) : Int) < 0) with
    | true => rw [hd2] at h; simp at h
    | false =>
      have := of_decide_eq_false hd2
      simp only [cond_false, okS, decide_eq_true_eq]
      omega
theorem szOpS_spec (l : List (Int × ByteArray × ByteArray)) (b : Int) (h0 : 0 ≤ b) (h1 : b ≤ 1048576) (hb : bigOps l = true) (h : 0 ≤ lszOpS l b) : lszOpS l b ≤ b ∧ okOps l = true := by
  have hl : l.length ≤ 9223372036854775807 := by simp only [bigOps, Bool.and_eq_true, decide_eq_true_eq] at hb; exact hb.1
  have e1 := wrap64 (n := b - ((l.length : Nat) : Int)) (by omega) (by omega)
  simp only [lszOpS, e1, Int.toNat_zero, Nat.sub_zero] at h ⊢
  cases hd : decide (b - ((l.length : Nat) : Int) < 0) with
  | true => rw [hd] at h; simp at h
  | false =>
    rw [hd] at h
    have := of_decide_eq_false hd
    simp only [cond_false] at h ⊢
    cases hi : isInl (szN (f_lszOpS_0 l) l.length 0 (b - ((l.length : Nat) : Int))) with
    | false => rw [hi] at h; simp at h
    | true =>
      obtain ⟨r1, r2, r3⟩ := szN_all (M := 1048576) (Q := fun i => okS (l.getD i dOp).2.1 = true ∧ okS (l.getD i dOp).2.2 = true) l.length 0 (b - ((l.length : Nat) : Int)) (fun j b' _ hj q0 q1 hf => by
        obtain ⟨p1, p2⟩ := bigOps_at hb j (by omega)
        obtain ⟨s1, s2, s3⟩ := szOp_spec _ _ _ b' q0 q1 p1 p2 hf
        exact ⟨⟨s2, s3⟩, s1⟩) (by omega) (by omega) hi
      simp only [cond_true]
      exact ⟨by omega, okOps_of (by omega) (fun i hi => r1 i (Nat.zero_le _) (by omega))⟩
theorem toOpS_same (l : List (Int × ByteArray × ByteArray)) : ltoOpS l = l := by
  have e := mapN (fun o : Int × ByteArray × ByteArray => (ltoOp o.1 o.2.1 o.2.2)) dOp l l.length 0 (List.replicate l.length dOp) (by simp) (by simp)
  simp only [List.take_zero, List.nil_append, List.drop_zero] at e
  have e2 : l.map (fun o : Int × ByteArray × ByteArray => (ltoOp o.1 o.2.1 o.2.2)) = l := by
    rw [show (fun o : Int × ByteArray × ByteArray => (ltoOp o.1 o.2.1 o.2.2)) = id from funext fun _ => rfl, List.map_id]
  rw [e2] at e
  exact e
theorem eqOp_same (k : Int) (s v : ByteArray) : leqOp k s v k s v = true := by simp [leqOp]
theorem eqOpS_same (l : List (Int × ByteArray × ByteArray)) : leqOpS l l = true := by
  have e : allF (f_leqOpS_0 l l) (l.length - (0 : Int).toNat) (0 : Int).toNat = true := allF_same _ _ (fun j _ _ => eqOp_same _ _ _)
  simp only [leqOpS, e, cond_true]
  simp
theorem keyAt_same (s : ByteArray) (i : Nat) : sKeyAt s i = iKeyAt s i := by
  have hb : 0 ≤ bt s (i : Int) ∧ bt s (i : Int) < 256 := by
    unfold bt
    split
    · have := UInt8.toNat_lt s[(i : Int).toNat]; omega
    · simp
  have e := wrap64 (n := bt s (i : Int)) (by omega) (by omega)
  simp only [sKeyAt, iKeyAt, sl1In, iisKeyByte, e]
  generalize bt s (i : Int) = c
  by_cases h1 : c ≥ 97 <;> by_cases h2 : c ≤ 122 <;> by_cases h3 : c ≥ 48 <;> by_cases h4 : c ≤ 57 <;> simp [h1, h2, h3, h4]
theorem keyOk_same (s : ByteArray) : sKeyOk s = iKeyOk s := by
  have e : allF (sKeyAt s) (s.size - (0 : Int).toNat) (0 : Int).toNat = allF (iKeyAt s) (s.size - (0 : Int).toNat) (0 : Int).toNat := allF_congr _ _ (fun j _ _ => keyAt_same s j)
  simp only [sKeyOk, iKeyOk, iisWord, iinRange, sl1In, e]
  cases allF (iKeyAt s) (s.size - (0 : Int).toNat) (0 : Int).toNat <;> cases decide (((s.size : Nat) : Int) ≥ 1) <;> cases decide (((s.size : Nat) : Int) ≤ 12) <;> rfl
theorem opOk_same (k : Int) (s v : ByteArray) : sl7Op k s v = iopOk k s v := by
  simp only [sl7Op, iopOk, keyOk_same, ba_beq, sl1In]
  cases iKeyOk s with
  | false =>
    by_cases h1 : k = 1 <;> by_cases h2 : k = 2 <;> by_cases h3 : k = 3 <;> by_cases h4 : v = ⟨#[]⟩ <;> by_cases h5 : k ≥ 1 <;> by_cases h6 : k ≤ 3 <;> simp [h1, h2, h3, h4, h5, h6] <;> omega
  | true =>
    by_cases h2 : k = 2
    · subst h2
      by_cases h4 : v = ⟨#[]⟩
      · subst h4; simp [ByteArray.size]
      · simp [h4]
    · by_cases h1 : k = 1
      · subst h1; simp
      · by_cases h3 : k = 3
        · subst h3; simp
        · by_cases h5 : k ≥ 1 <;> by_cases h6 : k ≤ 3 <;> simp [h1, h2, h3, h5, h6] <;> omega
theorem opAt_same (l : List (Int × ByteArray × ByteArray)) (i : Nat) : sOpAt l i = iOpAt l i := by
  simp only [sOpAt, iOpAt, opOk_same]
  rw [← bytesLess_ge, Bool.not_not]
theorem opsOk_same (l : List (Int × ByteArray × ByteArray)) : sOpsOk l = iOpsOk l := by
  have e : allF (sOpAt l) (l.length - (0 : Int).toNat) (0 : Int).toNat = allF (iOpAt l) (l.length - (0 : Int).toNat) (0 : Int).toNat := allF_congr _ _ (fun j _ _ => opAt_same l j)
  simp only [sOpsOk, iOpsOk, e]
  rfl
theorem toWord_same (k s t : Int) (l : List (Int × ByteArray × ByteArray)) (y : Bool) : ltoWord k s t l y = (k, s, t, l, y) := by simp only [ltoWord, toOpS_same]
theorem eqWord_same (k s t : Int) (l : List (Int × ByteArray × ByteArray)) (y : Bool) : leqWord k s t l y k s t l y = true := by simp [leqWord, eqOpS_same]
theorem szWord_spec (k s t : Int) (l : List (Int × ByteArray × ByteArray)) (y : Bool) (b : Int) (h0 : 0 ≤ b) (h1 : b ≤ 1048576) (hb : bigOps l = true) (h : decide (lszWord k s t l y b < 0) = false) : okOps l = true := by
  have h := of_decide_eq_false h
  simp only [lszWord] at h
  cases hd : decide (lszOpS l b < 0) with
  | true => rw [hd] at h; simp at h
  | false =>
    have := of_decide_eq_false hd
    exact (szOpS_spec l b h0 h1 hb (by omega)).2
theorem bigWord_ops {k s t : Int} {l : List (Int × ByteArray × ByteArray)} {y : Bool} (h : bigT (.pair (.int .i64) (.pair (.int .i64) (.pair (.int .i64) (.pair (.sl (.pair (.int .i64) (.pair .str .str))) .bool)))) (k, (s, (t, (l, y)))) = true) : bigOps l = true := by
  have hb : ((Lit.int .i64 k).wf && ((Lit.int .i64 s).wf && ((Lit.int .i64 t).wf && (bigT (.sl (.pair (.int .i64) (.pair .str .str))) l && true)))) = true := h
  rw [Bool.and_eq_true, Bool.and_eq_true, Bool.and_eq_true, Bool.and_eq_true] at hb
  exact bigOps_of hb.2.2.2.1
theorem wordOk_same (k s t : Int) (l : List (Int × ByteArray × ByteArray)) (y : Bool) : sWordOk k s t l y = iWordOk k s t l y := by
  simp only [sWordOk, iWordOk, iisTx, iisId, opsOk_same]
  rfl

abbrev P_lFnExactWordOk : List PSh := [.agg [(.int .i64), (.int .i64), (.int .i64), (.sl (.pair (.int .i64) (.pair .str .str))), .bool]]
def lFnExactWordOk (a0 : Int) (a1 : Int) (a2 : Int) (a3 : List (Int × ByteArray × ByteArray)) (a4 : Bool) : Bool := (cond (decide ((lszWord a0 a1 a2 a3 a4 (1048576 : Int)) < (0 : Int))) true (cond (!((iWordOk ((ltoWord a0 a1 a2 a3 a4).1) ((ltoWord a0 a1 a2 a3 a4).2.1) ((ltoWord a0 a1 a2 a3 a4).2.2.1) ((ltoWord a0 a1 a2 a3 a4).2.2.2.1) ((ltoWord a0 a1 a2 a3 a4).2.2.2.2)) == (sWordOk ((ltoWord a0 a1 a2 a3 a4).1) ((ltoWord a0 a1 a2 a3 a4).2.1) ((ltoWord a0 a1 a2 a3 a4).2.2.1) ((ltoWord a0 a1 a2 a3 a4).2.2.2.1) ((ltoWord a0 a1 a2 a3 a4).2.2.2.2)))) false (cond (!(leqWord ((ltoWord a0 a1 a2 a3 a4).1) ((ltoWord a0 a1 a2 a3 a4).2.1) ((ltoWord a0 a1 a2 a3 a4).2.2.1) ((ltoWord a0 a1 a2 a3 a4).2.2.2.1) ((ltoWord a0 a1 a2 a3 a4).2.2.2.2) ((ltoWord a0 a1 a2 a3 a4).1) ((ltoWord a0 a1 a2 a3 a4).2.1) ((ltoWord a0 a1 a2 a3 a4).2.2.1) ((ltoWord a0 a1 a2 a3 a4).2.2.2.1) ((ltoWord a0 a1 a2 a3 a4).2.2.2.2))) false true)))
abbrev e_lFnExactWordOk (r : Bool) : AV × List AObj := ((.t true .bool r), [])
abbrev g_lFnExactWordOk : pshsDen P_lFnExactWordOk → AV × List AObj := fun d => e_lFnExactWordOk (lFnExactWordOk d.1.1 d.1.2.1 d.1.2.2.1 d.1.2.2.2.1 d.1.2.2.2.2.1)
def q_lFnExactWordOk (a0 : Int) (a1 : Int) (a2 : Int) (a3 : List (Int × ByteArray × ByteArray)) (a4 : Bool) : Bool := bigT (.pair (.int .i64) (.pair (.int .i64) (.pair (.int .i64) (.pair (.sl (.pair (.int .i64) (.pair .str .str))) .bool)))) (a0, (a1, (a2, (a3, a4))))
abbrev pre_lFnExactWordOk : pshsDen P_lFnExactWordOk → Bool := fun d => q_lFnExactWordOk d.1.1 d.1.2.1 d.1.2.2.1 d.1.2.2.2.1 d.1.2.2.2.2.1
theorem runA_lFnExactWordOk (a0 : Int) (a1 : Int) (a2 : Int) (a3 : List (Int × ByteArray × ByteArray)) (a4 : Bool) (hp : (bigT (.pair (.int .i64) (.pair (.int .i64) (.pair (.int .i64) (.pair (.sl (.pair (.int .i64) (.pair .str .str))) .bool)))) (a0, (a1, (a2, (a3, a4))))) = true) : runP true Try.prog tt S23 QF23 (fun _ _ => none) Try.f4 (argsMk P_lFnExactWordOk ((a0, (a1, (a2, (a3, (a4, ()))))), ())) = some (g_lFnExactWordOk ((a0, (a1, (a2, (a3, (a4, ()))))), ())) := by
  refine Eq.trans (b := (cond (q_lszWord a0 a1 a2 a3 a4 (1048576 : Int)) (cond (decide ((lszWord a0 a1 a2 a3 a4 (1048576 : Int)) < (0 : Int))) (some (e_lFnExactWordOk true)) (cond (q_ltoWord a0 a1 a2 a3 a4) (cond (q_sWordOk ((ltoWord a0 a1 a2 a3 a4).1) ((ltoWord a0 a1 a2 a3 a4).2.1) ((ltoWord a0 a1 a2 a3 a4).2.2.1) ((ltoWord a0 a1 a2 a3 a4).2.2.2.1) ((ltoWord a0 a1 a2 a3 a4).2.2.2.2)) (cond (q_ltoWord a0 a1 a2 a3 a4) (cond (q_iWordOk ((ltoWord a0 a1 a2 a3 a4).1) ((ltoWord a0 a1 a2 a3 a4).2.1) ((ltoWord a0 a1 a2 a3 a4).2.2.1) ((ltoWord a0 a1 a2 a3 a4).2.2.2.1) ((ltoWord a0 a1 a2 a3 a4).2.2.2.2)) (cond (!((iWordOk ((ltoWord a0 a1 a2 a3 a4).1) ((ltoWord a0 a1 a2 a3 a4).2.1) ((ltoWord a0 a1 a2 a3 a4).2.2.1) ((ltoWord a0 a1 a2 a3 a4).2.2.2.1) ((ltoWord a0 a1 a2 a3 a4).2.2.2.2)) == (sWordOk ((ltoWord a0 a1 a2 a3 a4).1) ((ltoWord a0 a1 a2 a3 a4).2.1) ((ltoWord a0 a1 a2 a3 a4).2.2.1) ((ltoWord a0 a1 a2 a3 a4).2.2.2.1) ((ltoWord a0 a1 a2 a3 a4).2.2.2.2)))) (some (e_lFnExactWordOk false)) (cond (q_ltoWord a0 a1 a2 a3 a4) (cond (q_leqWord ((ltoWord a0 a1 a2 a3 a4).1) ((ltoWord a0 a1 a2 a3 a4).2.1) ((ltoWord a0 a1 a2 a3 a4).2.2.1) ((ltoWord a0 a1 a2 a3 a4).2.2.2.1) ((ltoWord a0 a1 a2 a3 a4).2.2.2.2) ((ltoWord a0 a1 a2 a3 a4).1) ((ltoWord a0 a1 a2 a3 a4).2.1) ((ltoWord a0 a1 a2 a3 a4).2.2.1) ((ltoWord a0 a1 a2 a3 a4).2.2.2.1) ((ltoWord a0 a1 a2 a3 a4).2.2.2.2)) (cond (!(leqWord ((ltoWord a0 a1 a2 a3 a4).1) ((ltoWord a0 a1 a2 a3 a4).2.1) ((ltoWord a0 a1 a2 a3 a4).2.2.1) ((ltoWord a0 a1 a2 a3 a4).2.2.2.1) ((ltoWord a0 a1 a2 a3 a4).2.2.2.2) ((ltoWord a0 a1 a2 a3 a4).1) ((ltoWord a0 a1 a2 a3 a4).2.1) ((ltoWord a0 a1 a2 a3 a4).2.2.1) ((ltoWord a0 a1 a2 a3 a4).2.2.2.1) ((ltoWord a0 a1 a2 a3 a4).2.2.2.2))) (some (e_lFnExactWordOk false)) (some (e_lFnExactWordOk true))) none) none)) none) none) none) none)) none)) (by kernel_rfl) ?_
  exact (cndT (by simp [q_lszWord, bigOps_len (bigWord_ops hp)]) (fun _h => (cnd (F := fun r => some (e_lFnExactWordOk r)) (fun _h => rfl) (fun _h => (cndT (by have ho := szWord_spec a0 a1 a2 a3 a4 1048576 (by decide) (by decide) (bigWord_ops hp) (by assumption); simp [q_ltoWord, q_sWordOk, q_iWordOk, q_leqWord, toWord_same, ho, okOps_okL ho]) (fun _h => (cndT (by have ho := szWord_spec a0 a1 a2 a3 a4 1048576 (by decide) (by decide) (bigWord_ops hp) (by assumption); simp [q_ltoWord, q_sWordOk, q_iWordOk, q_leqWord, toWord_same, ho, okOps_okL ho]) (fun _h => (cndT (by have ho := szWord_spec a0 a1 a2 a3 a4 1048576 (by decide) (by decide) (bigWord_ops hp) (by assumption); simp [q_ltoWord, q_sWordOk, q_iWordOk, q_leqWord, toWord_same, ho, okOps_okL ho]) (fun _h => (cndT (by have ho := szWord_spec a0 a1 a2 a3 a4 1048576 (by decide) (by decide) (bigWord_ops hp) (by assumption); simp [q_ltoWord, q_sWordOk, q_iWordOk, q_leqWord, toWord_same, ho, okOps_okL ho]) (fun _h => (cnd (F := fun r => some (e_lFnExactWordOk r)) (fun _h => rfl) (fun _h => (cndT (by have ho := szWord_spec a0 a1 a2 a3 a4 1048576 (by decide) (by decide) (bigWord_ops hp) (by assumption); simp [q_ltoWord, q_sWordOk, q_iWordOk, q_leqWord, toWord_same, ho, okOps_okL ho]) (fun _h => (cndT (by have ho := szWord_spec a0 a1 a2 a3 a4 1048576 (by decide) (by decide) (bigWord_ops hp) (by assumption); simp [q_ltoWord, q_sWordOk, q_iWordOk, q_leqWord, toWord_same, ho, okOps_okL ho]) (fun _h => (cnd (F := fun r => some (e_lFnExactWordOk r)) (fun _h => rfl) (fun _h => rfl))))))))))))))))))))
theorem run_lFnExactWordOk : ∀ d, pre_lFnExactWordOk d = true → runP true Try.prog tt S23 QF23 (fun _ _ => none) Try.f4 (argsMk P_lFnExactWordOk d) = some (g_lFnExactWordOk d) := fun d hp => runA_lFnExactWordOk d.1.1 d.1.2.1 d.1.2.2.1 d.1.2.2.2.1 d.1.2.2.2.2.1 hp
theorem c_lFnExactWordOk : PContract Try.prog 4 (sumOf P_lFnExactWordOk pre_lFnExactWordOk g_lFnExactWordOk) := PContract.of_data true G23 (fn := Try.f4) (by kernel_rfl) (L := fun _ _ => none) (by rw [show loopsIn 0 (bodyOf Try.f4) = [] by kernel_rfl]; simp) P_lFnExactWordOk pre_lFnExactWordOk g_lFnExactWordOk run_lFnExactWordOk
def S24 : Tab := Tab.add S23 4 (lift (sumOf P_lFnExactWordOk pre_lFnExactWordOk g_lFnExactWordOk))
def QF24 : FuncId → Bool := qadd QF23 4
theorem G24 : Good Try.prog tt S24 QF24 := G23.addQ c_lFnExactWordOk ⟨Try.f4, by kernel_rfl, by kernel_rfl, by kernel_rfl⟩ (fun _ => rfl)
theorem pre_of_lFnExactWordOk (k s t : Int) (l : List (Int × ByteArray × ByteArray)) (y : Bool) (h : bigT (.pair (.int .i64) (.pair (.int .i64) (.pair (.int .i64) (.pair (.sl (.pair (.int .i64) (.pair .str .str))) .bool)))) (k, (s, (t, (l, y)))) = true) : pre_lFnExactWordOk ((k, s, t, l, y, ()), ()) = true := h
theorem exact_lFnExactWordOk (k s t : Int) (l : List (Int × ByteArray × ByteArray)) (y : Bool) (hb : pre_lFnExactWordOk ((k, s, t, l, y, ()), ()) = true) : lFnExactWordOk k s t l y = true := by
  simp only [lFnExactWordOk, toWord_same, wordOk_same, eqWord_same]
  simp

end Go.Proofs.Ytoddiofedjnapaa.Eng

/- What the functions that FnExactPutWord reaches compute, and that it answers true. -/
import Derived.Test.YtoddiofedjnapaaT
import Derived.Test.YtoddiofedjnapaaRows
namespace Go.Proofs.Ytoddiofedjnapaa.Eng
open Go Go.RowKit
set_option linter.unusedSimpArgs false
set_option linter.unusedVariables false
set_option maxRecDepth 10000
noncomputable def S0 : Tab := fun _ => none
noncomputable def QF0 : FuncId → Bool := fun _ => false
theorem G0 : Good Try.prog tt S0 QF0 := Good.start tt_ok (by kernel_rfl)
/-! Plain laws: order of bytes, keys, ops. -/
theorem bytesLess_irrefl : ∀ a : List UInt8, Op.bytesLess a a = false := by
  intro a
  induction a with
  | nil => rfl
  | cons x a ih => simp only [Op.bytesLess, ih, Bool.and_false, Bool.or_false, decide_eq_false_iff_not]; exact UInt8.lt_irrefl x
theorem bytesLess_ge : ∀ a b : List UInt8, (!(Op.bytesLess a b)) = (Op.bytesLess b a || b == a) := by
  intro a
  induction a with
  | nil => intro b; cases b <;> simp [Op.bytesLess]
  | cons x a ih =>
    intro b
    cases b with
    | nil => simp [Op.bytesLess]
    | cons y b =>
      simp only [Op.bytesLess]
      by_cases h1 : x < y
      · have h2 : ¬ y < x := fun h => UInt8.lt_irrefl _ (UInt8.lt_trans h1 h)
        have h3 : (y == x) = false := by rw [beq_eq_false_iff_ne]; intro h; subst h; exact h2 h1
        have h4 : (y :: b == x :: a) = false := by rw [List.cons_beq_cons, h3, Bool.false_and]
        simp [h1, h2, h3, h4]
      · by_cases h5 : x = y
        · subst h5
          have h6 : (x :: b == x :: a) = (b == a) := by rw [List.cons_beq_cons]; simp
          have := ih b
          simp only [h1, decide_false, Bool.false_or, beq_self_eq_true, Bool.true_and, h6, this]
        · have h7 : y < x := by
            rcases Nat.lt_trichotomy x.toNat y.toNat with h | h | h
            · exact absurd (UInt8.lt_iff_toNat_lt.2 h) h1
            · exact absurd (UInt8.toNat_inj.1 h) h5
            · exact UInt8.lt_iff_toNat_lt.2 h
          have h8 : (x == y) = false := by rw [beq_eq_false_iff_ne]; exact h5
          simp [h1, h7, h8]
theorem allF_congr {p q : Nat → Bool} : ∀ k i, (∀ j, i ≤ j → j < i + k → p j = q j) → allF p k i = allF q k i := by
  intro k
  induction k with
  | zero => intro i h; rfl
  | succ k ih => intro i h; simp only [allF]; rw [h i (Nat.le_refl _) (by omega), ih (i + 1) (fun j h1 h2 => h j (by omega) (by omega))]
theorem allF_same {p : Nat → Bool} (k i : Nat) (h : ∀ j, i ≤ j → j < i + k → p j = true) : allF p k i = true := (allF_true k i).2 h
theorem szN_all {f : Nat → Int → Int} {Q : Nat → Prop} {M : Int} : ∀ (k i : Nat) (b : Int), (∀ j b, i ≤ j → j < i + k → 0 ≤ b → b ≤ M → 0 ≤ f j b → Q j ∧ f j b ≤ b) → 0 ≤ b → b ≤ M → isInl (szN f k i b) = true →
    (∀ j, i ≤ j → j < i + k → Q j) ∧ 0 ≤ getInl (-1) (szN f k i b) ∧ getInl (-1) (szN f k i b) ≤ b := by
  intro k
  induction k with
  | zero => intro i b hf h1 h2 h3; exact ⟨fun j hj hk => by omega, h1, Int.le_refl _⟩
  | succ k ih =>
    intro i b hf h1 h2 h3
    have e : szN f (k + 1) i b = cond (decide (f i b < 0)) (.inr ()) (szN f k (i + 1) (f i b)) := by
      simp only [szN, loopN]
      cases decide (f i b < 0) <;> rfl
    rw [e] at h3 ⊢
    cases hd : decide (f i b < 0) with
    | true => rw [hd] at h3; cases h3
    | false =>
      rw [hd] at h3
      simp only [cond_false] at h3 ⊢
      have h0 : 0 ≤ f i b := by have := of_decide_eq_false hd; omega
      obtain ⟨q1, q2⟩ := hf i b (Nat.le_refl _) (by omega) h1 h2 h0
      obtain ⟨r1, r2, r3⟩ := ih (i + 1) (f i b) (fun j b hj hk => hf j b (by omega) (by omega)) h0 (by omega) h3
      refine ⟨fun j hj hk => ?_, r2, by omega⟩
      by_cases ej : j = i
      · exact ej ▸ q1
      · exact r1 j (by omega) (by omega)
noncomputable abbrev OpT : Type := Int × ByteArray × ByteArray
noncomputable def dOp : Int × ByteArray × ByteArray := ((0 : Int), ((⟨#[]⟩ : ByteArray), (⟨#[]⟩ : ByteArray)))
noncomputable def okOp (o : Int × ByteArray × ByteArray) : Bool := okS o.2.1 && okS o.2.2
noncomputable def okOps (l : List (Int × ByteArray × ByteArray)) : Bool := okL l && l.all okOp
theorem okOps_at {l : List (Int × ByteArray × ByteArray)} (h : okOps l = true) (i : Nat) (hi : i < l.length) : okS (l.getD i dOp).2.1 = true ∧ okS (l.getD i dOp).2.2 = true := by
  simp only [okOps, Bool.and_eq_true, List.all_eq_true] at h
  have := h.2 (l.getD i dOp) (by simp [List.getD_eq_getElem?_getD, hi])
  simpa [okOp] using this
theorem okOps_len {l : List (Int × ByteArray × ByteArray)} (h : okOps l = true) : l.length ≤ 1048576 := by
  simp only [okOps, Bool.and_eq_true] at h
  exact okL_le h.1
noncomputable def bigS (s : ByteArray) : Bool := decide (s.size ≤ 9223372036854775807)
noncomputable def bigOps (l : List (Int × ByteArray × ByteArray)) : Bool := decide (l.length ≤ 9223372036854775807) && l.all (fun o => bigS o.2.1 && bigS o.2.2)
theorem bigOps_at {l : List (Int × ByteArray × ByteArray)} (h : bigOps l = true) (i : Nat) (hi : i < l.length) : bigS (l.getD i dOp).2.1 = true ∧ bigS (l.getD i dOp).2.2 = true := by
  simp only [bigOps, Bool.and_eq_true, List.all_eq_true] at h
  exact h.2 (l.getD i dOp) (by simp [List.getD_eq_getElem?_getD, hi])
theorem okOps_of {l : List (Int × ByteArray × ByteArray)} (h1 : l.length ≤ 1048576) (h2 : ∀ i, i < l.length → okS (l.getD i dOp).2.1 = true ∧ okS (l.getD i dOp).2.2 = true) : okOps l = true := by
  simp only [okOps, okL, Bool.and_eq_true, decide_eq_true_eq, List.all_eq_true]
  refine ⟨h1, fun o ho => ?_⟩
  obtain ⟨i, hi, rfl⟩ := List.getElem_of_mem ho
  have := h2 i hi
  simp only [List.getD_eq_getElem?_getD, List.getElem?_eq_getElem hi, Option.getD_some] at this
  simp [okOp, this.1, this.2]
theorem ba_beq (a b : ByteArray) : (a.toList == b.toList) = decide (a = b) := by
  rw [ByteArray.toList_eq, ByteArray.toList_eq]
  by_cases h : a = b
  · subst h; simp
  · rw [decide_eq_false h, beq_eq_false_iff_ne]
    intro e
    exact h (by cases a; cases b; simp at e; rw [e])
theorem bigOps_len {l : List (Int × ByteArray × ByteArray)} (h : bigOps l = true) : l.length ≤ 9223372036854775807 := by
  simp only [bigOps, Bool.and_eq_true, decide_eq_true_eq] at h; exact h.1
theorem okOps_okL {l : List (Int × ByteArray × ByteArray)} (h : okOps l = true) : okL l = true := by
  simp only [okOps, Bool.and_eq_true] at h; exact h.1
theorem bigOps_of {l : List (Int × ByteArray × ByteArray)} (h : bigT (.sl (.pair (.int .i64) (.pair .str .str))) l = true) : bigOps l = true := by
  have h : (decide (l.length ≤ maxLen) && l.all fun o => (Lit.int .i64 o.1).wf && (decide (o.2.1.size ≤ maxLen) && decide (o.2.2.size ≤ maxLen))) = true := h
  have hm : maxLen = 9223372036854775807 := by decide
  rw [hm] at h
  simp only [Bool.and_eq_true, decide_eq_true_eq, List.all_eq_true] at h
  simp only [bigOps, bigS, Bool.and_eq_true, decide_eq_true_eq, List.all_eq_true]
  exact ⟨h.1, fun o ho => (h.2 o ho).2⟩
theorem bigRec_ops {k t : Int} {l : List (Int × ByteArray × ByteArray)} (h : bigT (.pair (.int .i64) (.pair (.int .i64) (.sl (.pair (.int .i64) (.pair .str .str))))) (k, (t, l)) = true) : bigOps l = true := by
  have hb : ((Lit.int .i64 k).wf && ((Lit.int .i64 t).wf && bigT (.sl (.pair (.int .i64) (.pair .str .str))) l)) = true := h
  rw [Bool.and_eq_true, Bool.and_eq_true] at hb
  exact bigOps_of hb.2.2
/-- The high groups of a number, and what is left. -/
noncomputable def hiF (g : Int → Int) : Nat → Int → List Int × Int
  | 0, x => ([], x)
  | k + 1, x => cond (decide (x > 127)) (g x :: (hiF g k (Int.fdiv x (2 ^ 7))).1, (hiF g k (Int.fdiv x (2 ^ 7))).2) ([], x)
theorem fdiv128 (x : Int) : Int.fdiv x (2 ^ 7) = x / 128 := by
  rw [show (2 : Int) ^ 7 = 128 from rfl, Int.fdiv_eq_ediv_of_nonneg _ (by decide)]
theorem hiF_small (g : Int → Int) (k : Nat) : ∀ x : Int, 0 ≤ x → x < 128 ^ (k + 1) → 0 ≤ (hiF g k x).2 ∧ (hiF g k x).2 ≤ 127 := by
  induction k with
  | zero => intro x h0 h1; simp only [hiF]; exact ⟨h0, by rw [show (128 : Int) ^ (0 + 1) = 128 from rfl] at h1; omega⟩
  | succ k ih =>
    intro x h0 h1
    simp only [hiF]
    by_cases hx : x > 127
    · simp only [decide_eq_true hx, cond_true, fdiv128]
      rw [Int.pow_succ] at h1
      exact ih (x / 128) (by omega) (by omega)
    · simp only [decide_eq_false hx, cond_false]
      exact ⟨h0, by omega⟩
theorem hiF_len (g : Int → Int) (k : Nat) : ∀ x : Int, (hiF g k x).1.length ≤ k := by
  induction k with
  | zero => intro x; simp [hiF]
  | succ k ih =>
    intro x
    simp only [hiF]
    cases decide (x > 127) with
    | true => simp; exact ih _
    | false => simp
noncomputable def gNum (x : Int) : Int := IntKind.wrap .u8 (ior .i64 (iand .i64 x (127 : Int)) (128 : Int))
noncomputable def gNum' (x : Int) : Int := IntKind.wrap .u8 (ior .i64 (128 : Int) (iand .i64 x (127 : Int)))
theorem gNum_same : gNum' = gNum := by
  funext x
  simp only [gNum, gNum', ior]
  rw [BitVec.or_comm]
theorem nX_is : ∃ f : Int → List Int × Int, ∀ x, f x = hiF gNum 4 x := ⟨_, fun _ => rfl⟩
/-- The same, not to be unfolded. -/
noncomputable def nX : Int → List Int × Int := Classical.choose nX_is
theorem nX_eq (x : Int) : nX x = hiF gNum 4 x := Classical.choose_spec nX_is x
theorem nX_eq' (x : Int) : nX x = hiF gNum' 4 x := by rw [gNum_same]; exact nX_eq x
theorem nX_len (x : Int) : (nX x).1.length ≤ 4 := by rw [nX_eq]; exact hiF_len gNum 4 x
/-- The bytes of a number. -/
noncomputable def numB (x : Int) : List Int := (nX x).1 ++ [IntKind.wrap .u8 (nX x).2]
theorem numB_len (x : Int) : (numB x).length ≤ 5 := by
  have := nX_len x
  simp [numB]; omega
noncomputable def clampN (n : Int) : Int := if n > 1000000000 then 1000000000 else if n < 0 then 0 else n
noncomputable def textB (s : ByteArray) : List Int := numB (s.size : Int) ++ strInts s
noncomputable def opB (o : Int × ByteArray × ByteArray) : List Int := numB (clampN o.1) ++ (textB o.2.1 ++ textB o.2.2)
theorem clampN_of {n : Int} (h0 : 0 ≤ n) (h1 : n ≤ 1000000000) : clampN n = n := by simp only [clampN]; split <;> (try split) <;> omega
theorem strInts_len (s : ByteArray) : (strInts s).length = s.size := by rw [strInts, List.length_map, Array.length_toList]; rfl
theorem textB_len (s : ByteArray) : (textB s).length ≤ 5 + s.size := by
  have := numB_len (s.size : Int)
  simp [textB, strInts_len]; omega

noncomputable def clampI (x : Int) : Int := if (if (1000000000 : Int) < x then (1000000000 : Int) else x) > (0 : Int) then (if (1000000000 : Int) < x then (1000000000 : Int) else x) else (0 : Int)
theorem clampI_eq (x : Int) : clampI x = clampN x := by
  simp only [clampI, clampN]
  split <;> split <;> (try split) <;> omega
theorem clampN_range (x : Int) : 0 ≤ clampN x ∧ clampN x ≤ 1000000000 := by
  simp only [clampN]
  split <;> (try split) <;> omega
theorem clampI_range (x : Int) : 0 ≤ clampI x ∧ clampI x ≤ 1000000000 := by rw [clampI_eq]; exact clampN_range x

noncomputable def digB (x : Int) : ByteArray := (⟨([IntKind.wrap .u8 (IntKind.wrap .i64 ((48 : Int) + (Int.tmod x (10 : Int))))].map fun n => UInt8.ofNat n.toNat).toArray⟩ : ByteArray)
theorem digB_size (x : Int) : (digB x).size = 1 := rfl
/-- A number's digits. -/
noncomputable def txtN : Nat → Int → ByteArray → ByteArray
  | 0, _, s => s
  | k + 1, x, s => cond (decide (x > 0)) (txtN k (IntKind.wrap .i64 (Int.tdiv x (10 : Int))) (digB x ++ s)) s
theorem txtN_len : ∀ (k : Nat) (x : Int) (s : ByteArray), (txtN k x s).size ≤ k + s.size := by
  intro k
  induction k with
  | zero => intro x s; simp [txtN]
  | succ k ih =>
    intro x s
    simp only [txtN]
    cases decide (x > 0) with
    | true =>
      have := ih (IntKind.wrap .i64 (Int.tdiv x (10 : Int))) (digB x ++ s)
      rw [ByteArray.size_append, digB_size] at this
      simp only [cond_true]; omega
    | false => simp only [cond_false]; omega

/-! 102 loop.example/g00244/laws.szOp -/
noncomputable abbrev P_lszOp : List PSh := [.agg [(.int .i64), .str, .str], .t (.int .i64)]
noncomputable def lszOp (a0 : Int) (a1 : ByteArray) (a2 : ByteArray) (a3 : Int) : Int := (cond (decide ((IntKind.wrap .i64 (a3 - ((a1.size : Nat) : Int))) < (0 : Int))) (-1 : Int) (cond (decide ((IntKind.wrap .i64 ((IntKind.wrap .i64 (a3 - ((a1.size : Nat) : Int))) - ((a2.size : Nat) : Int))) < (0 : Int))) (-1 : Int) (IntKind.wrap .i64 ((IntKind.wrap .i64 (a3 - ((a1.size : Nat) : Int))) - ((a2.size : Nat) : Int)))))
noncomputable abbrev e_lszOp (r : Int) : AV × List AObj := ((.t true (.int .i64) r), [])
noncomputable abbrev g_lszOp : pshsDen P_lszOp → AV × List AObj := fun d => e_lszOp (lszOp d.1.1 d.1.2.1 d.1.2.2.1 d.2.1)
noncomputable abbrev pre_lszOp : pshsDen P_lszOp → Bool := fun d => true
theorem runA_lszOp (a0 : Int) (a1 : ByteArray) (a2 : ByteArray) (a3 : Int) : runP true Try.prog tt S0 QF0 (fun _ _ => none) Try.f102 (argsMk P_lszOp ((a0, (a1, (a2, ()))), (a3, ()))) = some (g_lszOp ((a0, (a1, (a2, ()))), (a3, ()))) := by
  refine Eq.trans (b := (cond (decide ((IntKind.wrap .i64 (a3 - ((a1.size : Nat) : Int))) < (0 : Int))) (some (e_lszOp (-1 : Int))) (cond (decide ((IntKind.wrap .i64 ((IntKind.wrap .i64 (a3 - ((a1.size : Nat) : Int))) - ((a2.size : Nat) : Int))) < (0 : Int))) (some (e_lszOp (-1 : Int))) (some (e_lszOp (IntKind.wrap .i64 ((IntKind.wrap .i64 (a3 - ((a1.size : Nat) : Int))) - ((a2.size : Nat) : Int)))))))) (by kernel_rfl) ?_
  exact (cnd (F := fun r => some (e_lszOp r)) (fun _h => rfl) (fun _h => (cnd (F := fun r => some (e_lszOp r)) (fun _h => rfl) (fun _h => rfl))))
theorem run_lszOp : ∀ d, pre_lszOp d = true → runP true Try.prog tt S0 QF0 (fun _ _ => none) Try.f102 (argsMk P_lszOp d) = some (g_lszOp d) := fun d hp => runA_lszOp d.1.1 d.1.2.1 d.1.2.2.1 d.2.1
theorem c_lszOp : PContract Try.prog 102 (sumOf P_lszOp pre_lszOp g_lszOp) := PContract.of_data true G0 (fn := Try.f102) (by kernel_rfl) (L := fun _ _ => none) (by rw [show loopsIn 0 (bodyOf Try.f102) = [] by kernel_rfl]; simp) P_lszOp pre_lszOp g_lszOp run_lszOp
noncomputable def S1 : Tab := Tab.add S0 102 (lift (sumOf P_lszOp pre_lszOp g_lszOp))
noncomputable def QF1 : FuncId → Bool := qadd QF0 102
theorem G1 : Good Try.prog tt S1 QF1 := G0.addQ c_lszOp ⟨Try.f102, by kernel_rfl, by kernel_rfl, by kernel_rfl⟩ (fun _ => rfl)

/-! 42 loop.example/g00244/laws.szOpS -/
noncomputable def f_lszOpS_0 (x0 : List (Int × ByteArray × ByteArray)) (i : Nat) (b : Int) : Int := (lszOp ((x0.getD i ((0 : Int), ((⟨#[]⟩ : ByteArray), (⟨#[]⟩ : ByteArray)))).1) (((x0.getD i ((0 : Int), ((⟨#[]⟩ : ByteArray), (⟨#[]⟩ : ByteArray)))).2).1) (((x0.getD i ((0 : Int), ((⟨#[]⟩ : ByteArray), (⟨#[]⟩ : ByteArray)))).2).2) b)
noncomputable abbrev P_lszOpS : List PSh := [.t (.sl (.pair (.int .i64) (.pair .str .str))), .t (.int .i64)]
noncomputable abbrev S_lszOpS_0 : SS := ⟨[.t false (.sl (.pair (.int .i64) (.pair .str .str))), .t true (.int .i64), .junk, .junk, .junk, .t true (.int .i64), .junk, .junk, .junk, .junk, .junk, .junk, .junk, .junk, .junk, .junk, .junk, .junk, .junk, .junk, .junk, .junk, .junk, .junk, .junk, .junk, .junk], []⟩
noncomputable abbrev E_lszOpS_0_0 : SS := ⟨[.junk, .junk, .junk, .junk, .t true (.int .i64), .junk, .junk, .junk, .junk, .junk, .junk, .junk, .junk, .junk, .junk, .junk, .junk, .junk, .junk, .junk, .junk, .junk, .junk, .junk, .junk, .junk, .junk], []⟩
noncomputable abbrev E_lszOpS_0_1 : SS := ⟨[.junk, .t true (.int .i64), .junk, .junk, .junk, .junk, .junk, .junk, .junk, .junk, .junk, .junk, .junk, .junk, .junk, .junk, .junk, .junk, .junk, .junk, .junk, .junk, .junk, .junk, .junk, .junk, .junk], []⟩
noncomputable def st_lszOpS_0 (x0 : List (Int × ByteArray × ByteArray)) (x1 : Int) (x5 : Int) : RT S_lszOpS_0.den := (.br (decide (x5 < ((x0.length : Nat) : Int))) (.br (decide (0 ≤ x5 ∧ x5 < ((x0.length : Nat) : Int))) (.br (decide ((lszOp ((x0.getD x5.toNat ((0 : Int), ((⟨#[]⟩ : ByteArray), (⟨#[]⟩ : ByteArray)))).1) (((x0.getD x5.toNat ((0 : Int), ((⟨#[]⟩ : ByteArray), (⟨#[]⟩ : ByteArray)))).2).1) (((x0.getD x5.toNat ((0 : Int), ((⟨#[]⟩ : ByteArray), (⟨#[]⟩ : ByteArray)))).2).2) x1) < (0 : Int))) (.done .ret E_lszOpS_0_0 (((), (), (), (), (-1 : Int), (), (), (), (), (), (), (), (), (), (), (), (), (), (), (), (), (), (), (), (), (), (), ()), ())) (.next ((x0, (lszOp ((x0.getD x5.toNat ((0 : Int), ((⟨#[]⟩ : ByteArray), (⟨#[]⟩ : ByteArray)))).1) (((x0.getD x5.toNat ((0 : Int), ((⟨#[]⟩ : ByteArray), (⟨#[]⟩ : ByteArray)))).2).1) (((x0.getD x5.toNat ((0 : Int), ((⟨#[]⟩ : ByteArray), (⟨#[]⟩ : ByteArray)))).2).2) x1), (), (), (), IntKind.wrap .i64 (x5 + (1 : Int)), (), (), (), (), (), (), (), (), (), (), (), (), (), (), (), (), (), (), (), (), (), ()), ()))) .fail) (.done (.exit 0) E_lszOpS_0_1 (((), x1, (), (), (), (), (), (), (), (), (), (), (), (), (), (), (), (), (), (), (), (), (), (), (), (), (), ()), ())))
noncomputable def T_lszOpS_0 (x0 : List (Int × ByteArray × ByteArray)) (x1 : Int) (x5 : Int) : CT := (.br (decide (0 ≤ x5) && okL x0) (.br (isInl (szN (f_lszOpS_0 x0) (x0.length - x5.toNat) x5.toNat x1)) (.done (.exit 0) E_lszOpS_0_1 (((), (getInl (-1) (szN (f_lszOpS_0 x0) (x0.length - x5.toNat) x5.toNat x1)), (), (), (), (), (), (), (), (), (), (), (), (), (), (), (), (), (), (), (), (), (), (), (), (), (), ()), ())) (.done .ret E_lszOpS_0_0 (((), (), (), (), (-1 : Int), (), (), (), (), (), (), (), (), (), (), (), (), (), (), (), (), (), (), (), (), (), (), ()), ()))) .fail)
noncomputable abbrev sp_lszOpS_0 : S_lszOpS_0.den → RT S_lszOpS_0.den := fun d => st_lszOpS_0 d.1.1 d.1.2.1 d.1.2.2.2.2.2.1
noncomputable abbrev pk_lszOpS_0 (x0 : List (Int × ByteArray × ByteArray)) (x1 : Int) (x5 : Int) : S_lszOpS_0.den := ((x0, x1, (), (), (), x5, (), (), (), (), (), (), (), (), (), (), (), (), (), (), (), (), (), (), (), (), (), ()), ())
noncomputable def body_lszOpS_0 : Code := ((loopsIn 0 (bodyOf Try.f42)).getD 0 (0, .skip)).2
theorem R_lszOpS_0 (x0 : List (Int × ByteArray × ByteArray)) (x1 : Int) (x5 : Int) : (T_lszOpS_0 x0 x1 x5).val (D := S_lszOpS_0.den) = .fail ∨ Runs sp_lszOpS_0 (pk_lszOpS_0 x0 x1 x5) (T_lszOpS_0 x0 x1 x5).val := by
  cases hc : (decide (0 ≤ x5) && okL x0) with
  | false => left; simp only [T_lszOpS_0, CT.val, hc, cond_false]
  | true =>
    right
    simp only [T_lszOpS_0, CT.val, hc, cond_true]
    simp only [Bool.and_eq_true, decide_eq_true_eq] at hc
    obtain ⟨i, rfl⟩ := Int.eq_ofNat_of_zero_le hc.1
    have hs := okL_le hc.2
    simp only [Int.toNat_natCast]
    have h := Runs.loopN (step := sp_lszOpS_0) (fun j b => pk_lszOpS_0 x0 b (j : Int)) (fun _ _ => True) (x0.length) (fun i b => cond (decide (f_lszOpS_0 x0 i b < 0)) (.inr ()) (.inl (f_lszOpS_0 x0 i b)))
      (fin := fun b => ((.done (.exit 0) E_lszOpS_0_1 (((), b, (), (), (), (), (), (), (), (), (), (), (), (), (), (), (), (), (), (), (), (), (), (), (), (), (), ()), ())) : CT).val) (bad := fun _ => ((.done .ret E_lszOpS_0_0 (((), (), (), (), (-1 : Int), (), (), (), (), (), (), (), (), (), (), (), (), (), (), (), (), (), (), (), (), (), (), ()), ())) : CT).val)
      (fun i b hi _ => ?_) (fun i b hi _ => ?_) (x0.length - i) i x1 rfl trivial
    · simp only [szN]
      revert h
      cases loopN (fun i b => cond (decide (f_lszOpS_0 x0 i b < 0)) (.inr ()) (.inl (f_lszOpS_0 x0 i b))) (x0.length - i) i x1 with
      | inl b => exact id
      | inr c => exact id
    · 
      have h0a : decide ((i : Int) < ((x0.length : Nat) : Int)) = true := decide_eq_true (by omega)
      have h0b : decide (0 ≤ (i : Int) ∧ (i : Int) < ((x0.length : Nat) : Int)) = true := decide_eq_true (by omega)
      have e : (sp_lszOpS_0 (pk_lszOpS_0 x0 b (i : Int))).val = cond (decide (f_lszOpS_0 x0 i b < 0)) ((.done .ret E_lszOpS_0_0 (((), (), (), (), (-1 : Int), (), (), (), (), (), (), (), (), (), (), (), (), (), (), (), (), (), (), (), (), (), (), ()), ())) : CT).val (.next (pk_lszOpS_0 x0 (f_lszOpS_0 x0 i b) ((i + 1 : Nat) : Int))) := by
        simp only [sp_lszOpS_0, st_lszOpS_0, RT.val, h0a, h0b, cond_true, wrapS i (by omega), Int.toNat_natCast]
        rfl
      cases hr : decide (f_lszOpS_0 x0 i b < 0) with
      | true => exact .inr ⟨(), _, _, _, rfl, by rw [e, hr]; rfl, rfl, by simp⟩
      | false => exact .inl ⟨_, rfl, trivial, by rw [e, hr]; rfl⟩
    · have h1 : decide ((i : Int) < ((x0.length : Nat) : Int)) = false := decide_eq_false (by omega)
      exact ⟨by simp only [sp_lszOpS_0, st_lszOpS_0, RT.val, h1, cond_false]; rfl, _, _, _, rfl, by simp⟩
theorem rd_lszOpS_0 : ∀ d, execC Try.prog tt S1 QF1 (fun _ _ => none) 0 body_lszOpS_0 (S_lszOpS_0.st d 0 []) (fun e s' => some (e, S_lszOpS_0.cutE (kepts [4] [(0, [1])]) e s')) = (sp_lszOpS_0 d).opt 0 [] := by
  intro d
  kernel_rfl
noncomputable abbrev say_lszOpS_0 : St → Option Tree := S_lszOpS_0.say 0 [] [] (fun d => T_lszOpS_0 d.1.1 d.1.2.1 d.1.2.2.2.2.2.1)
theorem lw_lszOpS_0 : LoopWp Try.prog say_lszOpS_0 body_lszOpS_0 := SS.wp G1 (fun _ _ => none) (by rw [show loopsIn 0 body_lszOpS_0 = [] by kernel_rfl]; simp) S_lszOpS_0 0 [] (kepts [4] [(0, [1])]) [] sp_lszOpS_0 rd_lszOpS_0 _ (fun d => R_lszOpS_0 d.1.1 d.1.2.1 d.1.2.2.2.2.2.1)
noncomputable def lszOpS (a0 : List (Int × ByteArray × ByteArray)) (a1 : Int) : Int := (cond (decide ((IntKind.wrap .i64 (a1 - ((a0.length : Nat) : Int))) < (0 : Int))) (-1 : Int) (cond (isInl (szN (f_lszOpS_0 a0) (a0.length - (0 : Int).toNat) (0 : Int).toNat (IntKind.wrap .i64 (a1 - ((a0.length : Nat) : Int))))) (getInl (-1) (szN (f_lszOpS_0 a0) (a0.length - (0 : Int).toNat) (0 : Int).toNat (IntKind.wrap .i64 (a1 - ((a0.length : Nat) : Int))))) (-1 : Int)))
noncomputable abbrev e_lszOpS (r : Int) : AV × List AObj := ((.t true (.int .i64) r), [])
noncomputable abbrev g_lszOpS : pshsDen P_lszOpS → AV × List AObj := fun d => e_lszOpS (lszOpS d.1 d.2.1)
noncomputable def q_lszOpS (a0 : List (Int × ByteArray × ByteArray)) (a1 : Int) : Bool := decide (0 ≤ a1 ∧ a1 ≤ 1048576 ∧ a0.length ≤ 9223372036854775807)
noncomputable abbrev pre_lszOpS : pshsDen P_lszOpS → Bool := fun d => q_lszOpS d.1 d.2.1
theorem runA_lszOpS (a0 : List (Int × ByteArray × ByteArray)) (a1 : Int) (hp : (decide (0 ≤ a1 ∧ a1 ≤ 1048576 ∧ a0.length ≤ 9223372036854775807)) = true) : runP true Try.prog tt S1 QF1 (fun b => match b with | 0 => say_lszOpS_0 | _ => fun _ => none) Try.f42 (argsMk P_lszOpS (a0, (a1, ()))) = some (g_lszOpS (a0, (a1, ()))) := by
  refine Eq.trans (b := (cond (decide ((IntKind.wrap .i64 (a1 - ((a0.length : Nat) : Int))) < (0 : Int))) (some (e_lszOpS (-1 : Int))) (cond (decide (0 ≤ (0 : Int)) && okL a0) (cond (isInl (szN (f_lszOpS_0 a0) (a0.length - (0 : Int).toNat) (0 : Int).toNat (IntKind.wrap .i64 (a1 - ((a0.length : Nat) : Int))))) (some (e_lszOpS (getInl (-1) (szN (f_lszOpS_0 a0) (a0.length - (0 : Int).toNat) (0 : Int).toNat (IntKind.wrap .i64 (a1 - ((a0.length : Nat) : Int))))))) (some (e_lszOpS (-1 : Int)))) none))) (by kernel_rfl) ?_
  exact (cnd (F := fun r => some (e_lszOpS r)) (fun _h => rfl) (fun _h => (cndT (by simp only [decide_eq_true_eq, decide_eq_false_iff_not] at hp _h; have hw := wrap64 (n := a1 - ((a0.length : Nat) : Int)) (by omega) (by omega); rw [hw] at _h; simp [okL]; omega) (fun _h => (cnd (F := fun r => some (e_lszOpS r)) (fun _h => rfl) (fun _h => rfl))))))
theorem run_lszOpS : ∀ d, pre_lszOpS d = true → runP true Try.prog tt S1 QF1 (fun b => match b with | 0 => say_lszOpS_0 | _ => fun _ => none) Try.f42 (argsMk P_lszOpS d) = some (g_lszOpS d) := fun d hp => runA_lszOpS d.1 d.2.1 hp
theorem c_lszOpS : PContract Try.prog 42 (sumOf P_lszOpS pre_lszOpS g_lszOpS) := PContract.of_data true G1 (fn := Try.f42) (by kernel_rfl) (L := fun b => match b with | 0 => say_lszOpS_0 | _ => fun _ => none) (by rw [show loopsIn 0 (bodyOf Try.f42) = [(0, body_lszOpS_0)] by kernel_rfl]; intro p hp; simp only [List.mem_singleton] at hp; subst hp; exact lw_lszOpS_0) P_lszOpS pre_lszOpS g_lszOpS run_lszOpS
noncomputable def S2 : Tab := Tab.add S1 42 (lift (sumOf P_lszOpS pre_lszOpS g_lszOpS))
noncomputable def QF2 : FuncId → Bool := qadd QF1 42
theorem G2 : Good Try.prog tt S2 QF2 := G1.addQ c_lszOpS ⟨Try.f42, by kernel_rfl, by kernel_rfl, by kernel_rfl⟩ (fun _ => rfl)

/-! 20 loop.example/g00244/laws.szWord -/
noncomputable abbrev P_lszWord : List PSh := [.agg [(.int .i64), (.int .i64), (.int .i64), (.sl (.pair (.int .i64) (.pair .str .str))), .bool], .t (.int .i64)]
noncomputable def lszWord (a0 : Int) (a1 : Int) (a2 : Int) (a3 : List (Int × ByteArray × ByteArray)) (a4 : Bool) (a5 : Int) : Int := (cond (decide ((lszOpS a3 a5) < (0 : Int))) (-1 : Int) (lszOpS a3 a5))
noncomputable abbrev e_lszWord (r : Int) : AV × List AObj := ((.t true (.int .i64) r), [])
noncomputable abbrev g_lszWord : pshsDen P_lszWord → AV × List AObj := fun d => e_lszWord (lszWord d.1.1 d.1.2.1 d.1.2.2.1 d.1.2.2.2.1 d.1.2.2.2.2.1 d.2.1)
noncomputable def q_lszWord (a0 : Int) (a1 : Int) (a2 : Int) (a3 : List (Int × ByteArray × ByteArray)) (a4 : Bool) (a5 : Int) : Bool := decide (0 ≤ a5 ∧ a5 ≤ 1048576 ∧ a3.length ≤ 9223372036854775807)
noncomputable abbrev pre_lszWord : pshsDen P_lszWord → Bool := fun d => q_lszWord d.1.1 d.1.2.1 d.1.2.2.1 d.1.2.2.2.1 d.1.2.2.2.2.1 d.2.1
theorem runA_lszWord (a0 : Int) (a1 : Int) (a2 : Int) (a3 : List (Int × ByteArray × ByteArray)) (a4 : Bool) (a5 : Int) (hp : (decide (0 ≤ a5 ∧ a5 ≤ 1048576 ∧ a3.length ≤ 9223372036854775807)) = true) : runP true Try.prog tt S2 QF2 (fun _ _ => none) Try.f20 (argsMk P_lszWord ((a0, (a1, (a2, (a3, (a4, ()))))), (a5, ()))) = some (g_lszWord ((a0, (a1, (a2, (a3, (a4, ()))))), (a5, ()))) := by
  refine Eq.trans (b := (cond (q_lszOpS a3 a5) (cond (decide ((lszOpS a3 a5) < (0 : Int))) (some (e_lszWord (-1 : Int))) (some (e_lszWord (lszOpS a3 a5)))) none)) (by kernel_rfl) ?_
  exact (cndT (by first | rfl | decide | exact hp | (simp only [Bool.and_eq_true] at hp; simp only [hp]; done) | (simp [*]; done) | (simp [okL] at hp; simp [okL, MAXB]; omega) | (simp_all; done) | (simp at *; omega)) (fun _h => (cnd (F := fun r => some (e_lszWord r)) (fun _h => rfl) (fun _h => rfl))))
theorem run_lszWord : ∀ d, pre_lszWord d = true → runP true Try.prog tt S2 QF2 (fun _ _ => none) Try.f20 (argsMk P_lszWord d) = some (g_lszWord d) := fun d hp => runA_lszWord d.1.1 d.1.2.1 d.1.2.2.1 d.1.2.2.2.1 d.1.2.2.2.2.1 d.2.1 hp
theorem c_lszWord : PContract Try.prog 20 (sumOf P_lszWord pre_lszWord g_lszWord) := PContract.of_data true G2 (fn := Try.f20) (by kernel_rfl) (L := fun _ _ => none) (by rw [show loopsIn 0 (bodyOf Try.f20) = [] by kernel_rfl]; simp) P_lszWord pre_lszWord g_lszWord run_lszWord
noncomputable def S3 : Tab := Tab.add S2 20 (lift (sumOf P_lszWord pre_lszWord g_lszWord))
noncomputable def QF3 : FuncId → Bool := qadd QF2 20
theorem G3 : Good Try.prog tt S3 QF3 := G2.addQ c_lszWord ⟨Try.f20, by kernel_rfl, by kernel_rfl, by kernel_rfl⟩ (fun _ => rfl)

/-! 106 loop.example/g00244/laws.toOp -/
noncomputable abbrev P_ltoOp : List PSh := [.agg [(.int .i64), .str, .str]]
noncomputable def ltoOp (a0 : Int) (a1 : ByteArray) (a2 : ByteArray) : Int × ByteArray × ByteArray := (a0, a1, a2)
noncomputable abbrev e_ltoOp (r : Int × ByteArray × ByteArray) : AV × List AObj := ((.agg [(.t true (.int .i64) r.1), (.t true .str r.2.1), (.t true .str r.2.2)]), [])
noncomputable abbrev g_ltoOp : pshsDen P_ltoOp → AV × List AObj := fun d => e_ltoOp (ltoOp d.1.1 d.1.2.1 d.1.2.2.1)
noncomputable abbrev pre_ltoOp : pshsDen P_ltoOp → Bool := fun d => true
theorem runA_ltoOp (a0 : Int) (a1 : ByteArray) (a2 : ByteArray) : runP true Try.prog tt S3 QF3 (fun _ _ => none) Try.f106 (argsMk P_ltoOp ((a0, (a1, (a2, ()))), ())) = some (g_ltoOp ((a0, (a1, (a2, ()))), ())) := by
  kernel_rfl
theorem run_ltoOp : ∀ d, pre_ltoOp d = true → runP true Try.prog tt S3 QF3 (fun _ _ => none) Try.f106 (argsMk P_ltoOp d) = some (g_ltoOp d) := fun d hp => runA_ltoOp d.1.1 d.1.2.1 d.1.2.2.1
theorem c_ltoOp : PContract Try.prog 106 (sumOf P_ltoOp pre_ltoOp g_ltoOp) := PContract.of_data true G3 (fn := Try.f106) (by kernel_rfl) (L := fun _ _ => none) (by rw [show loopsIn 0 (bodyOf Try.f106) = [] by kernel_rfl]; simp) P_ltoOp pre_ltoOp g_ltoOp run_ltoOp
noncomputable def S4 : Tab := Tab.add S3 106 (lift (sumOf P_ltoOp pre_ltoOp g_ltoOp))
noncomputable def QF4 : FuncId → Bool := qadd QF3 106
theorem G4 : Good Try.prog tt S4 QF4 := G3.addQ c_ltoOp ⟨Try.f106, by kernel_rfl, by kernel_rfl, by kernel_rfl⟩ (fun _ => rfl)

/-! 45 loop.example/g00244/laws.toOpS -/
noncomputable def f_ltoOpS_0 (x0 : List (Int × ByteArray × ByteArray)) (i : Nat) : Int × ByteArray × ByteArray := (((ltoOp ((x0.getD i ((0 : Int), ((⟨#[]⟩ : ByteArray), (⟨#[]⟩ : ByteArray)))).1) (((x0.getD i ((0 : Int), ((⟨#[]⟩ : ByteArray), (⟨#[]⟩ : ByteArray)))).2).1) (((x0.getD i ((0 : Int), ((⟨#[]⟩ : ByteArray), (⟨#[]⟩ : ByteArray)))).2).2)).1), (((ltoOp ((x0.getD i ((0 : Int), ((⟨#[]⟩ : ByteArray), (⟨#[]⟩ : ByteArray)))).1) (((x0.getD i ((0 : Int), ((⟨#[]⟩ : ByteArray), (⟨#[]⟩ : ByteArray)))).2).1) (((x0.getD i ((0 : Int), ((⟨#[]⟩ : ByteArray), (⟨#[]⟩ : ByteArray)))).2).2)).2.1), ((ltoOp ((x0.getD i ((0 : Int), ((⟨#[]⟩ : ByteArray), (⟨#[]⟩ : ByteArray)))).1) (((x0.getD i ((0 : Int), ((⟨#[]⟩ : ByteArray), (⟨#[]⟩ : ByteArray)))).2).1) (((x0.getD i ((0 : Int), ((⟨#[]⟩ : ByteArray), (⟨#[]⟩ : ByteArray)))).2).2)).2.2)))
noncomputable abbrev P_ltoOpS : List PSh := [.t (.sl (.pair (.int .i64) (.pair .str .str)))]
noncomputable abbrev S_ltoOpS_0 : SS := ⟨[.t false (.sl (.pair (.int .i64) (.pair .str .str))), .junk, .junk, .all 0 3, .t true (.int .i64), .junk, .junk, .junk, .junk, .junk, .junk, .junk, .junk, .junk, .junk, .junk, .junk, .junk, .junk, .junk, .junk, .junk, .junk], [.rows 85 true (.pair (.int .i64) (.pair .str .str))]⟩
noncomputable abbrev E_ltoOpS_0_0 : SS := ⟨[.junk, .junk, .junk, .all 0 3, .junk, .junk, .junk, .junk, .junk, .junk, .junk, .junk, .junk, .junk, .junk, .junk, .junk, .junk, .junk, .junk, .junk, .junk, .junk], [.rows 85 true (.pair (.int .i64) (.pair .str .str))]⟩
noncomputable def st_ltoOpS_0 (x0 : List (Int × ByteArray × ByteArray)) (x4 : Int) (h0 : List (Int × ByteArray × ByteArray)) : RT S_ltoOpS_0.den := (.br (decide (x4 < ((x0.length : Nat) : Int))) (.br (decide (0 ≤ x4 ∧ x4 < ((x0.length : Nat) : Int))) (.br (decide (0 ≤ x4 ∧ x4 < ((h0.length : Nat) : Int))) (.next ((x0, (), (), (), IntKind.wrap .i64 (x4 + (1 : Int)), (), (), (), (), (), (), (), (), (), (), (), (), (), (), (), (), (), (), ()), (h0.set x4.toNat (((ltoOp ((x0.getD x4.toNat ((0 : Int), ((⟨#[]⟩ : ByteArray), (⟨#[]⟩ : ByteArray)))).1) (((x0.getD x4.toNat ((0 : Int), ((⟨#[]⟩ : ByteArray), (⟨#[]⟩ : ByteArray)))).2).1) (((x0.getD x4.toNat ((0 : Int), ((⟨#[]⟩ : ByteArray), (⟨#[]⟩ : ByteArray)))).2).2)).1), (((ltoOp ((x0.getD x4.toNat ((0 : Int), ((⟨#[]⟩ : ByteArray), (⟨#[]⟩ : ByteArray)))).1) (((x0.getD x4.toNat ((0 : Int), ((⟨#[]⟩ : ByteArray), (⟨#[]⟩ : ByteArray)))).2).1) (((x0.getD x4.toNat ((0 : Int), ((⟨#[]⟩ : ByteArray), (⟨#[]⟩ : ByteArray)))).2).2)).2.1), ((ltoOp ((x0.getD x4.toNat ((0 : Int), ((⟨#[]⟩ : ByteArray), (⟨#[]⟩ : ByteArray)))).1) (((x0.getD x4.toNat ((0 : Int), ((⟨#[]⟩ : ByteArray), (⟨#[]⟩ : ByteArray)))).2).1) (((x0.getD x4.toNat ((0 : Int), ((⟨#[]⟩ : ByteArray), (⟨#[]⟩ : ByteArray)))).2).2)).2.2))), ()))) .fail) .fail) (.done (.exit 0) E_ltoOpS_0_0 (((), (), (), (), (), (), (), (), (), (), (), (), (), (), (), (), (), (), (), (), (), (), (), ()), (h0, ()))))
noncomputable def T_ltoOpS_0 (x0 : List (Int × ByteArray × ByteArray)) (x4 : Int) (h0 : List (Int × ByteArray × ByteArray)) : CT := (.br (decide (0 ≤ x4) && (decide (h0.length = x0.length) && okL x0)) (.done (.exit 0) E_ltoOpS_0_0 (((), (), (), (), (), (), (), (), (), (), (), (), (), (), (), (), (), (), (), (), (), (), (), ()), ((foldN (fun i h => h.set i (f_ltoOpS_0 x0 i)) (x0.length - x4.toNat) x4.toNat h0), ()))) .fail)
noncomputable abbrev sp_ltoOpS_0 : S_ltoOpS_0.den → RT S_ltoOpS_0.den := fun d => st_ltoOpS_0 d.1.1 d.1.2.2.2.2.1 d.2.1
noncomputable abbrev pk_ltoOpS_0 (x0 : List (Int × ByteArray × ByteArray)) (x4 : Int) (h0 : List (Int × ByteArray × ByteArray)) : S_ltoOpS_0.den := ((x0, (), (), (), x4, (), (), (), (), (), (), (), (), (), (), (), (), (), (), (), (), (), (), ()), (h0, ()))
noncomputable def body_ltoOpS_0 : Code := ((loopsIn 0 (bodyOf Try.f45)).getD 0 (0, .skip)).2
theorem R_ltoOpS_0 (x0 : List (Int × ByteArray × ByteArray)) (x4 : Int) (h0 : List (Int × ByteArray × ByteArray)) : (T_ltoOpS_0 x0 x4 h0).val (D := S_ltoOpS_0.den) = .fail ∨ Runs sp_ltoOpS_0 (pk_ltoOpS_0 x0 x4 h0) (T_ltoOpS_0 x0 x4 h0).val := by
  cases hc : (decide (0 ≤ x4) && (decide (h0.length = x0.length) && okL x0)) with
  | false => left; simp only [T_ltoOpS_0, CT.val, hc, cond_false]
  | true =>
    right
    simp only [T_ltoOpS_0, CT.val, hc, cond_true]
    simp only [Bool.and_eq_true, decide_eq_true_eq] at hc
    obtain ⟨i, rfl⟩ := Int.eq_ofNat_of_zero_le hc.1
    have hs := okL_le hc.2.2
    simp only [Int.toNat_natCast]
    refine Runs.foldN (step := sp_ltoOpS_0) (fun j b => pk_ltoOpS_0 x0 (j : Int) b) (fun _ b => b.length = x0.length) (x0.length) (fun i h => h.set i (f_ltoOpS_0 x0 i))
      (fin := fun b => ((.done (.exit 0) E_ltoOpS_0_0 (((), (), (), (), (), (), (), (), (), (), (), (), (), (), (), (), (), (), (), (), (), (), (), ()), (b, ()))) : CT).val) (fun i b hi hb => ⟨by simpa using hb, ?_⟩) (fun i b hi hb => ?_) (x0.length - i) i h0 rfl hc.2.1
    · 
      have h0a : decide ((i : Int) < ((x0.length : Nat) : Int)) = true := decide_eq_true (by omega)
      have h0b : decide (0 ≤ (i : Int) ∧ (i : Int) < ((x0.length : Nat) : Int)) = true := decide_eq_true (by omega)
      have h9 : decide (0 ≤ (i : Int) ∧ (i : Int) < ((b.length : Nat) : Int)) = true := decide_eq_true (by omega)
      simp only [sp_ltoOpS_0, st_ltoOpS_0, RT.val, h0a, h0b, h9, cond_true, wrapS i (by omega), Int.toNat_natCast]
      rfl
    · have h1 : decide ((i : Int) < ((x0.length : Nat) : Int)) = false := decide_eq_false (by omega)
      exact ⟨by simp only [sp_ltoOpS_0, st_ltoOpS_0, RT.val, h1, cond_false]; rfl, _, _, _, rfl, by simp⟩
theorem rd_ltoOpS_0 : ∀ d, execC Try.prog tt S4 QF4 (fun _ _ => none) 0 body_ltoOpS_0 (S_ltoOpS_0.st d 0 []) (fun e s' => some (e, S_ltoOpS_0.cutE (kepts [] [(0, [3])]) e s')) = (sp_ltoOpS_0 d).opt 0 [] := by
  intro d
  kernel_rfl
noncomputable abbrev say_ltoOpS_0 : St → Option Tree := S_ltoOpS_0.say 0 [] [] (fun d => T_ltoOpS_0 d.1.1 d.1.2.2.2.2.1 d.2.1)
theorem lw_ltoOpS_0 : LoopWp Try.prog say_ltoOpS_0 body_ltoOpS_0 := SS.wp G4 (fun _ _ => none) (by rw [show loopsIn 0 body_ltoOpS_0 = [] by kernel_rfl]; simp) S_ltoOpS_0 0 [] (kepts [] [(0, [3])]) [] sp_ltoOpS_0 rd_ltoOpS_0 _ (fun d => R_ltoOpS_0 d.1.1 d.1.2.2.2.2.1 d.2.1)
noncomputable def ltoOpS (a0 : List (Int × ByteArray × ByteArray)) : List (Int × ByteArray × ByteArray) := (foldN (fun i h => h.set i (f_ltoOpS_0 a0 i)) (a0.length - (0 : Int).toNat) (0 : Int).toNat (List.replicate ((a0.length : Nat) : Int).toNat ((0 : Int), ((⟨#[]⟩ : ByteArray), (⟨#[]⟩ : ByteArray)))))
noncomputable abbrev e_ltoOpS (r : List (Int × ByteArray × ByteArray)) : AV × List AObj := ((.all 0 3), [(.rows 85 true (.pair (.int .i64) (.pair .str .str)) r)])
noncomputable abbrev g_ltoOpS : pshsDen P_ltoOpS → AV × List AObj := fun d => e_ltoOpS (ltoOpS d.1)
noncomputable def q_ltoOpS (a0 : List (Int × ByteArray × ByteArray)) : Bool := okL a0
noncomputable abbrev pre_ltoOpS : pshsDen P_ltoOpS → Bool := fun d => q_ltoOpS d.1
theorem runA_ltoOpS (a0 : List (Int × ByteArray × ByteArray)) (hp : (okL a0) = true) : runP false Try.prog tt S4 QF4 (fun b => match b with | 0 => say_ltoOpS_0 | _ => fun _ => none) Try.f45 (argsMk P_ltoOpS (a0, ())) = some (g_ltoOpS (a0, ())) := by
  refine Eq.trans (b := (cond (decide (0 ≤ ((a0.length : Nat) : Int) ∧ ((a0.length : Nat) : Int) = ((a0.length : Nat) : Int) ∧ ((a0.length : Nat) : Int).toNat * 40 ≤ MAXB ∧ ((a0.length : Nat) : Int) ≤ 9223372036854775807)) (cond (decide (0 ≤ (0 : Int)) && (decide ((List.replicate ((a0.length : Nat) : Int).toNat ((0 : Int), ((⟨#[]⟩ : ByteArray), (⟨#[]⟩ : ByteArray)))).length = a0.length) && okL a0)) (some (e_ltoOpS (foldN (fun i h => h.set i (f_ltoOpS_0 a0 i)) (a0.length - (0 : Int).toNat) (0 : Int).toNat (List.replicate ((a0.length : Nat) : Int).toNat ((0 : Int), ((⟨#[]⟩ : ByteArray), (⟨#[]⟩ : ByteArray))))))) none) none)) (by kernel_rfl) ?_
  exact (cndT (by first | rfl | decide | exact hp | (simp only [Bool.and_eq_true] at hp; simp only [hp]; done) | (simp [*]; done) | (simp [okL] at hp; simp [okL, MAXB]; omega) | (simp_all; done) | (simp at *; omega)) (fun _h => (cndT (by first | rfl | decide | exact hp | (simp only [Bool.and_eq_true] at hp; simp only [hp]; done) | (simp [*]; done) | (simp [okL] at hp; simp [okL, MAXB]; omega) | (simp_all; done) | (simp at *; omega)) (fun _h => rfl))))
theorem run_ltoOpS : ∀ d, pre_ltoOpS d = true → runP false Try.prog tt S4 QF4 (fun b => match b with | 0 => say_ltoOpS_0 | _ => fun _ => none) Try.f45 (argsMk P_ltoOpS d) = some (g_ltoOpS d) := fun d hp => runA_ltoOpS d.1 hp
theorem c_ltoOpS : PContract Try.prog 45 (sumOf P_ltoOpS pre_ltoOpS g_ltoOpS) := PContract.of_data false G4 (fn := Try.f45) (by kernel_rfl) (L := fun b => match b with | 0 => say_ltoOpS_0 | _ => fun _ => none) (by rw [show loopsIn 0 (bodyOf Try.f45) = [(0, body_ltoOpS_0)] by kernel_rfl]; intro p hp; simp only [List.mem_singleton] at hp; subst hp; exact lw_ltoOpS_0) P_ltoOpS pre_ltoOpS g_ltoOpS run_ltoOpS
noncomputable def S5 : Tab := Tab.add S4 45 (lift (sumOf P_ltoOpS pre_ltoOpS g_ltoOpS))
noncomputable def QF5 : FuncId → Bool := QF4
theorem G5 : Good Try.prog tt S5 QF5 := G4.add c_ltoOpS ⟨Try.f45, by kernel_rfl, by kernel_rfl, by kernel_rfl⟩ (by kernel_rfl)

/-! 22 loop.example/g00244/laws.toWord -/
noncomputable abbrev P_ltoWord : List PSh := [.agg [(.int .i64), (.int .i64), (.int .i64), (.sl (.pair (.int .i64) (.pair .str .str))), .bool]]
noncomputable def ltoWord (a0 : Int) (a1 : Int) (a2 : Int) (a3 : List (Int × ByteArray × ByteArray)) (a4 : Bool) : Int × Int × Int × Bool × List (Int × ByteArray × ByteArray) := (a0, a1, a2, a4, (ltoOpS a3))
noncomputable abbrev e_ltoWord (r : Int × Int × Int × Bool × List (Int × ByteArray × ByteArray)) : AV × List AObj := ((.agg [(.t true (.int .i64) r.1), (.t true (.int .i64) r.2.1), (.t true (.int .i64) r.2.2.1), (.all 0 3), (.t true .bool r.2.2.2.1)]), [(.rows 85 true (.pair (.int .i64) (.pair .str .str)) r.2.2.2.2)])
noncomputable abbrev g_ltoWord : pshsDen P_ltoWord → AV × List AObj := fun d => e_ltoWord (ltoWord d.1.1 d.1.2.1 d.1.2.2.1 d.1.2.2.2.1 d.1.2.2.2.2.1)
noncomputable def q_ltoWord (a0 : Int) (a1 : Int) (a2 : Int) (a3 : List (Int × ByteArray × ByteArray)) (a4 : Bool) : Bool := okL a3
noncomputable abbrev pre_ltoWord : pshsDen P_ltoWord → Bool := fun d => q_ltoWord d.1.1 d.1.2.1 d.1.2.2.1 d.1.2.2.2.1 d.1.2.2.2.2.1
theorem runA_ltoWord (a0 : Int) (a1 : Int) (a2 : Int) (a3 : List (Int × ByteArray × ByteArray)) (a4 : Bool) (hp : (okL a3) = true) : runP false Try.prog tt S5 QF5 (fun _ _ => none) Try.f22 (argsMk P_ltoWord ((a0, (a1, (a2, (a3, (a4, ()))))), ())) = some (g_ltoWord ((a0, (a1, (a2, (a3, (a4, ()))))), ())) := by
  refine Eq.trans (b := (cond (q_ltoOpS a3) (some (e_ltoWord (a0, a1, a2, a4, (ltoOpS a3)))) none)) (by kernel_rfl) ?_
  exact (cndT (by first | rfl | decide | exact hp | (simp only [Bool.and_eq_true] at hp; simp only [hp]; done) | (simp [*]; done) | (simp [okL] at hp; simp [okL, MAXB]; omega) | (simp_all; done) | (simp at *; omega)) (fun _h => rfl))
theorem run_ltoWord : ∀ d, pre_ltoWord d = true → runP false Try.prog tt S5 QF5 (fun _ _ => none) Try.f22 (argsMk P_ltoWord d) = some (g_ltoWord d) := fun d hp => runA_ltoWord d.1.1 d.1.2.1 d.1.2.2.1 d.1.2.2.2.1 d.1.2.2.2.2.1 hp
theorem c_ltoWord : PContract Try.prog 22 (sumOf P_ltoWord pre_ltoWord g_ltoWord) := PContract.of_data false G5 (fn := Try.f22) (by kernel_rfl) (L := fun _ _ => none) (by rw [show loopsIn 0 (bodyOf Try.f22) = [] by kernel_rfl]; simp) P_ltoWord pre_ltoWord g_ltoWord run_ltoWord
noncomputable def S6 : Tab := Tab.add S5 22 (lift (sumOf P_ltoWord pre_ltoWord g_ltoWord))
noncomputable def QF6 : FuncId → Bool := QF5
theorem G6 : Good Try.prog tt S6 QF6 := G5.add c_ltoWord ⟨Try.f22, by kernel_rfl, by kernel_rfl, by kernel_rfl⟩ (by kernel_rfl)

/-! 83 loop.example/g00244/spec.l1In -/
noncomputable abbrev P_sl1In : List PSh := [.t (.int .i64), .t (.int .i64), .t (.int .i64)]
noncomputable def sl1In (a0 : Int) (a1 : Int) (a2 : Int) : Bool := (cond (decide (a0 ≥ a1)) (decide (a0 ≤ a2)) false)
noncomputable abbrev e_sl1In (r : Bool) : AV × List AObj := ((.t true .bool r), [])
noncomputable abbrev g_sl1In : pshsDen P_sl1In → AV × List AObj := fun d => e_sl1In (sl1In d.1 d.2.1 d.2.2.1)
noncomputable abbrev pre_sl1In : pshsDen P_sl1In → Bool := fun d => true
theorem runA_sl1In (a0 : Int) (a1 : Int) (a2 : Int) : runP true Try.prog tt S6 QF6 (fun _ _ => none) Try.f83 (argsMk P_sl1In (a0, (a1, (a2, ())))) = some (g_sl1In (a0, (a1, (a2, ())))) := by
  refine Eq.trans (b := (cond (decide (a0 ≥ a1)) (some (e_sl1In (decide (a0 ≤ a2)))) (some (e_sl1In false)))) (by kernel_rfl) ?_
  exact (cnd (F := fun r => some (e_sl1In r)) (fun _h => rfl) (fun _h => rfl))
theorem run_sl1In : ∀ d, pre_sl1In d = true → runP true Try.prog tt S6 QF6 (fun _ _ => none) Try.f83 (argsMk P_sl1In d) = some (g_sl1In d) := fun d hp => runA_sl1In d.1 d.2.1 d.2.2.1
theorem c_sl1In : PContract Try.prog 83 (sumOf P_sl1In pre_sl1In g_sl1In) := PContract.of_data true G6 (fn := Try.f83) (by kernel_rfl) (L := fun _ _ => none) (by rw [show loopsIn 0 (bodyOf Try.f83) = [] by kernel_rfl]; simp) P_sl1In pre_sl1In g_sl1In run_sl1In
noncomputable def S7 : Tab := Tab.add S6 83 (lift (sumOf P_sl1In pre_sl1In g_sl1In))
noncomputable def QF7 : FuncId → Bool := qadd QF6 83
theorem G7 : Good Try.prog tt S7 QF7 := G6.addQ c_sl1In ⟨Try.f83, by kernel_rfl, by kernel_rfl, by kernel_rfl⟩ (fun _ => rfl)

/-! 149 loop.example/g00244/spec.KeyOk -/
noncomputable def sKeyAt (s : ByteArray) (i : Nat) : Bool := sl1In (IntKind.wrap .i64 (bt s (i : Int))) 97 122 || sl1In (IntKind.wrap .i64 (bt s (i : Int))) 48 57
noncomputable abbrev P_sKeyOk : List PSh := [.t .str]
noncomputable abbrev S_sKeyOk_0 : SS := ⟨[.t true .str, .junk, .junk, .t true (.int .i64), .junk, .junk, .junk, .junk, .junk, .junk, .junk, .junk, .junk, .junk, .junk, .junk, .junk, .junk, .junk, .junk, .junk, .junk, .junk, .junk, .junk, .junk, .junk], []⟩
noncomputable abbrev E_sKeyOk_0_0 : SS := ⟨[.junk, .junk, .t true .bool, .junk, .junk, .junk, .junk, .junk, .junk, .junk, .junk, .junk, .junk, .junk, .junk, .junk, .junk, .junk, .junk, .junk, .junk, .junk, .junk, .junk, .junk, .junk, .junk], []⟩
noncomputable abbrev E_sKeyOk_0_1 : SS := ⟨[.t true .str, .junk, .junk, .junk, .junk, .junk, .junk, .junk, .junk, .junk, .junk, .junk, .junk, .junk, .junk, .junk, .junk, .junk, .junk, .junk, .junk, .junk, .junk, .junk, .junk, .junk, .junk], []⟩
noncomputable def st_sKeyOk_0 (x0 : ByteArray) (x3 : Int) : RT S_sKeyOk_0.den := (.br (decide (x3 < ((x0.size : Nat) : Int))) (.br (decide (0 ≤ x3 ∧ x3 < ((x0.size : Nat) : Int))) (.br (!(sl1In (IntKind.wrap .i64 (bt x0 x3)) (97 : Int) (122 : Int))) (.br (decide (0 ≤ x3 ∧ x3 < ((x0.size : Nat) : Int))) (.br (!(sl1In (IntKind.wrap .i64 (bt x0 x3)) (48 : Int) (57 : Int))) (.done .ret E_sKeyOk_0_0 (((), (), false, (), (), (), (), (), (), (), (), (), (), (), (), (), (), (), (), (), (), (), (), (), (), (), (), ()), ())) (.next ((x0, (), (), IntKind.wrap .i64 (x3 + (1 : Int)), (), (), (), (), (), (), (), (), (), (), (), (), (), (), (), (), (), (), (), (), (), (), (), ()), ()))) .fail) (.next ((x0, (), (), IntKind.wrap .i64 (x3 + (1 : Int)), (), (), (), (), (), (), (), (), (), (), (), (), (), (), (), (), (), (), (), (), (), (), (), ()), ()))) .fail) (.done (.exit 0) E_sKeyOk_0_1 ((x0, (), (), (), (), (), (), (), (), (), (), (), (), (), (), (), (), (), (), (), (), (), (), (), (), (), (), ()), ())))
noncomputable def T_sKeyOk_0 (x0 : ByteArray) (x3 : Int) : CT := (.br (decide (0 ≤ x3) && okS x0) (.br (allF (sKeyAt x0) (x0.size - x3.toNat) x3.toNat) (.done (.exit 0) E_sKeyOk_0_1 ((x0, (), (), (), (), (), (), (), (), (), (), (), (), (), (), (), (), (), (), (), (), (), (), (), (), (), (), ()), ())) (.done .ret E_sKeyOk_0_0 (((), (), false, (), (), (), (), (), (), (), (), (), (), (), (), (), (), (), (), (), (), (), (), (), (), (), (), ()), ()))) .fail)
noncomputable abbrev sp_sKeyOk_0 : S_sKeyOk_0.den → RT S_sKeyOk_0.den := fun d => st_sKeyOk_0 d.1.1 d.1.2.2.2.1
noncomputable abbrev pk_sKeyOk_0 (x0 : ByteArray) (x3 : Int) : S_sKeyOk_0.den := ((x0, (), (), x3, (), (), (), (), (), (), (), (), (), (), (), (), (), (), (), (), (), (), (), (), (), (), (), ()), ())
noncomputable def body_sKeyOk_0 : Code := ((loopsIn 0 (bodyOf Try.f149)).getD 0 (0, .skip)).2
theorem R_sKeyOk_0 (x0 : ByteArray) (x3 : Int) : (T_sKeyOk_0 x0 x3).val (D := S_sKeyOk_0.den) = .fail ∨ Runs sp_sKeyOk_0 (pk_sKeyOk_0 x0 x3) (T_sKeyOk_0 x0 x3).val := by
  cases hc : (decide (0 ≤ x3) && okS x0) with
  | false => left; simp only [T_sKeyOk_0, CT.val, hc, cond_false]
  | true =>
    right
    simp only [T_sKeyOk_0, CT.val, hc, cond_true]
    simp only [Bool.and_eq_true, decide_eq_true_eq] at hc
    obtain ⟨i, rfl⟩ := Int.eq_ofNat_of_zero_le hc.1
    have hs := okS_le hc.2
    simp only [Int.toNat_natCast]
    refine Runs.scan (fun j => pk_sKeyOk_0 x0 (j : Int)) (x0.size) (sKeyAt x0) (fun i hi => ?_) (fun i hi => ?_) ⟨_, _, _, rfl, by simp⟩ ⟨_, _, _, rfl, by simp⟩ _ _ rfl
    · 
      have h0a : decide ((i : Int) < ((x0.size : Nat) : Int)) = true := decide_eq_true (by omega)
      have h0b : decide (0 ≤ (i : Int) ∧ (i : Int) < ((x0.size : Nat) : Int)) = true := decide_eq_true (by omega)
      simp only [sp_sKeyOk_0, st_sKeyOk_0, RT.val, h0a, h0b, cond_true, wrapS i (by omega), Int.toNat_natCast]
      simp only [sKeyAt]
      cases sl1In (IntKind.wrap .i64 (bt x0 (i : Int))) 97 122 <;> cases sl1In (IntKind.wrap .i64 (bt x0 (i : Int))) 48 57 <;> rfl
    · have h1 : decide ((i : Int) < ((x0.size : Nat) : Int)) = false := decide_eq_false (by omega)
      simp only [sp_sKeyOk_0, st_sKeyOk_0, RT.val, h1, cond_false]
theorem rd_sKeyOk_0 : ∀ d, execC Try.prog tt S7 QF7 (fun _ _ => none) 0 body_sKeyOk_0 (S_sKeyOk_0.st d 0 []) (fun e s' => some (e, S_sKeyOk_0.cutE (kepts [2] [(0, [0])]) e s')) = (sp_sKeyOk_0 d).opt 0 [] := by
  intro d
  kernel_rfl
noncomputable abbrev say_sKeyOk_0 : St → Option Tree := S_sKeyOk_0.say 0 [] [] (fun d => T_sKeyOk_0 d.1.1 d.1.2.2.2.1)
theorem lw_sKeyOk_0 : LoopWp Try.prog say_sKeyOk_0 body_sKeyOk_0 := SS.wp G7 (fun _ _ => none) (by rw [show loopsIn 0 body_sKeyOk_0 = [] by kernel_rfl]; simp) S_sKeyOk_0 0 [] (kepts [2] [(0, [0])]) [] sp_sKeyOk_0 rd_sKeyOk_0 _ (fun d => R_sKeyOk_0 d.1.1 d.1.2.2.2.1)
noncomputable def sKeyOk (a0 : ByteArray) : Bool := (cond (allF (sKeyAt a0) (a0.size - (0 : Int).toNat) (0 : Int).toNat) (sl1In ((a0.size : Nat) : Int) (1 : Int) (12 : Int)) false)
noncomputable abbrev e_sKeyOk (r : Bool) : AV × List AObj := ((.t true .bool r), [])
noncomputable abbrev g_sKeyOk : pshsDen P_sKeyOk → AV × List AObj := fun d => e_sKeyOk (sKeyOk d.1)
noncomputable def q_sKeyOk (a0 : ByteArray) : Bool := okS a0
noncomputable abbrev pre_sKeyOk : pshsDen P_sKeyOk → Bool := fun d => q_sKeyOk d.1
theorem runA_sKeyOk (a0 : ByteArray) (hp : (okS a0) = true) : runP true Try.prog tt S7 QF7 (fun b => match b with | 0 => say_sKeyOk_0 | _ => fun _ => none) Try.f149 (argsMk P_sKeyOk (a0, ())) = some (g_sKeyOk (a0, ())) := by
  refine Eq.trans (b := (cond (decide (0 ≤ (0 : Int)) && okS a0) (cond (allF (sKeyAt a0) (a0.size - (0 : Int).toNat) (0 : Int).toNat) (some (e_sKeyOk (sl1In ((a0.size : Nat) : Int) (1 : Int) (12 : Int)))) (some (e_sKeyOk false))) none)) (by kernel_rfl) ?_
  exact (cndT (by first | rfl | decide | exact hp | (simp only [Bool.and_eq_true] at hp; simp only [hp]; done) | (simp [*]; done) | (simp [okL] at hp; simp [okL, MAXB]; omega) | (simp_all; done) | (simp at *; omega)) (fun _h => (cnd (F := fun r => some (e_sKeyOk r)) (fun _h => rfl) (fun _h => rfl))))
theorem run_sKeyOk : ∀ d, pre_sKeyOk d = true → runP true Try.prog tt S7 QF7 (fun b => match b with | 0 => say_sKeyOk_0 | _ => fun _ => none) Try.f149 (argsMk P_sKeyOk d) = some (g_sKeyOk d) := fun d hp => runA_sKeyOk d.1 hp
theorem c_sKeyOk : PContract Try.prog 149 (sumOf P_sKeyOk pre_sKeyOk g_sKeyOk) := PContract.of_data true G7 (fn := Try.f149) (by kernel_rfl) (L := fun b => match b with | 0 => say_sKeyOk_0 | _ => fun _ => none) (by rw [show loopsIn 0 (bodyOf Try.f149) = [(0, body_sKeyOk_0)] by kernel_rfl]; intro p hp; simp only [List.mem_singleton] at hp; subst hp; exact lw_sKeyOk_0) P_sKeyOk pre_sKeyOk g_sKeyOk run_sKeyOk
noncomputable def S8 : Tab := Tab.add S7 149 (lift (sumOf P_sKeyOk pre_sKeyOk g_sKeyOk))
noncomputable def QF8 : FuncId → Bool := qadd QF7 149
theorem G8 : Good Try.prog tt S8 QF8 := G7.addQ c_sKeyOk ⟨Try.f149, by kernel_rfl, by kernel_rfl, by kernel_rfl⟩ (fun _ => rfl)

/-! 122 loop.example/g00244/spec.l7Op -/
noncomputable abbrev P_sl7Op : List PSh := [.agg [(.int .i64), .str, .str]]
noncomputable def sl7Op (a0 : Int) (a1 : ByteArray) (a2 : ByteArray) : Bool := (cond (!(sl1In a0 (1 : Int) (3 : Int))) false (cond (a0 == (2 : Int)) (cond (!(a2.toList == (⟨#[]⟩ : ByteArray).toList)) false (cond (sKeyOk a1) (decide (((a2.size : Nat) : Int) ≤ (20 : Int))) false)) (cond (sKeyOk a1) (decide (((a2.size : Nat) : Int) ≤ (20 : Int))) false)))
noncomputable abbrev e_sl7Op (r : Bool) : AV × List AObj := ((.t true .bool r), [])
noncomputable abbrev g_sl7Op : pshsDen P_sl7Op → AV × List AObj := fun d => e_sl7Op (sl7Op d.1.1 d.1.2.1 d.1.2.2.1)
noncomputable def q_sl7Op (a0 : Int) (a1 : ByteArray) (a2 : ByteArray) : Bool := okS a1
noncomputable abbrev pre_sl7Op : pshsDen P_sl7Op → Bool := fun d => q_sl7Op d.1.1 d.1.2.1 d.1.2.2.1
theorem runA_sl7Op (a0 : Int) (a1 : ByteArray) (a2 : ByteArray) (hp : (okS a1) = true) : runP true Try.prog tt S8 QF8 (fun _ _ => none) Try.f122 (argsMk P_sl7Op ((a0, (a1, (a2, ()))), ())) = some (g_sl7Op ((a0, (a1, (a2, ()))), ())) := by
  refine Eq.trans (b := (cond (!(sl1In a0 (1 : Int) (3 : Int))) (some (e_sl7Op false)) (cond (a0 == (2 : Int)) (cond (!(a2.toList == (⟨#[]⟩ : ByteArray).toList)) (some (e_sl7Op false)) (cond (q_sKeyOk a1) (cond (sKeyOk a1) (some (e_sl7Op (decide (((a2.size : Nat) : Int) ≤ (20 : Int))))) (some (e_sl7Op false))) none)) (cond (q_sKeyOk a1) (cond (sKeyOk a1) (some (e_sl7Op (decide (((a2.size : Nat) : Int) ≤ (20 : Int))))) (some (e_sl7Op false))) none)))) (by kernel_rfl) ?_
  exact (cnd (F := fun r => some (e_sl7Op r)) (fun _h => rfl) (fun _h => (cnd (F := fun r => some (e_sl7Op r)) (fun _h => (cnd (F := fun r => some (e_sl7Op r)) (fun _h => rfl) (fun _h => (cndT (by first | rfl | decide | exact hp | (simp only [Bool.and_eq_true] at hp; simp only [hp]; done) | (simp [*]; done) | (simp [okL] at hp; simp [okL, MAXB]; omega) | (simp_all; done) | (simp at *; omega)) (fun _h => (cnd (F := fun r => some (e_sl7Op r)) (fun _h => rfl) (fun _h => rfl))))))) (fun _h => (cndT (by first | rfl | decide | exact hp | (simp only [Bool.and_eq_true] at hp; simp only [hp]; done) | (simp [*]; done) | (simp [okL] at hp; simp [okL, MAXB]; omega) | (simp_all; done) | (simp at *; omega)) (fun _h => (cnd (F := fun r => some (e_sl7Op r)) (fun _h => rfl) (fun _h => rfl))))))))
theorem run_sl7Op : ∀ d, pre_sl7Op d = true → runP true Try.prog tt S8 QF8 (fun _ _ => none) Try.f122 (argsMk P_sl7Op d) = some (g_sl7Op d) := fun d hp => runA_sl7Op d.1.1 d.1.2.1 d.1.2.2.1 hp
theorem c_sl7Op : PContract Try.prog 122 (sumOf P_sl7Op pre_sl7Op g_sl7Op) := PContract.of_data true G8 (fn := Try.f122) (by kernel_rfl) (L := fun _ _ => none) (by rw [show loopsIn 0 (bodyOf Try.f122) = [] by kernel_rfl]; simp) P_sl7Op pre_sl7Op g_sl7Op run_sl7Op
noncomputable def S9 : Tab := Tab.add S8 122 (lift (sumOf P_sl7Op pre_sl7Op g_sl7Op))
noncomputable def QF9 : FuncId → Bool := qadd QF8 122
theorem G9 : Good Try.prog tt S9 QF9 := G8.addQ c_sl7Op ⟨Try.f122, by kernel_rfl, by kernel_rfl, by kernel_rfl⟩ (fun _ => rfl)

/-! 59 loop.example/g00244/spec.OpsOk -/
noncomputable def sOpAt (l : List (Int × ByteArray × ByteArray)) (i : Nat) : Bool := sl7Op (l.getD i dOp).1 (l.getD i dOp).2.1 (l.getD i dOp).2.2 && (decide (i = 0) || Op.bytesLess (l.getD (i - 1) dOp).2.1.toList (l.getD i dOp).2.1.toList)
noncomputable abbrev P_sOpsOk : List PSh := [.t (.sl (.pair (.int .i64) (.pair .str .str)))]
noncomputable abbrev S_sOpsOk_0 : SS := ⟨[.t false (.sl (.pair (.int .i64) (.pair .str .str))), .junk, .junk, .t true (.int .i64), .junk, .junk, .junk, .junk, .junk, .junk, .junk, .junk, .junk, .junk, .junk, .junk, .junk, .junk, .junk, .junk, .junk, .junk, .junk, .junk, .junk, .junk, .junk, .junk, .junk, .junk, .junk, .junk, .junk, .junk, .junk, .junk, .junk], []⟩
noncomputable abbrev E_sOpsOk_0_0 : SS := ⟨[.junk, .junk, .t true .bool, .junk, .junk, .junk, .junk, .junk, .junk, .junk, .junk, .junk, .junk, .junk, .junk, .junk, .junk, .junk, .junk, .junk, .junk, .junk, .junk, .junk, .junk, .junk, .junk, .junk, .junk, .junk, .junk, .junk, .junk, .junk, .junk, .junk, .junk], []⟩
noncomputable abbrev E_sOpsOk_0_1 : SS := ⟨[.t false (.sl (.pair (.int .i64) (.pair .str .str))), .junk, .junk, .junk, .junk, .junk, .junk, .junk, .junk, .junk, .junk, .junk, .junk, .junk, .junk, .junk, .junk, .junk, .junk, .junk, .junk, .junk, .junk, .junk, .junk, .junk, .junk, .junk, .junk, .junk, .junk, .junk, .junk, .junk, .junk, .junk, .junk], []⟩
noncomputable def st_sOpsOk_0 (x0 : List (Int × ByteArray × ByteArray)) (x3 : Int) : RT S_sOpsOk_0.den := (.br (decide (x3 < ((x0.length : Nat) : Int))) (.br (decide (0 ≤ x3 ∧ x3 < ((x0.length : Nat) : Int))) (.br (q_sl7Op ((x0.getD x3.toNat ((0 : Int), ((⟨#[]⟩ : ByteArray), (⟨#[]⟩ : ByteArray)))).1) (((x0.getD x3.toNat ((0 : Int), ((⟨#[]⟩ : ByteArray), (⟨#[]⟩ : ByteArray)))).2).1) (((x0.getD x3.toNat ((0 : Int), ((⟨#[]⟩ : ByteArray), (⟨#[]⟩ : ByteArray)))).2).2)) (.br (!(sl7Op ((x0.getD x3.toNat ((0 : Int), ((⟨#[]⟩ : ByteArray), (⟨#[]⟩ : ByteArray)))).1) (((x0.getD x3.toNat ((0 : Int), ((⟨#[]⟩ : ByteArray), (⟨#[]⟩ : ByteArray)))).2).1) (((x0.getD x3.toNat ((0 : Int), ((⟨#[]⟩ : ByteArray), (⟨#[]⟩ : ByteArray)))).2).2))) (.done .ret E_sOpsOk_0_0 (((), (), false, (), (), (), (), (), (), (), (), (), (), (), (), (), (), (), (), (), (), (), (), (), (), (), (), (), (), (), (), (), (), (), (), (), (), ()), ())) (.br (decide (x3 > (0 : Int))) (.br (decide (0 ≤ (IntKind.wrap .i64 (x3 - (1 : Int))) ∧ (IntKind.wrap .i64 (x3 - (1 : Int))) < ((x0.length : Nat) : Int))) (.br (decide (0 ≤ x3 ∧ x3 < ((x0.length : Nat) : Int))) (.br (!(Op.bytesLess (((x0.getD ((IntKind.wrap .i64 (x3 - (1 : Int))).toNat) ((0 : Int), ((⟨#[]⟩ : ByteArray), (⟨#[]⟩ : ByteArray)))).2).1).toList (((x0.getD x3.toNat ((0 : Int), ((⟨#[]⟩ : ByteArray), (⟨#[]⟩ : ByteArray)))).2).1).toList)) (.done .ret E_sOpsOk_0_0 (((), (), false, (), (), (), (), (), (), (), (), (), (), (), (), (), (), (), (), (), (), (), (), (), (), (), (), (), (), (), (), (), (), (), (), (), (), ()), ())) (.next ((x0, (), (), IntKind.wrap .i64 (x3 + (1 : Int)), (), (), (), (), (), (), (), (), (), (), (), (), (), (), (), (), (), (), (), (), (), (), (), (), (), (), (), (), (), (), (), (), (), ()), ()))) .fail) .fail) (.next ((x0, (), (), IntKind.wrap .i64 (x3 + (1 : Int)), (), (), (), (), (), (), (), (), (), (), (), (), (), (), (), (), (), (), (), (), (), (), (), (), (), (), (), (), (), (), (), (), (), ()), ())))) .fail) .fail) (.done (.exit 0) E_sOpsOk_0_1 ((x0, (), (), (), (), (), (), (), (), (), (), (), (), (), (), (), (), (), (), (), (), (), (), (), (), (), (), (), (), (), (), (), (), (), (), (), (), ()), ())))
noncomputable def T_sOpsOk_0 (x0 : List (Int × ByteArray × ByteArray)) (x3 : Int) : CT := (.br (decide (0 ≤ x3) && okOps x0) (.br (allF (sOpAt x0) (x0.length - x3.toNat) x3.toNat) (.done (.exit 0) E_sOpsOk_0_1 ((x0, (), (), (), (), (), (), (), (), (), (), (), (), (), (), (), (), (), (), (), (), (), (), (), (), (), (), (), (), (), (), (), (), (), (), (), (), ()), ())) (.done .ret E_sOpsOk_0_0 (((), (), false, (), (), (), (), (), (), (), (), (), (), (), (), (), (), (), (), (), (), (), (), (), (), (), (), (), (), (), (), (), (), (), (), (), (), ()), ()))) .fail)
noncomputable abbrev sp_sOpsOk_0 : S_sOpsOk_0.den → RT S_sOpsOk_0.den := fun d => st_sOpsOk_0 d.1.1 d.1.2.2.2.1
noncomputable abbrev pk_sOpsOk_0 (x0 : List (Int × ByteArray × ByteArray)) (x3 : Int) : S_sOpsOk_0.den := ((x0, (), (), x3, (), (), (), (), (), (), (), (), (), (), (), (), (), (), (), (), (), (), (), (), (), (), (), (), (), (), (), (), (), (), (), (), (), ()), ())
noncomputable def body_sOpsOk_0 : Code := ((loopsIn 0 (bodyOf Try.f59)).getD 0 (0, .skip)).2
theorem R_sOpsOk_0 (x0 : List (Int × ByteArray × ByteArray)) (x3 : Int) : (T_sOpsOk_0 x0 x3).val (D := S_sOpsOk_0.den) = .fail ∨ Runs sp_sOpsOk_0 (pk_sOpsOk_0 x0 x3) (T_sOpsOk_0 x0 x3).val := by
  cases hc : (decide (0 ≤ x3) && okOps x0) with
  | false => left; simp only [T_sOpsOk_0, CT.val, hc, cond_false]
  | true =>
    right
    simp only [T_sOpsOk_0, CT.val, hc, cond_true]
    simp only [Bool.and_eq_true, decide_eq_true_eq] at hc
    obtain ⟨i, rfl⟩ := Int.eq_ofNat_of_zero_le hc.1
    have hs := okOps_len hc.2
    simp only [Int.toNat_natCast]
    refine Runs.scan (fun j => pk_sOpsOk_0 x0 (j : Int)) (x0.length) (sOpAt x0) (fun i hi => ?_) (fun i hi => ?_) ⟨_, _, _, rfl, by simp⟩ ⟨_, _, _, rfl, by simp⟩ _ _ rfl
    · 
      have h0a : decide ((i : Int) < ((x0.length : Nat) : Int)) = true := decide_eq_true (by omega)
      have h0b : decide (0 ≤ (i : Int) ∧ (i : Int) < ((x0.length : Nat) : Int)) = true := decide_eq_true (by omega)
      simp only [sp_sOpsOk_0, st_sOpsOk_0, RT.val, h0a, h0b, cond_true, wrapS i (by omega), Int.toNat_natCast]
      have hq : q_sl7Op (x0.getD i dOp).1 (x0.getD i dOp).2.1 (x0.getD i dOp).2.2 = true := (okOps_at hc.2 i hi).1
      simp only [dOp] at hq
      simp only [hq, cond_true, sOpAt, dOp]
      cases sl7Op (x0.getD i ((0 : Int), ((⟨#[]⟩ : ByteArray), (⟨#[]⟩ : ByteArray)))).1 (x0.getD i ((0 : Int), ((⟨#[]⟩ : ByteArray), (⟨#[]⟩ : ByteArray)))).2.1 (x0.getD i ((0 : Int), ((⟨#[]⟩ : ByteArray), (⟨#[]⟩ : ByteArray)))).2.2 with
      | false => rfl
      | true =>
        cases i with
        | zero => rfl
        | succ i =>
          have h3 : decide (((i + 1 : Nat) : Int) > 0) = true := decide_eq_true (by omega)
          have h4 : IntKind.wrap .i64 (((i + 1 : Nat) : Int) - 1) = (i : Int) := by have := wrap64 (n := ((i + 1 : Nat) : Int) - 1) (by omega) (by omega); omega
          have h5 : decide (0 ≤ (i : Int) ∧ (i : Int) < ((x0.length : Nat) : Int)) = true := decide_eq_true (by omega)
          have h6 : decide (i + 1 = 0) = false := by simp
          simp only [h3, h4, h5, h6, cond_true, Bool.true_and, Bool.false_or, Int.toNat_natCast, Nat.add_sub_cancel, Bool.not_true, cond_false]
          cases Op.bytesLess (x0.getD i ((0 : Int), ((⟨#[]⟩ : ByteArray), (⟨#[]⟩ : ByteArray)))).2.1.toList (x0.getD (i + 1) ((0 : Int), ((⟨#[]⟩ : ByteArray), (⟨#[]⟩ : ByteArray)))).2.1.toList <;> rfl
    · have h1 : decide ((i : Int) < ((x0.length : Nat) : Int)) = false := decide_eq_false (by omega)
      simp only [sp_sOpsOk_0, st_sOpsOk_0, RT.val, h1, cond_false]
theorem rd_sOpsOk_0 : ∀ d, execC Try.prog tt S9 QF9 (fun _ _ => none) 0 body_sOpsOk_0 (S_sOpsOk_0.st d 0 []) (fun e s' => some (e, S_sOpsOk_0.cutE (kepts [2] [(0, [0])]) e s')) = (sp_sOpsOk_0 d).opt 0 [] := by
  intro d
  kernel_rfl
noncomputable abbrev say_sOpsOk_0 : St → Option Tree := S_sOpsOk_0.say 0 [] [] (fun d => T_sOpsOk_0 d.1.1 d.1.2.2.2.1)
theorem lw_sOpsOk_0 : LoopWp Try.prog say_sOpsOk_0 body_sOpsOk_0 := SS.wp G9 (fun _ _ => none) (by rw [show loopsIn 0 body_sOpsOk_0 = [] by kernel_rfl]; simp) S_sOpsOk_0 0 [] (kepts [2] [(0, [0])]) [] sp_sOpsOk_0 rd_sOpsOk_0 _ (fun d => R_sOpsOk_0 d.1.1 d.1.2.2.2.1)
noncomputable def sOpsOk (a0 : List (Int × ByteArray × ByteArray)) : Bool := (cond (allF (sOpAt a0) (a0.length - (0 : Int).toNat) (0 : Int).toNat) (sl1In ((a0.length : Nat) : Int) (1 : Int) (8 : Int)) false)
noncomputable abbrev e_sOpsOk (r : Bool) : AV × List AObj := ((.t true .bool r), [])
noncomputable abbrev g_sOpsOk : pshsDen P_sOpsOk → AV × List AObj := fun d => e_sOpsOk (sOpsOk d.1)
noncomputable def q_sOpsOk (a0 : List (Int × ByteArray × ByteArray)) : Bool := okOps a0
noncomputable abbrev pre_sOpsOk : pshsDen P_sOpsOk → Bool := fun d => q_sOpsOk d.1
theorem runA_sOpsOk (a0 : List (Int × ByteArray × ByteArray)) (hp : (okOps a0) = true) : runP true Try.prog tt S9 QF9 (fun b => match b with | 0 => say_sOpsOk_0 | _ => fun _ => none) Try.f59 (argsMk P_sOpsOk (a0, ())) = some (g_sOpsOk (a0, ())) := by
  refine Eq.trans (b := (cond (decide (0 ≤ (0 : Int)) && okOps a0) (cond (allF (sOpAt a0) (a0.length - (0 : Int).toNat) (0 : Int).toNat) (some (e_sOpsOk (sl1In ((a0.length : Nat) : Int) (1 : Int) (8 : Int)))) (some (e_sOpsOk false))) none)) (by kernel_rfl) ?_
  exact (cndT (by first | rfl | decide | exact hp | (simp only [Bool.and_eq_true] at hp; simp only [hp]; done) | (simp [*]; done) | (simp [okL] at hp; simp [okL, MAXB]; omega) | (simp_all; done) | (simp at *; omega)) (fun _h => (cnd (F := fun r => some (e_sOpsOk r)) (fun _h => rfl) (fun _h => rfl))))
theorem run_sOpsOk : ∀ d, pre_sOpsOk d = true → runP true Try.prog tt S9 QF9 (fun b => match b with | 0 => say_sOpsOk_0 | _ => fun _ => none) Try.f59 (argsMk P_sOpsOk d) = some (g_sOpsOk d) := fun d hp => runA_sOpsOk d.1 hp
theorem c_sOpsOk : PContract Try.prog 59 (sumOf P_sOpsOk pre_sOpsOk g_sOpsOk) := PContract.of_data true G9 (fn := Try.f59) (by kernel_rfl) (L := fun b => match b with | 0 => say_sOpsOk_0 | _ => fun _ => none) (by rw [show loopsIn 0 (bodyOf Try.f59) = [(0, body_sOpsOk_0)] by kernel_rfl]; intro p hp; simp only [List.mem_singleton] at hp; subst hp; exact lw_sOpsOk_0) P_sOpsOk pre_sOpsOk g_sOpsOk run_sOpsOk
noncomputable def S10 : Tab := Tab.add S9 59 (lift (sumOf P_sOpsOk pre_sOpsOk g_sOpsOk))
noncomputable def QF10 : FuncId → Bool := qadd QF9 59
theorem G10 : Good Try.prog tt S10 QF10 := G9.addQ c_sOpsOk ⟨Try.f59, by kernel_rfl, by kernel_rfl, by kernel_rfl⟩ (fun _ => rfl)

/-! 21 loop.example/g00244/spec.WordOk -/
noncomputable abbrev P_sWordOk : List PSh := [.agg [(.int .i64), (.int .i64), (.int .i64), (.sl (.pair (.int .i64) (.pair .str .str))), .bool]]
noncomputable def sWordOk (a0 : Int) (a1 : Int) (a2 : Int) (a3 : List (Int × ByteArray × ByteArray)) (a4 : Bool) : Bool := (cond (!(sl1In a1 (0 : Int) (7 : Int))) false (cond (!(sl1In a2 (1 : Int) (1000000 : Int))) false (cond (a0 == (1 : Int)) (cond (sOpsOk a3) (!a4) false) (cond (a0 == (2 : Int)) (((a3.length : Nat) : Int) == (0 : Int)) (cond (a0 == (3 : Int)) (((a3.length : Nat) : Int) == (0 : Int)) (cond (a0 == (4 : Int)) (cond (((a3.length : Nat) : Int) == (0 : Int)) (!a4) false) false))))))
noncomputable abbrev e_sWordOk (r : Bool) : AV × List AObj := ((.t true .bool r), [])
noncomputable abbrev g_sWordOk : pshsDen P_sWordOk → AV × List AObj := fun d => e_sWordOk (sWordOk d.1.1 d.1.2.1 d.1.2.2.1 d.1.2.2.2.1 d.1.2.2.2.2.1)
noncomputable def q_sWordOk (a0 : Int) (a1 : Int) (a2 : Int) (a3 : List (Int × ByteArray × ByteArray)) (a4 : Bool) : Bool := okOps a3
noncomputable abbrev pre_sWordOk : pshsDen P_sWordOk → Bool := fun d => q_sWordOk d.1.1 d.1.2.1 d.1.2.2.1 d.1.2.2.2.1 d.1.2.2.2.2.1
theorem runA_sWordOk (a0 : Int) (a1 : Int) (a2 : Int) (a3 : List (Int × ByteArray × ByteArray)) (a4 : Bool) (hp : (okOps a3) = true) : runP true Try.prog tt S10 QF10 (fun _ _ => none) Try.f21 (argsMk P_sWordOk ((a0, (a1, (a2, (a3, (a4, ()))))), ())) = some (g_sWordOk ((a0, (a1, (a2, (a3, (a4, ()))))), ())) := by
  refine Eq.trans (b := (cond (!(sl1In a1 (0 : Int) (7 : Int))) (some (e_sWordOk false)) (cond (!(sl1In a2 (1 : Int) (1000000 : Int))) (some (e_sWordOk false)) (cond (a0 == (1 : Int)) (cond (q_sOpsOk a3) (cond (sOpsOk a3) (some (e_sWordOk (!a4))) (some (e_sWordOk false))) none) (cond (a0 == (2 : Int)) (some (e_sWordOk (((a3.length : Nat) : Int) == (0 : Int)))) (cond (a0 == (3 : Int)) (some (e_sWordOk (((a3.length : Nat) : Int) == (0 : Int)))) (cond (a0 == (4 : Int)) (cond (((a3.length : Nat) : Int) == (0 : Int)) (some (e_sWordOk (!a4))) (some (e_sWordOk false))) (some (e_sWordOk false))))))))) (by kernel_rfl) ?_
  exact (cnd (F := fun r => some (e_sWordOk r)) (fun _h => rfl) (fun _h => (cnd (F := fun r => some (e_sWordOk r)) (fun _h => rfl) (fun _h => (cnd (F := fun r => some (e_sWordOk r)) (fun _h => (cndT (by first | rfl | decide | exact hp | (simp only [Bool.and_eq_true] at hp; simp only [hp]; done) | (simp [*]; done) | (simp [okL] at hp; simp [okL, MAXB]; omega) | (simp_all; done) | (simp at *; omega)) (fun _h => (cnd (F := fun r => some (e_sWordOk r)) (fun _h => rfl) (fun _h => rfl))))) (fun _h => (cnd (F := fun r => some (e_sWordOk r)) (fun _h => rfl) (fun _h => (cnd (F := fun r => some (e_sWordOk r)) (fun _h => rfl) (fun _h => (cnd (F := fun r => some (e_sWordOk r)) (fun _h => (cnd (F := fun r => some (e_sWordOk r)) (fun _h => rfl) (fun _h => rfl))) (fun _h => rfl))))))))))))
theorem run_sWordOk : ∀ d, pre_sWordOk d = true → runP true Try.prog tt S10 QF10 (fun _ _ => none) Try.f21 (argsMk P_sWordOk d) = some (g_sWordOk d) := fun d hp => runA_sWordOk d.1.1 d.1.2.1 d.1.2.2.1 d.1.2.2.2.1 d.1.2.2.2.2.1 hp
theorem c_sWordOk : PContract Try.prog 21 (sumOf P_sWordOk pre_sWordOk g_sWordOk) := PContract.of_data true G10 (fn := Try.f21) (by kernel_rfl) (L := fun _ _ => none) (by rw [show loopsIn 0 (bodyOf Try.f21) = [] by kernel_rfl]; simp) P_sWordOk pre_sWordOk g_sWordOk run_sWordOk
noncomputable def S11 : Tab := Tab.add S10 21 (lift (sumOf P_sWordOk pre_sWordOk g_sWordOk))
noncomputable def QF11 : FuncId → Bool := qadd QF10 21
theorem G11 : Good Try.prog tt S11 QF11 := G10.addQ c_sWordOk ⟨Try.f21, by kernel_rfl, by kernel_rfl, by kernel_rfl⟩ (fun _ => rfl)

/-! 96 loop.example/g00244/spec.PutNum -/
noncomputable abbrev P_sPutNum : List PSh := [.t (.sl (.int .u8)), .t (.int .i64)]
noncomputable abbrev S_sPutNum_0 : SS := ⟨[.junk, .t true (.int .i64), .junk, .junk, .junk, .all 0 1, .junk, .junk, .junk, .junk, .junk, .junk, .junk, .junk, .junk, .junk, .junk, .junk, .junk, .junk, .junk, .junk, .junk, .junk, .junk, .junk, .junk, .junk, .junk], [.rows 5 true (.int .u8)]⟩
noncomputable abbrev E_sPutNum_0_0 : SS := ⟨[.junk, .t true (.int .i64), .junk, .junk, .junk, .all 0 1, .junk, .junk, .junk, .junk, .junk, .junk, .junk, .junk, .junk, .junk, .junk, .junk, .junk, .junk, .junk, .junk, .junk, .junk, .junk, .junk, .junk, .junk, .junk], [.rows 5 true (.int .u8)]⟩
noncomputable def st_sPutNum_0 (x1 : Int) (h0 : List Int) : RT S_sPutNum_0.den := (.br (decide (x1 > (127 : Int))) (.br (decide ((h0.length + [IntKind.wrap .u8 (ior .i64 (iand .i64 x1 (127 : Int)) (128 : Int))].length) * 1 ≤ MAXB)) (.next (((), Int.fdiv x1 (2 ^ (7)), (), (), (), (), (), (), (), (), (), (), (), (), (), (), (), (), (), (), (), (), (), (), (), (), (), (), (), ()), (h0 ++ [IntKind.wrap .u8 (ior .i64 (iand .i64 x1 (127 : Int)) (128 : Int))], ()))) .fail) (.done (.exit 0) E_sPutNum_0_0 (((), x1, (), (), (), (), (), (), (), (), (), (), (), (), (), (), (), (), (), (), (), (), (), (), (), (), (), (), (), ()), (h0, ()))))
noncomputable def T_sPutNum_0 (x1 : Int) (h0 : List Int) : CT := (.br (decide (0 ≤ x1 ∧ x1 ≤ 1000000000) && decide (h0.length ≤ 35184372088832)) (.done (.exit 0) E_sPutNum_0_0 (((), ((nX x1).2), (), (), (), (), (), (), (), (), (), (), (), (), (), (), (), (), (), (), (), (), (), (), (), (), (), (), (), ()), ((h0 ++ (nX x1).1), ()))) .fail)
noncomputable abbrev sp_sPutNum_0 : S_sPutNum_0.den → RT S_sPutNum_0.den := fun d => st_sPutNum_0 d.1.2.1 d.2.1
noncomputable abbrev pk_sPutNum_0 (x1 : Int) (h0 : List Int) : S_sPutNum_0.den := (((), x1, (), (), (), (), (), (), (), (), (), (), (), (), (), (), (), (), (), (), (), (), (), (), (), (), (), (), (), ()), (h0, ()))
noncomputable def body_sPutNum_0 : Code := ((loopsIn 0 (bodyOf Try.f96)).getD 0 (0, .skip)).2
theorem R_sPutNum_0 (x1 : Int) (h0 : List Int) : (T_sPutNum_0 x1 h0).val (D := S_sPutNum_0.den) = .fail ∨ Runs sp_sPutNum_0 (pk_sPutNum_0 x1 h0) (T_sPutNum_0 x1 h0).val := by
  cases hc : (decide (0 ≤ x1 ∧ x1 ≤ 1000000000) && decide (h0.length ≤ 35184372088832)) with
  | false => left; simp only [T_sPutNum_0, CT.val, hc, cond_false]
  | true =>
    right
    simp only [T_sPutNum_0, CT.val, hc, cond_true]
    simp only [Bool.and_eq_true, decide_eq_true_eq] at hc
    rw [nX_eq]
    have key : ∀ (k : Nat) (x1 : Int) (h0 : List Int), 0 ≤ x1 → x1 < 128 ^ (k + 1) → h0.length + k ≤ 70368744177664 → Runs sp_sPutNum_0 (pk_sPutNum_0 x1 h0) (((.done (.exit 0) E_sPutNum_0_0 (((), ((hiF gNum k x1).2), (), (), (), (), (), (), (), (), (), (), (), (), (), (), (), (), (), (), (), (), (), (), (), (), (), (), (), ()), ((h0 ++ (hiF gNum k x1).1), ()))) : CT).val (D := S_sPutNum_0.den)) := by
      intro k
      induction k with
      | zero =>
        intro x h h1 h2 h3
        have e1 : decide (x > 127) = false := decide_eq_false (by simp at h2; omega)
        refine .done (by simp) ?_
        simp only [sp_sPutNum_0, st_sPutNum_0, RT.val, e1, cond_false, hiF, List.append_nil]
      | succ k ih =>
        intro x h h1 h2 h3
        rw [Int.pow_succ] at h2
        by_cases hx : x > 127
        · have e1 : decide (x > 127) = true := decide_eq_true hx
          have e2 : decide ((h.length + [gNum x].length) * 1 ≤ MAXB) = true := decide_eq_true (by simp [MAXB]; omega)
          simp only [gNum] at e2
          have := ih (Int.fdiv x (2 ^ 7)) (h ++ [gNum x]) (by rw [fdiv128]; omega) (by rw [fdiv128]; omega) (by simp; omega)
          refine .next (d' := pk_sPutNum_0 (Int.fdiv x (2 ^ 7)) (h ++ [gNum x])) ?_ ?_
          · simp only [sp_sPutNum_0, st_sPutNum_0, RT.val, e1, e2, cond_true]; rfl
          · have e3 : hiF gNum (k + 1) x = (gNum x :: (hiF gNum k (Int.fdiv x (2 ^ 7))).1, (hiF gNum k (Int.fdiv x (2 ^ 7))).2) := by simp only [hiF, e1, cond_true]
            rw [e3]
            simpa [List.append_assoc] using this
        · have e1 : decide (x > 127) = false := decide_eq_false hx
          refine .done (by simp) ?_
          simp only [sp_sPutNum_0, st_sPutNum_0, RT.val, e1, cond_false, hiF, List.append_nil]
    exact key 4 x1 h0 hc.1.1 (by have := hc.1.2; simp; omega) (by have := hc.2; omega)
theorem rd_sPutNum_0 : ∀ d, execC Try.prog tt S11 QF11 (fun _ _ => none) 0 body_sPutNum_0 (S_sPutNum_0.st d 0 []) (fun e s' => some (e, S_sPutNum_0.cutE (kepts [] [(0, [1, 5])]) e s')) = (sp_sPutNum_0 d).opt 0 [] := by
  intro d
  kernel_rfl
noncomputable abbrev say_sPutNum_0 : St → Option Tree := S_sPutNum_0.say 0 [] [] (fun d => T_sPutNum_0 d.1.2.1 d.2.1)
theorem lw_sPutNum_0 : LoopWp Try.prog say_sPutNum_0 body_sPutNum_0 := SS.wp G11 (fun _ _ => none) (by rw [show loopsIn 0 body_sPutNum_0 = [] by kernel_rfl]; simp) S_sPutNum_0 0 [] (kepts [] [(0, [1, 5])]) [] sp_sPutNum_0 rd_sPutNum_0 _ (fun d => R_sPutNum_0 d.1.2.1 d.2.1)
noncomputable def sPutNum (a0 : List Int) (a1 : Int) : List Int := (cond (decide (a1 > (1000000000 : Int))) (((([] : List Int) ++ a0) ++ (nX (1000000000 : Int)).1) ++ [IntKind.wrap .u8 ((nX (1000000000 : Int)).2)]) (cond (decide (a1 < (0 : Int))) (((([] : List Int) ++ a0) ++ (nX (0 : Int)).1) ++ [IntKind.wrap .u8 ((nX (0 : Int)).2)]) (((([] : List Int) ++ a0) ++ (nX a1).1) ++ [IntKind.wrap .u8 ((nX a1).2)])))
noncomputable abbrev e_sPutNum (r : List Int) : AV × List AObj := ((.all 0 1), [(.rows 5 true (.int .u8) r)])
noncomputable abbrev g_sPutNum : pshsDen P_sPutNum → AV × List AObj := fun d => e_sPutNum (sPutNum d.1 d.2.1)
noncomputable def q_sPutNum (a0 : List Int) (a1 : Int) : Bool := decide (a0.length ≤ 17592186044416)
noncomputable abbrev pre_sPutNum : pshsDen P_sPutNum → Bool := fun d => q_sPutNum d.1 d.2.1
theorem runA_sPutNum (a0 : List Int) (a1 : Int) (hp : (decide (a0.length ≤ 17592186044416)) = true) : runP false Try.prog tt S11 QF11 (fun b => match b with | 0 => say_sPutNum_0 | _ => fun _ => none) Try.f96 (argsMk P_sPutNum (a0, (a1, ()))) = some (g_sPutNum (a0, (a1, ()))) := by
  refine Eq.trans (b := (cond (decide ((([] : List Int).length + a0.length) * 1 ≤ MAXB)) (cond (decide (a1 > (1000000000 : Int))) (cond (decide (0 ≤ (1000000000 : Int) ∧ (1000000000 : Int) ≤ 1000000000) && decide ((([] : List Int) ++ a0).length ≤ 35184372088832)) (cond (decide ((((([] : List Int) ++ a0) ++ (nX (1000000000 : Int)).1).length + [IntKind.wrap .u8 ((nX (1000000000 : Int)).2)].length) * 1 ≤ MAXB)) (some (e_sPutNum (((([] : List Int) ++ a0) ++ (nX (1000000000 : Int)).1) ++ [IntKind.wrap .u8 ((nX (1000000000 : Int)).2)]))) none) none) (cond (decide (a1 < (0 : Int))) (cond (decide (0 ≤ (0 : Int) ∧ (0 : Int) ≤ 1000000000) && decide ((([] : List Int) ++ a0).length ≤ 35184372088832)) (cond (decide ((((([] : List Int) ++ a0) ++ (nX (0 : Int)).1).length + [IntKind.wrap .u8 ((nX (0 : Int)).2)].length) * 1 ≤ MAXB)) (some (e_sPutNum (((([] : List Int) ++ a0) ++ (nX (0 : Int)).1) ++ [IntKind.wrap .u8 ((nX (0 : Int)).2)]))) none) none) (cond (decide (0 ≤ a1 ∧ a1 ≤ 1000000000) && decide ((([] : List Int) ++ a0).length ≤ 35184372088832)) (cond (decide ((((([] : List Int) ++ a0) ++ (nX a1).1).length + [IntKind.wrap .u8 ((nX a1).2)].length) * 1 ≤ MAXB)) (some (e_sPutNum (((([] : List Int) ++ a0) ++ (nX a1).1) ++ [IntKind.wrap .u8 ((nX a1).2)]))) none) none))) none)) (by kernel_rfl) ?_
  exact (cndT (by have h1 := nX_len a1; have h2 := nX_len 0; have h3 := nX_len 1000000000; simp only [decide_eq_true_eq, decide_eq_false_iff_not, Bool.and_eq_true] at *; (try simp [MAXB]) <;> omega) (fun _h => (cnd (F := fun r => some (e_sPutNum r)) (fun _h => (cndT (by have h1 := nX_len a1; have h2 := nX_len 0; have h3 := nX_len 1000000000; simp only [decide_eq_true_eq, decide_eq_false_iff_not, Bool.and_eq_true] at *; (try simp [MAXB]) <;> omega) (fun _h => (cndT (by have h1 := nX_len a1; have h2 := nX_len 0; have h3 := nX_len 1000000000; simp only [decide_eq_true_eq, decide_eq_false_iff_not, Bool.and_eq_true] at *; (try simp [MAXB]) <;> omega) (fun _h => rfl))))) (fun _h => (cnd (F := fun r => some (e_sPutNum r)) (fun _h => (cndT (by have h1 := nX_len a1; have h2 := nX_len 0; have h3 := nX_len 1000000000; simp only [decide_eq_true_eq, decide_eq_false_iff_not, Bool.and_eq_true] at *; (try simp [MAXB]) <;> omega) (fun _h => (cndT (by have h1 := nX_len a1; have h2 := nX_len 0; have h3 := nX_len 1000000000; simp only [decide_eq_true_eq, decide_eq_false_iff_not, Bool.and_eq_true] at *; (try simp [MAXB]) <;> omega) (fun _h => rfl))))) (fun _h => (cndT (by have h1 := nX_len a1; have h2 := nX_len 0; have h3 := nX_len 1000000000; simp only [decide_eq_true_eq, decide_eq_false_iff_not, Bool.and_eq_true] at *; (try simp [MAXB]) <;> omega) (fun _h => (cndT (by have h1 := nX_len a1; have h2 := nX_len 0; have h3 := nX_len 1000000000; simp only [decide_eq_true_eq, decide_eq_false_iff_not, Bool.and_eq_true] at *; (try simp [MAXB]) <;> omega) (fun _h => rfl))))))))))
theorem run_sPutNum : ∀ d, pre_sPutNum d = true → runP false Try.prog tt S11 QF11 (fun b => match b with | 0 => say_sPutNum_0 | _ => fun _ => none) Try.f96 (argsMk P_sPutNum d) = some (g_sPutNum d) := fun d hp => runA_sPutNum d.1 d.2.1 hp
theorem c_sPutNum : PContract Try.prog 96 (sumOf P_sPutNum pre_sPutNum g_sPutNum) := PContract.of_data false G11 (fn := Try.f96) (by kernel_rfl) (L := fun b => match b with | 0 => say_sPutNum_0 | _ => fun _ => none) (by rw [show loopsIn 0 (bodyOf Try.f96) = [(0, body_sPutNum_0)] by kernel_rfl]; intro p hp; simp only [List.mem_singleton] at hp; subst hp; exact lw_sPutNum_0) P_sPutNum pre_sPutNum g_sPutNum run_sPutNum
noncomputable def S12 : Tab := Tab.add S11 96 (lift (sumOf P_sPutNum pre_sPutNum g_sPutNum))
noncomputable def QF12 : FuncId → Bool := QF11
theorem G12 : Good Try.prog tt S12 QF12 := G11.add c_sPutNum ⟨Try.f96, by kernel_rfl, by kernel_rfl, by kernel_rfl⟩ (by kernel_rfl)
theorem sPutNum_eq (b : List Int) (n : Int) : sPutNum b n = b ++ numB (clampN n) := by
  simp only [sPutNum, numB, clampN]
  by_cases h1 : n > 1000000000
  · simp [h1]
  · by_cases h2 : n < 0
    · simp [h1, h2]
    · simp [h1, h2]
theorem sPutNum_len (b : List Int) (n : Int) : (sPutNum b n).length ≤ b.length + 5 := by
  rw [sPutNum_eq, List.length_append]
  have := numB_len (clampN n)
  omega

/-! 97 loop.example/g00244/spec.l10Bool -/
noncomputable abbrev P_sl10Bool : List PSh := [.t .bool]
noncomputable def sl10Bool (a0 : Bool) : Int := (cond a0 (1 : Int) (0 : Int))
noncomputable abbrev e_sl10Bool (r : Int) : AV × List AObj := ((.t true (.int .i64) r), [])
noncomputable abbrev g_sl10Bool : pshsDen P_sl10Bool → AV × List AObj := fun d => e_sl10Bool (sl10Bool d.1)
noncomputable abbrev pre_sl10Bool : pshsDen P_sl10Bool → Bool := fun d => true
theorem runA_sl10Bool (a0 : Bool) : runP true Try.prog tt S12 QF12 (fun _ _ => none) Try.f97 (argsMk P_sl10Bool (a0, ())) = some (g_sl10Bool (a0, ())) := by
  refine Eq.trans (b := (cond a0 (some (e_sl10Bool (1 : Int))) (some (e_sl10Bool (0 : Int))))) (by kernel_rfl) ?_
  exact (cnd (F := fun r => some (e_sl10Bool r)) (fun _h => rfl) (fun _h => rfl))
theorem run_sl10Bool : ∀ d, pre_sl10Bool d = true → runP true Try.prog tt S12 QF12 (fun _ _ => none) Try.f97 (argsMk P_sl10Bool d) = some (g_sl10Bool d) := fun d hp => runA_sl10Bool d.1
theorem c_sl10Bool : PContract Try.prog 97 (sumOf P_sl10Bool pre_sl10Bool g_sl10Bool) := PContract.of_data true G12 (fn := Try.f97) (by kernel_rfl) (L := fun _ _ => none) (by rw [show loopsIn 0 (bodyOf Try.f97) = [] by kernel_rfl]; simp) P_sl10Bool pre_sl10Bool g_sl10Bool run_sl10Bool
noncomputable def S13 : Tab := Tab.add S12 97 (lift (sumOf P_sl10Bool pre_sl10Bool g_sl10Bool))
noncomputable def QF13 : FuncId → Bool := qadd QF12 97
theorem G13 : Good Try.prog tt S13 QF13 := G12.addQ c_sl10Bool ⟨Try.f97, by kernel_rfl, by kernel_rfl, by kernel_rfl⟩ (fun _ => rfl)

/-! 140 loop.example/g00244/spec.PutText -/
noncomputable abbrev P_sPutText : List PSh := [.t (.sl (.int .u8)), .t .str]
noncomputable def sPutText (a0 : List Int) (a1 : ByteArray) : List Int := ((sPutNum a0 ((a1.size : Nat) : Int)) ++ strInts a1)
noncomputable abbrev e_sPutText (r : List Int) : AV × List AObj := ((.all 0 1), [(.rows 5 true (.int .u8) r)])
noncomputable abbrev g_sPutText : pshsDen P_sPutText → AV × List AObj := fun d => e_sPutText (sPutText d.1 d.2.1)
noncomputable def q_sPutText (a0 : List Int) (a1 : ByteArray) : Bool := decide (a0.length ≤ 8796093022208) && okS a1
noncomputable abbrev pre_sPutText : pshsDen P_sPutText → Bool := fun d => q_sPutText d.1 d.2.1
theorem runA_sPutText (a0 : List Int) (a1 : ByteArray) (hp : (decide (a0.length ≤ 8796093022208) && okS a1) = true) : runP false Try.prog tt S13 QF13 (fun _ _ => none) Try.f140 (argsMk P_sPutText (a0, (a1, ()))) = some (g_sPutText (a0, (a1, ()))) := by
  refine Eq.trans (b := (cond (q_sPutNum a0 ((a1.size : Nat) : Int)) (cond (decide ((sPutNum a0 ((a1.size : Nat) : Int)).length + a1.size ≤ MAXB)) (some (e_sPutText ((sPutNum a0 ((a1.size : Nat) : Int)) ++ strInts a1))) none) none)) (by kernel_rfl) ?_
  exact (cndT (by have h1 := sPutNum_len a0 ((a1.size : Nat) : Int); simp only [q_sPutNum, okS, decide_eq_true_eq, decide_eq_false_iff_not, Bool.and_eq_true] at *; (try simp [MAXB]) <;> omega) (fun _h => (cndT (by have h1 := sPutNum_len a0 ((a1.size : Nat) : Int); simp only [q_sPutNum, okS, decide_eq_true_eq, decide_eq_false_iff_not, Bool.and_eq_true] at *; (try simp [MAXB]) <;> omega) (fun _h => rfl))))
theorem run_sPutText : ∀ d, pre_sPutText d = true → runP false Try.prog tt S13 QF13 (fun _ _ => none) Try.f140 (argsMk P_sPutText d) = some (g_sPutText d) := fun d hp => runA_sPutText d.1 d.2.1 hp
theorem c_sPutText : PContract Try.prog 140 (sumOf P_sPutText pre_sPutText g_sPutText) := PContract.of_data false G13 (fn := Try.f140) (by kernel_rfl) (L := fun _ _ => none) (by rw [show loopsIn 0 (bodyOf Try.f140) = [] by kernel_rfl]; simp) P_sPutText pre_sPutText g_sPutText run_sPutText
noncomputable def S14 : Tab := Tab.add S13 140 (lift (sumOf P_sPutText pre_sPutText g_sPutText))
noncomputable def QF14 : FuncId → Bool := QF13
theorem G14 : Good Try.prog tt S14 QF14 := G13.add c_sPutText ⟨Try.f140, by kernel_rfl, by kernel_rfl, by kernel_rfl⟩ (by kernel_rfl)
theorem sPutText_eq (b : List Int) (s : ByteArray) (h : okS s = true) : sPutText b s = b ++ textB s := by
  simp only [okS, decide_eq_true_eq] at h
  simp only [sPutText, sPutNum_eq, textB, List.append_assoc]
  rw [clampN_of (by omega) (by omega)]
theorem sPutText_len (b : List Int) (s : ByteArray) (h : okS s = true) : (sPutText b s).length ≤ b.length + 5 + s.size := by
  rw [sPutText_eq b s h, List.length_append]
  have := textB_len s
  omega

/-! 98 loop.example/g00244/spec.PutOps -/
noncomputable def sOpPut (l : List (Int × ByteArray × ByteArray)) (i : Nat) (h : List Int) : List Int := sPutText (sPutText (sPutNum h (l.getD i dOp).1) (l.getD i dOp).2.1) (l.getD i dOp).2.2
noncomputable abbrev P_sPutOps : List PSh := [.t (.sl (.pair (.int .i64) (.pair .str .str)))]
noncomputable abbrev S_sPutOps_0 : SS := ⟨[.t false (.sl (.pair (.int .i64) (.pair .str .str))), .junk, .junk, .all 0 1, .t true (.int .i64), .junk, .junk, .junk, .junk, .junk, .junk, .junk, .junk, .junk, .junk, .junk, .junk, .junk, .junk, .junk, .junk, .junk, .junk, .junk, .junk, .junk, .junk, .junk, .junk, .junk, .junk, .junk, .junk, .junk, .junk, .junk, .junk, .junk, .junk], [.rows 5 true (.int .u8)]⟩
noncomputable abbrev E_sPutOps_0_0 : SS := ⟨[.junk, .junk, .junk, .all 0 1, .junk, .junk, .junk, .junk, .junk, .junk, .junk, .junk, .junk, .junk, .junk, .junk, .junk, .junk, .junk, .junk, .junk, .junk, .junk, .junk, .junk, .junk, .junk, .junk, .junk, .junk, .junk, .junk, .junk, .junk, .junk, .junk, .junk, .junk, .junk], [.rows 5 true (.int .u8)]⟩
noncomputable def st_sPutOps_0 (x0 : List (Int × ByteArray × ByteArray)) (x4 : Int) (h0 : List Int) : RT S_sPutOps_0.den := (.br (decide (x4 < ((x0.length : Nat) : Int))) (.br (decide (0 ≤ x4 ∧ x4 < ((x0.length : Nat) : Int))) (.br (decide (0 ≤ x4 ∧ x4 < ((x0.length : Nat) : Int))) (.br (decide (0 ≤ x4 ∧ x4 < ((x0.length : Nat) : Int))) (.br (q_sPutNum h0 ((x0.getD x4.toNat ((0 : Int), ((⟨#[]⟩ : ByteArray), (⟨#[]⟩ : ByteArray)))).1)) (.br (q_sPutText (sPutNum h0 ((x0.getD x4.toNat ((0 : Int), ((⟨#[]⟩ : ByteArray), (⟨#[]⟩ : ByteArray)))).1)) (((x0.getD x4.toNat ((0 : Int), ((⟨#[]⟩ : ByteArray), (⟨#[]⟩ : ByteArray)))).2).1)) (.br (q_sPutText (sPutText (sPutNum h0 ((x0.getD x4.toNat ((0 : Int), ((⟨#[]⟩ : ByteArray), (⟨#[]⟩ : ByteArray)))).1)) (((x0.getD x4.toNat ((0 : Int), ((⟨#[]⟩ : ByteArray), (⟨#[]⟩ : ByteArray)))).2).1)) (((x0.getD x4.toNat ((0 : Int), ((⟨#[]⟩ : ByteArray), (⟨#[]⟩ : ByteArray)))).2).2)) (.next ((x0, (), (), (), IntKind.wrap .i64 (x4 + (1 : Int)), (), (), (), (), (), (), (), (), (), (), (), (), (), (), (), (), (), (), (), (), (), (), (), (), (), (), (), (), (), (), (), (), (), (), ()), ((sPutText (sPutText (sPutNum h0 ((x0.getD x4.toNat ((0 : Int), ((⟨#[]⟩ : ByteArray), (⟨#[]⟩ : ByteArray)))).1)) (((x0.getD x4.toNat ((0 : Int), ((⟨#[]⟩ : ByteArray), (⟨#[]⟩ : ByteArray)))).2).1)) (((x0.getD x4.toNat ((0 : Int), ((⟨#[]⟩ : ByteArray), (⟨#[]⟩ : ByteArray)))).2).2)), ()))) .fail) .fail) .fail) .fail) .fail) .fail) (.done (.exit 0) E_sPutOps_0_0 (((), (), (), (), (), (), (), (), (), (), (), (), (), (), (), (), (), (), (), (), (), (), (), (), (), (), (), (), (), (), (), (), (), (), (), (), (), (), (), ()), (h0, ()))))
noncomputable def T_sPutOps_0 (x0 : List (Int × ByteArray × ByteArray)) (x4 : Int) (h0 : List Int) : CT := (.br (decide (0 ≤ x4) && (decide (h0.length ≤ 4194304 * (x4.toNat + 1)) && okOps x0)) (.done (.exit 0) E_sPutOps_0_0 (((), (), (), (), (), (), (), (), (), (), (), (), (), (), (), (), (), (), (), (), (), (), (), (), (), (), (), (), (), (), (), (), (), (), (), (), (), (), (), ()), ((foldN (sOpPut x0) (x0.length - x4.toNat) x4.toNat h0), ()))) .fail)
noncomputable abbrev sp_sPutOps_0 : S_sPutOps_0.den → RT S_sPutOps_0.den := fun d => st_sPutOps_0 d.1.1 d.1.2.2.2.2.1 d.2.1
noncomputable abbrev pk_sPutOps_0 (x0 : List (Int × ByteArray × ByteArray)) (x4 : Int) (h0 : List Int) : S_sPutOps_0.den := ((x0, (), (), (), x4, (), (), (), (), (), (), (), (), (), (), (), (), (), (), (), (), (), (), (), (), (), (), (), (), (), (), (), (), (), (), (), (), (), (), ()), (h0, ()))
noncomputable def body_sPutOps_0 : Code := ((loopsIn 0 (bodyOf Try.f98)).getD 0 (0, .skip)).2
theorem R_sPutOps_0 (x0 : List (Int × ByteArray × ByteArray)) (x4 : Int) (h0 : List Int) : (T_sPutOps_0 x0 x4 h0).val (D := S_sPutOps_0.den) = .fail ∨ Runs sp_sPutOps_0 (pk_sPutOps_0 x0 x4 h0) (T_sPutOps_0 x0 x4 h0).val := by
  cases hc : (decide (0 ≤ x4) && (decide (h0.length ≤ 4194304 * (x4.toNat + 1)) && okOps x0)) with
  | false => left; simp only [T_sPutOps_0, CT.val, hc, cond_false]
  | true =>
    right
    simp only [T_sPutOps_0, CT.val, hc, cond_true]
    simp only [Bool.and_eq_true, decide_eq_true_eq] at hc
    obtain ⟨i, rfl⟩ := Int.eq_ofNat_of_zero_le hc.1
    have hs := okOps_len hc.2.2
    have hb0 := hc.2.1
    simp only [Int.toNat_natCast] at hb0 ⊢
    refine Runs.foldN (step := sp_sPutOps_0) (fun j b => pk_sPutOps_0 x0 (j : Int) b) (fun i b => b.length ≤ 4194304 * (i + 1)) (x0.length) (sOpPut x0)
      (fin := fun b => ((.done (.exit 0) E_sPutOps_0_0 (((), (), (), (), (), (), (), (), (), (), (), (), (), (), (), (), (), (), (), (), (), (), (), (), (), (), (), (), (), (), (), (), (), (), (), (), (), (), (), ()), (b, ()))) : CT).val) (fun i b hi hb => ?_) (fun i b hi hb => ?_) (x0.length - i) i h0 rfl hb0
    · obtain ⟨k1, k2⟩ := okOps_at hc.2.2 i hi
      have l1 := sPutNum_len b (x0.getD i dOp).1
      have l2 := sPutText_len (sPutNum b (x0.getD i dOp).1) (x0.getD i dOp).2.1 k1
      have l3 := sPutText_len (sPutText (sPutNum b (x0.getD i dOp).1) (x0.getD i dOp).2.1) (x0.getD i dOp).2.2 k2
      have m1 := okS_le k1
      have m2 := okS_le k2
      have q1 : q_sPutNum b (x0.getD i dOp).1 = true := by simp only [q_sPutNum, decide_eq_true_eq]; omega
      have q2 : q_sPutText (sPutNum b (x0.getD i dOp).1) (x0.getD i dOp).2.1 = true := by simp only [q_sPutText, k1, Bool.and_true, decide_eq_true_eq]; omega
      have q3 : q_sPutText (sPutText (sPutNum b (x0.getD i dOp).1) (x0.getD i dOp).2.1) (x0.getD i dOp).2.2 = true := by simp only [q_sPutText, k2, Bool.and_true, decide_eq_true_eq]; omega
      refine ⟨by simp only [sOpPut]; omega, ?_⟩
      have h0a : decide ((i : Int) < ((x0.length : Nat) : Int)) = true := decide_eq_true (by omega)
      have h0b : decide (0 ≤ (i : Int) ∧ (i : Int) < ((x0.length : Nat) : Int)) = true := decide_eq_true (by omega)
      simp only [dOp] at q1 q2 q3
      simp only [sp_sPutOps_0, st_sPutOps_0, RT.val, h0a, h0b, cond_true, wrapS i (by omega), Int.toNat_natCast, q1, q2, q3]
      rfl
    · have h1 : decide ((i : Int) < ((x0.length : Nat) : Int)) = false := decide_eq_false (by omega)
      exact ⟨by simp only [sp_sPutOps_0, st_sPutOps_0, RT.val, h1, cond_false]; rfl, _, _, _, rfl, by simp⟩
theorem rd_sPutOps_0 : ∀ d, execC Try.prog tt S14 QF14 (fun _ _ => none) 0 body_sPutOps_0 (S_sPutOps_0.st d 0 []) (fun e s' => some (e, S_sPutOps_0.cutE (kepts [] [(0, [3])]) e s')) = (sp_sPutOps_0 d).opt 0 [] := by
  intro d
  kernel_rfl
noncomputable abbrev say_sPutOps_0 : St → Option Tree := S_sPutOps_0.say 0 [] [] (fun d => T_sPutOps_0 d.1.1 d.1.2.2.2.2.1 d.2.1)
theorem lw_sPutOps_0 : LoopWp Try.prog say_sPutOps_0 body_sPutOps_0 := SS.wp G14 (fun _ _ => none) (by rw [show loopsIn 0 body_sPutOps_0 = [] by kernel_rfl]; simp) S_sPutOps_0 0 [] (kepts [] [(0, [3])]) [] sp_sPutOps_0 rd_sPutOps_0 _ (fun d => R_sPutOps_0 d.1.1 d.1.2.2.2.2.1 d.2.1)
noncomputable def sPutOps (a0 : List (Int × ByteArray × ByteArray)) : List Int := (cond (!(sOpsOk a0)) ([] : List Int) (foldN (sOpPut a0) (a0.length - (0 : Int).toNat) (0 : Int).toNat (sPutNum ([] : List Int) ((a0.length : Nat) : Int))))
noncomputable abbrev e_sPutOps (r : List Int) : AV × List AObj := ((.all 0 1), [(.rows 5 true (.int .u8) r)])
noncomputable abbrev g_sPutOps : pshsDen P_sPutOps → AV × List AObj := fun d => e_sPutOps (sPutOps d.1)
noncomputable def q_sPutOps (a0 : List (Int × ByteArray × ByteArray)) : Bool := okOps a0
noncomputable abbrev pre_sPutOps : pshsDen P_sPutOps → Bool := fun d => q_sPutOps d.1
theorem runA_sPutOps (a0 : List (Int × ByteArray × ByteArray)) (hp : (okOps a0) = true) : runP false Try.prog tt S14 QF14 (fun b => match b with | 0 => say_sPutOps_0 | _ => fun _ => none) Try.f98 (argsMk P_sPutOps (a0, ())) = some (g_sPutOps (a0, ())) := by
  refine Eq.trans (b := (cond (q_sOpsOk a0) (cond (!(sOpsOk a0)) (some (e_sPutOps ([] : List Int))) (cond (q_sPutNum ([] : List Int) ((a0.length : Nat) : Int)) (cond (decide (0 ≤ (0 : Int)) && (decide ((sPutNum ([] : List Int) ((a0.length : Nat) : Int)).length ≤ 4194304 * ((0 : Int).toNat + 1)) && okOps a0)) (some (e_sPutOps (foldN (sOpPut a0) (a0.length - (0 : Int).toNat) (0 : Int).toNat (sPutNum ([] : List Int) ((a0.length : Nat) : Int))))) none) none)) none)) (by kernel_rfl) ?_
  exact (cndT (by have h1 := sPutNum_len [] ((a0.length : Nat) : Int); have hs := okOps_len hp; simp only [q_sOpsOk, q_sPutNum, hp, Bool.and_true, Bool.true_and, Bool.and_eq_true, decide_eq_true_eq] <;> (try simp only [List.length_nil, Int.toNat_zero, Int.le_refl, true_and] at h1 ⊢) <;> omega) (fun _h => (cnd (F := fun r => some (e_sPutOps r)) (fun _h => rfl) (fun _h => (cndT (by have h1 := sPutNum_len [] ((a0.length : Nat) : Int); have hs := okOps_len hp; simp only [q_sOpsOk, q_sPutNum, hp, Bool.and_true, Bool.true_and, Bool.and_eq_true, decide_eq_true_eq] <;> (try simp only [List.length_nil, Int.toNat_zero, Int.le_refl, true_and] at h1 ⊢) <;> omega) (fun _h => (cndT (by have h1 := sPutNum_len [] ((a0.length : Nat) : Int); have hs := okOps_len hp; simp only [q_sOpsOk, q_sPutNum, hp, Bool.and_true, Bool.true_and, Bool.and_eq_true, decide_eq_true_eq] <;> (try simp only [List.length_nil, Int.toNat_zero, Int.le_refl, true_and] at h1 ⊢) <;> omega) (fun _h => rfl))))))))
theorem run_sPutOps : ∀ d, pre_sPutOps d = true → runP false Try.prog tt S14 QF14 (fun b => match b with | 0 => say_sPutOps_0 | _ => fun _ => none) Try.f98 (argsMk P_sPutOps d) = some (g_sPutOps d) := fun d hp => runA_sPutOps d.1 hp
theorem c_sPutOps : PContract Try.prog 98 (sumOf P_sPutOps pre_sPutOps g_sPutOps) := PContract.of_data false G14 (fn := Try.f98) (by kernel_rfl) (L := fun b => match b with | 0 => say_sPutOps_0 | _ => fun _ => none) (by rw [show loopsIn 0 (bodyOf Try.f98) = [(0, body_sPutOps_0)] by kernel_rfl]; intro p hp; simp only [List.mem_singleton] at hp; subst hp; exact lw_sPutOps_0) P_sPutOps pre_sPutOps g_sPutOps run_sPutOps
noncomputable def S15 : Tab := Tab.add S14 98 (lift (sumOf P_sPutOps pre_sPutOps g_sPutOps))
noncomputable def QF15 : FuncId → Bool := QF14
theorem G15 : Good Try.prog tt S15 QF15 := G14.add c_sPutOps ⟨Try.f98, by kernel_rfl, by kernel_rfl, by kernel_rfl⟩ (by kernel_rfl)
theorem foldN_app {α : Type} (f : α → List Int) (d : α) (l : List α) (g : Nat → List Int → List Int) (hg : ∀ i h, i < l.length → g i h = h ++ f (l.getD i d)) : ∀ k i h, i + k = l.length → foldN g k i h = h ++ ((l.drop i).map f).flatten := by
  intro k
  induction k with
  | zero =>
    intro i h hi
    have : l.drop i = [] := List.drop_eq_nil_of_le (by omega)
    simp [foldN, this]
  | succ k ih =>
    intro i h hi
    have hlt : i < l.length := by omega
    simp only [foldN]
    rw [ih (i + 1) (g i h) (by omega), hg i h hlt, List.append_assoc, show l.drop i = l[i] :: l.drop (i + 1) from List.drop_eq_getElem_cons hlt, List.map_cons, List.flatten_cons, show l.getD i d = l[i] from by simp [List.getD_eq_getElem?_getD, hlt]]
theorem opB_len (o : Int × ByteArray × ByteArray) : (opB o).length ≤ 15 + o.2.1.size + o.2.2.size := by
  have h1 := numB_len (clampN o.1)
  have h2 := textB_len o.2.1
  have h3 := textB_len o.2.2
  simp only [opB, List.length_append]; omega
theorem flat_len {M : Nat} : ∀ l : List (Int × ByteArray × ByteArray), (∀ o ∈ l, (opB o).length ≤ M) → (l.map opB).flatten.length ≤ M * l.length := by
  intro l
  induction l with
  | nil => intro _; simp
  | cons o l ih =>
    intro h
    have h1 := h o (by simp)
    have h2 := ih fun x hx => h x (by simp [hx])
    simp only [List.map_cons, List.flatten_cons, List.length_append, List.length_cons]
    rw [Nat.mul_add]; omega
theorem okOps_mem {l : List (Int × ByteArray × ByteArray)} (h : okOps l = true) : ∀ o ∈ l, o.2.1.size ≤ 1048576 ∧ o.2.2.size ≤ 1048576 := by
  intro o ho
  simp only [okOps, Bool.and_eq_true, List.all_eq_true] at h
  have := h.2 o ho
  simpa [okOp, okS] using this
theorem sPutOps_eq (l : List (Int × ByteArray × ByteArray)) (ho : okOps l = true) : sPutOps l = cond (!(sOpsOk l)) [] (numB (clampN (l.length : Int)) ++ (l.map opB).flatten) := by
  simp only [sPutOps]
  congr 1
  have := foldN_app opB dOp l (sOpPut l) (fun i h hi => by
    obtain ⟨k1, k2⟩ := okOps_at ho i hi
    simp only [sOpPut, sPutText_eq _ _ k1, sPutText_eq _ _ k2, sPutNum_eq, opB, List.append_assoc]) l.length 0 (sPutNum [] (l.length : Int)) (by omega)
  rw [sPutNum_eq, List.nil_append, List.drop_zero] at this
  rw [← this]
  rw [sPutNum_eq, List.nil_append]
  rfl
theorem sPutOps_len (l : List (Int × ByteArray × ByteArray)) (ho : okOps l = true) : (sPutOps l).length ≤ 4398046511104 := by
  rw [sPutOps_eq l ho]
  have h1 := numB_len (clampN (l.length : Int))
  have h2 := flat_len (M := 2097167) l (fun o ho' => by have := okOps_mem ho o ho'; have := opB_len o; omega)
  have h3 := okOps_len ho
  have h4 : 2097167 * l.length ≤ 2097167 * 1048576 := Nat.mul_le_mul_left _ h3
  cases sOpsOk l with
  | true => simp only [Bool.not_true, cond_false, List.length_append]; omega
  | false => simp


/-! 35 loop.example/g00244/spec.PutWord -/
noncomputable abbrev P_sPutWord : List PSh := [.agg [(.int .i64), (.int .i64), (.int .i64), (.sl (.pair (.int .i64) (.pair .str .str))), .bool]]
noncomputable def sPutWord (a0 : Int) (a1 : Int) (a2 : Int) (a3 : List (Int × ByteArray × ByteArray)) (a4 : Bool) : List Int := (cond (!(sWordOk a0 a1 a2 a3 a4)) ([] : List Int) (cond (a0 == (1 : Int)) ((sPutNum (sPutNum (sPutNum (sPutNum ([] : List Int) a0) a1) a2) (sl10Bool a4)) ++ (sPutOps a3)) (sPutNum (sPutNum (sPutNum (sPutNum ([] : List Int) a0) a1) a2) (sl10Bool a4))))
noncomputable abbrev e_sPutWord (r : List Int) : AV × List AObj := ((.all 0 1), [(.rows 5 true (.int .u8) r)])
noncomputable abbrev g_sPutWord : pshsDen P_sPutWord → AV × List AObj := fun d => e_sPutWord (sPutWord d.1.1 d.1.2.1 d.1.2.2.1 d.1.2.2.2.1 d.1.2.2.2.2.1)
noncomputable def q_sPutWord (a0 : Int) (a1 : Int) (a2 : Int) (a3 : List (Int × ByteArray × ByteArray)) (a4 : Bool) : Bool := okOps a3
noncomputable abbrev pre_sPutWord : pshsDen P_sPutWord → Bool := fun d => q_sPutWord d.1.1 d.1.2.1 d.1.2.2.1 d.1.2.2.2.1 d.1.2.2.2.2.1
theorem runA_sPutWord (a0 : Int) (a1 : Int) (a2 : Int) (a3 : List (Int × ByteArray × ByteArray)) (a4 : Bool) (hp : (okOps a3) = true) : runP false Try.prog tt S15 QF15 (fun _ _ => none) Try.f35 (argsMk P_sPutWord ((a0, (a1, (a2, (a3, (a4, ()))))), ())) = some (g_sPutWord ((a0, (a1, (a2, (a3, (a4, ()))))), ())) := by
  refine Eq.trans (b := (cond (q_sWordOk a0 a1 a2 a3 a4) (cond (!(sWordOk a0 a1 a2 a3 a4)) (some (e_sPutWord ([] : List Int))) (cond (q_sPutNum ([] : List Int) a0) (cond (q_sPutNum (sPutNum ([] : List Int) a0) a1) (cond (q_sPutNum (sPutNum (sPutNum ([] : List Int) a0) a1) a2) (cond (q_sPutNum (sPutNum (sPutNum (sPutNum ([] : List Int) a0) a1) a2) (sl10Bool a4)) (cond (a0 == (1 : Int)) (cond (q_sPutOps a3) (cond (decide (((sPutNum (sPutNum (sPutNum (sPutNum ([] : List Int) a0) a1) a2) (sl10Bool a4)).length + (sPutOps a3).length) * 1 ≤ MAXB)) (some (e_sPutWord ((sPutNum (sPutNum (sPutNum (sPutNum ([] : List Int) a0) a1) a2) (sl10Bool a4)) ++ (sPutOps a3)))) none) none) (some (e_sPutWord (sPutNum (sPutNum (sPutNum (sPutNum ([] : List Int) a0) a1) a2) (sl10Bool a4))))) none) none) none) none)) none)) (by kernel_rfl) ?_
  exact (cndT (by have k1 := sPutNum_len ([] : List Int) a0; have k2 := sPutNum_len (sPutNum ([] : List Int) a0) a1; have k3 := sPutNum_len (sPutNum (sPutNum ([] : List Int) a0) a1) a2; have k4 := sPutNum_len (sPutNum (sPutNum (sPutNum ([] : List Int) a0) a1) a2) (sl10Bool a4); have k5 := sPutOps_len a3 hp; simp only [q_sWordOk, q_sPutOps, q_sPutNum, hp, List.length_nil, decide_eq_true_eq] at k1 k2 k3 k4 k5 ⊢ <;> (try simp only [MAXB]) <;> omega) (fun _h => (cnd (F := fun r => some (e_sPutWord r)) (fun _h => rfl) (fun _h => (cndT (by have k1 := sPutNum_len ([] : List Int) a0; have k2 := sPutNum_len (sPutNum ([] : List Int) a0) a1; have k3 := sPutNum_len (sPutNum (sPutNum ([] : List Int) a0) a1) a2; have k4 := sPutNum_len (sPutNum (sPutNum (sPutNum ([] : List Int) a0) a1) a2) (sl10Bool a4); have k5 := sPutOps_len a3 hp; simp only [q_sWordOk, q_sPutOps, q_sPutNum, hp, List.length_nil, decide_eq_true_eq] at k1 k2 k3 k4 k5 ⊢ <;> (try simp only [MAXB]) <;> omega) (fun _h => (cndT (by have k1 := sPutNum_len ([] : List Int) a0; have k2 := sPutNum_len (sPutNum ([] : List Int) a0) a1; have k3 := sPutNum_len (sPutNum (sPutNum ([] : List Int) a0) a1) a2; have k4 := sPutNum_len (sPutNum (sPutNum (sPutNum ([] : List Int) a0) a1) a2) (sl10Bool a4); have k5 := sPutOps_len a3 hp; simp only [q_sWordOk, q_sPutOps, q_sPutNum, hp, List.length_nil, decide_eq_true_eq] at k1 k2 k3 k4 k5 ⊢ <;> (try simp only [MAXB]) <;> omega) (fun _h => (cndT (by have k1 := sPutNum_len ([] : List Int) a0; have k2 := sPutNum_len (sPutNum ([] : List Int) a0) a1; have k3 := sPutNum_len (sPutNum (sPutNum ([] : List Int) a0) a1) a2; have k4 := sPutNum_len (sPutNum (sPutNum (sPutNum ([] : List Int) a0) a1) a2) (sl10Bool a4); have k5 := sPutOps_len a3 hp; simp only [q_sWordOk, q_sPutOps, q_sPutNum, hp, List.length_nil, decide_eq_true_eq] at k1 k2 k3 k4 k5 ⊢ <;> (try simp only [MAXB]) <;> omega) (fun _h => (cndT (by have k1 := sPutNum_len ([] : List Int) a0; have k2 := sPutNum_len (sPutNum ([] : List Int) a0) a1; have k3 := sPutNum_len (sPutNum (sPutNum ([] : List Int) a0) a1) a2; have k4 := sPutNum_len (sPutNum (sPutNum (sPutNum ([] : List Int) a0) a1) a2) (sl10Bool a4); have k5 := sPutOps_len a3 hp; simp only [q_sWordOk, q_sPutOps, q_sPutNum, hp, List.length_nil, decide_eq_true_eq] at k1 k2 k3 k4 k5 ⊢ <;> (try simp only [MAXB]) <;> omega) (fun _h => (cnd (F := fun r => some (e_sPutWord r)) (fun _h => (cndT (by have k1 := sPutNum_len ([] : List Int) a0; have k2 := sPutNum_len (sPutNum ([] : List Int) a0) a1; have k3 := sPutNum_len (sPutNum (sPutNum ([] : List Int) a0) a1) a2; have k4 := sPutNum_len (sPutNum (sPutNum (sPutNum ([] : List Int) a0) a1) a2) (sl10Bool a4); have k5 := sPutOps_len a3 hp; simp only [q_sWordOk, q_sPutOps, q_sPutNum, hp, List.length_nil, decide_eq_true_eq] at k1 k2 k3 k4 k5 ⊢ <;> (try simp only [MAXB]) <;> omega) (fun _h => (cndT (by have k1 := sPutNum_len ([] : List Int) a0; have k2 := sPutNum_len (sPutNum ([] : List Int) a0) a1; have k3 := sPutNum_len (sPutNum (sPutNum ([] : List Int) a0) a1) a2; have k4 := sPutNum_len (sPutNum (sPutNum (sPutNum ([] : List Int) a0) a1) a2) (sl10Bool a4); have k5 := sPutOps_len a3 hp; simp only [q_sWordOk, q_sPutOps, q_sPutNum, hp, List.length_nil, decide_eq_true_eq] at k1 k2 k3 k4 k5 ⊢ <;> (try simp only [MAXB]) <;> omega) (fun _h => rfl))))) (fun _h => rfl))))))))))))))
theorem run_sPutWord : ∀ d, pre_sPutWord d = true → runP false Try.prog tt S15 QF15 (fun _ _ => none) Try.f35 (argsMk P_sPutWord d) = some (g_sPutWord d) := fun d hp => runA_sPutWord d.1.1 d.1.2.1 d.1.2.2.1 d.1.2.2.2.1 d.1.2.2.2.2.1 hp
theorem c_sPutWord : PContract Try.prog 35 (sumOf P_sPutWord pre_sPutWord g_sPutWord) := PContract.of_data false G15 (fn := Try.f35) (by kernel_rfl) (L := fun _ _ => none) (by rw [show loopsIn 0 (bodyOf Try.f35) = [] by kernel_rfl]; simp) P_sPutWord pre_sPutWord g_sPutWord run_sPutWord
noncomputable def S16 : Tab := Tab.add S15 35 (lift (sumOf P_sPutWord pre_sPutWord g_sPutWord))
noncomputable def QF16 : FuncId → Bool := QF15
theorem G16 : Good Try.prog tt S16 QF16 := G15.add c_sPutWord ⟨Try.f35, by kernel_rfl, by kernel_rfl, by kernel_rfl⟩ (by kernel_rfl)

/-! 89 loop.example/g00244/impl.inRange -/
noncomputable abbrev P_iinRange : List PSh := [.t (.int .i64), .t (.int .i64), .t (.int .i64)]
noncomputable def iinRange (a0 : Int) (a1 : Int) (a2 : Int) : Bool := (cond (decide (a0 ≥ a1)) (decide (a0 ≤ a2)) false)
noncomputable abbrev e_iinRange (r : Bool) : AV × List AObj := ((.t true .bool r), [])
noncomputable abbrev g_iinRange : pshsDen P_iinRange → AV × List AObj := fun d => e_iinRange (iinRange d.1 d.2.1 d.2.2.1)
noncomputable abbrev pre_iinRange : pshsDen P_iinRange → Bool := fun d => true
theorem runA_iinRange (a0 : Int) (a1 : Int) (a2 : Int) : runP true Try.prog tt S16 QF16 (fun _ _ => none) Try.f89 (argsMk P_iinRange (a0, (a1, (a2, ())))) = some (g_iinRange (a0, (a1, (a2, ())))) := by
  refine Eq.trans (b := (cond (decide (a0 ≥ a1)) (some (e_iinRange (decide (a0 ≤ a2)))) (some (e_iinRange false)))) (by kernel_rfl) ?_
  exact (cnd (F := fun r => some (e_iinRange r)) (fun _h => rfl) (fun _h => rfl))
theorem run_iinRange : ∀ d, pre_iinRange d = true → runP true Try.prog tt S16 QF16 (fun _ _ => none) Try.f89 (argsMk P_iinRange d) = some (g_iinRange d) := fun d hp => runA_iinRange d.1 d.2.1 d.2.2.1
theorem c_iinRange : PContract Try.prog 89 (sumOf P_iinRange pre_iinRange g_iinRange) := PContract.of_data true G16 (fn := Try.f89) (by kernel_rfl) (L := fun _ _ => none) (by rw [show loopsIn 0 (bodyOf Try.f89) = [] by kernel_rfl]; simp) P_iinRange pre_iinRange g_iinRange run_iinRange
noncomputable def S17 : Tab := Tab.add S16 89 (lift (sumOf P_iinRange pre_iinRange g_iinRange))
noncomputable def QF17 : FuncId → Bool := qadd QF16 89
theorem G17 : Good Try.prog tt S17 QF17 := G16.addQ c_iinRange ⟨Try.f89, by kernel_rfl, by kernel_rfl, by kernel_rfl⟩ (fun _ => rfl)

/-! 85 loop.example/g00244/impl.isId -/
noncomputable abbrev P_iisId : List PSh := [.t (.int .i64)]
noncomputable def iisId (a0 : Int) : Bool := (iinRange a0 (0 : Int) (7 : Int))
noncomputable abbrev e_iisId (r : Bool) : AV × List AObj := ((.t true .bool r), [])
noncomputable abbrev g_iisId : pshsDen P_iisId → AV × List AObj := fun d => e_iisId (iisId d.1)
noncomputable abbrev pre_iisId : pshsDen P_iisId → Bool := fun d => true
theorem runA_iisId (a0 : Int) : runP true Try.prog tt S17 QF17 (fun _ _ => none) Try.f85 (argsMk P_iisId (a0, ())) = some (g_iisId (a0, ())) := by
  kernel_rfl
theorem run_iisId : ∀ d, pre_iisId d = true → runP true Try.prog tt S17 QF17 (fun _ _ => none) Try.f85 (argsMk P_iisId d) = some (g_iisId d) := fun d hp => runA_iisId d.1
theorem c_iisId : PContract Try.prog 85 (sumOf P_iisId pre_iisId g_iisId) := PContract.of_data true G17 (fn := Try.f85) (by kernel_rfl) (L := fun _ _ => none) (by rw [show loopsIn 0 (bodyOf Try.f85) = [] by kernel_rfl]; simp) P_iisId pre_iisId g_iisId run_iisId
noncomputable def S18 : Tab := Tab.add S17 85 (lift (sumOf P_iisId pre_iisId g_iisId))
noncomputable def QF18 : FuncId → Bool := qadd QF17 85
theorem G18 : Good Try.prog tt S18 QF18 := G17.addQ c_iisId ⟨Try.f85, by kernel_rfl, by kernel_rfl, by kernel_rfl⟩ (fun _ => rfl)

/-! 84 loop.example/g00244/impl.isTx -/
noncomputable abbrev P_iisTx : List PSh := [.t (.int .i64)]
noncomputable def iisTx (a0 : Int) : Bool := (iinRange a0 (1 : Int) (1000000 : Int))
noncomputable abbrev e_iisTx (r : Bool) : AV × List AObj := ((.t true .bool r), [])
noncomputable abbrev g_iisTx : pshsDen P_iisTx → AV × List AObj := fun d => e_iisTx (iisTx d.1)
noncomputable abbrev pre_iisTx : pshsDen P_iisTx → Bool := fun d => true
theorem runA_iisTx (a0 : Int) : runP true Try.prog tt S18 QF18 (fun _ _ => none) Try.f84 (argsMk P_iisTx (a0, ())) = some (g_iisTx (a0, ())) := by
  kernel_rfl
theorem run_iisTx : ∀ d, pre_iisTx d = true → runP true Try.prog tt S18 QF18 (fun _ _ => none) Try.f84 (argsMk P_iisTx d) = some (g_iisTx d) := fun d hp => runA_iisTx d.1
theorem c_iisTx : PContract Try.prog 84 (sumOf P_iisTx pre_iisTx g_iisTx) := PContract.of_data true G18 (fn := Try.f84) (by kernel_rfl) (L := fun _ _ => none) (by rw [show loopsIn 0 (bodyOf Try.f84) = [] by kernel_rfl]; simp) P_iisTx pre_iisTx g_iisTx run_iisTx
noncomputable def S19 : Tab := Tab.add S18 84 (lift (sumOf P_iisTx pre_iisTx g_iisTx))
noncomputable def QF19 : FuncId → Bool := qadd QF18 84
theorem G19 : Good Try.prog tt S19 QF19 := G18.addQ c_iisTx ⟨Try.f84, by kernel_rfl, by kernel_rfl, by kernel_rfl⟩ (fun _ => rfl)

/-! 177 loop.example/g00244/impl.isKeyByte -/
noncomputable abbrev P_iisKeyByte : List PSh := [.t (.int .u8)]
noncomputable def iisKeyByte (a0 : Int) : Bool := (cond (decide (a0 ≥ (97 : Int))) (cond (decide (a0 ≤ (122 : Int))) true (cond (decide (a0 ≥ (48 : Int))) (decide (a0 ≤ (57 : Int))) false)) (cond (decide (a0 ≥ (48 : Int))) (decide (a0 ≤ (57 : Int))) false))
noncomputable abbrev e_iisKeyByte (r : Bool) : AV × List AObj := ((.t true .bool r), [])
noncomputable abbrev g_iisKeyByte : pshsDen P_iisKeyByte → AV × List AObj := fun d => e_iisKeyByte (iisKeyByte d.1)
noncomputable abbrev pre_iisKeyByte : pshsDen P_iisKeyByte → Bool := fun d => true
theorem runA_iisKeyByte (a0 : Int) : runP true Try.prog tt S19 QF19 (fun _ _ => none) Try.f177 (argsMk P_iisKeyByte (a0, ())) = some (g_iisKeyByte (a0, ())) := by
  refine Eq.trans (b := (cond (decide (a0 ≥ (97 : Int))) (cond (decide (a0 ≤ (122 : Int))) (some (e_iisKeyByte true)) (cond (decide (a0 ≥ (48 : Int))) (some (e_iisKeyByte (decide (a0 ≤ (57 : Int))))) (some (e_iisKeyByte false)))) (cond (decide (a0 ≥ (48 : Int))) (some (e_iisKeyByte (decide (a0 ≤ (57 : Int))))) (some (e_iisKeyByte false))))) (by kernel_rfl) ?_
  exact (cnd (F := fun r => some (e_iisKeyByte r)) (fun _h => (cnd (F := fun r => some (e_iisKeyByte r)) (fun _h => rfl) (fun _h => (cnd (F := fun r => some (e_iisKeyByte r)) (fun _h => rfl) (fun _h => rfl))))) (fun _h => (cnd (F := fun r => some (e_iisKeyByte r)) (fun _h => rfl) (fun _h => rfl))))
theorem run_iisKeyByte : ∀ d, pre_iisKeyByte d = true → runP true Try.prog tt S19 QF19 (fun _ _ => none) Try.f177 (argsMk P_iisKeyByte d) = some (g_iisKeyByte d) := fun d hp => runA_iisKeyByte d.1
theorem c_iisKeyByte : PContract Try.prog 177 (sumOf P_iisKeyByte pre_iisKeyByte g_iisKeyByte) := PContract.of_data true G19 (fn := Try.f177) (by kernel_rfl) (L := fun _ _ => none) (by rw [show loopsIn 0 (bodyOf Try.f177) = [] by kernel_rfl]; simp) P_iisKeyByte pre_iisKeyByte g_iisKeyByte run_iisKeyByte
noncomputable def S20 : Tab := Tab.add S19 177 (lift (sumOf P_iisKeyByte pre_iisKeyByte g_iisKeyByte))
noncomputable def QF20 : FuncId → Bool := qadd QF19 177
theorem G20 : Good Try.prog tt S20 QF20 := G19.addQ c_iisKeyByte ⟨Try.f177, by kernel_rfl, by kernel_rfl, by kernel_rfl⟩ (fun _ => rfl)

/-! 164 loop.example/g00244/impl.isWord -/
noncomputable def iKeyAt (s : ByteArray) (i : Nat) : Bool := iisKeyByte (bt s (i : Int))
noncomputable abbrev P_iisWord : List PSh := [.t .str]
noncomputable abbrev S_iisWord_0 : SS := ⟨[.t true .str, .junk, .junk, .t true (.int .i64), .junk, .junk, .junk, .junk, .junk, .junk, .junk, .junk, .junk, .junk, .junk], []⟩
noncomputable abbrev E_iisWord_0_0 : SS := ⟨[.junk, .junk, .t true .bool, .junk, .junk, .junk, .junk, .junk, .junk, .junk, .junk, .junk, .junk, .junk, .junk], []⟩
noncomputable abbrev E_iisWord_0_1 : SS := ⟨[.junk, .junk, .junk, .junk, .junk, .junk, .junk, .junk, .junk, .junk, .junk, .junk, .junk, .junk, .junk], []⟩
noncomputable def st_iisWord_0 (x0 : ByteArray) (x3 : Int) : RT S_iisWord_0.den := (.br (decide (x3 < ((x0.size : Nat) : Int))) (.br (decide (0 ≤ x3 ∧ x3 < ((x0.size : Nat) : Int))) (.br (!(iisKeyByte (bt x0 x3))) (.done .ret E_iisWord_0_0 (((), (), false, (), (), (), (), (), (), (), (), (), (), (), (), ()), ())) (.next ((x0, (), (), IntKind.wrap .i64 (x3 + (1 : Int)), (), (), (), (), (), (), (), (), (), (), (), ()), ()))) .fail) (.done (.exit 0) E_iisWord_0_1 (((), (), (), (), (), (), (), (), (), (), (), (), (), (), (), ()), ())))
noncomputable def T_iisWord_0 (x0 : ByteArray) (x3 : Int) : CT := (.br (decide (0 ≤ x3) && okS x0) (.br (allF (iKeyAt x0) (x0.size - x3.toNat) x3.toNat) (.done (.exit 0) E_iisWord_0_1 (((), (), (), (), (), (), (), (), (), (), (), (), (), (), (), ()), ())) (.done .ret E_iisWord_0_0 (((), (), false, (), (), (), (), (), (), (), (), (), (), (), (), ()), ()))) .fail)
noncomputable abbrev sp_iisWord_0 : S_iisWord_0.den → RT S_iisWord_0.den := fun d => st_iisWord_0 d.1.1 d.1.2.2.2.1
noncomputable abbrev pk_iisWord_0 (x0 : ByteArray) (x3 : Int) : S_iisWord_0.den := ((x0, (), (), x3, (), (), (), (), (), (), (), (), (), (), (), ()), ())
noncomputable def body_iisWord_0 : Code := ((loopsIn 0 (bodyOf Try.f164)).getD 0 (0, .skip)).2
theorem R_iisWord_0 (x0 : ByteArray) (x3 : Int) : (T_iisWord_0 x0 x3).val (D := S_iisWord_0.den) = .fail ∨ Runs sp_iisWord_0 (pk_iisWord_0 x0 x3) (T_iisWord_0 x0 x3).val := by
  cases hc : (decide (0 ≤ x3) && okS x0) with
  | false => left; simp only [T_iisWord_0, CT.val, hc, cond_false]
  | true =>
    right
    simp only [T_iisWord_0, CT.val, hc, cond_true]
    simp only [Bool.and_eq_true, decide_eq_true_eq] at hc
    obtain ⟨i, rfl⟩ := Int.eq_ofNat_of_zero_le hc.1
    have hs := okS_le hc.2
    simp only [Int.toNat_natCast]
    refine Runs.scan (fun j => pk_iisWord_0 x0 (j : Int)) (x0.size) (iKeyAt x0) (fun i hi => ?_) (fun i hi => ?_) ⟨_, _, _, rfl, by simp⟩ ⟨_, _, _, rfl, by simp⟩ _ _ rfl
    · 
      have h0a : decide ((i : Int) < ((x0.size : Nat) : Int)) = true := decide_eq_true (by omega)
      have h0b : decide (0 ≤ (i : Int) ∧ (i : Int) < ((x0.size : Nat) : Int)) = true := decide_eq_true (by omega)
      simp only [sp_iisWord_0, st_iisWord_0, RT.val, h0a, h0b, cond_true, wrapS i (by omega), Int.toNat_natCast]
      simp only [iKeyAt]
      cases iisKeyByte (bt x0 (i : Int)) <;> rfl
    · have h1 : decide ((i : Int) < ((x0.size : Nat) : Int)) = false := decide_eq_false (by omega)
      simp only [sp_iisWord_0, st_iisWord_0, RT.val, h1, cond_false]
theorem rd_iisWord_0 : ∀ d, execC Try.prog tt S20 QF20 (fun _ _ => none) 0 body_iisWord_0 (S_iisWord_0.st d 0 []) (fun e s' => some (e, S_iisWord_0.cutE (kepts [2] [(0, [])]) e s')) = (sp_iisWord_0 d).opt 0 [] := by
  intro d
  kernel_rfl
noncomputable abbrev say_iisWord_0 : St → Option Tree := S_iisWord_0.say 0 [] [] (fun d => T_iisWord_0 d.1.1 d.1.2.2.2.1)
theorem lw_iisWord_0 : LoopWp Try.prog say_iisWord_0 body_iisWord_0 := SS.wp G20 (fun _ _ => none) (by rw [show loopsIn 0 body_iisWord_0 = [] by kernel_rfl]; simp) S_iisWord_0 0 [] (kepts [2] [(0, [])]) [] sp_iisWord_0 rd_iisWord_0 _ (fun d => R_iisWord_0 d.1.1 d.1.2.2.2.1)
noncomputable def iisWord (a0 : ByteArray) : Bool := (cond (allF (iKeyAt a0) (a0.size - (0 : Int).toNat) (0 : Int).toNat) true false)
noncomputable abbrev e_iisWord (r : Bool) : AV × List AObj := ((.t true .bool r), [])
noncomputable abbrev g_iisWord : pshsDen P_iisWord → AV × List AObj := fun d => e_iisWord (iisWord d.1)
noncomputable def q_iisWord (a0 : ByteArray) : Bool := okS a0
noncomputable abbrev pre_iisWord : pshsDen P_iisWord → Bool := fun d => q_iisWord d.1
theorem runA_iisWord (a0 : ByteArray) (hp : (okS a0) = true) : runP true Try.prog tt S20 QF20 (fun b => match b with | 0 => say_iisWord_0 | _ => fun _ => none) Try.f164 (argsMk P_iisWord (a0, ())) = some (g_iisWord (a0, ())) := by
  refine Eq.trans (b := (cond (decide (0 ≤ (0 : Int)) && okS a0) (cond (allF (iKeyAt a0) (a0.size - (0 : Int).toNat) (0 : Int).toNat) (some (e_iisWord true)) (some (e_iisWord false))) none)) (by kernel_rfl) ?_
  exact (cndT (by first | rfl | decide | exact hp | (simp only [Bool.and_eq_true] at hp; simp only [hp]; done) | (simp [*]; done) | (simp [okL] at hp; simp [okL, MAXB]; omega) | (simp_all; done) | (simp at *; omega)) (fun _h => (cnd (F := fun r => some (e_iisWord r)) (fun _h => rfl) (fun _h => rfl))))
theorem run_iisWord : ∀ d, pre_iisWord d = true → runP true Try.prog tt S20 QF20 (fun b => match b with | 0 => say_iisWord_0 | _ => fun _ => none) Try.f164 (argsMk P_iisWord d) = some (g_iisWord d) := fun d hp => runA_iisWord d.1 hp
theorem c_iisWord : PContract Try.prog 164 (sumOf P_iisWord pre_iisWord g_iisWord) := PContract.of_data true G20 (fn := Try.f164) (by kernel_rfl) (L := fun b => match b with | 0 => say_iisWord_0 | _ => fun _ => none) (by rw [show loopsIn 0 (bodyOf Try.f164) = [(0, body_iisWord_0)] by kernel_rfl]; intro p hp; simp only [List.mem_singleton] at hp; subst hp; exact lw_iisWord_0) P_iisWord pre_iisWord g_iisWord run_iisWord
noncomputable def S21 : Tab := Tab.add S20 164 (lift (sumOf P_iisWord pre_iisWord g_iisWord))
noncomputable def QF21 : FuncId → Bool := qadd QF20 164
theorem G21 : Good Try.prog tt S21 QF21 := G20.addQ c_iisWord ⟨Try.f164, by kernel_rfl, by kernel_rfl, by kernel_rfl⟩ (fun _ => rfl)

/-! 150 loop.example/g00244/impl.KeyOk -/
noncomputable abbrev P_iKeyOk : List PSh := [.t .str]
noncomputable def iKeyOk (a0 : ByteArray) : Bool := (cond (iinRange ((a0.size : Nat) : Int) (1 : Int) (12 : Int)) (iisWord a0) false)
noncomputable abbrev e_iKeyOk (r : Bool) : AV × List AObj := ((.t true .bool r), [])
noncomputable abbrev g_iKeyOk : pshsDen P_iKeyOk → AV × List AObj := fun d => e_iKeyOk (iKeyOk d.1)
noncomputable def q_iKeyOk (a0 : ByteArray) : Bool := okS a0
noncomputable abbrev pre_iKeyOk : pshsDen P_iKeyOk → Bool := fun d => q_iKeyOk d.1
theorem runA_iKeyOk (a0 : ByteArray) (hp : (okS a0) = true) : runP true Try.prog tt S21 QF21 (fun _ _ => none) Try.f150 (argsMk P_iKeyOk (a0, ())) = some (g_iKeyOk (a0, ())) := by
  refine Eq.trans (b := (cond (iinRange ((a0.size : Nat) : Int) (1 : Int) (12 : Int)) (cond (q_iisWord a0) (some (e_iKeyOk (iisWord a0))) none) (some (e_iKeyOk false)))) (by kernel_rfl) ?_
  exact (cnd (F := fun r => some (e_iKeyOk r)) (fun _h => (cndT (by first | rfl | decide | exact hp | (simp only [Bool.and_eq_true] at hp; simp only [hp]; done) | (simp [*]; done) | (simp [okL] at hp; simp [okL, MAXB]; omega) | (simp_all; done) | (simp at *; omega)) (fun _h => rfl))) (fun _h => rfl))
theorem run_iKeyOk : ∀ d, pre_iKeyOk d = true → runP true Try.prog tt S21 QF21 (fun _ _ => none) Try.f150 (argsMk P_iKeyOk d) = some (g_iKeyOk d) := fun d hp => runA_iKeyOk d.1 hp
theorem c_iKeyOk : PContract Try.prog 150 (sumOf P_iKeyOk pre_iKeyOk g_iKeyOk) := PContract.of_data true G21 (fn := Try.f150) (by kernel_rfl) (L := fun _ _ => none) (by rw [show loopsIn 0 (bodyOf Try.f150) = [] by kernel_rfl]; simp) P_iKeyOk pre_iKeyOk g_iKeyOk run_iKeyOk
noncomputable def S22 : Tab := Tab.add S21 150 (lift (sumOf P_iKeyOk pre_iKeyOk g_iKeyOk))
noncomputable def QF22 : FuncId → Bool := qadd QF21 150
theorem G22 : Good Try.prog tt S22 QF22 := G21.addQ c_iKeyOk ⟨Try.f150, by kernel_rfl, by kernel_rfl, by kernel_rfl⟩ (fun _ => rfl)

/-! 123 loop.example/g00244/impl.opOk -/
noncomputable abbrev P_iopOk : List PSh := [.agg [(.int .i64), .str, .str]]
noncomputable def iopOk (a0 : Int) (a1 : ByteArray) (a2 : ByteArray) : Bool := (cond (a0 == (1 : Int)) (cond (iKeyOk a1) (decide (((a2.size : Nat) : Int) ≤ (20 : Int))) false) (cond (a0 == (3 : Int)) (cond (iKeyOk a1) (decide (((a2.size : Nat) : Int) ≤ (20 : Int))) false) (cond (a0 == (2 : Int)) (cond (iKeyOk a1) (a2.toList == (⟨#[]⟩ : ByteArray).toList) false) false)))
noncomputable abbrev e_iopOk (r : Bool) : AV × List AObj := ((.t true .bool r), [])
noncomputable abbrev g_iopOk : pshsDen P_iopOk → AV × List AObj := fun d => e_iopOk (iopOk d.1.1 d.1.2.1 d.1.2.2.1)
noncomputable def q_iopOk (a0 : Int) (a1 : ByteArray) (a2 : ByteArray) : Bool := okS a1
noncomputable abbrev pre_iopOk : pshsDen P_iopOk → Bool := fun d => q_iopOk d.1.1 d.1.2.1 d.1.2.2.1
theorem runA_iopOk (a0 : Int) (a1 : ByteArray) (a2 : ByteArray) (hp : (okS a1) = true) : runP true Try.prog tt S22 QF22 (fun _ _ => none) Try.f123 (argsMk P_iopOk ((a0, (a1, (a2, ()))), ())) = some (g_iopOk ((a0, (a1, (a2, ()))), ())) := by
  refine Eq.trans (b := (cond (a0 == (1 : Int)) (cond (q_iKeyOk a1) (cond (iKeyOk a1) (some (e_iopOk (decide (((a2.size : Nat) : Int) ≤ (20 : Int))))) (some (e_iopOk false))) none) (cond (a0 == (3 : Int)) (cond (q_iKeyOk a1) (cond (iKeyOk a1) (some (e_iopOk (decide (((a2.size : Nat) : Int) ≤ (20 : Int))))) (some (e_iopOk false))) none) (cond (a0 == (2 : Int)) (cond (q_iKeyOk a1) (cond (iKeyOk a1) (some (e_iopOk (a2.toList == (⟨#[]⟩ : ByteArray).toList))) (some (e_iopOk false))) none) (some (e_iopOk false)))))) (by kernel_rfl) ?_
  exact (cnd (F := fun r => some (e_iopOk r)) (fun _h => (cndT (by first | rfl | decide | exact hp | (simp only [Bool.and_eq_true] at hp; simp only [hp]; done) | (simp [*]; done) | (simp [okL] at hp; simp [okL, MAXB]; omega) | (simp_all; done) | (simp at *; omega)) (fun _h => (cnd (F := fun r => some (e_iopOk r)) (fun _h => rfl) (fun _h => rfl))))) (fun _h => (cnd (F := fun r => some (e_iopOk r)) (fun _h => (cndT (by first | rfl | decide | exact hp | (simp only [Bool.and_eq_true] at hp; simp only [hp]; done) | (simp [*]; done) | (simp [okL] at hp; simp [okL, MAXB]; omega) | (simp_all; done) | (simp at *; omega)) (fun _h => (cnd (F := fun r => some (e_iopOk r)) (fun _h => rfl) (fun _h => rfl))))) (fun _h => (cnd (F := fun r => some (e_iopOk r)) (fun _h => (cndT (by first | rfl | decide | exact hp | (simp only [Bool.and_eq_true] at hp; simp only [hp]; done) | (simp [*]; done) | (simp [okL] at hp; simp [okL, MAXB]; omega) | (simp_all; done) | (simp at *; omega)) (fun _h => (cnd (F := fun r => some (e_iopOk r)) (fun _h => rfl) (fun _h => rfl))))) (fun _h => rfl))))))
theorem run_iopOk : ∀ d, pre_iopOk d = true → runP true Try.prog tt S22 QF22 (fun _ _ => none) Try.f123 (argsMk P_iopOk d) = some (g_iopOk d) := fun d hp => runA_iopOk d.1.1 d.1.2.1 d.1.2.2.1 hp
theorem c_iopOk : PContract Try.prog 123 (sumOf P_iopOk pre_iopOk g_iopOk) := PContract.of_data true G22 (fn := Try.f123) (by kernel_rfl) (L := fun _ _ => none) (by rw [show loopsIn 0 (bodyOf Try.f123) = [] by kernel_rfl]; simp) P_iopOk pre_iopOk g_iopOk run_iopOk
noncomputable def S23 : Tab := Tab.add S22 123 (lift (sumOf P_iopOk pre_iopOk g_iopOk))
noncomputable def QF23 : FuncId → Bool := qadd QF22 123
theorem G23 : Good Try.prog tt S23 QF23 := G22.addQ c_iopOk ⟨Try.f123, by kernel_rfl, by kernel_rfl, by kernel_rfl⟩ (fun _ => rfl)

/-! 60 loop.example/g00244/impl.OpsOk -/
noncomputable def iOpAt (l : List (Int × ByteArray × ByteArray)) (i : Nat) : Bool := iopOk (l.getD i dOp).1 (l.getD i dOp).2.1 (l.getD i dOp).2.2 && (decide (i = 0) || !(Op.bytesLess (l.getD i dOp).2.1.toList (l.getD (i - 1) dOp).2.1.toList || ((l.getD i dOp).2.1.toList == (l.getD (i - 1) dOp).2.1.toList)))
noncomputable abbrev P_iOpsOk : List PSh := [.t (.sl (.pair (.int .i64) (.pair .str .str)))]
noncomputable abbrev S_iOpsOk_0 : SS := ⟨[.t false (.sl (.pair (.int .i64) (.pair .str .str))), .junk, .junk, .junk, .junk, .t false (.sl (.pair (.int .i64) (.pair .str .str))), .t true (.int .i64), .t true (.int .i64), .junk, .junk, .junk, .junk, .junk, .junk, .junk, .junk, .junk, .junk, .junk, .junk, .junk, .junk, .junk, .junk, .junk, .junk, .junk, .junk, .junk, .junk, .junk, .junk, .junk, .junk], []⟩
noncomputable abbrev E_iOpsOk_0_0 : SS := ⟨[.junk, .junk, .t true .bool, .junk, .junk, .junk, .junk, .junk, .junk, .junk, .junk, .junk, .junk, .junk, .junk, .junk, .junk, .junk, .junk, .junk, .junk, .junk, .junk, .junk, .junk, .junk, .junk, .junk, .junk, .junk, .junk, .junk, .junk, .junk], []⟩
noncomputable abbrev E_iOpsOk_0_1 : SS := ⟨[.t false (.sl (.pair (.int .i64) (.pair .str .str))), .junk, .junk, .junk, .junk, .junk, .junk, .junk, .junk, .junk, .junk, .junk, .junk, .junk, .junk, .junk, .junk, .junk, .junk, .junk, .junk, .junk, .junk, .junk, .junk, .junk, .junk, .junk, .junk, .junk, .junk, .junk, .junk, .junk], []⟩
noncomputable def st_iOpsOk_0 (x0 : List (Int × ByteArray × ByteArray)) (x5 : List (Int × ByteArray × ByteArray)) (x6 : Int) (x7 : Int) : RT S_iOpsOk_0.den := (.br (decide (x7 < x6)) (.br (decide (0 ≤ x7 ∧ x7 < ((x5.length : Nat) : Int))) (.br (q_iopOk ((x5.getD x7.toNat ((0 : Int), ((⟨#[]⟩ : ByteArray), (⟨#[]⟩ : ByteArray)))).1) (((x5.getD x7.toNat ((0 : Int), ((⟨#[]⟩ : ByteArray), (⟨#[]⟩ : ByteArray)))).2).1) (((x5.getD x7.toNat ((0 : Int), ((⟨#[]⟩ : ByteArray), (⟨#[]⟩ : ByteArray)))).2).2)) (.br (!(iopOk ((x5.getD x7.toNat ((0 : Int), ((⟨#[]⟩ : ByteArray), (⟨#[]⟩ : ByteArray)))).1) (((x5.getD x7.toNat ((0 : Int), ((⟨#[]⟩ : ByteArray), (⟨#[]⟩ : ByteArray)))).2).1) (((x5.getD x7.toNat ((0 : Int), ((⟨#[]⟩ : ByteArray), (⟨#[]⟩ : ByteArray)))).2).2))) (.done .ret E_iOpsOk_0_0 (((), (), false, (), (), (), (), (), (), (), (), (), (), (), (), (), (), (), (), (), (), (), (), (), (), (), (), (), (), (), (), (), (), (), ()), ())) (.br (decide (x7 > (0 : Int))) (.br (decide (0 ≤ (IntKind.wrap .i64 (x7 - (1 : Int))) ∧ (IntKind.wrap .i64 (x7 - (1 : Int))) < ((x0.length : Nat) : Int))) (.br (Op.bytesLess (((x5.getD x7.toNat ((0 : Int), ((⟨#[]⟩ : ByteArray), (⟨#[]⟩ : ByteArray)))).2).1).toList (((x0.getD ((IntKind.wrap .i64 (x7 - (1 : Int))).toNat) ((0 : Int), ((⟨#[]⟩ : ByteArray), (⟨#[]⟩ : ByteArray)))).2).1).toList || ((((x5.getD x7.toNat ((0 : Int), ((⟨#[]⟩ : ByteArray), (⟨#[]⟩ : ByteArray)))).2).1).toList == (((x0.getD ((IntKind.wrap .i64 (x7 - (1 : Int))).toNat) ((0 : Int), ((⟨#[]⟩ : ByteArray), (⟨#[]⟩ : ByteArray)))).2).1).toList)) (.done .ret E_iOpsOk_0_0 (((), (), false, (), (), (), (), (), (), (), (), (), (), (), (), (), (), (), (), (), (), (), (), (), (), (), (), (), (), (), (), (), (), (), ()), ())) (.next ((x0, (), (), (), (), x5, x6, IntKind.wrap .i64 (x7 + (1 : Int)), (), (), (), (), (), (), (), (), (), (), (), (), (), (), (), (), (), (), (), (), (), (), (), (), (), (), ()), ()))) .fail) (.next ((x0, (), (), (), (), x5, x6, IntKind.wrap .i64 (x7 + (1 : Int)), (), (), (), (), (), (), (), (), (), (), (), (), (), (), (), (), (), (), (), (), (), (), (), (), (), (), ()), ())))) .fail) .fail) (.done (.exit 0) E_iOpsOk_0_1 ((x0, (), (), (), (), (), (), (), (), (), (), (), (), (), (), (), (), (), (), (), (), (), (), (), (), (), (), (), (), (), (), (), (), (), ()), ())))
noncomputable def T_iOpsOk_0 (x0 : List (Int × ByteArray × ByteArray)) (x5 : List (Int × ByteArray × ByteArray)) (x6 : Int) (x7 : Int) : CT := (.br (decide (0 ≤ x7) && (decide (x6 = ((x5.length : Nat) : Int)) && (decide (x5 = x0) && okOps x5))) (.br (allF (iOpAt x5) (x5.length - x7.toNat) x7.toNat) (.done (.exit 0) E_iOpsOk_0_1 ((x0, (), (), (), (), (), (), (), (), (), (), (), (), (), (), (), (), (), (), (), (), (), (), (), (), (), (), (), (), (), (), (), (), (), ()), ())) (.done .ret E_iOpsOk_0_0 (((), (), false, (), (), (), (), (), (), (), (), (), (), (), (), (), (), (), (), (), (), (), (), (), (), (), (), (), (), (), (), (), (), (), ()), ()))) .fail)
noncomputable abbrev sp_iOpsOk_0 : S_iOpsOk_0.den → RT S_iOpsOk_0.den := fun d => st_iOpsOk_0 d.1.1 d.1.2.2.2.2.2.1 d.1.2.2.2.2.2.2.1 d.1.2.2.2.2.2.2.2.1
noncomputable abbrev pk_iOpsOk_0 (x0 : List (Int × ByteArray × ByteArray)) (x5 : List (Int × ByteArray × ByteArray)) (x6 : Int) (x7 : Int) : S_iOpsOk_0.den := ((x0, (), (), (), (), x5, x6, x7, (), (), (), (), (), (), (), (), (), (), (), (), (), (), (), (), (), (), (), (), (), (), (), (), (), (), ()), ())
noncomputable def body_iOpsOk_0 : Code := ((loopsIn 0 (bodyOf Try.f60)).getD 0 (0, .skip)).2
theorem R_iOpsOk_0 (x0 : List (Int × ByteArray × ByteArray)) (x5 : List (Int × ByteArray × ByteArray)) (x6 : Int) (x7 : Int) : (T_iOpsOk_0 x0 x5 x6 x7).val (D := S_iOpsOk_0.den) = .fail ∨ Runs sp_iOpsOk_0 (pk_iOpsOk_0 x0 x5 x6 x7) (T_iOpsOk_0 x0 x5 x6 x7).val := by
  cases hc : (decide (0 ≤ x7) && (decide (x6 = ((x5.length : Nat) : Int)) && (decide (x5 = x0) && okOps x5))) with
  | false => left; simp only [T_iOpsOk_0, CT.val, hc, cond_false]
  | true =>
    right
    simp only [T_iOpsOk_0, CT.val, hc, cond_true]
    simp only [Bool.and_eq_true, decide_eq_true_eq] at hc
    obtain ⟨i, rfl⟩ := Int.eq_ofNat_of_zero_le hc.1
    obtain ⟨_, e6, e5, hc⟩ := hc
    subst e5; subst e6
    have hs := okOps_len hc
    simp only [Int.toNat_natCast]
    refine Runs.scan (fun j => pk_iOpsOk_0 x5 x5 ((x5.length : Nat) : Int) (j : Int)) (x5.length) (iOpAt x5) (fun i hi => ?_) (fun i hi => ?_) ⟨_, _, _, rfl, by simp⟩ ⟨_, _, _, rfl, by simp⟩ _ _ rfl
    · 
      have h0a : decide ((i : Int) < ((x5.length : Nat) : Int)) = true := decide_eq_true (by omega)
      have h0b : decide (0 ≤ (i : Int) ∧ (i : Int) < ((x5.length : Nat) : Int)) = true := decide_eq_true (by omega)
      simp only [sp_iOpsOk_0, st_iOpsOk_0, RT.val, h0a, h0b, cond_true, wrapS i (by omega), Int.toNat_natCast]
      have hq : q_iopOk (x5.getD i dOp).1 (x5.getD i dOp).2.1 (x5.getD i dOp).2.2 = true := (okOps_at hc i hi).1
      simp only [dOp] at hq
      simp only [hq, cond_true, iOpAt, dOp]
      cases iopOk (x5.getD i ((0 : Int), ((⟨#[]⟩ : ByteArray), (⟨#[]⟩ : ByteArray)))).1 (x5.getD i ((0 : Int), ((⟨#[]⟩ : ByteArray), (⟨#[]⟩ : ByteArray)))).2.1 (x5.getD i ((0 : Int), ((⟨#[]⟩ : ByteArray), (⟨#[]⟩ : ByteArray)))).2.2 with
      | false => rfl
      | true =>
        cases i with
        | zero => rfl
        | succ i =>
          have h3 : decide (((i + 1 : Nat) : Int) > 0) = true := decide_eq_true (by omega)
          have h4 : IntKind.wrap .i64 (((i + 1 : Nat) : Int) - 1) = (i : Int) := by have := wrap64 (n := ((i + 1 : Nat) : Int) - 1) (by omega) (by omega); omega
          have h5 : decide (0 ≤ (i : Int) ∧ (i : Int) < ((x5.length : Nat) : Int)) = true := decide_eq_true (by omega)
          have h6 : decide (i + 1 = 0) = false := by simp
          simp only [h3, h4, h5, h6, cond_true, Bool.true_and, Bool.false_or, Int.toNat_natCast, Nat.add_sub_cancel, Bool.not_true, cond_false]
          cases (Op.bytesLess (x5.getD (i + 1) ((0 : Int), ((⟨#[]⟩ : ByteArray), (⟨#[]⟩ : ByteArray)))).2.1.toList (x5.getD i ((0 : Int), ((⟨#[]⟩ : ByteArray), (⟨#[]⟩ : ByteArray)))).2.1.toList || ((x5.getD (i + 1) ((0 : Int), ((⟨#[]⟩ : ByteArray), (⟨#[]⟩ : ByteArray)))).2.1.toList == (x5.getD i ((0 : Int), ((⟨#[]⟩ : ByteArray), (⟨#[]⟩ : ByteArray)))).2.1.toList)) <;> rfl
    · have h1 : decide ((i : Int) < ((x5.length : Nat) : Int)) = false := decide_eq_false (by omega)
      simp only [sp_iOpsOk_0, st_iOpsOk_0, RT.val, h1, cond_false]
theorem rd_iOpsOk_0 : ∀ d, execC Try.prog tt S23 QF23 (fun _ _ => none) 0 body_iOpsOk_0 (S_iOpsOk_0.st d 0 []) (fun e s' => some (e, S_iOpsOk_0.cutE (kepts [2] [(0, [0])]) e s')) = (sp_iOpsOk_0 d).opt 0 [] := by
  intro d
  kernel_rfl
noncomputable abbrev say_iOpsOk_0 : St → Option Tree := S_iOpsOk_0.say 0 [] [] (fun d => T_iOpsOk_0 d.1.1 d.1.2.2.2.2.2.1 d.1.2.2.2.2.2.2.1 d.1.2.2.2.2.2.2.2.1)
theorem lw_iOpsOk_0 : LoopWp Try.prog say_iOpsOk_0 body_iOpsOk_0 := SS.wp G23 (fun _ _ => none) (by rw [show loopsIn 0 body_iOpsOk_0 = [] by kernel_rfl]; simp) S_iOpsOk_0 0 [] (kepts [2] [(0, [0])]) [] sp_iOpsOk_0 rd_iOpsOk_0 _ (fun d => R_iOpsOk_0 d.1.1 d.1.2.2.2.2.2.1 d.1.2.2.2.2.2.2.1 d.1.2.2.2.2.2.2.2.1)
noncomputable def iOpsOk (a0 : List (Int × ByteArray × ByteArray)) : Bool := (cond (allF (iOpAt a0) (a0.length - (0 : Int).toNat) (0 : Int).toNat) (iinRange ((a0.length : Nat) : Int) (1 : Int) (8 : Int)) false)
noncomputable abbrev e_iOpsOk (r : Bool) : AV × List AObj := ((.t true .bool r), [])
noncomputable abbrev g_iOpsOk : pshsDen P_iOpsOk → AV × List AObj := fun d => e_iOpsOk (iOpsOk d.1)
noncomputable def q_iOpsOk (a0 : List (Int × ByteArray × ByteArray)) : Bool := okOps a0
noncomputable abbrev pre_iOpsOk : pshsDen P_iOpsOk → Bool := fun d => q_iOpsOk d.1
theorem runA_iOpsOk (a0 : List (Int × ByteArray × ByteArray)) (hp : (okOps a0) = true) : runP true Try.prog tt S23 QF23 (fun b => match b with | 0 => say_iOpsOk_0 | _ => fun _ => none) Try.f60 (argsMk P_iOpsOk (a0, ())) = some (g_iOpsOk (a0, ())) := by
  refine Eq.trans (b := (cond (decide (0 ≤ (0 : Int)) && (decide (((a0.length : Nat) : Int) = ((a0.length : Nat) : Int)) && (decide (a0 = a0) && okOps a0))) (cond (allF (iOpAt a0) (a0.length - (0 : Int).toNat) (0 : Int).toNat) (some (e_iOpsOk (iinRange ((a0.length : Nat) : Int) (1 : Int) (8 : Int)))) (some (e_iOpsOk false))) none)) (by kernel_rfl) ?_
  exact (cndT (by first | rfl | decide | exact hp | (simp only [Bool.and_eq_true] at hp; simp only [hp]; done) | (simp [*]; done) | (simp [okL] at hp; simp [okL, MAXB]; omega) | (simp_all; done) | (simp at *; omega)) (fun _h => (cnd (F := fun r => some (e_iOpsOk r)) (fun _h => rfl) (fun _h => rfl))))
theorem run_iOpsOk : ∀ d, pre_iOpsOk d = true → runP true Try.prog tt S23 QF23 (fun b => match b with | 0 => say_iOpsOk_0 | _ => fun _ => none) Try.f60 (argsMk P_iOpsOk d) = some (g_iOpsOk d) := fun d hp => runA_iOpsOk d.1 hp
theorem c_iOpsOk : PContract Try.prog 60 (sumOf P_iOpsOk pre_iOpsOk g_iOpsOk) := PContract.of_data true G23 (fn := Try.f60) (by kernel_rfl) (L := fun b => match b with | 0 => say_iOpsOk_0 | _ => fun _ => none) (by rw [show loopsIn 0 (bodyOf Try.f60) = [(0, body_iOpsOk_0)] by kernel_rfl]; intro p hp; simp only [List.mem_singleton] at hp; subst hp; exact lw_iOpsOk_0) P_iOpsOk pre_iOpsOk g_iOpsOk run_iOpsOk
noncomputable def S24 : Tab := Tab.add S23 60 (lift (sumOf P_iOpsOk pre_iOpsOk g_iOpsOk))
noncomputable def QF24 : FuncId → Bool := qadd QF23 60
theorem G24 : Good Try.prog tt S24 QF24 := G23.addQ c_iOpsOk ⟨Try.f60, by kernel_rfl, by kernel_rfl, by kernel_rfl⟩ (fun _ => rfl)

/-! 23 loop.example/g00244/impl.WordOk -/
noncomputable abbrev P_iWordOk : List PSh := [.agg [(.int .i64), (.int .i64), (.int .i64), (.sl (.pair (.int .i64) (.pair .str .str))), .bool]]
noncomputable def iWordOk (a0 : Int) (a1 : Int) (a2 : Int) (a3 : List (Int × ByteArray × ByteArray)) (a4 : Bool) : Bool := (cond (!(iisId a1)) false (cond (!(iisTx a2)) false (cond (a0 == (1 : Int)) (cond (iOpsOk a3) (!a4) false) (cond (a0 == (2 : Int)) (((a3.length : Nat) : Int) == (0 : Int)) (cond (a0 == (3 : Int)) (((a3.length : Nat) : Int) == (0 : Int)) (cond (a0 == (4 : Int)) (cond (((a3.length : Nat) : Int) == (0 : Int)) (!a4) false) false))))))
noncomputable abbrev e_iWordOk (r : Bool) : AV × List AObj := ((.t true .bool r), [])
noncomputable abbrev g_iWordOk : pshsDen P_iWordOk → AV × List AObj := fun d => e_iWordOk (iWordOk d.1.1 d.1.2.1 d.1.2.2.1 d.1.2.2.2.1 d.1.2.2.2.2.1)
noncomputable def q_iWordOk (a0 : Int) (a1 : Int) (a2 : Int) (a3 : List (Int × ByteArray × ByteArray)) (a4 : Bool) : Bool := okOps a3
noncomputable abbrev pre_iWordOk : pshsDen P_iWordOk → Bool := fun d => q_iWordOk d.1.1 d.1.2.1 d.1.2.2.1 d.1.2.2.2.1 d.1.2.2.2.2.1
theorem runA_iWordOk (a0 : Int) (a1 : Int) (a2 : Int) (a3 : List (Int × ByteArray × ByteArray)) (a4 : Bool) (hp : (okOps a3) = true) : runP true Try.prog tt S24 QF24 (fun _ _ => none) Try.f23 (argsMk P_iWordOk ((a0, (a1, (a2, (a3, (a4, ()))))), ())) = some (g_iWordOk ((a0, (a1, (a2, (a3, (a4, ()))))), ())) := by
  refine Eq.trans (b := (cond (!(iisId a1)) (some (e_iWordOk false)) (cond (!(iisTx a2)) (some (e_iWordOk false)) (cond (a0 == (1 : Int)) (cond (q_iOpsOk a3) (cond (iOpsOk a3) (some (e_iWordOk (!a4))) (some (e_iWordOk false))) none) (cond (a0 == (2 : Int)) (some (e_iWordOk (((a3.length : Nat) : Int) == (0 : Int)))) (cond (a0 == (3 : Int)) (some (e_iWordOk (((a3.length : Nat) : Int) == (0 : Int)))) (cond (a0 == (4 : Int)) (cond (((a3.length : Nat) : Int) == (0 : Int)) (some (e_iWordOk (!a4))) (some (e_iWordOk false))) (some (e_iWordOk false))))))))) (by kernel_rfl) ?_
  exact (cnd (F := fun r => some (e_iWordOk r)) (fun _h => rfl) (fun _h => (cnd (F := fun r => some (e_iWordOk r)) (fun _h => rfl) (fun _h => (cnd (F := fun r => some (e_iWordOk r)) (fun _h => (cndT (by first | rfl | decide | exact hp | (simp only [Bool.and_eq_true] at hp; simp only [hp]; done) | (simp [*]; done) | (simp [okL] at hp; simp [okL, MAXB]; omega) | (simp_all; done) | (simp at *; omega)) (fun _h => (cnd (F := fun r => some (e_iWordOk r)) (fun _h => rfl) (fun _h => rfl))))) (fun _h => (cnd (F := fun r => some (e_iWordOk r)) (fun _h => rfl) (fun _h => (cnd (F := fun r => some (e_iWordOk r)) (fun _h => rfl) (fun _h => (cnd (F := fun r => some (e_iWordOk r)) (fun _h => (cnd (F := fun r => some (e_iWordOk r)) (fun _h => rfl) (fun _h => rfl))) (fun _h => rfl))))))))))))
theorem run_iWordOk : ∀ d, pre_iWordOk d = true → runP true Try.prog tt S24 QF24 (fun _ _ => none) Try.f23 (argsMk P_iWordOk d) = some (g_iWordOk d) := fun d hp => runA_iWordOk d.1.1 d.1.2.1 d.1.2.2.1 d.1.2.2.2.1 d.1.2.2.2.2.1 hp
theorem c_iWordOk : PContract Try.prog 23 (sumOf P_iWordOk pre_iWordOk g_iWordOk) := PContract.of_data true G24 (fn := Try.f23) (by kernel_rfl) (L := fun _ _ => none) (by rw [show loopsIn 0 (bodyOf Try.f23) = [] by kernel_rfl]; simp) P_iWordOk pre_iWordOk g_iWordOk run_iWordOk
noncomputable def S25 : Tab := Tab.add S24 23 (lift (sumOf P_iWordOk pre_iWordOk g_iWordOk))
noncomputable def QF25 : FuncId → Bool := qadd QF24 23
theorem G25 : Good Try.prog tt S25 QF25 := G24.addQ c_iWordOk ⟨Try.f23, by kernel_rfl, by kernel_rfl, by kernel_rfl⟩ (fun _ => rfl)

/-! 99 loop.example/g00244/impl.putNum -/
noncomputable abbrev SM_iputNum_nil : SS := ⟨[.nil, .t true (.int .i64)], []⟩
noncomputable abbrev S_iputNum_nil_0 : SS := ⟨[.all 0 1, .t true (.int .i64), .junk, .junk, .junk, .junk, .junk, .junk, .junk, .junk, .junk, .junk, .junk, .junk, .junk, .junk, .junk, .junk, .junk, .junk, .junk, .junk, .junk, .junk], [.rows 5 true (.int .u8)]⟩
noncomputable abbrev E_iputNum_nil_0_0 : SS := ⟨[.all 0 1, .t true (.int .i64), .junk, .junk, .junk, .junk, .junk, .junk, .junk, .junk, .junk, .junk, .junk, .junk, .junk, .junk, .junk, .junk, .junk, .junk, .junk, .junk, .junk, .junk], [.rows 5 true (.int .u8)]⟩
noncomputable def st_iputNum_nil_0 (x1 : Int) (h0 : List Int) : RT S_iputNum_nil_0.den := (.br (decide (x1 > (127 : Int))) (.br (decide ((h0.length + [IntKind.wrap .u8 (ior .i64 (128 : Int) (iand .i64 x1 (127 : Int)))].length) * 1 ≤ MAXB)) (.next (((), Int.fdiv x1 (2 ^ (7)), (), (), (), (), (), (), (), (), (), (), (), (), (), (), (), (), (), (), (), (), (), (), ()), (h0 ++ [IntKind.wrap .u8 (ior .i64 (128 : Int) (iand .i64 x1 (127 : Int)))], ()))) .fail) (.done (.exit 0) E_iputNum_nil_0_0 (((), x1, (), (), (), (), (), (), (), (), (), (), (), (), (), (), (), (), (), (), (), (), (), (), ()), (h0, ()))))
noncomputable def T_iputNum_nil_0 (x1 : Int) (h0 : List Int) : CT := (.br (decide (0 ≤ x1 ∧ x1 ≤ 1000000000) && decide (h0.length ≤ 35184372088832)) (.done (.exit 0) E_iputNum_nil_0_0 (((), ((nX x1).2), (), (), (), (), (), (), (), (), (), (), (), (), (), (), (), (), (), (), (), (), (), (), ()), ((h0 ++ (nX x1).1), ()))) .fail)
noncomputable abbrev sp_iputNum_nil_0 : S_iputNum_nil_0.den → RT S_iputNum_nil_0.den := fun d => st_iputNum_nil_0 d.1.2.1 d.2.1
noncomputable abbrev pk_iputNum_nil_0 (x1 : Int) (h0 : List Int) : S_iputNum_nil_0.den := (((), x1, (), (), (), (), (), (), (), (), (), (), (), (), (), (), (), (), (), (), (), (), (), (), ()), (h0, ()))
noncomputable def body_iputNum_nil_0 : Code := ((loopsIn 0 (bodyOf Try.f99)).getD 0 (0, .skip)).2
theorem R_iputNum_nil_0 (x1 : Int) (h0 : List Int) : (T_iputNum_nil_0 x1 h0).val (D := S_iputNum_nil_0.den) = .fail ∨ Runs sp_iputNum_nil_0 (pk_iputNum_nil_0 x1 h0) (T_iputNum_nil_0 x1 h0).val := by
  cases hc : (decide (0 ≤ x1 ∧ x1 ≤ 1000000000) && decide (h0.length ≤ 35184372088832)) with
  | false => left; simp only [T_iputNum_nil_0, CT.val, hc, cond_false]
  | true =>
    right
    simp only [T_iputNum_nil_0, CT.val, hc, cond_true]
    simp only [Bool.and_eq_true, decide_eq_true_eq] at hc
    rw [nX_eq']
    have key : ∀ (k : Nat) (x1 : Int) (h0 : List Int), 0 ≤ x1 → x1 < 128 ^ (k + 1) → h0.length + k ≤ 70368744177664 → Runs sp_iputNum_nil_0 (pk_iputNum_nil_0 x1 h0) (((.done (.exit 0) E_iputNum_nil_0_0 (((), ((hiF gNum' k x1).2), (), (), (), (), (), (), (), (), (), (), (), (), (), (), (), (), (), (), (), (), (), (), ()), ((h0 ++ (hiF gNum' k x1).1), ()))) : CT).val (D := S_iputNum_nil_0.den)) := by
      intro k
      induction k with
      | zero =>
        intro x h h1 h2 h3
        have e1 : decide (x > 127) = false := decide_eq_false (by simp at h2; omega)
        refine .done (by simp) ?_
        simp only [sp_iputNum_nil_0, st_iputNum_nil_0, RT.val, e1, cond_false, hiF, List.append_nil]
      | succ k ih =>
        intro x h h1 h2 h3
        rw [Int.pow_succ] at h2
        by_cases hx : x > 127
        · have e1 : decide (x > 127) = true := decide_eq_true hx
          have e2 : decide ((h.length + [gNum' x].length) * 1 ≤ MAXB) = true := decide_eq_true (by simp [MAXB]; omega)
          simp only [gNum'] at e2
          have := ih (Int.fdiv x (2 ^ 7)) (h ++ [gNum' x]) (by rw [fdiv128]; omega) (by rw [fdiv128]; omega) (by simp; omega)
          refine .next (d' := pk_iputNum_nil_0 (Int.fdiv x (2 ^ 7)) (h ++ [gNum' x])) ?_ ?_
          · simp only [sp_iputNum_nil_0, st_iputNum_nil_0, RT.val, e1, e2, cond_true]; rfl
          · have e3 : hiF gNum' (k + 1) x = (gNum' x :: (hiF gNum' k (Int.fdiv x (2 ^ 7))).1, (hiF gNum' k (Int.fdiv x (2 ^ 7))).2) := by simp only [hiF, e1, cond_true]
            rw [e3]
            simpa [List.append_assoc] using this
        · have e1 : decide (x > 127) = false := decide_eq_false hx
          refine .done (by simp) ?_
          simp only [sp_iputNum_nil_0, st_iputNum_nil_0, RT.val, e1, cond_false, hiF, List.append_nil]
    exact key 4 x1 h0 hc.1.1 (by have := hc.1.2; simp; omega) (by have := hc.2; omega)
theorem rd_iputNum_nil_0 : ∀ d, execC Try.prog tt S25 QF25 (fun _ _ => none) 0 body_iputNum_nil_0 (S_iputNum_nil_0.st d 0 []) (fun e s' => some (e, S_iputNum_nil_0.cutE (kepts [] [(0, [0, 1])]) e s')) = (sp_iputNum_nil_0 d).opt 0 [] := by
  intro d
  kernel_rfl
noncomputable abbrev say_iputNum_nil_0 : St → Option Tree := S_iputNum_nil_0.say 0 [] [(0, 5, (.int .u8))] (fun d => T_iputNum_nil_0 d.1.2.1 d.2.1)
theorem lw_iputNum_nil_0 : LoopWp Try.prog say_iputNum_nil_0 body_iputNum_nil_0 := SS.wp G25 (fun _ _ => none) (by rw [show loopsIn 0 body_iputNum_nil_0 = [] by kernel_rfl]; simp) S_iputNum_nil_0 0 [] (kepts [] [(0, [0, 1])]) [(0, 5, (.int .u8))] sp_iputNum_nil_0 rd_iputNum_nil_0 _ (fun d => R_iputNum_nil_0 d.1.2.1 d.2.1)
noncomputable def iputNum_nil (x1 : Int) : List Int := ((([] : List Int) ++ (nX (if (if (1000000000 : Int) < x1 then (1000000000 : Int) else x1) > (0 : Int) then (if (1000000000 : Int) < x1 then (1000000000 : Int) else x1) else (0 : Int))).1) ++ [IntKind.wrap .u8 ((nX (if (if (1000000000 : Int) < x1 then (1000000000 : Int) else x1) > (0 : Int) then (if (1000000000 : Int) < x1 then (1000000000 : Int) else x1) else (0 : Int))).2)])
noncomputable abbrev e_iputNum_nil (r : List Int) : AV × List AObj × List Nat := ((.all 0 1), [(.rows 5 true (.int .u8) r)], [])
noncomputable abbrev g_iputNum_nil : SM_iputNum_nil.den → AV × List AObj × List Nat := fun d => e_iputNum_nil (iputNum_nil d.1.2.1)
noncomputable abbrev pre_iputNum_nil : SM_iputNum_nil.den → Bool := fun d => true
theorem runA_iputNum_nil (x1 : Int) : runM Try.prog tt S25 QF25 (fun b => match b with | 0 => say_iputNum_nil_0 | _ => fun _ => none) Try.f99 (shsMk SM_iputNum_nil.sl ((((), x1, ()), ()) : SM_iputNum_nil.den).1) (ohsMk SM_iputNum_nil.hp ((((), x1, ()), ()) : SM_iputNum_nil.den).2) = some (g_iputNum_nil (((), x1, ()), ())) := by
  refine Eq.trans (b := (cond (decide (0 ≤ (if (if (1000000000 : Int) < x1 then (1000000000 : Int) else x1) > (0 : Int) then (if (1000000000 : Int) < x1 then (1000000000 : Int) else x1) else (0 : Int)) ∧ (if (if (1000000000 : Int) < x1 then (1000000000 : Int) else x1) > (0 : Int) then (if (1000000000 : Int) < x1 then (1000000000 : Int) else x1) else (0 : Int)) ≤ 1000000000) && decide (([] : List Int).length ≤ 35184372088832)) (cond (decide (((([] : List Int) ++ (nX (if (if (1000000000 : Int) < x1 then (1000000000 : Int) else x1) > (0 : Int) then (if (1000000000 : Int) < x1 then (1000000000 : Int) else x1) else (0 : Int))).1).length + [IntKind.wrap .u8 ((nX (if (if (1000000000 : Int) < x1 then (1000000000 : Int) else x1) > (0 : Int) then (if (1000000000 : Int) < x1 then (1000000000 : Int) else x1) else (0 : Int))).2)].length) * 1 ≤ MAXB)) (some (e_iputNum_nil ((([] : List Int) ++ (nX (if (if (1000000000 : Int) < x1 then (1000000000 : Int) else x1) > (0 : Int) then (if (1000000000 : Int) < x1 then (1000000000 : Int) else x1) else (0 : Int))).1) ++ [IntKind.wrap .u8 ((nX (if (if (1000000000 : Int) < x1 then (1000000000 : Int) else x1) > (0 : Int) then (if (1000000000 : Int) < x1 then (1000000000 : Int) else x1) else (0 : Int))).2)]))) none) none)) (by kernel_rfl) ?_
  exact (cndT (by have h1 := nX_len (clampI x1); have h2 := clampI_range x1; simp only [clampI] at h1 h2; simp only [decide_eq_true_eq, Bool.and_eq_true] at *; (try simp only [MAXB, List.length_append, List.length_cons, List.length_nil]) <;> omega) (fun _h => (cndT (by have h1 := nX_len (clampI x1); have h2 := clampI_range x1; simp only [clampI] at h1 h2; simp only [decide_eq_true_eq, Bool.and_eq_true] at *; (try simp only [MAXB, List.length_append, List.length_cons, List.length_nil]) <;> omega) (fun _h => rfl))))
theorem run_iputNum_nil : ∀ d : SM_iputNum_nil.den, pre_iputNum_nil d = true → runM Try.prog tt S25 QF25 (fun b => match b with | 0 => say_iputNum_nil_0 | _ => fun _ => none) Try.f99 (shsMk SM_iputNum_nil.sl (d : SM_iputNum_nil.den).1) (ohsMk SM_iputNum_nil.hp (d : SM_iputNum_nil.den).2) = some (g_iputNum_nil d) := fun d hp => runA_iputNum_nil d.1.2.1
theorem c_iputNum_nil : MContract Try.prog 99 (win winIds (msum SM_iputNum_nil pre_iputNum_nil g_iputNum_nil)) := (MContract.of_data G25 (fn := Try.f99) (by kernel_rfl) (L := fun b => match b with | 0 => say_iputNum_nil_0 | _ => fun _ => none) (by rw [show loopsIn 0 (bodyOf Try.f99) = [(0, body_iputNum_nil_0)] by kernel_rfl]; intro p hp; simp only [List.mem_singleton] at hp; subst hp; exact lw_iputNum_nil_0) SM_iputNum_nil pre_iputNum_nil g_iputNum_nil run_iputNum_nil).win winIds
noncomputable def S26 : Tab := Tab.add S25 99 (win winIds (msum SM_iputNum_nil pre_iputNum_nil g_iputNum_nil))
noncomputable def QF26 : FuncId → Bool := QF25
theorem G26 : Good Try.prog tt S26 QF26 := G25.addM c_iputNum_nil (win_local _) ⟨Try.f99, by kernel_rfl, by kernel_rfl, by kernel_rfl⟩ (by kernel_rfl)
theorem iputNum_nil_eq (n : Int) : iputNum_nil n = numB (clampN n) := by
  rw [← clampI_eq]
  rfl
theorem iputNum_nil_len (n : Int) : (iputNum_nil n).length ≤ 5 := by rw [iputNum_nil_eq]; exact numB_len _

/-! 99 loop.example/g00244/impl.putNum -/
noncomputable abbrev SM_iputNum : SS := ⟨[.all 0 1, .t true (.int .i64)], [.rows 5 true (.int .u8)]⟩
noncomputable abbrev S_iputNum_0 : SS := ⟨[.all 0 1, .t true (.int .i64), .junk, .junk, .junk, .junk, .junk, .junk, .junk, .junk, .junk, .junk, .junk, .junk, .junk, .junk, .junk, .junk, .junk, .junk, .junk, .junk, .junk, .junk], [.rows 5 true (.int .u8)]⟩
noncomputable abbrev E_iputNum_0_0 : SS := ⟨[.all 0 1, .t true (.int .i64), .junk, .junk, .junk, .junk, .junk, .junk, .junk, .junk, .junk, .junk, .junk, .junk, .junk, .junk, .junk, .junk, .junk, .junk, .junk, .junk, .junk, .junk], [.rows 5 true (.int .u8)]⟩
noncomputable def st_iputNum_0 (x1 : Int) (h0 : List Int) : RT S_iputNum_0.den := (.br (decide (x1 > (127 : Int))) (.br (decide ((h0.length + [IntKind.wrap .u8 (ior .i64 (128 : Int) (iand .i64 x1 (127 : Int)))].length) * 1 ≤ MAXB)) (.next (((), Int.fdiv x1 (2 ^ (7)), (), (), (), (), (), (), (), (), (), (), (), (), (), (), (), (), (), (), (), (), (), (), ()), (h0 ++ [IntKind.wrap .u8 (ior .i64 (128 : Int) (iand .i64 x1 (127 : Int)))], ()))) .fail) (.done (.exit 0) E_iputNum_0_0 (((), x1, (), (), (), (), (), (), (), (), (), (), (), (), (), (), (), (), (), (), (), (), (), (), ()), (h0, ()))))
noncomputable def T_iputNum_0 (x1 : Int) (h0 : List Int) : CT := (.br (decide (0 ≤ x1 ∧ x1 ≤ 1000000000) && decide (h0.length ≤ 35184372088832)) (.done (.exit 0) E_iputNum_0_0 (((), ((nX x1).2), (), (), (), (), (), (), (), (), (), (), (), (), (), (), (), (), (), (), (), (), (), (), ()), ((h0 ++ (nX x1).1), ()))) .fail)
noncomputable abbrev sp_iputNum_0 : S_iputNum_0.den → RT S_iputNum_0.den := fun d => st_iputNum_0 d.1.2.1 d.2.1
noncomputable abbrev pk_iputNum_0 (x1 : Int) (h0 : List Int) : S_iputNum_0.den := (((), x1, (), (), (), (), (), (), (), (), (), (), (), (), (), (), (), (), (), (), (), (), (), (), ()), (h0, ()))
noncomputable def body_iputNum_0 : Code := ((loopsIn 0 (bodyOf Try.f99)).getD 0 (0, .skip)).2
theorem R_iputNum_0 (x1 : Int) (h0 : List Int) : (T_iputNum_0 x1 h0).val (D := S_iputNum_0.den) = .fail ∨ Runs sp_iputNum_0 (pk_iputNum_0 x1 h0) (T_iputNum_0 x1 h0).val := by
  cases hc : (decide (0 ≤ x1 ∧ x1 ≤ 1000000000) && decide (h0.length ≤ 35184372088832)) with
  | false => left; simp only [T_iputNum_0, CT.val, hc, cond_false]
  | true =>
    right
    simp only [T_iputNum_0, CT.val, hc, cond_true]
    simp only [Bool.and_eq_true, decide_eq_true_eq] at hc
    rw [nX_eq']
    have key : ∀ (k : Nat) (x1 : Int) (h0 : List Int), 0 ≤ x1 → x1 < 128 ^ (k + 1) → h0.length + k ≤ 70368744177664 → Runs sp_iputNum_0 (pk_iputNum_0 x1 h0) (((.done (.exit 0) E_iputNum_0_0 (((), ((hiF gNum' k x1).2), (), (), (), (), (), (), (), (), (), (), (), (), (), (), (), (), (), (), (), (), (), (), ()), ((h0 ++ (hiF gNum' k x1).1), ()))) : CT).val (D := S_iputNum_0.den)) := by
      intro k
      induction k with
      | zero =>
        intro x h h1 h2 h3
        have e1 : decide (x > 127) = false := decide_eq_false (by simp at h2; omega)
        refine .done (by simp) ?_
        simp only [sp_iputNum_0, st_iputNum_0, RT.val, e1, cond_false, hiF, List.append_nil]
      | succ k ih =>
        intro x h h1 h2 h3
        rw [Int.pow_succ] at h2
        by_cases hx : x > 127
        · have e1 : decide (x > 127) = true := decide_eq_true hx
          have e2 : decide ((h.length + [gNum' x].length) * 1 ≤ MAXB) = true := decide_eq_true (by simp [MAXB]; omega)
          simp only [gNum'] at e2
          have := ih (Int.fdiv x (2 ^ 7)) (h ++ [gNum' x]) (by rw [fdiv128]; omega) (by rw [fdiv128]; omega) (by simp; omega)
          refine .next (d' := pk_iputNum_0 (Int.fdiv x (2 ^ 7)) (h ++ [gNum' x])) ?_ ?_
          · simp only [sp_iputNum_0, st_iputNum_0, RT.val, e1, e2, cond_true]; rfl
          · have e3 : hiF gNum' (k + 1) x = (gNum' x :: (hiF gNum' k (Int.fdiv x (2 ^ 7))).1, (hiF gNum' k (Int.fdiv x (2 ^ 7))).2) := by simp only [hiF, e1, cond_true]
            rw [e3]
            simpa [List.append_assoc] using this
        · have e1 : decide (x > 127) = false := decide_eq_false hx
          refine .done (by simp) ?_
          simp only [sp_iputNum_0, st_iputNum_0, RT.val, e1, cond_false, hiF, List.append_nil]
    exact key 4 x1 h0 hc.1.1 (by have := hc.1.2; simp; omega) (by have := hc.2; omega)
theorem rd_iputNum_0 : ∀ d, execC Try.prog tt S26 QF26 (fun _ _ => none) 0 body_iputNum_0 (S_iputNum_0.st d 1 [0]) (fun e s' => some (e, S_iputNum_0.cutE (kepts [] [(0, [0, 1])]) e s')) = (sp_iputNum_0 d).opt 1 [0] := by
  intro d
  kernel_rfl
noncomputable abbrev say_iputNum_0 : St → Option Tree := S_iputNum_0.say 1 [0] [] (fun d => T_iputNum_0 d.1.2.1 d.2.1)
theorem lw_iputNum_0 : LoopWp Try.prog say_iputNum_0 body_iputNum_0 := SS.wp G26 (fun _ _ => none) (by rw [show loopsIn 0 body_iputNum_0 = [] by kernel_rfl]; simp) S_iputNum_0 1 [0] (kepts [] [(0, [0, 1])]) [] sp_iputNum_0 rd_iputNum_0 _ (fun d => R_iputNum_0 d.1.2.1 d.2.1)
noncomputable def iputNum (x1 : Int) (h0 : List Int) : List Int := ((h0 ++ (nX (if (if (1000000000 : Int) < x1 then (1000000000 : Int) else x1) > (0 : Int) then (if (1000000000 : Int) < x1 then (1000000000 : Int) else x1) else (0 : Int))).1) ++ [IntKind.wrap .u8 ((nX (if (if (1000000000 : Int) < x1 then (1000000000 : Int) else x1) > (0 : Int) then (if (1000000000 : Int) < x1 then (1000000000 : Int) else x1) else (0 : Int))).2)])
noncomputable abbrev e_iputNum (r : List Int) : AV × List AObj × List Nat := ((.all 0 1), [(.rows 5 true (.int .u8) r)], [0])
noncomputable abbrev g_iputNum : SM_iputNum.den → AV × List AObj × List Nat := fun d => e_iputNum (iputNum d.1.2.1 d.2.1)
noncomputable def q_iputNum (x1 : Int) (h0 : List Int) : Bool := decide (h0.length ≤ 17592186044416)
noncomputable abbrev pre_iputNum : SM_iputNum.den → Bool := fun d => q_iputNum d.1.2.1 d.2.1
theorem runA_iputNum (x1 : Int) (h0 : List Int) (hp : (decide (h0.length ≤ 17592186044416)) = true) : runM Try.prog tt S26 QF26 (fun b => match b with | 0 => say_iputNum_0 | _ => fun _ => none) Try.f99 (shsMk SM_iputNum.sl ((((), x1, ()), (h0, ())) : SM_iputNum.den).1) (ohsMk SM_iputNum.hp ((((), x1, ()), (h0, ())) : SM_iputNum.den).2) = some (g_iputNum (((), x1, ()), (h0, ()))) := by
  refine Eq.trans (b := (cond (decide (0 ≤ (if (if (1000000000 : Int) < x1 then (1000000000 : Int) else x1) > (0 : Int) then (if (1000000000 : Int) < x1 then (1000000000 : Int) else x1) else (0 : Int)) ∧ (if (if (1000000000 : Int) < x1 then (1000000000 : Int) else x1) > (0 : Int) then (if (1000000000 : Int) < x1 then (1000000000 : Int) else x1) else (0 : Int)) ≤ 1000000000) && decide (h0.length ≤ 35184372088832)) (cond (decide (((h0 ++ (nX (if (if (1000000000 : Int) < x1 then (1000000000 : Int) else x1) > (0 : Int) then (if (1000000000 : Int) < x1 then (1000000000 : Int) else x1) else (0 : Int))).1).length + [IntKind.wrap .u8 ((nX (if (if (1000000000 : Int) < x1 then (1000000000 : Int) else x1) > (0 : Int) then (if (1000000000 : Int) < x1 then (1000000000 : Int) else x1) else (0 : Int))).2)].length) * 1 ≤ MAXB)) (some (e_iputNum ((h0 ++ (nX (if (if (1000000000 : Int) < x1 then (1000000000 : Int) else x1) > (0 : Int) then (if (1000000000 : Int) < x1 then (1000000000 : Int) else x1) else (0 : Int))).1) ++ [IntKind.wrap .u8 ((nX (if (if (1000000000 : Int) < x1 then (1000000000 : Int) else x1) > (0 : Int) then (if (1000000000 : Int) < x1 then (1000000000 : Int) else x1) else (0 : Int))).2)]))) none) none)) (by kernel_rfl) ?_
  exact (cndT (by have h1 := nX_len (clampI x1); have h2 := clampI_range x1; simp only [clampI] at h1 h2; simp only [q_iputNum, decide_eq_true_eq, Bool.and_eq_true] at *; (try simp only [MAXB, List.length_append, List.length_cons, List.length_nil]) <;> omega) (fun _h => (cndT (by have h1 := nX_len (clampI x1); have h2 := clampI_range x1; simp only [clampI] at h1 h2; simp only [q_iputNum, decide_eq_true_eq, Bool.and_eq_true] at *; (try simp only [MAXB, List.length_append, List.length_cons, List.length_nil]) <;> omega) (fun _h => rfl))))
theorem run_iputNum : ∀ d : SM_iputNum.den, pre_iputNum d = true → runM Try.prog tt S26 QF26 (fun b => match b with | 0 => say_iputNum_0 | _ => fun _ => none) Try.f99 (shsMk SM_iputNum.sl (d : SM_iputNum.den).1) (ohsMk SM_iputNum.hp (d : SM_iputNum.den).2) = some (g_iputNum d) := fun d hp => runA_iputNum d.1.2.1 d.2.1 hp
theorem c_iputNum : MContract Try.prog 99 (win winIds (msum SM_iputNum pre_iputNum g_iputNum)) := (MContract.of_data G26 (fn := Try.f99) (by kernel_rfl) (L := fun b => match b with | 0 => say_iputNum_0 | _ => fun _ => none) (by rw [show loopsIn 0 (bodyOf Try.f99) = [(0, body_iputNum_0)] by kernel_rfl]; intro p hp; simp only [List.mem_singleton] at hp; subst hp; exact lw_iputNum_0) SM_iputNum pre_iputNum g_iputNum run_iputNum).win winIds
noncomputable def S27 : Tab := Tab.add S26 99 (orElseS (win winIds (msum SM_iputNum_nil pre_iputNum_nil g_iputNum_nil)) (win winIds (msum SM_iputNum pre_iputNum g_iputNum)))
noncomputable def QF27 : FuncId → Bool := QF26
theorem G27 : Good Try.prog tt S27 QF27 := G26.addM (MContract.orElse c_iputNum_nil c_iputNum) (orElse_local (win_local _) (win_local _)) ⟨Try.f99, by kernel_rfl, by kernel_rfl, by kernel_rfl⟩ (by kernel_rfl)
theorem iputNum_eq (n : Int) (b : List Int) : iputNum n b = b ++ numB (clampN n) := by
  rw [← clampI_eq, numB, ← List.append_assoc]
  rfl
theorem iputNum_len (b : List Int) (n : Int) : (iputNum n b).length ≤ b.length + 5 := by
  rw [iputNum_eq, List.length_append]
  have := numB_len (clampN n)
  omega

/-! 141 loop.example/g00244/impl.putText -/
noncomputable abbrev SM_iputText : SS := ⟨[.all 0 1, .t true .str], [.rows 5 true (.int .u8)]⟩
noncomputable def iputText (x1 : ByteArray) (h0 : List Int) : List Int := ((iputNum ((x1.size : Nat) : Int) h0) ++ strInts x1)
noncomputable abbrev e_iputText (r : List Int) : AV × List AObj × List Nat := ((.all 0 1), [(.rows 5 true (.int .u8) r)], [0])
noncomputable abbrev g_iputText : SM_iputText.den → AV × List AObj × List Nat := fun d => e_iputText (iputText d.1.2.1 d.2.1)
noncomputable def q_iputText (x1 : ByteArray) (h0 : List Int) : Bool := decide (h0.length ≤ 8796093022208) && okS x1
noncomputable abbrev pre_iputText : SM_iputText.den → Bool := fun d => q_iputText d.1.2.1 d.2.1
theorem runA_iputText (x1 : ByteArray) (h0 : List Int) (hp : (decide (h0.length ≤ 8796093022208) && okS x1) = true) : runM Try.prog tt S27 QF27 (fun _ _ => none) Try.f141 (shsMk SM_iputText.sl ((((), x1, ()), (h0, ())) : SM_iputText.den).1) (ohsMk SM_iputText.hp ((((), x1, ()), (h0, ())) : SM_iputText.den).2) = some (g_iputText (((), x1, ()), (h0, ()))) := by
  refine Eq.trans (b := (cond (q_iputNum ((x1.size : Nat) : Int) h0) (cond (decide ((iputNum ((x1.size : Nat) : Int) h0).length + x1.size ≤ MAXB)) (some (e_iputText ((iputNum ((x1.size : Nat) : Int) h0) ++ strInts x1))) none) none)) (by kernel_rfl) ?_
  exact (cndT (by have h1 := iputNum_len h0 ((x1.size : Nat) : Int); simp only [q_iputNum, okS, decide_eq_true_eq, decide_eq_false_iff_not, Bool.and_eq_true] at *; (try simp [MAXB]) <;> omega) (fun _h => (cndT (by have h1 := iputNum_len h0 ((x1.size : Nat) : Int); simp only [q_iputNum, okS, decide_eq_true_eq, decide_eq_false_iff_not, Bool.and_eq_true] at *; (try simp [MAXB]) <;> omega) (fun _h => rfl))))
theorem run_iputText : ∀ d : SM_iputText.den, pre_iputText d = true → runM Try.prog tt S27 QF27 (fun _ _ => none) Try.f141 (shsMk SM_iputText.sl (d : SM_iputText.den).1) (ohsMk SM_iputText.hp (d : SM_iputText.den).2) = some (g_iputText d) := fun d hp => runA_iputText d.1.2.1 d.2.1 hp
theorem c_iputText : MContract Try.prog 141 (win winIds (msum SM_iputText pre_iputText g_iputText)) := (MContract.of_data G27 (fn := Try.f141) (by kernel_rfl) (L := fun _ _ => none) (by rw [show loopsIn 0 (bodyOf Try.f141) = [] by kernel_rfl]; simp) SM_iputText pre_iputText g_iputText run_iputText).win winIds
noncomputable def S28 : Tab := Tab.add S27 141 (win winIds (msum SM_iputText pre_iputText g_iputText))
noncomputable def QF28 : FuncId → Bool := QF27
theorem G28 : Good Try.prog tt S28 QF28 := G27.addM c_iputText (win_local _) ⟨Try.f141, by kernel_rfl, by kernel_rfl, by kernel_rfl⟩ (by kernel_rfl)
theorem iputText_eq (b : List Int) (s : ByteArray) (h : okS s = true) : iputText s b = b ++ textB s := by
  simp only [okS, decide_eq_true_eq] at h
  simp only [iputText, iputNum_eq, textB, List.append_assoc]
  rw [clampN_of (by omega) (by omega)]
theorem iputText_len (b : List Int) (s : ByteArray) (h : okS s = true) : (iputText s b).length ≤ b.length + 5 + s.size := by
  rw [iputText_eq b s h, List.length_append]
  have := textB_len s
  omega

/-! 100 loop.example/g00244/impl.putOps -/
noncomputable def iOpPut (l : List (Int × ByteArray × ByteArray)) (i : Nat) (h : List Int) : List Int := iputText (l.getD i dOp).2.2 (iputText (l.getD i dOp).2.1 (iputNum (l.getD i dOp).1 h))
noncomputable abbrev SM_iputOps_nil : SS := ⟨[.nil, .t false (.sl (.pair (.int .i64) (.pair .str .str)))], []⟩
noncomputable abbrev S_iputOps_nil_0 : SS := ⟨[.all 0 1, .junk, .junk, .junk, .junk, .junk, .junk, .junk, .junk, .junk, .junk, .t false (.sl (.pair (.int .i64) (.pair .str .str))), .t true (.int .i64), .t true (.int .i64), .junk, .junk, .junk, .junk, .junk, .junk, .junk, .junk, .junk, .junk, .junk, .junk, .junk, .junk, .junk], [.rows 5 true (.int .u8)]⟩
noncomputable abbrev E_iputOps_nil_0_0 : SS := ⟨[.all 0 1, .junk, .junk, .junk, .junk, .junk, .junk, .junk, .junk, .junk, .junk, .junk, .junk, .junk, .junk, .junk, .junk, .junk, .junk, .junk, .junk, .junk, .junk, .junk, .junk, .junk, .junk, .junk, .junk], [.rows 5 true (.int .u8)]⟩
noncomputable def st_iputOps_nil_0 (x11 : List (Int × ByteArray × ByteArray)) (x12 : Int) (x13 : Int) (h0 : List Int) : RT S_iputOps_nil_0.den := (.br (decide (x13 < x12)) (.br (decide (0 ≤ x13 ∧ x13 < ((x11.length : Nat) : Int))) (.br (q_iputNum ((x11.getD x13.toNat ((0 : Int), ((⟨#[]⟩ : ByteArray), (⟨#[]⟩ : ByteArray)))).1) h0) (.br (q_iputText (((x11.getD x13.toNat ((0 : Int), ((⟨#[]⟩ : ByteArray), (⟨#[]⟩ : ByteArray)))).2).1) (iputNum ((x11.getD x13.toNat ((0 : Int), ((⟨#[]⟩ : ByteArray), (⟨#[]⟩ : ByteArray)))).1) h0)) (.br (q_iputText (((x11.getD x13.toNat ((0 : Int), ((⟨#[]⟩ : ByteArray), (⟨#[]⟩ : ByteArray)))).2).2) (iputText (((x11.getD x13.toNat ((0 : Int), ((⟨#[]⟩ : ByteArray), (⟨#[]⟩ : ByteArray)))).2).1) (iputNum ((x11.getD x13.toNat ((0 : Int), ((⟨#[]⟩ : ByteArray), (⟨#[]⟩ : ByteArray)))).1) h0))) (.next (((), (), (), (), (), (), (), (), (), (), (), x11, x12, IntKind.wrap .i64 (x13 + (1 : Int)), (), (), (), (), (), (), (), (), (), (), (), (), (), (), (), ()), ((iputText (((x11.getD x13.toNat ((0 : Int), ((⟨#[]⟩ : ByteArray), (⟨#[]⟩ : ByteArray)))).2).2) (iputText (((x11.getD x13.toNat ((0 : Int), ((⟨#[]⟩ : ByteArray), (⟨#[]⟩ : ByteArray)))).2).1) (iputNum ((x11.getD x13.toNat ((0 : Int), ((⟨#[]⟩ : ByteArray), (⟨#[]⟩ : ByteArray)))).1) h0))), ()))) .fail) .fail) .fail) .fail) (.done (.exit 0) E_iputOps_nil_0_0 (((), (), (), (), (), (), (), (), (), (), (), (), (), (), (), (), (), (), (), (), (), (), (), (), (), (), (), (), (), ()), (h0, ()))))
noncomputable def T_iputOps_nil_0 (x11 : List (Int × ByteArray × ByteArray)) (x12 : Int) (x13 : Int) (h0 : List Int) : CT := (.br (decide (0 ≤ x13) && (decide (x12 = ((x11.length : Nat) : Int)) && (decide (h0.length ≤ 4194304 * (x13.toNat + 1)) && okOps x11))) (.done (.exit 0) E_iputOps_nil_0_0 (((), (), (), (), (), (), (), (), (), (), (), (), (), (), (), (), (), (), (), (), (), (), (), (), (), (), (), (), (), ()), ((foldN (iOpPut x11) (x11.length - x13.toNat) x13.toNat h0), ()))) .fail)
noncomputable abbrev sp_iputOps_nil_0 : S_iputOps_nil_0.den → RT S_iputOps_nil_0.den := fun d => st_iputOps_nil_0 d.1.2.2.2.2.2.2.2.2.2.2.2.1 d.1.2.2.2.2.2.2.2.2.2.2.2.2.1 d.1.2.2.2.2.2.2.2.2.2.2.2.2.2.1 d.2.1
noncomputable abbrev pk_iputOps_nil_0 (x11 : List (Int × ByteArray × ByteArray)) (x12 : Int) (x13 : Int) (h0 : List Int) : S_iputOps_nil_0.den := (((), (), (), (), (), (), (), (), (), (), (), x11, x12, x13, (), (), (), (), (), (), (), (), (), (), (), (), (), (), (), ()), (h0, ()))
noncomputable def body_iputOps_nil_0 : Code := ((loopsIn 0 (bodyOf Try.f100)).getD 0 (0, .skip)).2
theorem R_iputOps_nil_0 (x11 : List (Int × ByteArray × ByteArray)) (x12 : Int) (x13 : Int) (h0 : List Int) : (T_iputOps_nil_0 x11 x12 x13 h0).val (D := S_iputOps_nil_0.den) = .fail ∨ Runs sp_iputOps_nil_0 (pk_iputOps_nil_0 x11 x12 x13 h0) (T_iputOps_nil_0 x11 x12 x13 h0).val := by
  cases hc : (decide (0 ≤ x13) && (decide (x12 = ((x11.length : Nat) : Int)) && (decide (h0.length ≤ 4194304 * (x13.toNat + 1)) && okOps x11))) with
  | false => left; simp only [T_iputOps_nil_0, CT.val, hc, cond_false]
  | true =>
    right
    simp only [T_iputOps_nil_0, CT.val, hc, cond_true]
    simp only [Bool.and_eq_true, decide_eq_true_eq] at hc
    obtain ⟨i, rfl⟩ := Int.eq_ofNat_of_zero_le hc.1
    obtain ⟨_, e1, hc⟩ := hc
    subst e1
    have hc := And.intro (show True from trivial) hc
    have hs := okOps_len hc.2.2
    have hb0 := hc.2.1
    simp only [Int.toNat_natCast] at hb0 ⊢
    refine Runs.foldN (step := sp_iputOps_nil_0) (fun j b => pk_iputOps_nil_0 x11 ((x11.length : Nat) : Int) (j : Int) b) (fun i b => b.length ≤ 4194304 * (i + 1)) (x11.length) (iOpPut x11)
      (fin := fun b => ((.done (.exit 0) E_iputOps_nil_0_0 (((), (), (), (), (), (), (), (), (), (), (), (), (), (), (), (), (), (), (), (), (), (), (), (), (), (), (), (), (), ()), (b, ()))) : CT).val) (fun i b hi hb => ?_) (fun i b hi hb => ?_) (x11.length - i) i h0 rfl hb0
    · obtain ⟨k1, k2⟩ := okOps_at hc.2.2 i hi
      have l1 := iputNum_len b (x11.getD i dOp).1
      have l2 := iputText_len (iputNum (x11.getD i dOp).1 b) (x11.getD i dOp).2.1 k1
      have l3 := iputText_len (iputText (x11.getD i dOp).2.1 (iputNum (x11.getD i dOp).1 b)) (x11.getD i dOp).2.2 k2
      have m1 := okS_le k1
      have m2 := okS_le k2
      have q1 : q_iputNum (x11.getD i dOp).1 b = true := by simp only [q_iputNum, decide_eq_true_eq]; omega
      have q2 : q_iputText (x11.getD i dOp).2.1 (iputNum (x11.getD i dOp).1 b) = true := by simp only [q_iputText, k1, Bool.and_true, decide_eq_true_eq]; omega
      have q3 : q_iputText (x11.getD i dOp).2.2 (iputText (x11.getD i dOp).2.1 (iputNum (x11.getD i dOp).1 b)) = true := by simp only [q_iputText, k2, Bool.and_true, decide_eq_true_eq]; omega
      refine ⟨by simp only [iOpPut]; omega, ?_⟩
      have h0a : decide ((i : Int) < ((x11.length : Nat) : Int)) = true := decide_eq_true (by omega)
      have h0b : decide (0 ≤ (i : Int) ∧ (i : Int) < ((x11.length : Nat) : Int)) = true := decide_eq_true (by omega)
      simp only [dOp] at q1 q2 q3
      simp only [sp_iputOps_nil_0, st_iputOps_nil_0, RT.val, h0a, h0b, cond_true, wrapS i (by omega), Int.toNat_natCast, q1, q2, q3]
      rfl
    · have h1 : decide ((i : Int) < ((x11.length : Nat) : Int)) = false := decide_eq_false (by omega)
      exact ⟨by simp only [sp_iputOps_nil_0, st_iputOps_nil_0, RT.val, h1, cond_false]; rfl, _, _, _, rfl, by simp⟩
theorem rd_iputOps_nil_0 : ∀ d, execC Try.prog tt S28 QF28 (fun _ _ => none) 0 body_iputOps_nil_0 (S_iputOps_nil_0.st d 0 []) (fun e s' => some (e, S_iputOps_nil_0.cutE (kepts [] [(0, [0])]) e s')) = (sp_iputOps_nil_0 d).opt 0 [] := by
  intro d
  kernel_rfl
noncomputable abbrev say_iputOps_nil_0 : St → Option Tree := S_iputOps_nil_0.say 0 [] [] (fun d => T_iputOps_nil_0 d.1.2.2.2.2.2.2.2.2.2.2.2.1 d.1.2.2.2.2.2.2.2.2.2.2.2.2.1 d.1.2.2.2.2.2.2.2.2.2.2.2.2.2.1 d.2.1)
theorem lw_iputOps_nil_0 : LoopWp Try.prog say_iputOps_nil_0 body_iputOps_nil_0 := SS.wp G28 (fun _ _ => none) (by rw [show loopsIn 0 body_iputOps_nil_0 = [] by kernel_rfl]; simp) S_iputOps_nil_0 0 [] (kepts [] [(0, [0])]) [] sp_iputOps_nil_0 rd_iputOps_nil_0 _ (fun d => R_iputOps_nil_0 d.1.2.2.2.2.2.2.2.2.2.2.2.1 d.1.2.2.2.2.2.2.2.2.2.2.2.2.1 d.1.2.2.2.2.2.2.2.2.2.2.2.2.2.1 d.2.1)
noncomputable def iputOps_nil (x1 : List (Int × ByteArray × ByteArray)) : List Int := (foldN (iOpPut x1) (x1.length - (0 : Int).toNat) (0 : Int).toNat (iputNum_nil ((x1.length : Nat) : Int)))
noncomputable abbrev e_iputOps_nil (r : List Int) : AV × List AObj × List Nat := ((.all 0 1), [(.rows 5 true (.int .u8) r)], [])
noncomputable abbrev g_iputOps_nil : SM_iputOps_nil.den → AV × List AObj × List Nat := fun d => e_iputOps_nil (iputOps_nil d.1.2.1)
noncomputable def q_iputOps_nil (x1 : List (Int × ByteArray × ByteArray)) : Bool := okOps x1
noncomputable abbrev pre_iputOps_nil : SM_iputOps_nil.den → Bool := fun d => q_iputOps_nil d.1.2.1
theorem runA_iputOps_nil (x1 : List (Int × ByteArray × ByteArray)) (hp : (okOps x1) = true) : runM Try.prog tt S28 QF28 (fun b => match b with | 0 => say_iputOps_nil_0 | _ => fun _ => none) Try.f100 (shsMk SM_iputOps_nil.sl ((((), x1, ()), ()) : SM_iputOps_nil.den).1) (ohsMk SM_iputOps_nil.hp ((((), x1, ()), ()) : SM_iputOps_nil.den).2) = some (g_iputOps_nil (((), x1, ()), ())) := by
  refine Eq.trans (b := (cond (decide (0 ≤ (0 : Int)) && (decide (((x1.length : Nat) : Int) = ((x1.length : Nat) : Int)) && (decide ((iputNum_nil ((x1.length : Nat) : Int)).length ≤ 4194304 * ((0 : Int).toNat + 1)) && okOps x1))) (some (e_iputOps_nil (foldN (iOpPut x1) (x1.length - (0 : Int).toNat) (0 : Int).toNat (iputNum_nil ((x1.length : Nat) : Int))))) none)) (by kernel_rfl) ?_
  exact (cndT (by have h1 := iputNum_nil_len ((x1.length : Nat) : Int); have hs := okOps_len hp; simp only [hp, Bool.and_true, Bool.true_and, Bool.and_eq_true, decide_eq_true_eq] <;> (try simp only [Int.toNat_zero, Int.le_refl, true_and, and_true, eq_self] at h1 ⊢) <;> omega) (fun _h => rfl))
theorem run_iputOps_nil : ∀ d : SM_iputOps_nil.den, pre_iputOps_nil d = true → runM Try.prog tt S28 QF28 (fun b => match b with | 0 => say_iputOps_nil_0 | _ => fun _ => none) Try.f100 (shsMk SM_iputOps_nil.sl (d : SM_iputOps_nil.den).1) (ohsMk SM_iputOps_nil.hp (d : SM_iputOps_nil.den).2) = some (g_iputOps_nil d) := fun d hp => runA_iputOps_nil d.1.2.1 hp
theorem c_iputOps_nil : MContract Try.prog 100 (win winIds (msum SM_iputOps_nil pre_iputOps_nil g_iputOps_nil)) := (MContract.of_data G28 (fn := Try.f100) (by kernel_rfl) (L := fun b => match b with | 0 => say_iputOps_nil_0 | _ => fun _ => none) (by rw [show loopsIn 0 (bodyOf Try.f100) = [(0, body_iputOps_nil_0)] by kernel_rfl]; intro p hp; simp only [List.mem_singleton] at hp; subst hp; exact lw_iputOps_nil_0) SM_iputOps_nil pre_iputOps_nil g_iputOps_nil run_iputOps_nil).win winIds
noncomputable def S29 : Tab := Tab.add S28 100 (win winIds (msum SM_iputOps_nil pre_iputOps_nil g_iputOps_nil))
noncomputable def QF29 : FuncId → Bool := QF28
theorem G29 : Good Try.prog tt S29 QF29 := G28.addM c_iputOps_nil (win_local _) ⟨Try.f100, by kernel_rfl, by kernel_rfl, by kernel_rfl⟩ (by kernel_rfl)

/-! 100 loop.example/g00244/impl.putOps -/
noncomputable abbrev SM_iputOps : SS := ⟨[.all 0 1, .t false (.sl (.pair (.int .i64) (.pair .str .str)))], [.rows 5 true (.int .u8)]⟩
noncomputable abbrev S_iputOps_0 : SS := ⟨[.all 0 1, .junk, .junk, .junk, .junk, .junk, .junk, .junk, .junk, .junk, .junk, .t false (.sl (.pair (.int .i64) (.pair .str .str))), .t true (.int .i64), .t true (.int .i64), .junk, .junk, .junk, .junk, .junk, .junk, .junk, .junk, .junk, .junk, .junk, .junk, .junk, .junk, .junk], [.rows 5 true (.int .u8)]⟩
noncomputable abbrev E_iputOps_0_0 : SS := ⟨[.all 0 1, .junk, .junk, .junk, .junk, .junk, .junk, .junk, .junk, .junk, .junk, .junk, .junk, .junk, .junk, .junk, .junk, .junk, .junk, .junk, .junk, .junk, .junk, .junk, .junk, .junk, .junk, .junk, .junk], [.rows 5 true (.int .u8)]⟩
noncomputable def st_iputOps_0 (x11 : List (Int × ByteArray × ByteArray)) (x12 : Int) (x13 : Int) (h0 : List Int) : RT S_iputOps_0.den := (.br (decide (x13 < x12)) (.br (decide (0 ≤ x13 ∧ x13 < ((x11.length : Nat) : Int))) (.br (q_iputNum ((x11.getD x13.toNat ((0 : Int), ((⟨#[]⟩ : ByteArray), (⟨#[]⟩ : ByteArray)))).1) h0) (.br (q_iputText (((x11.getD x13.toNat ((0 : Int), ((⟨#[]⟩ : ByteArray), (⟨#[]⟩ : ByteArray)))).2).1) (iputNum ((x11.getD x13.toNat ((0 : Int), ((⟨#[]⟩ : ByteArray), (⟨#[]⟩ : ByteArray)))).1) h0)) (.br (q_iputText (((x11.getD x13.toNat ((0 : Int), ((⟨#[]⟩ : ByteArray), (⟨#[]⟩ : ByteArray)))).2).2) (iputText (((x11.getD x13.toNat ((0 : Int), ((⟨#[]⟩ : ByteArray), (⟨#[]⟩ : ByteArray)))).2).1) (iputNum ((x11.getD x13.toNat ((0 : Int), ((⟨#[]⟩ : ByteArray), (⟨#[]⟩ : ByteArray)))).1) h0))) (.next (((), (), (), (), (), (), (), (), (), (), (), x11, x12, IntKind.wrap .i64 (x13 + (1 : Int)), (), (), (), (), (), (), (), (), (), (), (), (), (), (), (), ()), ((iputText (((x11.getD x13.toNat ((0 : Int), ((⟨#[]⟩ : ByteArray), (⟨#[]⟩ : ByteArray)))).2).2) (iputText (((x11.getD x13.toNat ((0 : Int), ((⟨#[]⟩ : ByteArray), (⟨#[]⟩ : ByteArray)))).2).1) (iputNum ((x11.getD x13.toNat ((0 : Int), ((⟨#[]⟩ : ByteArray), (⟨#[]⟩ : ByteArray)))).1) h0))), ()))) .fail) .fail) .fail) .fail) (.done (.exit 0) E_iputOps_0_0 (((), (), (), (), (), (), (), (), (), (), (), (), (), (), (), (), (), (), (), (), (), (), (), (), (), (), (), (), (), ()), (h0, ()))))
noncomputable def T_iputOps_0 (x11 : List (Int × ByteArray × ByteArray)) (x12 : Int) (x13 : Int) (h0 : List Int) : CT := (.br (decide (0 ≤ x13) && (decide (x12 = ((x11.length : Nat) : Int)) && (decide (h0.length ≤ 4194304 * (x13.toNat + 1)) && okOps x11))) (.done (.exit 0) E_iputOps_0_0 (((), (), (), (), (), (), (), (), (), (), (), (), (), (), (), (), (), (), (), (), (), (), (), (), (), (), (), (), (), ()), ((foldN (iOpPut x11) (x11.length - x13.toNat) x13.toNat h0), ()))) .fail)
noncomputable abbrev sp_iputOps_0 : S_iputOps_0.den → RT S_iputOps_0.den := fun d => st_iputOps_0 d.1.2.2.2.2.2.2.2.2.2.2.2.1 d.1.2.2.2.2.2.2.2.2.2.2.2.2.1 d.1.2.2.2.2.2.2.2.2.2.2.2.2.2.1 d.2.1
noncomputable abbrev pk_iputOps_0 (x11 : List (Int × ByteArray × ByteArray)) (x12 : Int) (x13 : Int) (h0 : List Int) : S_iputOps_0.den := (((), (), (), (), (), (), (), (), (), (), (), x11, x12, x13, (), (), (), (), (), (), (), (), (), (), (), (), (), (), (), ()), (h0, ()))
noncomputable def body_iputOps_0 : Code := ((loopsIn 0 (bodyOf Try.f100)).getD 0 (0, .skip)).2
theorem R_iputOps_0 (x11 : List (Int × ByteArray × ByteArray)) (x12 : Int) (x13 : Int) (h0 : List Int) : (T_iputOps_0 x11 x12 x13 h0).val (D := S_iputOps_0.den) = .fail ∨ Runs sp_iputOps_0 (pk_iputOps_0 x11 x12 x13 h0) (T_iputOps_0 x11 x12 x13 h0).val := by
  cases hc : (decide (0 ≤ x13) && (decide (x12 = ((x11.length : Nat) : Int)) && (decide (h0.length ≤ 4194304 * (x13.toNat + 1)) && okOps x11))) with
  | false => left; simp only [T_iputOps_0, CT.val, hc, cond_false]
  | true =>
    right
    simp only [T_iputOps_0, CT.val, hc, cond_true]
    simp only [Bool.and_eq_true, decide_eq_true_eq] at hc
    obtain ⟨i, rfl⟩ := Int.eq_ofNat_of_zero_le hc.1
    obtain ⟨_, e1, hc⟩ := hc
    subst e1
    have hc := And.intro (show True from trivial) hc
    have hs := okOps_len hc.2.2
    have hb0 := hc.2.1
    simp only [Int.toNat_natCast] at hb0 ⊢
    refine Runs.foldN (step := sp_iputOps_0) (fun j b => pk_iputOps_0 x11 ((x11.length : Nat) : Int) (j : Int) b) (fun i b => b.length ≤ 4194304 * (i + 1)) (x11.length) (iOpPut x11)
      (fin := fun b => ((.done (.exit 0) E_iputOps_0_0 (((), (), (), (), (), (), (), (), (), (), (), (), (), (), (), (), (), (), (), (), (), (), (), (), (), (), (), (), (), ()), (b, ()))) : CT).val) (fun i b hi hb => ?_) (fun i b hi hb => ?_) (x11.length - i) i h0 rfl hb0
    · obtain ⟨k1, k2⟩ := okOps_at hc.2.2 i hi
      have l1 := iputNum_len b (x11.getD i dOp).1
      have l2 := iputText_len (iputNum (x11.getD i dOp).1 b) (x11.getD i dOp).2.1 k1
      have l3 := iputText_len (iputText (x11.getD i dOp).2.1 (iputNum (x11.getD i dOp).1 b)) (x11.getD i dOp).2.2 k2
      have m1 := okS_le k1
      have m2 := okS_le k2
      have q1 : q_iputNum (x11.getD i dOp).1 b = true := by simp only [q_iputNum, decide_eq_true_eq]; omega
      have q2 : q_iputText (x11.getD i dOp).2.1 (iputNum (x11.getD i dOp).1 b) = true := by simp only [q_iputText, k1, Bool.and_true, decide_eq_true_eq]; omega
      have q3 : q_iputText (x11.getD i dOp).2.2 (iputText (x11.getD i dOp).2.1 (iputNum (x11.getD i dOp).1 b)) = true := by simp only [q_iputText, k2, Bool.and_true, decide_eq_true_eq]; omega
      refine ⟨by simp only [iOpPut]; omega, ?_⟩
      have h0a : decide ((i : Int) < ((x11.length : Nat) : Int)) = true := decide_eq_true (by omega)
      have h0b : decide (0 ≤ (i : Int) ∧ (i : Int) < ((x11.length : Nat) : Int)) = true := decide_eq_true (by omega)
      simp only [dOp] at q1 q2 q3
      simp only [sp_iputOps_0, st_iputOps_0, RT.val, h0a, h0b, cond_true, wrapS i (by omega), Int.toNat_natCast, q1, q2, q3]
      rfl
    · have h1 : decide ((i : Int) < ((x11.length : Nat) : Int)) = false := decide_eq_false (by omega)
      exact ⟨by simp only [sp_iputOps_0, st_iputOps_0, RT.val, h1, cond_false]; rfl, _, _, _, rfl, by simp⟩
theorem rd_iputOps_0 : ∀ d, execC Try.prog tt S29 QF29 (fun _ _ => none) 0 body_iputOps_0 (S_iputOps_0.st d 1 [0]) (fun e s' => some (e, S_iputOps_0.cutE (kepts [] [(0, [0])]) e s')) = (sp_iputOps_0 d).opt 1 [0] := by
  intro d
  kernel_rfl
noncomputable abbrev say_iputOps_0 : St → Option Tree := S_iputOps_0.say 1 [0] [] (fun d => T_iputOps_0 d.1.2.2.2.2.2.2.2.2.2.2.2.1 d.1.2.2.2.2.2.2.2.2.2.2.2.2.1 d.1.2.2.2.2.2.2.2.2.2.2.2.2.2.1 d.2.1)
theorem lw_iputOps_0 : LoopWp Try.prog say_iputOps_0 body_iputOps_0 := SS.wp G29 (fun _ _ => none) (by rw [show loopsIn 0 body_iputOps_0 = [] by kernel_rfl]; simp) S_iputOps_0 1 [0] (kepts [] [(0, [0])]) [] sp_iputOps_0 rd_iputOps_0 _ (fun d => R_iputOps_0 d.1.2.2.2.2.2.2.2.2.2.2.2.1 d.1.2.2.2.2.2.2.2.2.2.2.2.2.1 d.1.2.2.2.2.2.2.2.2.2.2.2.2.2.1 d.2.1)
noncomputable def iputOps (x1 : List (Int × ByteArray × ByteArray)) (h0 : List Int) : List Int := (foldN (iOpPut x1) (x1.length - (0 : Int).toNat) (0 : Int).toNat (iputNum ((x1.length : Nat) : Int) h0))
noncomputable abbrev e_iputOps (r : List Int) : AV × List AObj × List Nat := ((.all 0 1), [(.rows 5 true (.int .u8) r)], [0])
noncomputable abbrev g_iputOps : SM_iputOps.den → AV × List AObj × List Nat := fun d => e_iputOps (iputOps d.1.2.1 d.2.1)
noncomputable def q_iputOps (x1 : List (Int × ByteArray × ByteArray)) (h0 : List Int) : Bool := decide (h0.length ≤ 1000) && okOps x1
noncomputable abbrev pre_iputOps : SM_iputOps.den → Bool := fun d => q_iputOps d.1.2.1 d.2.1
theorem runA_iputOps (x1 : List (Int × ByteArray × ByteArray)) (h0 : List Int) (hp : (decide (h0.length ≤ 1000) && okOps x1) = true) : runM Try.prog tt S29 QF29 (fun b => match b with | 0 => say_iputOps_0 | _ => fun _ => none) Try.f100 (shsMk SM_iputOps.sl ((((), x1, ()), (h0, ())) : SM_iputOps.den).1) (ohsMk SM_iputOps.hp ((((), x1, ()), (h0, ())) : SM_iputOps.den).2) = some (g_iputOps (((), x1, ()), (h0, ()))) := by
  refine Eq.trans (b := (cond (q_iputNum ((x1.length : Nat) : Int) h0) (cond (decide (0 ≤ (0 : Int)) && (decide (((x1.length : Nat) : Int) = ((x1.length : Nat) : Int)) && (decide ((iputNum ((x1.length : Nat) : Int) h0).length ≤ 4194304 * ((0 : Int).toNat + 1)) && okOps x1))) (some (e_iputOps (foldN (iOpPut x1) (x1.length - (0 : Int).toNat) (0 : Int).toNat (iputNum ((x1.length : Nat) : Int) h0)))) none) none)) (by kernel_rfl) ?_
  exact (cndT (by obtain ⟨hp1, hp2⟩ := (Bool.and_eq_true _ _).mp hp; have h1 := iputNum_len h0 ((x1.length : Nat) : Int); have hs := okOps_len hp2; simp only [q_iputNum, hp2, Bool.and_true, Bool.true_and, Bool.and_eq_true, decide_eq_true_eq] at hp1 ⊢ <;> (try simp only [Int.toNat_zero, Int.le_refl, true_and, and_true, eq_self] at h1 ⊢) <;> omega) (fun _h => (cndT (by obtain ⟨hp1, hp2⟩ := (Bool.and_eq_true _ _).mp hp; have h1 := iputNum_len h0 ((x1.length : Nat) : Int); have hs := okOps_len hp2; simp only [q_iputNum, hp2, Bool.and_true, Bool.true_and, Bool.and_eq_true, decide_eq_true_eq] at hp1 ⊢ <;> (try simp only [Int.toNat_zero, Int.le_refl, true_and, and_true, eq_self] at h1 ⊢) <;> omega) (fun _h => rfl))))
theorem run_iputOps : ∀ d : SM_iputOps.den, pre_iputOps d = true → runM Try.prog tt S29 QF29 (fun b => match b with | 0 => say_iputOps_0 | _ => fun _ => none) Try.f100 (shsMk SM_iputOps.sl (d : SM_iputOps.den).1) (ohsMk SM_iputOps.hp (d : SM_iputOps.den).2) = some (g_iputOps d) := fun d hp => runA_iputOps d.1.2.1 d.2.1 hp
theorem c_iputOps : MContract Try.prog 100 (win winIds (msum SM_iputOps pre_iputOps g_iputOps)) := (MContract.of_data G29 (fn := Try.f100) (by kernel_rfl) (L := fun b => match b with | 0 => say_iputOps_0 | _ => fun _ => none) (by rw [show loopsIn 0 (bodyOf Try.f100) = [(0, body_iputOps_0)] by kernel_rfl]; intro p hp; simp only [List.mem_singleton] at hp; subst hp; exact lw_iputOps_0) SM_iputOps pre_iputOps g_iputOps run_iputOps).win winIds
noncomputable def S30 : Tab := Tab.add S29 100 (orElseS (win winIds (msum SM_iputOps_nil pre_iputOps_nil g_iputOps_nil)) (win winIds (msum SM_iputOps pre_iputOps g_iputOps)))
noncomputable def QF30 : FuncId → Bool := QF29
theorem G30 : Good Try.prog tt S30 QF30 := G29.addM (MContract.orElse c_iputOps_nil c_iputOps) (orElse_local (win_local _) (win_local _)) ⟨Try.f100, by kernel_rfl, by kernel_rfl, by kernel_rfl⟩ (by kernel_rfl)
theorem iputOps_eq (l : List (Int × ByteArray × ByteArray)) (h : List Int) (ho : okOps l = true) : iputOps l h = h ++ (numB (clampN (l.length : Int)) ++ (l.map opB).flatten) := by
  simp only [iputOps]
  have := foldN_app opB dOp l (iOpPut l) (fun i h hi => by
    obtain ⟨k1, k2⟩ := okOps_at ho i hi
    simp only [iOpPut, iputText_eq _ _ k1, iputText_eq _ _ k2, iputNum_eq, opB, List.append_assoc]) l.length 0 (iputNum (l.length : Int) h) (by omega)
  rw [iputNum_eq, List.drop_zero, List.append_assoc] at this
  rw [← this, iputNum_eq]
  rfl


/-! 36 loop.example/g00244/impl.PutWord -/
noncomputable abbrev P_iPutWord : List PSh := [.agg [(.int .i64), (.int .i64), (.int .i64), (.sl (.pair (.int .i64) (.pair .str .str))), .bool]]
noncomputable def iPutWord (a0 : Int) (a1 : Int) (a2 : Int) (a3 : List (Int × ByteArray × ByteArray)) (a4 : Bool) : List Int := (cond (!(iWordOk a0 a1 a2 a3 a4)) ([] : List Int) (cond a4 (cond (decide (((a3.length : Nat) : Int) > (0 : Int))) (iputOps a3 (iputNum (1 : Int) (iputNum a2 (iputNum a1 (iputNum_nil a0))))) (iputNum (1 : Int) (iputNum a2 (iputNum a1 (iputNum_nil a0))))) (cond (decide (((a3.length : Nat) : Int) > (0 : Int))) (iputOps a3 (iputNum (0 : Int) (iputNum a2 (iputNum a1 (iputNum_nil a0))))) (iputNum (0 : Int) (iputNum a2 (iputNum a1 (iputNum_nil a0)))))))
noncomputable abbrev e_iPutWord (r : List Int) : AV × List AObj := ((.all 0 1), [(.rows 5 true (.int .u8) r)])
noncomputable abbrev g_iPutWord : pshsDen P_iPutWord → AV × List AObj := fun d => e_iPutWord (iPutWord d.1.1 d.1.2.1 d.1.2.2.1 d.1.2.2.2.1 d.1.2.2.2.2.1)
noncomputable def q_iPutWord (a0 : Int) (a1 : Int) (a2 : Int) (a3 : List (Int × ByteArray × ByteArray)) (a4 : Bool) : Bool := okOps a3
noncomputable abbrev pre_iPutWord : pshsDen P_iPutWord → Bool := fun d => q_iPutWord d.1.1 d.1.2.1 d.1.2.2.1 d.1.2.2.2.1 d.1.2.2.2.2.1
theorem runA_iPutWord (a0 : Int) (a1 : Int) (a2 : Int) (a3 : List (Int × ByteArray × ByteArray)) (a4 : Bool) (hp : (okOps a3) = true) : runP false Try.prog tt S30 QF30 (fun _ _ => none) Try.f36 (argsMk P_iPutWord ((a0, (a1, (a2, (a3, (a4, ()))))), ())) = some (g_iPutWord ((a0, (a1, (a2, (a3, (a4, ()))))), ())) := by
  refine Eq.trans (b := (cond (q_iWordOk a0 a1 a2 a3 a4) (cond (!(iWordOk a0 a1 a2 a3 a4)) (some (e_iPutWord ([] : List Int))) (cond a4 (cond (q_iputNum a1 (iputNum_nil a0)) (cond (q_iputNum a2 (iputNum a1 (iputNum_nil a0))) (cond (q_iputNum (1 : Int) (iputNum a2 (iputNum a1 (iputNum_nil a0)))) (cond (decide (((a3.length : Nat) : Int) > (0 : Int))) (cond (q_iputOps a3 (iputNum (1 : Int) (iputNum a2 (iputNum a1 (iputNum_nil a0))))) (some (e_iPutWord (iputOps a3 (iputNum (1 : Int) (iputNum a2 (iputNum a1 (iputNum_nil a0))))))) none) (some (e_iPutWord (iputNum (1 : Int) (iputNum a2 (iputNum a1 (iputNum_nil a0))))))) none) none) none) (cond (q_iputNum a1 (iputNum_nil a0)) (cond (q_iputNum a2 (iputNum a1 (iputNum_nil a0))) (cond (q_iputNum (0 : Int) (iputNum a2 (iputNum a1 (iputNum_nil a0)))) (cond (decide (((a3.length : Nat) : Int) > (0 : Int))) (cond (q_iputOps a3 (iputNum (0 : Int) (iputNum a2 (iputNum a1 (iputNum_nil a0))))) (some (e_iPutWord (iputOps a3 (iputNum (0 : Int) (iputNum a2 (iputNum a1 (iputNum_nil a0))))))) none) (some (e_iPutWord (iputNum (0 : Int) (iputNum a2 (iputNum a1 (iputNum_nil a0))))))) none) none) none))) none)) (by kernel_rfl) ?_
  exact (cndT (by have k1 := iputNum_nil_len a0; have k2 := iputNum_len (iputNum_nil a0) a1; have k3 := iputNum_len (iputNum a1 (iputNum_nil a0)) a2; have k4 := iputNum_len (iputNum a2 (iputNum a1 (iputNum_nil a0))) 1; have k5 := iputNum_len (iputNum a2 (iputNum a1 (iputNum_nil a0))) 0; simp only [q_iWordOk, q_iputOps, q_iputNum, hp, Bool.and_true, decide_eq_true_eq] at k1 k2 k3 k4 k5 ⊢ <;> omega) (fun _h => (cnd (F := fun r => some (e_iPutWord r)) (fun _h => rfl) (fun _h => (cnd (F := fun r => some (e_iPutWord r)) (fun _h => (cndT (by have k1 := iputNum_nil_len a0; have k2 := iputNum_len (iputNum_nil a0) a1; have k3 := iputNum_len (iputNum a1 (iputNum_nil a0)) a2; have k4 := iputNum_len (iputNum a2 (iputNum a1 (iputNum_nil a0))) 1; have k5 := iputNum_len (iputNum a2 (iputNum a1 (iputNum_nil a0))) 0; simp only [q_iWordOk, q_iputOps, q_iputNum, hp, Bool.and_true, decide_eq_true_eq] at k1 k2 k3 k4 k5 ⊢ <;> omega) (fun _h => (cndT (by have k1 := iputNum_nil_len a0; have k2 := iputNum_len (iputNum_nil a0) a1; have k3 := iputNum_len (iputNum a1 (iputNum_nil a0)) a2; have k4 := iputNum_len (iputNum a2 (iputNum a1 (iputNum_nil a0))) 1; have k5 := iputNum_len (iputNum a2 (iputNum a1 (iputNum_nil a0))) 0; simp only [q_iWordOk, q_iputOps, q_iputNum, hp, Bool.and_true, decide_eq_true_eq] at k1 k2 k3 k4 k5 ⊢ <;> omega) (fun _h => (cndT (by have k1 := iputNum_nil_len a0; have k2 := iputNum_len (iputNum_nil a0) a1; have k3 := iputNum_len (iputNum a1 (iputNum_nil a0)) a2; have k4 := iputNum_len (iputNum a2 (iputNum a1 (iputNum_nil a0))) 1; have k5 := iputNum_len (iputNum a2 (iputNum a1 (iputNum_nil a0))) 0; simp only [q_iWordOk, q_iputOps, q_iputNum, hp, Bool.and_true, decide_eq_true_eq] at k1 k2 k3 k4 k5 ⊢ <;> omega) (fun _h => (cnd (F := fun r => some (e_iPutWord r)) (fun _h => (cndT (by have k1 := iputNum_nil_len a0; have k2 := iputNum_len (iputNum_nil a0) a1; have k3 := iputNum_len (iputNum a1 (iputNum_nil a0)) a2; have k4 := iputNum_len (iputNum a2 (iputNum a1 (iputNum_nil a0))) 1; have k5 := iputNum_len (iputNum a2 (iputNum a1 (iputNum_nil a0))) 0; simp only [q_iWordOk, q_iputOps, q_iputNum, hp, Bool.and_true, decide_eq_true_eq] at k1 k2 k3 k4 k5 ⊢ <;> omega) (fun _h => rfl))) (fun _h => rfl))))))))) (fun _h => (cndT (by have k1 := iputNum_nil_len a0; have k2 := iputNum_len (iputNum_nil a0) a1; have k3 := iputNum_len (iputNum a1 (iputNum_nil a0)) a2; have k4 := iputNum_len (iputNum a2 (iputNum a1 (iputNum_nil a0))) 1; have k5 := iputNum_len (iputNum a2 (iputNum a1 (iputNum_nil a0))) 0; simp only [q_iWordOk, q_iputOps, q_iputNum, hp, Bool.and_true, decide_eq_true_eq] at k1 k2 k3 k4 k5 ⊢ <;> omega) (fun _h => (cndT (by have k1 := iputNum_nil_len a0; have k2 := iputNum_len (iputNum_nil a0) a1; have k3 := iputNum_len (iputNum a1 (iputNum_nil a0)) a2; have k4 := iputNum_len (iputNum a2 (iputNum a1 (iputNum_nil a0))) 1; have k5 := iputNum_len (iputNum a2 (iputNum a1 (iputNum_nil a0))) 0; simp only [q_iWordOk, q_iputOps, q_iputNum, hp, Bool.and_true, decide_eq_true_eq] at k1 k2 k3 k4 k5 ⊢ <;> omega) (fun _h => (cndT (by have k1 := iputNum_nil_len a0; have k2 := iputNum_len (iputNum_nil a0) a1; have k3 := iputNum_len (iputNum a1 (iputNum_nil a0)) a2; have k4 := iputNum_len (iputNum a2 (iputNum a1 (iputNum_nil a0))) 1; have k5 := iputNum_len (iputNum a2 (iputNum a1 (iputNum_nil a0))) 0; simp only [q_iWordOk, q_iputOps, q_iputNum, hp, Bool.and_true, decide_eq_true_eq] at k1 k2 k3 k4 k5 ⊢ <;> omega) (fun _h => (cnd (F := fun r => some (e_iPutWord r)) (fun _h => (cndT (by have k1 := iputNum_nil_len a0; have k2 := iputNum_len (iputNum_nil a0) a1; have k3 := iputNum_len (iputNum a1 (iputNum_nil a0)) a2; have k4 := iputNum_len (iputNum a2 (iputNum a1 (iputNum_nil a0))) 1; have k5 := iputNum_len (iputNum a2 (iputNum a1 (iputNum_nil a0))) 0; simp only [q_iWordOk, q_iputOps, q_iputNum, hp, Bool.and_true, decide_eq_true_eq] at k1 k2 k3 k4 k5 ⊢ <;> omega) (fun _h => rfl))) (fun _h => rfl))))))))))))))
theorem run_iPutWord : ∀ d, pre_iPutWord d = true → runP false Try.prog tt S30 QF30 (fun _ _ => none) Try.f36 (argsMk P_iPutWord d) = some (g_iPutWord d) := fun d hp => runA_iPutWord d.1.1 d.1.2.1 d.1.2.2.1 d.1.2.2.2.1 d.1.2.2.2.2.1 hp
theorem c_iPutWord : PContract Try.prog 36 (sumOf P_iPutWord pre_iPutWord g_iPutWord) := PContract.of_data false G30 (fn := Try.f36) (by kernel_rfl) (L := fun _ _ => none) (by rw [show loopsIn 0 (bodyOf Try.f36) = [] by kernel_rfl]; simp) P_iPutWord pre_iPutWord g_iPutWord run_iPutWord
noncomputable def S31 : Tab := Tab.add S30 36 (lift (sumOf P_iPutWord pre_iPutWord g_iPutWord))
noncomputable def QF31 : FuncId → Bool := QF30
theorem G31 : Good Try.prog tt S31 QF31 := G30.add c_iPutWord ⟨Try.f36, by kernel_rfl, by kernel_rfl, by kernel_rfl⟩ (by kernel_rfl)

/-! 37 loop.example/g00244/laws.eqByteS -/

noncomputable def f_leqByteS_0 (x0 x1 : List Int) (i : Nat) : Bool := !((x0.getD i (0 : Int)) != (x1.getD i (0 : Int)))
noncomputable abbrev P_leqByteS : List PSh := [.t (.sl (.int .u8)), .t (.sl (.int .u8))]
noncomputable abbrev S_leqByteS_0 : SS := ⟨[.t false (.sl (.int .u8)), .t false (.sl (.int .u8)), .junk, .junk, .junk, .t true (.int .i64), .junk, .junk, .junk, .junk, .junk, .junk, .junk, .junk, .junk, .junk, .junk, .junk, .junk, .junk, .junk, .junk, .junk, .junk, .junk, .junk], []⟩
noncomputable abbrev E_leqByteS_0_0 : SS := ⟨[.junk, .junk, .junk, .junk, .t true .bool, .junk, .junk, .junk, .junk, .junk, .junk, .junk, .junk, .junk, .junk, .junk, .junk, .junk, .junk, .junk, .junk, .junk, .junk, .junk, .junk, .junk], []⟩
noncomputable abbrev E_leqByteS_0_1 : SS := ⟨[.junk, .junk, .junk, .junk, .junk, .junk, .junk, .junk, .junk, .junk, .junk, .junk, .junk, .junk, .junk, .junk, .junk, .junk, .junk, .junk, .junk, .junk, .junk, .junk, .junk, .junk], []⟩
noncomputable def st_leqByteS_0 (x0 : List Int) (x1 : List Int) (x5 : Int) : RT S_leqByteS_0.den := (.br (decide (x5 < ((x0.length : Nat) : Int))) (.br (decide (0 ≤ x5 ∧ x5 < ((x0.length : Nat) : Int))) (.br (decide (0 ≤ x5 ∧ x5 < ((x1.length : Nat) : Int))) (.br ((x0.getD x5.toNat (0 : Int)) != (x1.getD x5.toNat (0 : Int))) (.done .ret E_leqByteS_0_0 (((), (), (), (), false, (), (), (), (), (), (), (), (), (), (), (), (), (), (), (), (), (), (), (), (), (), ()), ())) (.next ((x0, x1, (), (), (), IntKind.wrap .i64 (x5 + (1 : Int)), (), (), (), (), (), (), (), (), (), (), (), (), (), (), (), (), (), (), (), (), ()), ()))) .fail) .fail) (.done (.exit 0) E_leqByteS_0_1 (((), (), (), (), (), (), (), (), (), (), (), (), (), (), (), (), (), (), (), (), (), (), (), (), (), (), ()), ())))
noncomputable def T_leqByteS_0 (x0 : List Int) (x1 : List Int) (x5 : Int) : CT := (.br (decide (0 ≤ x5) && (decide (x0.length = x1.length) && okL x0)) (.br (allF (f_leqByteS_0 x0 x1) (x0.length - x5.toNat) x5.toNat) (.done (.exit 0) E_leqByteS_0_1 (((), (), (), (), (), (), (), (), (), (), (), (), (), (), (), (), (), (), (), (), (), (), (), (), (), (), ()), ())) (.done .ret E_leqByteS_0_0 (((), (), (), (), false, (), (), (), (), (), (), (), (), (), (), (), (), (), (), (), (), (), (), (), (), (), ()), ()))) .fail)
noncomputable abbrev sp_leqByteS_0 : S_leqByteS_0.den → RT S_leqByteS_0.den := fun d => st_leqByteS_0 d.1.1 d.1.2.1 d.1.2.2.2.2.2.1
noncomputable abbrev pk_leqByteS_0 (x0 : List Int) (x1 : List Int) (x5 : Int) : S_leqByteS_0.den := ((x0, x1, (), (), (), x5, (), (), (), (), (), (), (), (), (), (), (), (), (), (), (), (), (), (), (), (), ()), ())
noncomputable def body_leqByteS_0 : Code := ((loopsIn 0 (bodyOf Try.f37)).getD 0 (0, .skip)).2
theorem R_leqByteS_0 (x0 : List Int) (x1 : List Int) (x5 : Int) : (T_leqByteS_0 x0 x1 x5).val (D := S_leqByteS_0.den) = .fail ∨ Runs sp_leqByteS_0 (pk_leqByteS_0 x0 x1 x5) (T_leqByteS_0 x0 x1 x5).val := by
  cases hc : (decide (0 ≤ x5) && (decide (x0.length = x1.length) && okL x0)) with
  | false => left; simp only [T_leqByteS_0, CT.val, hc, cond_false]
  | true =>
    right
    simp only [T_leqByteS_0, CT.val, hc, cond_true]
    simp only [Bool.and_eq_true, decide_eq_true_eq] at hc
    obtain ⟨i, rfl⟩ := Int.eq_ofNat_of_zero_le hc.1
    have hs := okL_le hc.2.2
    simp only [Int.toNat_natCast]
    refine Runs.scan (fun j => pk_leqByteS_0 x0 x1 (j : Int)) (x0.length) (f_leqByteS_0 x0 x1) (fun i hi => ?_) (fun i hi => ?_) ⟨_, _, _, rfl, by simp⟩ ⟨_, _, _, rfl, by simp⟩ _ _ rfl
    · 
      have h0a : decide ((i : Int) < ((x0.length : Nat) : Int)) = true := decide_eq_true (by omega)
      have h0b : decide (0 ≤ (i : Int) ∧ (i : Int) < ((x0.length : Nat) : Int)) = true := decide_eq_true (by omega)
      simp only [sp_leqByteS_0, st_leqByteS_0, RT.val, h0a, h0b, cond_true, wrapS i (by omega), Int.toNat_natCast]
      have h9 : decide (0 ≤ (i : Int) ∧ (i : Int) < ((x1.length : Nat) : Int)) = true := decide_eq_true (by omega)
      simp only [h9, cond_true]
      simp only [f_leqByteS_0]
      generalize ((x0.getD i (0 : Int)) != (x1.getD i (0 : Int))) = c
      cases c <;> rfl
    · have h1 : decide ((i : Int) < ((x0.length : Nat) : Int)) = false := decide_eq_false (by omega)
      simp only [sp_leqByteS_0, st_leqByteS_0, RT.val, h1, cond_false]
theorem rd_leqByteS_0 : ∀ d, execC Try.prog tt S31 QF31 (fun _ _ => none) 0 body_leqByteS_0 (S_leqByteS_0.st d 0 []) (fun e s' => some (e, S_leqByteS_0.cutE (kepts [4] [(0, [])]) e s')) = (sp_leqByteS_0 d).opt 0 [] := by
  intro d
  kernel_rfl
noncomputable abbrev say_leqByteS_0 : St → Option Tree := S_leqByteS_0.say 0 [] [] (fun d => T_leqByteS_0 d.1.1 d.1.2.1 d.1.2.2.2.2.2.1)
theorem lw_leqByteS_0 : LoopWp Try.prog say_leqByteS_0 body_leqByteS_0 := SS.wp G31 (fun _ _ => none) (by rw [show loopsIn 0 body_leqByteS_0 = [] by kernel_rfl]; simp) S_leqByteS_0 0 [] (kepts [4] [(0, [])]) [] sp_leqByteS_0 rd_leqByteS_0 _ (fun d => R_leqByteS_0 d.1.1 d.1.2.1 d.1.2.2.2.2.2.1)
noncomputable def leqByteS (a0 : List Int) (a1 : List Int) : Bool := (cond (((a0.length : Nat) : Int) != ((a1.length : Nat) : Int)) false (cond (allF (f_leqByteS_0 a0 a1) (a0.length - (0 : Int).toNat) (0 : Int).toNat) true false))
noncomputable abbrev e_leqByteS (r : Bool) : AV × List AObj := ((.t true .bool r), [])
noncomputable abbrev g_leqByteS : pshsDen P_leqByteS → AV × List AObj := fun d => e_leqByteS (leqByteS d.1 d.2.1)
noncomputable def q_leqByteS (a0 : List Int) (a1 : List Int) : Bool := okL a0
noncomputable abbrev pre_leqByteS : pshsDen P_leqByteS → Bool := fun d => q_leqByteS d.1 d.2.1
theorem runA_leqByteS (a0 : List Int) (a1 : List Int) (hp : (okL a0) = true) : runP true Try.prog tt S31 QF31 (fun b => match b with | 0 => say_leqByteS_0 | _ => fun _ => none) Try.f37 (argsMk P_leqByteS (a0, (a1, ()))) = some (g_leqByteS (a0, (a1, ()))) := by
  refine Eq.trans (b := (cond (((a0.length : Nat) : Int) != ((a1.length : Nat) : Int)) (some (e_leqByteS false)) (cond (decide (0 ≤ (0 : Int)) && (decide (a0.length = a1.length) && okL a0)) (cond (allF (f_leqByteS_0 a0 a1) (a0.length - (0 : Int).toNat) (0 : Int).toNat) (some (e_leqByteS true)) (some (e_leqByteS false))) none))) (by kernel_rfl) ?_
  exact (cnd (F := fun r => some (e_leqByteS r)) (fun _h => rfl) (fun _h => (cndT (by simp only [okL, Bool.and_eq_true, decide_eq_true_eq] at hp ⊢; simp at _h; exact ⟨Int.le_refl 0, by omega, hp⟩) (fun _h => (cnd (F := fun r => some (e_leqByteS r)) (fun _h => rfl) (fun _h => rfl))))))
theorem run_leqByteS : ∀ d, pre_leqByteS d = true → runP true Try.prog tt S31 QF31 (fun b => match b with | 0 => say_leqByteS_0 | _ => fun _ => none) Try.f37 (argsMk P_leqByteS d) = some (g_leqByteS d) := fun d hp => runA_leqByteS d.1 d.2.1 hp
theorem c_leqByteS : PContract Try.prog 37 (sumOf P_leqByteS pre_leqByteS g_leqByteS) := PContract.of_data true G31 (fn := Try.f37) (by kernel_rfl) (L := fun b => match b with | 0 => say_leqByteS_0 | _ => fun _ => none) (by rw [show loopsIn 0 (bodyOf Try.f37) = [(0, body_leqByteS_0)] by kernel_rfl]; intro p hp; simp only [List.mem_singleton] at hp; subst hp; exact lw_leqByteS_0) P_leqByteS pre_leqByteS g_leqByteS run_leqByteS
noncomputable def S32 : Tab := Tab.add S31 37 (lift (sumOf P_leqByteS pre_leqByteS g_leqByteS))
noncomputable def QF32 : FuncId → Bool := qadd QF31 37
theorem G32 : Good Try.prog tt S32 QF32 := G31.addQ c_leqByteS ⟨Try.f37, by kernel_rfl, by kernel_rfl, by kernel_rfl⟩ (fun _ => rfl)

/-! 111 loop.example/g00244/laws.eqOp -/
noncomputable abbrev P_leqOp : List PSh := [.agg [(.int .i64), .str, .str], .agg [(.int .i64), .str, .str]]
noncomputable def leqOp (a0 : Int) (a1 : ByteArray) (a2 : ByteArray) (a3 : Int) (a4 : ByteArray) (a5 : ByteArray) : Bool := (cond (a0 != a3) false (cond (!(a1.toList == a4.toList)) false (cond (!(a2.toList == a5.toList)) false true)))
noncomputable abbrev e_leqOp (r : Bool) : AV × List AObj := ((.t true .bool r), [])
noncomputable abbrev g_leqOp : pshsDen P_leqOp → AV × List AObj := fun d => e_leqOp (leqOp d.1.1 d.1.2.1 d.1.2.2.1 d.2.1.1 d.2.1.2.1 d.2.1.2.2.1)
noncomputable abbrev pre_leqOp : pshsDen P_leqOp → Bool := fun d => true
theorem runA_leqOp (a0 : Int) (a1 : ByteArray) (a2 : ByteArray) (a3 : Int) (a4 : ByteArray) (a5 : ByteArray) : runP true Try.prog tt S32 QF32 (fun _ _ => none) Try.f111 (argsMk P_leqOp ((a0, (a1, (a2, ()))), ((a3, (a4, (a5, ()))), ()))) = some (g_leqOp ((a0, (a1, (a2, ()))), ((a3, (a4, (a5, ()))), ()))) := by
  refine Eq.trans (b := (cond (a0 != a3) (some (e_leqOp false)) (cond (!(a1.toList == a4.toList)) (some (e_leqOp false)) (cond (!(a2.toList == a5.toList)) (some (e_leqOp false)) (some (e_leqOp true)))))) (by kernel_rfl) ?_
  exact (cnd (F := fun r => some (e_leqOp r)) (fun _h => rfl) (fun _h => (cnd (F := fun r => some (e_leqOp r)) (fun _h => rfl) (fun _h => (cnd (F := fun r => some (e_leqOp r)) (fun _h => rfl) (fun _h => rfl))))))
theorem run_leqOp : ∀ d, pre_leqOp d = true → runP true Try.prog tt S32 QF32 (fun _ _ => none) Try.f111 (argsMk P_leqOp d) = some (g_leqOp d) := fun d hp => runA_leqOp d.1.1 d.1.2.1 d.1.2.2.1 d.2.1.1 d.2.1.2.1 d.2.1.2.2.1
theorem c_leqOp : PContract Try.prog 111 (sumOf P_leqOp pre_leqOp g_leqOp) := PContract.of_data true G32 (fn := Try.f111) (by kernel_rfl) (L := fun _ _ => none) (by rw [show loopsIn 0 (bodyOf Try.f111) = [] by kernel_rfl]; simp) P_leqOp pre_leqOp g_leqOp run_leqOp
noncomputable def S33 : Tab := Tab.add S32 111 (lift (sumOf P_leqOp pre_leqOp g_leqOp))
noncomputable def QF33 : FuncId → Bool := qadd QF32 111
theorem G33 : Good Try.prog tt S33 QF33 := G32.addQ c_leqOp ⟨Try.f111, by kernel_rfl, by kernel_rfl, by kernel_rfl⟩ (fun _ => rfl)

/-! 48 loop.example/g00244/laws.eqOpS -/

noncomputable def f_leqOpS_0 (x0 x1 : List (Int × ByteArray × ByteArray)) (i : Nat) : Bool := !(!(leqOp ((x0.getD i ((0 : Int), ((⟨#[]⟩ : ByteArray), (⟨#[]⟩ : ByteArray)))).1) (((x0.getD i ((0 : Int), ((⟨#[]⟩ : ByteArray), (⟨#[]⟩ : ByteArray)))).2).1) (((x0.getD i ((0 : Int), ((⟨#[]⟩ : ByteArray), (⟨#[]⟩ : ByteArray)))).2).2) ((x1.getD i ((0 : Int), ((⟨#[]⟩ : ByteArray), (⟨#[]⟩ : ByteArray)))).1) (((x1.getD i ((0 : Int), ((⟨#[]⟩ : ByteArray), (⟨#[]⟩ : ByteArray)))).2).1) (((x1.getD i ((0 : Int), ((⟨#[]⟩ : ByteArray), (⟨#[]⟩ : ByteArray)))).2).2)))
noncomputable abbrev P_leqOpS : List PSh := [.t (.sl (.pair (.int .i64) (.pair .str .str))), .t (.sl (.pair (.int .i64) (.pair .str .str)))]
noncomputable abbrev S_leqOpS_0 : SS := ⟨[.t false (.sl (.pair (.int .i64) (.pair .str .str))), .t false (.sl (.pair (.int .i64) (.pair .str .str))), .junk, .junk, .junk, .t true (.int .i64), .junk, .junk, .junk, .junk, .junk, .junk, .junk, .junk, .junk, .junk, .junk, .junk, .junk, .junk, .junk, .junk, .junk, .junk, .junk, .junk, .junk], []⟩
noncomputable abbrev E_leqOpS_0_0 : SS := ⟨[.junk, .junk, .junk, .junk, .t true .bool, .junk, .junk, .junk, .junk, .junk, .junk, .junk, .junk, .junk, .junk, .junk, .junk, .junk, .junk, .junk, .junk, .junk, .junk, .junk, .junk, .junk, .junk], []⟩
noncomputable abbrev E_leqOpS_0_1 : SS := ⟨[.junk, .junk, .junk, .junk, .junk, .junk, .junk, .junk, .junk, .junk, .junk, .junk, .junk, .junk, .junk, .junk, .junk, .junk, .junk, .junk, .junk, .junk, .junk, .junk, .junk, .junk, .junk], []⟩
noncomputable def st_leqOpS_0 (x0 : List (Int × ByteArray × ByteArray)) (x1 : List (Int × ByteArray × ByteArray)) (x5 : Int) : RT S_leqOpS_0.den := (.br (decide (x5 < ((x0.length : Nat) : Int))) (.br (decide (0 ≤ x5 ∧ x5 < ((x0.length : Nat) : Int))) (.br (decide (0 ≤ x5 ∧ x5 < ((x1.length : Nat) : Int))) (.br (!(leqOp ((x0.getD x5.toNat ((0 : Int), ((⟨#[]⟩ : ByteArray), (⟨#[]⟩ : ByteArray)))).1) (((x0.getD x5.toNat ((0 : Int), ((⟨#[]⟩ : ByteArray), (⟨#[]⟩ : ByteArray)))).2).1) (((x0.getD x5.toNat ((0 : Int), ((⟨#[]⟩ : ByteArray), (⟨#[]⟩ : ByteArray)))).2).2) ((x1.getD x5.toNat ((0 : Int), ((⟨#[]⟩ : ByteArray), (⟨#[]⟩ : ByteArray)))).1) (((x1.getD x5.toNat ((0 : Int), ((⟨#[]⟩ : ByteArray), (⟨#[]⟩ : ByteArray)))).2).1) (((x1.getD x5.toNat ((0 : Int), ((⟨#[]⟩ : ByteArray), (⟨#[]⟩ : ByteArray)))).2).2))) (.done .ret E_leqOpS_0_0 (((), (), (), (), false, (), (), (), (), (), (), (), (), (), (), (), (), (), (), (), (), (), (), (), (), (), (), ()), ())) (.next ((x0, x1, (), (), (), IntKind.wrap .i64 (x5 + (1 : Int)), (), (), (), (), (), (), (), (), (), (), (), (), (), (), (), (), (), (), (), (), (), ()), ()))) .fail) .fail) (.done (.exit 0) E_leqOpS_0_1 (((), (), (), (), (), (), (), (), (), (), (), (), (), (), (), (), (), (), (), (), (), (), (), (), (), (), (), ()), ())))
noncomputable def T_leqOpS_0 (x0 : List (Int × ByteArray × ByteArray)) (x1 : List (Int × ByteArray × ByteArray)) (x5 : Int) : CT := (.br (decide (0 ≤ x5) && (decide (x0.length = x1.length) && okL x0)) (.br (allF (f_leqOpS_0 x0 x1) (x0.length - x5.toNat) x5.toNat) (.done (.exit 0) E_leqOpS_0_1 (((), (), (), (), (), (), (), (), (), (), (), (), (), (), (), (), (), (), (), (), (), (), (), (), (), (), (), ()), ())) (.done .ret E_leqOpS_0_0 (((), (), (), (), false, (), (), (), (), (), (), (), (), (), (), (), (), (), (), (), (), (), (), (), (), (), (), ()), ()))) .fail)
noncomputable abbrev sp_leqOpS_0 : S_leqOpS_0.den → RT S_leqOpS_0.den := fun d => st_leqOpS_0 d.1.1 d.1.2.1 d.1.2.2.2.2.2.1
noncomputable abbrev pk_leqOpS_0 (x0 : List (Int × ByteArray × ByteArray)) (x1 : List (Int × ByteArray × ByteArray)) (x5 : Int) : S_leqOpS_0.den := ((x0, x1, (), (), (), x5, (), (), (), (), (), (), (), (), (), (), (), (), (), (), (), (), (), (), (), (), (), ()), ())
noncomputable def body_leqOpS_0 : Code := ((loopsIn 0 (bodyOf Try.f48)).getD 0 (0, .skip)).2
theorem R_leqOpS_0 (x0 : List (Int × ByteArray × ByteArray)) (x1 : List (Int × ByteArray × ByteArray)) (x5 : Int) : (T_leqOpS_0 x0 x1 x5).val (D := S_leqOpS_0.den) = .fail ∨ Runs sp_leqOpS_0 (pk_leqOpS_0 x0 x1 x5) (T_leqOpS_0 x0 x1 x5).val := by
  cases hc : (decide (0 ≤ x5) && (decide (x0.length = x1.length) && okL x0)) with
  | false => left; simp only [T_leqOpS_0, CT.val, hc, cond_false]
  | true =>
    right
    simp only [T_leqOpS_0, CT.val, hc, cond_true]
    simp only [Bool.and_eq_true, decide_eq_true_eq] at hc
    obtain ⟨i, rfl⟩ := Int.eq_ofNat_of_zero_le hc.1
    have hs := okL_le hc.2.2
    simp only [Int.toNat_natCast]
    refine Runs.scan (fun j => pk_leqOpS_0 x0 x1 (j : Int)) (x0.length) (f_leqOpS_0 x0 x1) (fun i hi => ?_) (fun i hi => ?_) ⟨_, _, _, rfl, by simp⟩ ⟨_, _, _, rfl, by simp⟩ _ _ rfl
    · 
      have h0a : decide ((i : Int) < ((x0.length : Nat) : Int)) = true := decide_eq_true (by omega)
      have h0b : decide (0 ≤ (i : Int) ∧ (i : Int) < ((x0.length : Nat) : Int)) = true := decide_eq_true (by omega)
      simp only [sp_leqOpS_0, st_leqOpS_0, RT.val, h0a, h0b, cond_true, wrapS i (by omega), Int.toNat_natCast]
      have h9 : decide (0 ≤ (i : Int) ∧ (i : Int) < ((x1.length : Nat) : Int)) = true := decide_eq_true (by omega)
      simp only [h9, cond_true]
      simp only [f_leqOpS_0]
      generalize (!(leqOp ((x0.getD i ((0 : Int), ((⟨#[]⟩ : ByteArray), (⟨#[]⟩ : ByteArray)))).1) (((x0.getD i ((0 : Int), ((⟨#[]⟩ : ByteArray), (⟨#[]⟩ : ByteArray)))).2).1) (((x0.getD i ((0 : Int), ((⟨#[]⟩ : ByteArray), (⟨#[]⟩ : ByteArray)))).2).2) ((x1.getD i ((0 : Int), ((⟨#[]⟩ : ByteArray), (⟨#[]⟩ : ByteArray)))).1) (((x1.getD i ((0 : Int), ((⟨#[]⟩ : ByteArray), (⟨#[]⟩ : ByteArray)))).2).1) (((x1.getD i ((0 : Int), ((⟨#[]⟩ : ByteArray), (⟨#[]⟩ : ByteArray)))).2).2))) = c
      cases c <;> rfl
    · have h1 : decide ((i : Int) < ((x0.length : Nat) : Int)) = false := decide_eq_false (by omega)
      simp only [sp_leqOpS_0, st_leqOpS_0, RT.val, h1, cond_false]
theorem rd_leqOpS_0 : ∀ d, execC Try.prog tt S33 QF33 (fun _ _ => none) 0 body_leqOpS_0 (S_leqOpS_0.st d 0 []) (fun e s' => some (e, S_leqOpS_0.cutE (kepts [4] [(0, [])]) e s')) = (sp_leqOpS_0 d).opt 0 [] := by
  intro d
  kernel_rfl
noncomputable abbrev say_leqOpS_0 : St → Option Tree := S_leqOpS_0.say 0 [] [] (fun d => T_leqOpS_0 d.1.1 d.1.2.1 d.1.2.2.2.2.2.1)
theorem lw_leqOpS_0 : LoopWp Try.prog say_leqOpS_0 body_leqOpS_0 := SS.wp G33 (fun _ _ => none) (by rw [show loopsIn 0 body_leqOpS_0 = [] by kernel_rfl]; simp) S_leqOpS_0 0 [] (kepts [4] [(0, [])]) [] sp_leqOpS_0 rd_leqOpS_0 _ (fun d => R_leqOpS_0 d.1.1 d.1.2.1 d.1.2.2.2.2.2.1)
noncomputable def leqOpS (a0 : List (Int × ByteArray × ByteArray)) (a1 : List (Int × ByteArray × ByteArray)) : Bool := (cond (((a0.length : Nat) : Int) != ((a1.length : Nat) : Int)) false (cond (allF (f_leqOpS_0 a0 a1) (a0.length - (0 : Int).toNat) (0 : Int).toNat) true false))
noncomputable abbrev e_leqOpS (r : Bool) : AV × List AObj := ((.t true .bool r), [])
noncomputable abbrev g_leqOpS : pshsDen P_leqOpS → AV × List AObj := fun d => e_leqOpS (leqOpS d.1 d.2.1)
noncomputable def q_leqOpS (a0 : List (Int × ByteArray × ByteArray)) (a1 : List (Int × ByteArray × ByteArray)) : Bool := okL a0
noncomputable abbrev pre_leqOpS : pshsDen P_leqOpS → Bool := fun d => q_leqOpS d.1 d.2.1
theorem runA_leqOpS (a0 : List (Int × ByteArray × ByteArray)) (a1 : List (Int × ByteArray × ByteArray)) (hp : (okL a0) = true) : runP true Try.prog tt S33 QF33 (fun b => match b with | 0 => say_leqOpS_0 | _ => fun _ => none) Try.f48 (argsMk P_leqOpS (a0, (a1, ()))) = some (g_leqOpS (a0, (a1, ()))) := by
  refine Eq.trans (b := (cond (((a0.length : Nat) : Int) != ((a1.length : Nat) : Int)) (some (e_leqOpS false)) (cond (decide (0 ≤ (0 : Int)) && (decide (a0.length = a1.length) && okL a0)) (cond (allF (f_leqOpS_0 a0 a1) (a0.length - (0 : Int).toNat) (0 : Int).toNat) (some (e_leqOpS true)) (some (e_leqOpS false))) none))) (by kernel_rfl) ?_
  exact (cnd (F := fun r => some (e_leqOpS r)) (fun _h => rfl) (fun _h => (cndT (by simp only [okL, Bool.and_eq_true, decide_eq_true_eq] at hp ⊢; simp at _h; exact ⟨Int.le_refl 0, by omega, hp⟩) (fun _h => (cnd (F := fun r => some (e_leqOpS r)) (fun _h => rfl) (fun _h => rfl))))))
theorem run_leqOpS : ∀ d, pre_leqOpS d = true → runP true Try.prog tt S33 QF33 (fun b => match b with | 0 => say_leqOpS_0 | _ => fun _ => none) Try.f48 (argsMk P_leqOpS d) = some (g_leqOpS d) := fun d hp => runA_leqOpS d.1 d.2.1 hp
theorem c_leqOpS : PContract Try.prog 48 (sumOf P_leqOpS pre_leqOpS g_leqOpS) := PContract.of_data true G33 (fn := Try.f48) (by kernel_rfl) (L := fun b => match b with | 0 => say_leqOpS_0 | _ => fun _ => none) (by rw [show loopsIn 0 (bodyOf Try.f48) = [(0, body_leqOpS_0)] by kernel_rfl]; intro p hp; simp only [List.mem_singleton] at hp; subst hp; exact lw_leqOpS_0) P_leqOpS pre_leqOpS g_leqOpS run_leqOpS
noncomputable def S34 : Tab := Tab.add S33 48 (lift (sumOf P_leqOpS pre_leqOpS g_leqOpS))
noncomputable def QF34 : FuncId → Bool := qadd QF33 48
theorem G34 : Good Try.prog tt S34 QF34 := G33.addQ c_leqOpS ⟨Try.f48, by kernel_rfl, by kernel_rfl, by kernel_rfl⟩ (fun _ => rfl)

/-! 24 loop.example/g00244/laws.eqWord -/
noncomputable abbrev P_leqWord : List PSh := [.agg [(.int .i64), (.int .i64), (.int .i64), (.sl (.pair (.int .i64) (.pair .str .str))), .bool], .agg [(.int .i64), (.int .i64), (.int .i64), (.sl (.pair (.int .i64) (.pair .str .str))), .bool]]
noncomputable def leqWord (a0 : Int) (a1 : Int) (a2 : Int) (a3 : List (Int × ByteArray × ByteArray)) (a4 : Bool) (a5 : Int) (a6 : Int) (a7 : Int) (a8 : List (Int × ByteArray × ByteArray)) (a9 : Bool) : Bool := (cond (a0 != a5) false (cond (a1 != a6) false (cond (a2 != a7) false (cond (!(leqOpS a3 a8)) false (cond (!(a4 == a9)) false true)))))
noncomputable abbrev e_leqWord (r : Bool) : AV × List AObj := ((.t true .bool r), [])
noncomputable abbrev g_leqWord : pshsDen P_leqWord → AV × List AObj := fun d => e_leqWord (leqWord d.1.1 d.1.2.1 d.1.2.2.1 d.1.2.2.2.1 d.1.2.2.2.2.1 d.2.1.1 d.2.1.2.1 d.2.1.2.2.1 d.2.1.2.2.2.1 d.2.1.2.2.2.2.1)
noncomputable def q_leqWord (a0 : Int) (a1 : Int) (a2 : Int) (a3 : List (Int × ByteArray × ByteArray)) (a4 : Bool) (a5 : Int) (a6 : Int) (a7 : Int) (a8 : List (Int × ByteArray × ByteArray)) (a9 : Bool) : Bool := okL a3
noncomputable abbrev pre_leqWord : pshsDen P_leqWord → Bool := fun d => q_leqWord d.1.1 d.1.2.1 d.1.2.2.1 d.1.2.2.2.1 d.1.2.2.2.2.1 d.2.1.1 d.2.1.2.1 d.2.1.2.2.1 d.2.1.2.2.2.1 d.2.1.2.2.2.2.1
theorem runA_leqWord (a0 : Int) (a1 : Int) (a2 : Int) (a3 : List (Int × ByteArray × ByteArray)) (a4 : Bool) (a5 : Int) (a6 : Int) (a7 : Int) (a8 : List (Int × ByteArray × ByteArray)) (a9 : Bool) (hp : (okL a3) = true) : runP true Try.prog tt S34 QF34 (fun _ _ => none) Try.f24 (argsMk P_leqWord ((a0, (a1, (a2, (a3, (a4, ()))))), ((a5, (a6, (a7, (a8, (a9, ()))))), ()))) = some (g_leqWord ((a0, (a1, (a2, (a3, (a4, ()))))), ((a5, (a6, (a7, (a8, (a9, ()))))), ()))) := by
  refine Eq.trans (b := (cond (a0 != a5) (some (e_leqWord false)) (cond (a1 != a6) (some (e_leqWord false)) (cond (a2 != a7) (some (e_leqWord false)) (cond (q_leqOpS a3 a8) (cond (!(leqOpS a3 a8)) (some (e_leqWord false)) (cond (!(a4 == a9)) (some (e_leqWord false)) (some (e_leqWord true)))) none))))) (by kernel_rfl) ?_
  exact (cnd (F := fun r => some (e_leqWord r)) (fun _h => rfl) (fun _h => (cnd (F := fun r => some (e_leqWord r)) (fun _h => rfl) (fun _h => (cnd (F := fun r => some (e_leqWord r)) (fun _h => rfl) (fun _h => (cndT (by first | rfl | decide | exact hp | (simp only [Bool.and_eq_true] at hp; simp only [hp]; done) | (simp [*]; done) | (simp [okL] at hp; simp [okL, MAXB]; omega) | (simp_all; done) | (simp at *; omega)) (fun _h => (cnd (F := fun r => some (e_leqWord r)) (fun _h => rfl) (fun _h => (cnd (F := fun r => some (e_leqWord r)) (fun _h => rfl) (fun _h => rfl))))))))))))
theorem run_leqWord : ∀ d, pre_leqWord d = true → runP true Try.prog tt S34 QF34 (fun _ _ => none) Try.f24 (argsMk P_leqWord d) = some (g_leqWord d) := fun d hp => runA_leqWord d.1.1 d.1.2.1 d.1.2.2.1 d.1.2.2.2.1 d.1.2.2.2.2.1 d.2.1.1 d.2.1.2.1 d.2.1.2.2.1 d.2.1.2.2.2.1 d.2.1.2.2.2.2.1 hp
theorem c_leqWord : PContract Try.prog 24 (sumOf P_leqWord pre_leqWord g_leqWord) := PContract.of_data true G34 (fn := Try.f24) (by kernel_rfl) (L := fun _ _ => none) (by rw [show loopsIn 0 (bodyOf Try.f24) = [] by kernel_rfl]; simp) P_leqWord pre_leqWord g_leqWord run_leqWord
noncomputable def S35 : Tab := Tab.add S34 24 (lift (sumOf P_leqWord pre_leqWord g_leqWord))
noncomputable def QF35 : FuncId → Bool := qadd QF34 24
theorem G35 : Good Try.prog tt S35 QF35 := G34.addQ c_leqWord ⟨Try.f24, by kernel_rfl, by kernel_rfl, by kernel_rfl⟩ (fun _ => rfl)

/-! 112 loop.example/g00244/laws.markText -/
noncomputable abbrev P_lmarkText : List PSh := [.t (.int .i64)]
noncomputable abbrev S_lmarkText_0 : SS := ⟨[.t true (.int .i64), .junk, .junk, .t true .str, .junk, .junk, .junk, .junk, .junk, .junk, .junk, .junk, .junk, .junk, .junk, .junk, .junk, .junk, .junk, .junk], []⟩
noncomputable abbrev E_lmarkText_0_0 : SS := ⟨[.junk, .junk, .junk, .t true .str, .junk, .junk, .junk, .junk, .junk, .junk, .junk, .junk, .junk, .junk, .junk, .junk, .junk, .junk, .junk, .junk], []⟩
noncomputable def st_lmarkText_0 (x0 : Int) (x3 : ByteArray) : RT S_lmarkText_0.den := (.br (decide (x0 > (0 : Int))) (.br (decide ((((⟨([IntKind.wrap .u8 (IntKind.wrap .i64 ((48 : Int) + (Int.tmod x0 (10 : Int))))].map fun n => UInt8.ofNat n.toNat).toArray⟩ : ByteArray).size + x3.size : Nat) : Int) ≤ IntKind.i64.max)) (.next ((IntKind.wrap .i64 (Int.tdiv x0 (10 : Int)), (), (), (⟨([IntKind.wrap .u8 (IntKind.wrap .i64 ((48 : Int) + (Int.tmod x0 (10 : Int))))].map fun n => UInt8.ofNat n.toNat).toArray⟩ : ByteArray) ++ x3, (), (), (), (), (), (), (), (), (), (), (), (), (), (), (), (), ()), ())) .fail) (.done (.exit 0) E_lmarkText_0_0 (((), (), (), x3, (), (), (), (), (), (), (), (), (), (), (), (), (), (), (), (), ()), ())))
noncomputable def T_lmarkText_0 (x0 : Int) (x3 : ByteArray) : CT := (.br (decide (x0 ≤ 1000000000000) && decide (x3.size ≤ 1000)) (.done (.exit 0) E_lmarkText_0_0 (((), (), (), (txtN 13 x0 x3), (), (), (), (), (), (), (), (), (), (), (), (), (), (), (), (), ()), ())) .fail)
noncomputable abbrev sp_lmarkText_0 : S_lmarkText_0.den → RT S_lmarkText_0.den := fun d => st_lmarkText_0 d.1.1 d.1.2.2.2.1
noncomputable abbrev pk_lmarkText_0 (x0 : Int) (x3 : ByteArray) : S_lmarkText_0.den := ((x0, (), (), x3, (), (), (), (), (), (), (), (), (), (), (), (), (), (), (), (), ()), ())
noncomputable def body_lmarkText_0 : Code := ((loopsIn 0 (bodyOf Try.f112)).getD 0 (0, .skip)).2
theorem R_lmarkText_0 (x0 : Int) (x3 : ByteArray) : (T_lmarkText_0 x0 x3).val (D := S_lmarkText_0.den) = .fail ∨ Runs sp_lmarkText_0 (pk_lmarkText_0 x0 x3) (T_lmarkText_0 x0 x3).val := by
  cases hc : (decide (x0 ≤ 1000000000000) && decide (x3.size ≤ 1000)) with
  | false => left; simp only [T_lmarkText_0, CT.val, hc, cond_false]
  | true =>
    right
    simp only [T_lmarkText_0, CT.val, hc, cond_true]
    simp only [Bool.and_eq_true, decide_eq_true_eq] at hc
    have key : ∀ (k : Nat) (x : Int) (s : ByteArray), x < 10 ^ k → x ≤ 1000000000000 → s.size + k ≤ 2000 → Runs sp_lmarkText_0 (pk_lmarkText_0 x s) (((.done (.exit 0) E_lmarkText_0_0 (((), (), (), (txtN k x s), (), (), (), (), (), (), (), (), (), (), (), (), (), (), (), (), ()), ())) : CT).val (D := S_lmarkText_0.den)) := by
      intro k
      induction k with
      | zero =>
        intro x s h1 h2 h3
        rw [show (10 : Int) ^ 0 = 1 from rfl] at h1
        have e1 : decide (x > (0 : Int)) = false := decide_eq_false (by omega)
        refine .done (by simp) ?_
        simp only [sp_lmarkText_0, st_lmarkText_0, RT.val, e1, cond_false, txtN]
      | succ k ih =>
        intro x s h1 h2 h3
        rw [Int.pow_succ] at h1
        by_cases hx : x > 0
        · have e1 : decide (x > (0 : Int)) = true := decide_eq_true hx
          have e2 : decide ((((digB x).size + s.size : Nat) : Int) ≤ IntKind.i64.max) = true := decide_eq_true (by rw [digB_size, show IntKind.i64.max = 9223372036854775807 from rfl]; omega)
          have e4 : Int.tdiv x (10 : Int) = x / 10 := Int.tdiv_eq_ediv_of_nonneg (by omega)
          have e5 : IntKind.wrap .i64 (Int.tdiv x (10 : Int)) = x / 10 := by rw [e4]; exact wrap64 (by omega) (by omega)
          have := ih (IntKind.wrap .i64 (Int.tdiv x (10 : Int))) (digB x ++ s) (by rw [e5]; omega) (by rw [e5]; omega) (by rw [ByteArray.size_append, digB_size]; omega)
          refine .next (d' := pk_lmarkText_0 (IntKind.wrap .i64 (Int.tdiv x (10 : Int))) (digB x ++ s)) ?_ ?_
          · have e6 : (sp_lmarkText_0 (pk_lmarkText_0 x s)).val = cond (decide ((((digB x).size + s.size : Nat) : Int) ≤ IntKind.i64.max)) (.next (pk_lmarkText_0 (IntKind.wrap .i64 (Int.tdiv x (10 : Int))) (digB x ++ s))) .fail := by
              simp only [sp_lmarkText_0, st_lmarkText_0, RT.val, e1, cond_true]; rfl
            rw [e6, e2]; rfl
          · have e3 : txtN (k + 1) x s = txtN k (IntKind.wrap .i64 (Int.tdiv x (10 : Int))) (digB x ++ s) := by simp only [txtN, e1, cond_true]
            rw [e3]
            exact this
        · have e1 : decide (x > (0 : Int)) = false := decide_eq_false hx
          refine .done (by simp) ?_
          simp only [sp_lmarkText_0, st_lmarkText_0, RT.val, e1, cond_false, txtN]
    exact key 13 x0 x3 (by have := hc.1; rw [show (10 : Int) ^ 13 = 10000000000000 from rfl]; omega) hc.1 (by have := hc.2; omega)
theorem rd_lmarkText_0 : ∀ d, execC Try.prog tt S35 QF35 (fun _ _ => none) 0 body_lmarkText_0 (S_lmarkText_0.st d 0 []) (fun e s' => some (e, S_lmarkText_0.cutE (kepts [] [(0, [3])]) e s')) = (sp_lmarkText_0 d).opt 0 [] := by
  intro d
  kernel_rfl
noncomputable abbrev say_lmarkText_0 : St → Option Tree := S_lmarkText_0.say 0 [] [] (fun d => T_lmarkText_0 d.1.1 d.1.2.2.2.1)
theorem lw_lmarkText_0 : LoopWp Try.prog say_lmarkText_0 body_lmarkText_0 := SS.wp G35 (fun _ _ => none) (by rw [show loopsIn 0 body_lmarkText_0 = [] by kernel_rfl]; simp) S_lmarkText_0 0 [] (kepts [] [(0, [3])]) [] sp_lmarkText_0 rd_lmarkText_0 _ (fun d => R_lmarkText_0 d.1.1 d.1.2.2.2.1)
noncomputable def lmarkText (a0 : Int) : ByteArray := (cond (decide (a0 ≤ (0 : Int))) (⟨#[109, 48]⟩ : ByteArray) ((⟨#[109]⟩ : ByteArray) ++ (txtN 13 a0 (⟨#[]⟩ : ByteArray))))
noncomputable abbrev e_lmarkText (r : ByteArray) : AV × List AObj := ((.t true .str r), [])
noncomputable abbrev g_lmarkText : pshsDen P_lmarkText → AV × List AObj := fun d => e_lmarkText (lmarkText d.1)
noncomputable def q_lmarkText (a0 : Int) : Bool := decide (a0 ≤ 1000000000000)
noncomputable abbrev pre_lmarkText : pshsDen P_lmarkText → Bool := fun d => q_lmarkText d.1
theorem runA_lmarkText (a0 : Int) (hp : (decide (a0 ≤ 1000000000000)) = true) : runP true Try.prog tt S35 QF35 (fun b => match b with | 0 => say_lmarkText_0 | _ => fun _ => none) Try.f112 (argsMk P_lmarkText (a0, ())) = some (g_lmarkText (a0, ())) := by
  refine Eq.trans (b := (cond (decide (a0 ≤ (0 : Int))) (some (e_lmarkText (⟨#[109, 48]⟩ : ByteArray))) (cond (decide (a0 ≤ 1000000000000) && decide ((⟨#[]⟩ : ByteArray).size ≤ 1000)) (cond (decide ((((⟨#[109]⟩ : ByteArray).size + (txtN 13 a0 (⟨#[]⟩ : ByteArray)).size : Nat) : Int) ≤ IntKind.i64.max)) (some (e_lmarkText ((⟨#[109]⟩ : ByteArray) ++ (txtN 13 a0 (⟨#[]⟩ : ByteArray))))) none) none))) (by kernel_rfl) ?_
  exact (cnd (F := fun r => some (e_lmarkText r)) (fun _h => rfl) (fun _h => (cndT (by rw [hp]; rfl) (fun _h => (cndT (by have h1 := txtN_len 13 a0 (⟨#[]⟩ : ByteArray); rw [decide_eq_true_eq]; have h2 : ((⟨#[]⟩ : ByteArray)).size = 0 := rfl; have h3 : ((⟨#[109]⟩ : ByteArray)).size = 1 := rfl; rw [h2] at h1; rw [h3, show IntKind.i64.max = 9223372036854775807 from rfl]; omega) (fun _h => rfl))))))
theorem run_lmarkText : ∀ d, pre_lmarkText d = true → runP true Try.prog tt S35 QF35 (fun b => match b with | 0 => say_lmarkText_0 | _ => fun _ => none) Try.f112 (argsMk P_lmarkText d) = some (g_lmarkText d) := fun d hp => runA_lmarkText d.1 hp
theorem c_lmarkText : PContract Try.prog 112 (sumOf P_lmarkText pre_lmarkText g_lmarkText) := PContract.of_data true G35 (fn := Try.f112) (by kernel_rfl) (L := fun b => match b with | 0 => say_lmarkText_0 | _ => fun _ => none) (by rw [show loopsIn 0 (bodyOf Try.f112) = [(0, body_lmarkText_0)] by kernel_rfl]; intro p hp; simp only [List.mem_singleton] at hp; subst hp; exact lw_lmarkText_0) P_lmarkText pre_lmarkText g_lmarkText run_lmarkText
noncomputable def S36 : Tab := Tab.add S35 112 (lift (sumOf P_lmarkText pre_lmarkText g_lmarkText))
noncomputable def QF36 : FuncId → Bool := qadd QF35 112
theorem G36 : Good Try.prog tt S36 QF36 := G35.addQ c_lmarkText ⟨Try.f112, by kernel_rfl, by kernel_rfl, by kernel_rfl⟩ (fun _ => rfl)

/-! 50 loop.example/g00244/laws.markOpS -/

noncomputable def f_lmarkOpS_0 (i : Nat) (b : Int × List (Int × ByteArray × ByteArray)) : Int × List (Int × ByteArray × ByteArray) := (IntKind.wrap .i64 ((IntKind.wrap .i64 ((IntKind.wrap .i64 (b.1 + (1 : Int))) + (1 : Int))) + (1 : Int)), ((b.2.set i (b.1, (((b.2.getD i ((0 : Int), ((⟨#[]⟩ : ByteArray), (⟨#[]⟩ : ByteArray)))).2).1, ((b.2.getD i ((0 : Int), ((⟨#[]⟩ : ByteArray), (⟨#[]⟩ : ByteArray)))).2).2))).set i (((b.2.set i (b.1, (((b.2.getD i ((0 : Int), ((⟨#[]⟩ : ByteArray), (⟨#[]⟩ : ByteArray)))).2).1, ((b.2.getD i ((0 : Int), ((⟨#[]⟩ : ByteArray), (⟨#[]⟩ : ByteArray)))).2).2))).getD i ((0 : Int), ((⟨#[]⟩ : ByteArray), (⟨#[]⟩ : ByteArray)))).1, ((lmarkText (IntKind.wrap .i64 (b.1 + (1 : Int)))), (((b.2.set i (b.1, (((b.2.getD i ((0 : Int), ((⟨#[]⟩ : ByteArray), (⟨#[]⟩ : ByteArray)))).2).1, ((b.2.getD i ((0 : Int), ((⟨#[]⟩ : ByteArray), (⟨#[]⟩ : ByteArray)))).2).2))).getD i ((0 : Int), ((⟨#[]⟩ : ByteArray), (⟨#[]⟩ : ByteArray)))).2).2))).set i ((((b.2.set i (b.1, (((b.2.getD i ((0 : Int), ((⟨#[]⟩ : ByteArray), (⟨#[]⟩ : ByteArray)))).2).1, ((b.2.getD i ((0 : Int), ((⟨#[]⟩ : ByteArray), (⟨#[]⟩ : ByteArray)))).2).2))).set i (((b.2.set i (b.1, (((b.2.getD i ((0 : Int), ((⟨#[]⟩ : ByteArray), (⟨#[]⟩ : ByteArray)))).2).1, ((b.2.getD i ((0 : Int), ((⟨#[]⟩ : ByteArray), (⟨#[]⟩ : ByteArray)))).2).2))).getD i ((0 : Int), ((⟨#[]⟩ : ByteArray), (⟨#[]⟩ : ByteArray)))).1, ((lmarkText (IntKind.wrap .i64 (b.1 + (1 : Int)))), (((b.2.set i (b.1, (((b.2.getD i ((0 : Int), ((⟨#[]⟩ : ByteArray), (⟨#[]⟩ : ByteArray)))).2).1, ((b.2.getD i ((0 : Int), ((⟨#[]⟩ : ByteArray), (⟨#[]⟩ : ByteArray)))).2).2))).getD i ((0 : Int), ((⟨#[]⟩ : ByteArray), (⟨#[]⟩ : ByteArray)))).2).2))).getD i ((0 : Int), ((⟨#[]⟩ : ByteArray), (⟨#[]⟩ : ByteArray)))).1, (((((b.2.set i (b.1, (((b.2.getD i ((0 : Int), ((⟨#[]⟩ : ByteArray), (⟨#[]⟩ : ByteArray)))).2).1, ((b.2.getD i ((0 : Int), ((⟨#[]⟩ : ByteArray), (⟨#[]⟩ : ByteArray)))).2).2))).set i (((b.2.set i (b.1, (((b.2.getD i ((0 : Int), ((⟨#[]⟩ : ByteArray), (⟨#[]⟩ : ByteArray)))).2).1, ((b.2.getD i ((0 : Int), ((⟨#[]⟩ : ByteArray), (⟨#[]⟩ : ByteArray)))).2).2))).getD i ((0 : Int), ((⟨#[]⟩ : ByteArray), (⟨#[]⟩ : ByteArray)))).1, ((lmarkText (IntKind.wrap .i64 (b.1 + (1 : Int)))), (((b.2.set i (b.1, (((b.2.getD i ((0 : Int), ((⟨#[]⟩ : ByteArray), (⟨#[]⟩ : ByteArray)))).2).1, ((b.2.getD i ((0 : Int), ((⟨#[]⟩ : ByteArray), (⟨#[]⟩ : ByteArray)))).2).2))).getD i ((0 : Int), ((⟨#[]⟩ : ByteArray), (⟨#[]⟩ : ByteArray)))).2).2))).getD i ((0 : Int), ((⟨#[]⟩ : ByteArray), (⟨#[]⟩ : ByteArray)))).2).1, (lmarkText (IntKind.wrap .i64 ((IntKind.wrap .i64 (b.1 + (1 : Int))) + (1 : Int)))))))
noncomputable abbrev SM_lmarkOpS : SS := ⟨[.all 0 3, .t true (.int .i64)], [.rows 85 true (.pair (.int .i64) (.pair .str .str))]⟩
noncomputable abbrev S_lmarkOpS_0 : SS := ⟨[.all 0 3, .t true (.int .i64), .junk, .junk, .junk, .t true (.int .i64), .junk, .junk, .junk, .junk, .junk, .junk, .junk, .junk, .junk, .junk, .junk, .junk, .junk, .junk, .junk, .junk, .junk, .junk, .junk, .junk, .junk, .junk, .junk, .junk, .junk, .junk, .junk, .junk, .junk, .junk], [.rows 85 true (.pair (.int .i64) (.pair .str .str))]⟩
noncomputable abbrev E_lmarkOpS_0_0 : SS := ⟨[.junk, .t true (.int .i64), .junk, .junk, .junk, .junk, .junk, .junk, .junk, .junk, .junk, .junk, .junk, .junk, .junk, .junk, .junk, .junk, .junk, .junk, .junk, .junk, .junk, .junk, .junk, .junk, .junk, .junk, .junk, .junk, .junk, .junk, .junk, .junk, .junk, .junk], [.rows 85 true (.pair (.int .i64) (.pair .str .str))]⟩
noncomputable def st_lmarkOpS_0 (x1 : Int) (x5 : Int) (h0 : List (Int × ByteArray × ByteArray)) : RT S_lmarkOpS_0.den := (.br (decide (x5 < ((h0.length : Nat) : Int))) (.br (decide (0 ≤ x5 ∧ x5 < ((h0.length : Nat) : Int))) (.br (q_lmarkText (IntKind.wrap .i64 (x1 + (1 : Int)))) (.br (decide (0 ≤ x5 ∧ x5 < (((h0.set x5.toNat (x1, (((h0.getD x5.toNat ((0 : Int), ((⟨#[]⟩ : ByteArray), (⟨#[]⟩ : ByteArray)))).2).1, ((h0.getD x5.toNat ((0 : Int), ((⟨#[]⟩ : ByteArray), (⟨#[]⟩ : ByteArray)))).2).2))).length : Nat) : Int))) (.br (q_lmarkText (IntKind.wrap .i64 ((IntKind.wrap .i64 (x1 + (1 : Int))) + (1 : Int)))) (.br (decide (0 ≤ x5 ∧ x5 < ((((h0.set x5.toNat (x1, (((h0.getD x5.toNat ((0 : Int), ((⟨#[]⟩ : ByteArray), (⟨#[]⟩ : ByteArray)))).2).1, ((h0.getD x5.toNat ((0 : Int), ((⟨#[]⟩ : ByteArray), (⟨#[]⟩ : ByteArray)))).2).2))).set x5.toNat (((h0.set x5.toNat (x1, (((h0.getD x5.toNat ((0 : Int), ((⟨#[]⟩ : ByteArray), (⟨#[]⟩ : ByteArray)))).2).1, ((h0.getD x5.toNat ((0 : Int), ((⟨#[]⟩ : ByteArray), (⟨#[]⟩ : ByteArray)))).2).2))).getD x5.toNat ((0 : Int), ((⟨#[]⟩ : ByteArray), (⟨#[]⟩ : ByteArray)))).1, ((lmarkText (IntKind.wrap .i64 (x1 + (1 : Int)))), (((h0.set x5.toNat (x1, (((h0.getD x5.toNat ((0 : Int), ((⟨#[]⟩ : ByteArray), (⟨#[]⟩ : ByteArray)))).2).1, ((h0.getD x5.toNat ((0 : Int), ((⟨#[]⟩ : ByteArray), (⟨#[]⟩ : ByteArray)))).2).2))).getD x5.toNat ((0 : Int), ((⟨#[]⟩ : ByteArray), (⟨#[]⟩ : ByteArray)))).2).2))).length : Nat) : Int))) (.next (((), IntKind.wrap .i64 ((IntKind.wrap .i64 ((IntKind.wrap .i64 (x1 + (1 : Int))) + (1 : Int))) + (1 : Int)), (), (), (), IntKind.wrap .i64 (x5 + (1 : Int)), (), (), (), (), (), (), (), (), (), (), (), (), (), (), (), (), (), (), (), (), (), (), (), (), (), (), (), (), (), (), ()), (((h0.set x5.toNat (x1, (((h0.getD x5.toNat ((0 : Int), ((⟨#[]⟩ : ByteArray), (⟨#[]⟩ : ByteArray)))).2).1, ((h0.getD x5.toNat ((0 : Int), ((⟨#[]⟩ : ByteArray), (⟨#[]⟩ : ByteArray)))).2).2))).set x5.toNat (((h0.set x5.toNat (x1, (((h0.getD x5.toNat ((0 : Int), ((⟨#[]⟩ : ByteArray), (⟨#[]⟩ : ByteArray)))).2).1, ((h0.getD x5.toNat ((0 : Int), ((⟨#[]⟩ : ByteArray), (⟨#[]⟩ : ByteArray)))).2).2))).getD x5.toNat ((0 : Int), ((⟨#[]⟩ : ByteArray), (⟨#[]⟩ : ByteArray)))).1, ((lmarkText (IntKind.wrap .i64 (x1 + (1 : Int)))), (((h0.set x5.toNat (x1, (((h0.getD x5.toNat ((0 : Int), ((⟨#[]⟩ : ByteArray), (⟨#[]⟩ : ByteArray)))).2).1, ((h0.getD x5.toNat ((0 : Int), ((⟨#[]⟩ : ByteArray), (⟨#[]⟩ : ByteArray)))).2).2))).getD x5.toNat ((0 : Int), ((⟨#[]⟩ : ByteArray), (⟨#[]⟩ : ByteArray)))).2).2))).set x5.toNat ((((h0.set x5.toNat (x1, (((h0.getD x5.toNat ((0 : Int), ((⟨#[]⟩ : ByteArray), (⟨#[]⟩ : ByteArray)))).2).1, ((h0.getD x5.toNat ((0 : Int), ((⟨#[]⟩ : ByteArray), (⟨#[]⟩ : ByteArray)))).2).2))).set x5.toNat (((h0.set x5.toNat (x1, (((h0.getD x5.toNat ((0 : Int), ((⟨#[]⟩ : ByteArray), (⟨#[]⟩ : ByteArray)))).2).1, ((h0.getD x5.toNat ((0 : Int), ((⟨#[]⟩ : ByteArray), (⟨#[]⟩ : ByteArray)))).2).2))).getD x5.toNat ((0 : Int), ((⟨#[]⟩ : ByteArray), (⟨#[]⟩ : ByteArray)))).1, ((lmarkText (IntKind.wrap .i64 (x1 + (1 : Int)))), (((h0.set x5.toNat (x1, (((h0.getD x5.toNat ((0 : Int), ((⟨#[]⟩ : ByteArray), (⟨#[]⟩ : ByteArray)))).2).1, ((h0.getD x5.toNat ((0 : Int), ((⟨#[]⟩ : ByteArray), (⟨#[]⟩ : ByteArray)))).2).2))).getD x5.toNat ((0 : Int), ((⟨#[]⟩ : ByteArray), (⟨#[]⟩ : ByteArray)))).2).2))).getD x5.toNat ((0 : Int), ((⟨#[]⟩ : ByteArray), (⟨#[]⟩ : ByteArray)))).1, (((((h0.set x5.toNat (x1, (((h0.getD x5.toNat ((0 : Int), ((⟨#[]⟩ : ByteArray), (⟨#[]⟩ : ByteArray)))).2).1, ((h0.getD x5.toNat ((0 : Int), ((⟨#[]⟩ : ByteArray), (⟨#[]⟩ : ByteArray)))).2).2))).set x5.toNat (((h0.set x5.toNat (x1, (((h0.getD x5.toNat ((0 : Int), ((⟨#[]⟩ : ByteArray), (⟨#[]⟩ : ByteArray)))).2).1, ((h0.getD x5.toNat ((0 : Int), ((⟨#[]⟩ : ByteArray), (⟨#[]⟩ : ByteArray)))).2).2))).getD x5.toNat ((0 : Int), ((⟨#[]⟩ : ByteArray), (⟨#[]⟩ : ByteArray)))).1, ((lmarkText (IntKind.wrap .i64 (x1 + (1 : Int)))), (((h0.set x5.toNat (x1, (((h0.getD x5.toNat ((0 : Int), ((⟨#[]⟩ : ByteArray), (⟨#[]⟩ : ByteArray)))).2).1, ((h0.getD x5.toNat ((0 : Int), ((⟨#[]⟩ : ByteArray), (⟨#[]⟩ : ByteArray)))).2).2))).getD x5.toNat ((0 : Int), ((⟨#[]⟩ : ByteArray), (⟨#[]⟩ : ByteArray)))).2).2))).getD x5.toNat ((0 : Int), ((⟨#[]⟩ : ByteArray), (⟨#[]⟩ : ByteArray)))).2).1, (lmarkText (IntKind.wrap .i64 ((IntKind.wrap .i64 (x1 + (1 : Int))) + (1 : Int)))))), ()))) .fail) .fail) .fail) .fail) .fail) (.done (.exit 0) E_lmarkOpS_0_0 (((), x1, (), (), (), (), (), (), (), (), (), (), (), (), (), (), (), (), (), (), (), (), (), (), (), (), (), (), (), (), (), (), (), (), (), (), ()), (h0, ()))))
noncomputable def T_lmarkOpS_0 (x1 : Int) (x5 : Int) (h0 : List (Int × ByteArray × ByteArray)) : CT := (.br (decide (0 ≤ x5) && (decide (0 ≤ x1 ∧ x1 ≤ 100000 * (x5 + 1)) && okL h0)) (.done (.exit 0) E_lmarkOpS_0_0 (((), ((foldN f_lmarkOpS_0 (h0.length - x5.toNat) x5.toNat (x1, h0)).1), (), (), (), (), (), (), (), (), (), (), (), (), (), (), (), (), (), (), (), (), (), (), (), (), (), (), (), (), (), (), (), (), (), (), ()), (((foldN f_lmarkOpS_0 (h0.length - x5.toNat) x5.toNat (x1, h0)).2), ()))) .fail)
noncomputable abbrev sp_lmarkOpS_0 : S_lmarkOpS_0.den → RT S_lmarkOpS_0.den := fun d => st_lmarkOpS_0 d.1.2.1 d.1.2.2.2.2.2.1 d.2.1
noncomputable abbrev pk_lmarkOpS_0 (x1 : Int) (x5 : Int) (h0 : List (Int × ByteArray × ByteArray)) : S_lmarkOpS_0.den := (((), x1, (), (), (), x5, (), (), (), (), (), (), (), (), (), (), (), (), (), (), (), (), (), (), (), (), (), (), (), (), (), (), (), (), (), (), ()), (h0, ()))
noncomputable def body_lmarkOpS_0 : Code := ((loopsIn 0 (bodyOf Try.f50)).getD 0 (0, .skip)).2
theorem R_lmarkOpS_0 (x1 : Int) (x5 : Int) (h0 : List (Int × ByteArray × ByteArray)) : (T_lmarkOpS_0 x1 x5 h0).val (D := S_lmarkOpS_0.den) = .fail ∨ Runs sp_lmarkOpS_0 (pk_lmarkOpS_0 x1 x5 h0) (T_lmarkOpS_0 x1 x5 h0).val := by
  cases hc : (decide (0 ≤ x5) && (decide (0 ≤ x1 ∧ x1 ≤ 100000 * (x5 + 1)) && okL h0)) with
  | false => left; simp only [T_lmarkOpS_0, CT.val, hc, cond_false]
  | true =>
    right
    simp only [T_lmarkOpS_0, CT.val, hc, cond_true]
    simp only [Bool.and_eq_true, decide_eq_true_eq] at hc
    obtain ⟨i, rfl⟩ := Int.eq_ofNat_of_zero_le hc.1
    have hs := okL_le hc.2.2
    have hk := hc.2.1
    simp only [Int.toNat_natCast]
    refine Runs.foldN (step := sp_lmarkOpS_0) (fun j b => pk_lmarkOpS_0 b.1 (j : Int) b.2) (fun i b => (0 ≤ b.1 ∧ b.1 ≤ 100000 * ((i : Int) + 1)) ∧ b.2.length = h0.length) (h0.length) f_lmarkOpS_0
      (fin := fun b => ((.done (.exit 0) E_lmarkOpS_0_0 (((), b.1, (), (), (), (), (), (), (), (), (), (), (), (), (), (), (), (), (), (), (), (), (), (), (), (), (), (), (), (), (), (), (), (), (), (), ()), (b.2, ()))) : CT).val) (fun i b hi hb => ?_) (fun i b hi hb => ?_) (h0.length - i) i (x1, h0) rfl ⟨hk, rfl⟩
    · obtain ⟨k, h⟩ := b
      obtain ⟨hb1, hb2⟩ := hb
      simp only at hb1 hb2
      have w1 : IntKind.wrap .i64 (k + (1 : Int)) = k + (1 : Int) := wrap64 (by omega) (by omega)
      have w2 : IntKind.wrap .i64 (k + (1 : Int) + (1 : Int)) = k + (1 : Int) + (1 : Int) := wrap64 (by omega) (by omega)
      have w3 : IntKind.wrap .i64 (k + (1 : Int) + (1 : Int) + (1 : Int)) = k + (1 : Int) + (1 : Int) + (1 : Int) := wrap64 (by omega) (by omega)
      have e0 : (decide (0 ≤ (i : Int) ∧ (i : Int) < ((h.length : Nat) : Int))) = true := decide_eq_true (by (try simp only [List.length_set]); omega)
      have e1 : (q_lmarkText (IntKind.wrap .i64 (k + (1 : Int)))) = true := by simp only [q_lmarkText, w1, w2, w3]; exact decide_eq_true (by omega)
      have e2 : (decide (0 ≤ (i : Int) ∧ (i : Int) < (((h.set i (k, (((h.getD i ((0 : Int), ((⟨#[]⟩ : ByteArray), (⟨#[]⟩ : ByteArray)))).2).1, ((h.getD i ((0 : Int), ((⟨#[]⟩ : ByteArray), (⟨#[]⟩ : ByteArray)))).2).2))).length : Nat) : Int))) = true := decide_eq_true (by (try simp only [List.length_set]); omega)
      have e3 : (q_lmarkText (IntKind.wrap .i64 ((IntKind.wrap .i64 (k + (1 : Int))) + (1 : Int)))) = true := by simp only [q_lmarkText, w1, w2, w3]; exact decide_eq_true (by omega)
      have e4 : (decide (0 ≤ (i : Int) ∧ (i : Int) < ((((h.set i (k, (((h.getD i ((0 : Int), ((⟨#[]⟩ : ByteArray), (⟨#[]⟩ : ByteArray)))).2).1, ((h.getD i ((0 : Int), ((⟨#[]⟩ : ByteArray), (⟨#[]⟩ : ByteArray)))).2).2))).set i (((h.set i (k, (((h.getD i ((0 : Int), ((⟨#[]⟩ : ByteArray), (⟨#[]⟩ : ByteArray)))).2).1, ((h.getD i ((0 : Int), ((⟨#[]⟩ : ByteArray), (⟨#[]⟩ : ByteArray)))).2).2))).getD i ((0 : Int), ((⟨#[]⟩ : ByteArray), (⟨#[]⟩ : ByteArray)))).1, ((lmarkText (IntKind.wrap .i64 (k + (1 : Int)))), (((h.set i (k, (((h.getD i ((0 : Int), ((⟨#[]⟩ : ByteArray), (⟨#[]⟩ : ByteArray)))).2).1, ((h.getD i ((0 : Int), ((⟨#[]⟩ : ByteArray), (⟨#[]⟩ : ByteArray)))).2).2))).getD i ((0 : Int), ((⟨#[]⟩ : ByteArray), (⟨#[]⟩ : ByteArray)))).2).2))).length : Nat) : Int))) = true := decide_eq_true (by (try simp only [List.length_set]); omega)
      have h1 : decide ((i : Int) < ((h.length : Nat) : Int)) = true := decide_eq_true (by omega)
      have v1 : (f_lmarkOpS_0 i (k, h)).1 = k + (1 : Int) + (1 : Int) + (1 : Int) := by simp only [f_lmarkOpS_0, w1, w2, w3]
      have v2 : (f_lmarkOpS_0 i (k, h)).2.length = h.length := by simp only [f_lmarkOpS_0, List.length_set]
      refine ⟨⟨by rw [v1]; omega, by rw [v2]; exact hb2⟩, ?_⟩
      simp only [sp_lmarkOpS_0, st_lmarkOpS_0, RT.val, h1, e0, e1, e2, e3, e4, cond_true, wrapS i (by omega), Int.toNat_natCast]
      rfl
    · have h1 : decide ((i : Int) < ((b.2.length : Nat) : Int)) = false := decide_eq_false (by omega)
      exact ⟨by simp only [sp_lmarkOpS_0, st_lmarkOpS_0, RT.val, h1, cond_false]; rfl, _, _, _, rfl, by simp⟩
theorem rd_lmarkOpS_0 : ∀ d, execC Try.prog tt S36 QF36 (fun _ _ => none) 0 body_lmarkOpS_0 (S_lmarkOpS_0.st d 1 []) (fun e s' => some (e, S_lmarkOpS_0.cutE (kepts [] [(0, [1])]) e s')) = (sp_lmarkOpS_0 d).opt 1 [] := by
  intro d
  kernel_rfl
noncomputable abbrev say_lmarkOpS_0 : St → Option Tree := S_lmarkOpS_0.say 1 [] [] (fun d => T_lmarkOpS_0 d.1.2.1 d.1.2.2.2.2.2.1 d.2.1)
theorem lw_lmarkOpS_0 : LoopWp Try.prog say_lmarkOpS_0 body_lmarkOpS_0 := SS.wp G36 (fun _ _ => none) (by rw [show loopsIn 0 body_lmarkOpS_0 = [] by kernel_rfl]; simp) S_lmarkOpS_0 1 [] (kepts [] [(0, [1])]) [] sp_lmarkOpS_0 rd_lmarkOpS_0 _ (fun d => R_lmarkOpS_0 d.1.2.1 d.1.2.2.2.2.2.1 d.2.1)
noncomputable def lmarkOpS (x1 : Int) (h0 : List (Int × ByteArray × ByteArray)) : Int × List (Int × ByteArray × ByteArray) := (((foldN f_lmarkOpS_0 (h0.length - (0 : Int).toNat) (0 : Int).toNat (x1, h0)).1), ((foldN f_lmarkOpS_0 (h0.length - (0 : Int).toNat) (0 : Int).toNat (x1, h0)).2))
noncomputable abbrev e_lmarkOpS (r : Int × List (Int × ByteArray × ByteArray)) : AV × List AObj × List Nat := ((.t true (.int .i64) r.1), [(.rows 85 true (.pair (.int .i64) (.pair .str .str)) r.2)], [])
noncomputable abbrev g_lmarkOpS : SM_lmarkOpS.den → AV × List AObj × List Nat := fun d => e_lmarkOpS (lmarkOpS d.1.2.1 d.2.1)
noncomputable def q_lmarkOpS (x1 : Int) (h0 : List (Int × ByteArray × ByteArray)) : Bool := okL h0 && decide (0 ≤ x1 ∧ x1 ≤ 100000)
noncomputable abbrev pre_lmarkOpS : SM_lmarkOpS.den → Bool := fun d => q_lmarkOpS d.1.2.1 d.2.1
theorem runA_lmarkOpS (x1 : Int) (h0 : List (Int × ByteArray × ByteArray)) (hp : (okL h0 && decide (0 ≤ x1 ∧ x1 ≤ 100000)) = true) : runM Try.prog tt S36 QF36 (fun b => match b with | 0 => say_lmarkOpS_0 | _ => fun _ => none) Try.f50 (shsMk SM_lmarkOpS.sl ((((), x1, ()), (h0, ())) : SM_lmarkOpS.den).1) (ohsMk SM_lmarkOpS.hp ((((), x1, ()), (h0, ())) : SM_lmarkOpS.den).2) = some (g_lmarkOpS (((), x1, ()), (h0, ()))) := by
  refine Eq.trans (b := (cond (decide (0 ≤ (0 : Int)) && (decide (0 ≤ x1 ∧ x1 ≤ 100000 * ((0 : Int) + 1)) && okL h0)) (some (e_lmarkOpS (((foldN f_lmarkOpS_0 (h0.length - (0 : Int).toNat) (0 : Int).toNat (x1, h0)).1), ((foldN f_lmarkOpS_0 (h0.length - (0 : Int).toNat) (0 : Int).toNat (x1, h0)).2)))) none)) (by kernel_rfl) ?_
  exact (cndT (by first | rfl | decide | exact hp | (simp only [Bool.and_eq_true] at hp; simp only [hp]; done) | (simp [*]; done) | (simp [okL] at hp; simp [okL, MAXB]; omega) | (simp_all; done) | (simp at *; omega)) (fun _h => rfl))
theorem run_lmarkOpS : ∀ d : SM_lmarkOpS.den, pre_lmarkOpS d = true → runM Try.prog tt S36 QF36 (fun b => match b with | 0 => say_lmarkOpS_0 | _ => fun _ => none) Try.f50 (shsMk SM_lmarkOpS.sl (d : SM_lmarkOpS.den).1) (ohsMk SM_lmarkOpS.hp (d : SM_lmarkOpS.den).2) = some (g_lmarkOpS d) := fun d hp => runA_lmarkOpS d.1.2.1 d.2.1 hp
theorem c_lmarkOpS : MContract Try.prog 50 (win winIds (msum SM_lmarkOpS pre_lmarkOpS g_lmarkOpS)) := (MContract.of_data G36 (fn := Try.f50) (by kernel_rfl) (L := fun b => match b with | 0 => say_lmarkOpS_0 | _ => fun _ => none) (by rw [show loopsIn 0 (bodyOf Try.f50) = [(0, body_lmarkOpS_0)] by kernel_rfl]; intro p hp; simp only [List.mem_singleton] at hp; subst hp; exact lw_lmarkOpS_0) SM_lmarkOpS pre_lmarkOpS g_lmarkOpS run_lmarkOpS).win winIds
noncomputable def S37 : Tab := Tab.add S36 50 (win winIds (msum SM_lmarkOpS pre_lmarkOpS g_lmarkOpS))
noncomputable def QF37 : FuncId → Bool := QF36
theorem G37 : Good Try.prog tt S37 QF37 := G36.addM c_lmarkOpS (win_local _) ⟨Try.f50, by kernel_rfl, by kernel_rfl, by kernel_rfl⟩ (by kernel_rfl)

/-! 38 loop.example/g00244/laws.markWord -/
noncomputable abbrev SM_lmarkWord : SS := ⟨[.agg [.t true (.int .i64), .t true (.int .i64), .t true (.int .i64), .all 0 3, .t true .bool], .t true (.int .i64)], [.rows 85 true (.pair (.int .i64) (.pair .str .str))]⟩
noncomputable def lmarkWord (x0_0 : Int) (x0_1 : Int) (x0_2 : Int) (x0_4 : Bool) (x1 : Int) (h0 : List (Int × ByteArray × ByteArray)) : Int × List (Int × ByteArray × ByteArray) := (((lmarkOpS x1 h0).1), ((lmarkOpS x1 h0).2))
noncomputable abbrev e_lmarkWord (r : Int × List (Int × ByteArray × ByteArray)) : AV × List AObj × List Nat := ((.t true (.int .i64) r.1), [(.rows 85 true (.pair (.int .i64) (.pair .str .str)) r.2)], [])
noncomputable abbrev g_lmarkWord : SM_lmarkWord.den → AV × List AObj × List Nat := fun d => e_lmarkWord (lmarkWord d.1.1.1 d.1.1.2.1 d.1.1.2.2.1 d.1.1.2.2.2.2.1 d.1.2.1 d.2.1)
noncomputable def q_lmarkWord (x0_0 : Int) (x0_1 : Int) (x0_2 : Int) (x0_4 : Bool) (x1 : Int) (h0 : List (Int × ByteArray × ByteArray)) : Bool := (q_lmarkOpS x1 h0)
noncomputable abbrev pre_lmarkWord : SM_lmarkWord.den → Bool := fun d => q_lmarkWord d.1.1.1 d.1.1.2.1 d.1.1.2.2.1 d.1.1.2.2.2.2.1 d.1.2.1 d.2.1
theorem runA_lmarkWord (x0_0 : Int) (x0_1 : Int) (x0_2 : Int) (x0_4 : Bool) (x1 : Int) (h0 : List (Int × ByteArray × ByteArray)) (hp : ((q_lmarkOpS x1 h0)) = true) : runM Try.prog tt S37 QF37 (fun _ _ => none) Try.f38 (shsMk SM_lmarkWord.sl ((((x0_0, x0_1, x0_2, (), x0_4, ()), x1, ()), (h0, ())) : SM_lmarkWord.den).1) (ohsMk SM_lmarkWord.hp ((((x0_0, x0_1, x0_2, (), x0_4, ()), x1, ()), (h0, ())) : SM_lmarkWord.den).2) = some (g_lmarkWord (((x0_0, x0_1, x0_2, (), x0_4, ()), x1, ()), (h0, ()))) := by
  refine Eq.trans (b := (cond (q_lmarkOpS x1 h0) (some (e_lmarkWord (((lmarkOpS x1 h0).1), ((lmarkOpS x1 h0).2)))) none)) (by kernel_rfl) ?_
  exact (cndT (by first | rfl | decide | exact hp | (simp only [Bool.and_eq_true] at hp; simp only [hp]; done) | (simp [*]; done) | (simp [okL] at hp; simp [okL, MAXB]; omega) | (simp_all; done) | (simp at *; omega)) (fun _h => rfl))
theorem run_lmarkWord : ∀ d : SM_lmarkWord.den, pre_lmarkWord d = true → runM Try.prog tt S37 QF37 (fun _ _ => none) Try.f38 (shsMk SM_lmarkWord.sl (d : SM_lmarkWord.den).1) (ohsMk SM_lmarkWord.hp (d : SM_lmarkWord.den).2) = some (g_lmarkWord d) := fun d hp => runA_lmarkWord d.1.1.1 d.1.1.2.1 d.1.1.2.2.1 d.1.1.2.2.2.2.1 d.1.2.1 d.2.1 hp
theorem c_lmarkWord : MContract Try.prog 38 (win winIds (msum SM_lmarkWord pre_lmarkWord g_lmarkWord)) := (MContract.of_data G37 (fn := Try.f38) (by kernel_rfl) (L := fun _ _ => none) (by rw [show loopsIn 0 (bodyOf Try.f38) = [] by kernel_rfl]; simp) SM_lmarkWord pre_lmarkWord g_lmarkWord run_lmarkWord).win winIds
noncomputable def S38 : Tab := Tab.add S37 38 (win winIds (msum SM_lmarkWord pre_lmarkWord g_lmarkWord))
noncomputable def QF38 : FuncId → Bool := QF37
theorem G38 : Good Try.prog tt S38 QF38 := G37.addM c_lmarkWord (win_local _) ⟨Try.f38, by kernel_rfl, by kernel_rfl, by kernel_rfl⟩ (by kernel_rfl)

/-! 39 loop.example/g00244/laws.markByteS -/

noncomputable def f_lmarkByteS_0 (i : Nat) (b : Int × List Int) : Int × List Int := (IntKind.wrap .i64 (b.1 + (1 : Int)), b.2.set i (IntKind.wrap .u8 b.1))
noncomputable abbrev SM_lmarkByteS : SS := ⟨[.all 0 1, .t true (.int .i64)], [.rows 5 true (.int .u8)]⟩
noncomputable abbrev S_lmarkByteS_0 : SS := ⟨[.all 0 1, .t true (.int .i64), .junk, .junk, .junk, .t true (.int .i64), .junk, .junk, .junk, .junk, .junk, .junk, .junk, .junk, .junk, .junk, .junk, .junk, .junk, .junk], [.rows 5 true (.int .u8)]⟩
noncomputable abbrev E_lmarkByteS_0_0 : SS := ⟨[.junk, .t true (.int .i64), .junk, .junk, .junk, .junk, .junk, .junk, .junk, .junk, .junk, .junk, .junk, .junk, .junk, .junk, .junk, .junk, .junk, .junk], [.rows 5 true (.int .u8)]⟩
noncomputable def st_lmarkByteS_0 (x1 : Int) (x5 : Int) (h0 : List Int) : RT S_lmarkByteS_0.den := (.br (decide (x5 < ((h0.length : Nat) : Int))) (.br (decide (0 ≤ x5 ∧ x5 < ((h0.length : Nat) : Int))) (.next (((), IntKind.wrap .i64 (x1 + (1 : Int)), (), (), (), IntKind.wrap .i64 (x5 + (1 : Int)), (), (), (), (), (), (), (), (), (), (), (), (), (), (), ()), (h0.set x5.toNat (IntKind.wrap .u8 x1), ()))) .fail) (.done (.exit 0) E_lmarkByteS_0_0 (((), x1, (), (), (), (), (), (), (), (), (), (), (), (), (), (), (), (), (), (), ()), (h0, ()))))
noncomputable def T_lmarkByteS_0 (x1 : Int) (x5 : Int) (h0 : List Int) : CT := (.br (decide (0 ≤ x5) && (decide (0 ≤ x1 ∧ x1 ≤ 100000 * (x5 + 1)) && okL h0)) (.done (.exit 0) E_lmarkByteS_0_0 (((), ((foldN f_lmarkByteS_0 (h0.length - x5.toNat) x5.toNat (x1, h0)).1), (), (), (), (), (), (), (), (), (), (), (), (), (), (), (), (), (), (), ()), (((foldN f_lmarkByteS_0 (h0.length - x5.toNat) x5.toNat (x1, h0)).2), ()))) .fail)
noncomputable abbrev sp_lmarkByteS_0 : S_lmarkByteS_0.den → RT S_lmarkByteS_0.den := fun d => st_lmarkByteS_0 d.1.2.1 d.1.2.2.2.2.2.1 d.2.1
noncomputable abbrev pk_lmarkByteS_0 (x1 : Int) (x5 : Int) (h0 : List Int) : S_lmarkByteS_0.den := (((), x1, (), (), (), x5, (), (), (), (), (), (), (), (), (), (), (), (), (), (), ()), (h0, ()))
noncomputable def body_lmarkByteS_0 : Code := ((loopsIn 0 (bodyOf Try.f39)).getD 0 (0, .skip)).2
theorem R_lmarkByteS_0 (x1 : Int) (x5 : Int) (h0 : List Int) : (T_lmarkByteS_0 x1 x5 h0).val (D := S_lmarkByteS_0.den) = .fail ∨ Runs sp_lmarkByteS_0 (pk_lmarkByteS_0 x1 x5 h0) (T_lmarkByteS_0 x1 x5 h0).val := by
  cases hc : (decide (0 ≤ x5) && (decide (0 ≤ x1 ∧ x1 ≤ 100000 * (x5 + 1)) && okL h0)) with
  | false => left; simp only [T_lmarkByteS_0, CT.val, hc, cond_false]
  | true =>
    right
    simp only [T_lmarkByteS_0, CT.val, hc, cond_true]
    simp only [Bool.and_eq_true, decide_eq_true_eq] at hc
    obtain ⟨i, rfl⟩ := Int.eq_ofNat_of_zero_le hc.1
    have hs := okL_le hc.2.2
    have hk := hc.2.1
    simp only [Int.toNat_natCast]
    refine Runs.foldN (step := sp_lmarkByteS_0) (fun j b => pk_lmarkByteS_0 b.1 (j : Int) b.2) (fun i b => (0 ≤ b.1 ∧ b.1 ≤ 100000 * ((i : Int) + 1)) ∧ b.2.length = h0.length) (h0.length) f_lmarkByteS_0
      (fin := fun b => ((.done (.exit 0) E_lmarkByteS_0_0 (((), b.1, (), (), (), (), (), (), (), (), (), (), (), (), (), (), (), (), (), (), ()), (b.2, ()))) : CT).val) (fun i b hi hb => ?_) (fun i b hi hb => ?_) (h0.length - i) i (x1, h0) rfl ⟨hk, rfl⟩
    · obtain ⟨k, h⟩ := b
      obtain ⟨hb1, hb2⟩ := hb
      simp only at hb1 hb2
      have w1 : IntKind.wrap .i64 (k + (1 : Int)) = k + (1 : Int) := wrap64 (by omega) (by omega)
      have e0 : (decide (0 ≤ (i : Int) ∧ (i : Int) < ((h.length : Nat) : Int))) = true := decide_eq_true (by (try simp only [List.length_set]); omega)
      have h1 : decide ((i : Int) < ((h.length : Nat) : Int)) = true := decide_eq_true (by omega)
      have v1 : (f_lmarkByteS_0 i (k, h)).1 = k + (1 : Int) := by simp only [f_lmarkByteS_0, w1]
      have v2 : (f_lmarkByteS_0 i (k, h)).2.length = h.length := by simp only [f_lmarkByteS_0, List.length_set]
      refine ⟨⟨by rw [v1]; omega, by rw [v2]; exact hb2⟩, ?_⟩
      simp only [sp_lmarkByteS_0, st_lmarkByteS_0, RT.val, h1, e0, cond_true, wrapS i (by omega), Int.toNat_natCast]
      rfl
    · have h1 : decide ((i : Int) < ((b.2.length : Nat) : Int)) = false := decide_eq_false (by omega)
      exact ⟨by simp only [sp_lmarkByteS_0, st_lmarkByteS_0, RT.val, h1, cond_false]; rfl, _, _, _, rfl, by simp⟩
theorem rd_lmarkByteS_0 : ∀ d, execC Try.prog tt S38 QF38 (fun _ _ => none) 0 body_lmarkByteS_0 (S_lmarkByteS_0.st d 1 []) (fun e s' => some (e, S_lmarkByteS_0.cutE (kepts [] [(0, [1])]) e s')) = (sp_lmarkByteS_0 d).opt 1 [] := by
  intro d
  kernel_rfl
noncomputable abbrev say_lmarkByteS_0 : St → Option Tree := S_lmarkByteS_0.say 1 [] [] (fun d => T_lmarkByteS_0 d.1.2.1 d.1.2.2.2.2.2.1 d.2.1)
theorem lw_lmarkByteS_0 : LoopWp Try.prog say_lmarkByteS_0 body_lmarkByteS_0 := SS.wp G38 (fun _ _ => none) (by rw [show loopsIn 0 body_lmarkByteS_0 = [] by kernel_rfl]; simp) S_lmarkByteS_0 1 [] (kepts [] [(0, [1])]) [] sp_lmarkByteS_0 rd_lmarkByteS_0 _ (fun d => R_lmarkByteS_0 d.1.2.1 d.1.2.2.2.2.2.1 d.2.1)
noncomputable def lmarkByteS (x1 : Int) (h0 : List Int) : Int × List Int := (((foldN f_lmarkByteS_0 (h0.length - (0 : Int).toNat) (0 : Int).toNat (x1, h0)).1), ((foldN f_lmarkByteS_0 (h0.length - (0 : Int).toNat) (0 : Int).toNat (x1, h0)).2))
noncomputable abbrev e_lmarkByteS (r : Int × List Int) : AV × List AObj × List Nat := ((.t true (.int .i64) r.1), [(.rows 5 true (.int .u8) r.2)], [])
noncomputable abbrev g_lmarkByteS : SM_lmarkByteS.den → AV × List AObj × List Nat := fun d => e_lmarkByteS (lmarkByteS d.1.2.1 d.2.1)
noncomputable def q_lmarkByteS (x1 : Int) (h0 : List Int) : Bool := okL h0 && decide (0 ≤ x1 ∧ x1 ≤ 100000)
noncomputable abbrev pre_lmarkByteS : SM_lmarkByteS.den → Bool := fun d => q_lmarkByteS d.1.2.1 d.2.1
theorem runA_lmarkByteS (x1 : Int) (h0 : List Int) (hp : (okL h0 && decide (0 ≤ x1 ∧ x1 ≤ 100000)) = true) : runM Try.prog tt S38 QF38 (fun b => match b with | 0 => say_lmarkByteS_0 | _ => fun _ => none) Try.f39 (shsMk SM_lmarkByteS.sl ((((), x1, ()), (h0, ())) : SM_lmarkByteS.den).1) (ohsMk SM_lmarkByteS.hp ((((), x1, ()), (h0, ())) : SM_lmarkByteS.den).2) = some (g_lmarkByteS (((), x1, ()), (h0, ()))) := by
  refine Eq.trans (b := (cond (decide (0 ≤ (0 : Int)) && (decide (0 ≤ x1 ∧ x1 ≤ 100000 * ((0 : Int) + 1)) && okL h0)) (some (e_lmarkByteS (((foldN f_lmarkByteS_0 (h0.length - (0 : Int).toNat) (0 : Int).toNat (x1, h0)).1), ((foldN f_lmarkByteS_0 (h0.length - (0 : Int).toNat) (0 : Int).toNat (x1, h0)).2)))) none)) (by kernel_rfl) ?_
  exact (cndT (by first | rfl | decide | exact hp | (simp only [Bool.and_eq_true] at hp; simp only [hp]; done) | (simp [*]; done) | (simp [okL] at hp; simp [okL, MAXB]; omega) | (simp_all; done) | (simp at *; omega)) (fun _h => rfl))
theorem run_lmarkByteS : ∀ d : SM_lmarkByteS.den, pre_lmarkByteS d = true → runM Try.prog tt S38 QF38 (fun b => match b with | 0 => say_lmarkByteS_0 | _ => fun _ => none) Try.f39 (shsMk SM_lmarkByteS.sl (d : SM_lmarkByteS.den).1) (ohsMk SM_lmarkByteS.hp (d : SM_lmarkByteS.den).2) = some (g_lmarkByteS d) := fun d hp => runA_lmarkByteS d.1.2.1 d.2.1 hp
theorem c_lmarkByteS : MContract Try.prog 39 (win winIds (msum SM_lmarkByteS pre_lmarkByteS g_lmarkByteS)) := (MContract.of_data G38 (fn := Try.f39) (by kernel_rfl) (L := fun b => match b with | 0 => say_lmarkByteS_0 | _ => fun _ => none) (by rw [show loopsIn 0 (bodyOf Try.f39) = [(0, body_lmarkByteS_0)] by kernel_rfl]; intro p hp; simp only [List.mem_singleton] at hp; subst hp; exact lw_lmarkByteS_0) SM_lmarkByteS pre_lmarkByteS g_lmarkByteS run_lmarkByteS).win winIds
noncomputable def S39 : Tab := Tab.add S38 39 (win winIds (msum SM_lmarkByteS pre_lmarkByteS g_lmarkByteS))
noncomputable def QF39 : FuncId → Bool := QF38
theorem G39 : Good Try.prog tt S39 QF39 := G38.addM c_lmarkByteS (win_local _) ⟨Try.f39, by kernel_rfl, by kernel_rfl, by kernel_rfl⟩ (by kernel_rfl)

/-! 40 loop.example/g00244/laws.heldByteS -/

noncomputable def f_lheldByteS_0 (x0 : List Int) (i : Nat) (k : Int) : Int ⊕ Unit := (cond ((x0.getD i (0 : Int)) != (IntKind.wrap .u8 k)) (.inr ()) (.inl (IntKind.wrap .i64 (k + (1 : Int)))))
noncomputable abbrev P_lheldByteS : List PSh := [.t (.sl (.int .u8)), .t (.int .i64)]
noncomputable abbrev S_lheldByteS_0 : SS := ⟨[.t false (.sl (.int .u8)), .t true (.int .i64), .junk, .junk, .junk, .t true (.int .i64), .junk, .junk, .junk, .junk, .junk, .junk, .junk, .junk, .junk, .junk, .junk, .junk, .junk, .junk, .junk, .junk], []⟩
noncomputable abbrev E_lheldByteS_0_0 : SS := ⟨[.junk, .junk, .junk, .junk, .t true (.int .i64), .junk, .junk, .junk, .junk, .junk, .junk, .junk, .junk, .junk, .junk, .junk, .junk, .junk, .junk, .junk, .junk, .junk], []⟩
noncomputable abbrev E_lheldByteS_0_1 : SS := ⟨[.junk, .t true (.int .i64), .junk, .junk, .junk, .junk, .junk, .junk, .junk, .junk, .junk, .junk, .junk, .junk, .junk, .junk, .junk, .junk, .junk, .junk, .junk, .junk], []⟩
noncomputable def st_lheldByteS_0 (x0 : List Int) (x1 : Int) (x5 : Int) : RT S_lheldByteS_0.den := (.br (decide (x5 < ((x0.length : Nat) : Int))) (.br (decide (0 ≤ x5 ∧ x5 < ((x0.length : Nat) : Int))) (.br ((x0.getD x5.toNat (0 : Int)) != (IntKind.wrap .u8 x1)) (.done .ret E_lheldByteS_0_0 (((), (), (), (), (-1 : Int), (), (), (), (), (), (), (), (), (), (), (), (), (), (), (), (), (), ()), ())) (.next ((x0, IntKind.wrap .i64 (x1 + (1 : Int)), (), (), (), IntKind.wrap .i64 (x5 + (1 : Int)), (), (), (), (), (), (), (), (), (), (), (), (), (), (), (), (), ()), ()))) .fail) (.done (.exit 0) E_lheldByteS_0_1 (((), x1, (), (), (), (), (), (), (), (), (), (), (), (), (), (), (), (), (), (), (), (), ()), ())))
noncomputable def T_lheldByteS_0 (x0 : List Int) (x1 : Int) (x5 : Int) : CT := (.br (decide (0 ≤ x5) && (decide (0 ≤ x1 ∧ x1 ≤ 100000 * (x5 + 1)) && okL x0)) (.br (isInl (loopN (f_lheldByteS_0 x0) (x0.length - x5.toNat) x5.toNat x1)) (.done (.exit 0) E_lheldByteS_0_1 (((), (getInl (-1) (loopN (f_lheldByteS_0 x0) (x0.length - x5.toNat) x5.toNat x1)), (), (), (), (), (), (), (), (), (), (), (), (), (), (), (), (), (), (), (), (), ()), ())) (.done .ret E_lheldByteS_0_0 (((), (), (), (), (-1 : Int), (), (), (), (), (), (), (), (), (), (), (), (), (), (), (), (), (), ()), ()))) .fail)
noncomputable abbrev sp_lheldByteS_0 : S_lheldByteS_0.den → RT S_lheldByteS_0.den := fun d => st_lheldByteS_0 d.1.1 d.1.2.1 d.1.2.2.2.2.2.1
noncomputable abbrev pk_lheldByteS_0 (x0 : List Int) (x1 : Int) (x5 : Int) : S_lheldByteS_0.den := ((x0, x1, (), (), (), x5, (), (), (), (), (), (), (), (), (), (), (), (), (), (), (), (), ()), ())
noncomputable def body_lheldByteS_0 : Code := ((loopsIn 0 (bodyOf Try.f40)).getD 0 (0, .skip)).2
theorem R_lheldByteS_0 (x0 : List Int) (x1 : Int) (x5 : Int) : (T_lheldByteS_0 x0 x1 x5).val (D := S_lheldByteS_0.den) = .fail ∨ Runs sp_lheldByteS_0 (pk_lheldByteS_0 x0 x1 x5) (T_lheldByteS_0 x0 x1 x5).val := by
  cases hc : (decide (0 ≤ x5) && (decide (0 ≤ x1 ∧ x1 ≤ 100000 * (x5 + 1)) && okL x0)) with
  | false => left; simp only [T_lheldByteS_0, CT.val, hc, cond_false]
  | true =>
    right
    simp only [T_lheldByteS_0, CT.val, hc, cond_true]
    simp only [Bool.and_eq_true, decide_eq_true_eq] at hc
    obtain ⟨i, rfl⟩ := Int.eq_ofNat_of_zero_le hc.1
    have hs := okL_le hc.2.2
    have hk := hc.2.1
    simp only [Int.toNat_natCast]
    have h := Runs.loopN (step := sp_lheldByteS_0) (fun j b => pk_lheldByteS_0 x0 b (j : Int)) (fun i b => 0 ≤ b ∧ b ≤ 100000 * ((i : Int) + 1)) (x0.length) (f_lheldByteS_0 x0)
      (fin := fun b => ((.done (.exit 0) E_lheldByteS_0_1 (((), b, (), (), (), (), (), (), (), (), (), (), (), (), (), (), (), (), (), (), (), (), ()), ())) : CT).val) (bad := fun _ => ((.done .ret E_lheldByteS_0_0 (((), (), (), (), (-1 : Int), (), (), (), (), (), (), (), (), (), (), (), (), (), (), (), (), (), ()), ())) : CT).val)
      (fun i b hi hb => ?_) (fun i b hi hb => ?_) (x0.length - i) i x1 rfl hk
    · revert h
      cases loopN (f_lheldByteS_0 x0) (x0.length - i) i x1 with
      | inl b => exact id
      | inr c => exact id
    · revert hb
      generalize b = k
      intro hb
      have w1 : IntKind.wrap .i64 (k + (1 : Int)) = k + (1 : Int) := wrap64 (by omega) (by omega)
      have e0 : (decide (0 ≤ (i : Int) ∧ (i : Int) < ((x0.length : Nat) : Int))) = true := decide_eq_true (by omega)
      have h1 : decide ((i : Int) < ((x0.length : Nat) : Int)) = true := decide_eq_true (by omega)
      have e : (sp_lheldByteS_0 (pk_lheldByteS_0 x0 k (i : Int))).val = (cond ((x0.getD i (0 : Int)) != (IntKind.wrap .u8 k)) ((.done .ret E_lheldByteS_0_0 (((), (), (), (), (-1 : Int), (), (), (), (), (), (), (), (), (), (), (), (), (), (), (), (), (), ()), ())) : CT).val (.next (pk_lheldByteS_0 x0 (IntKind.wrap .i64 (k + (1 : Int))) ((i + 1 : Nat) : Int)))) := by
        simp only [sp_lheldByteS_0, st_lheldByteS_0, RT.val, h1, e0, cond_true, wrapS i (by omega), Int.toNat_natCast]
        rfl
      cases g0 : ((x0.getD i (0 : Int)) != (IntKind.wrap .u8 k)) with
      | true => exact .inr ⟨(), _, _, _, by simp only [f_lheldByteS_0, g0, cond_true, cond_false], by rw [e, g0]; rfl, rfl, by simp⟩
      | false =>
        exact .inl ⟨IntKind.wrap .i64 (k + (1 : Int)), by simp only [f_lheldByteS_0, g0, cond_false], by rw [w1]; omega, by rw [e, g0]; rfl⟩
    · have h1 : decide ((i : Int) < ((x0.length : Nat) : Int)) = false := decide_eq_false (by omega)
      exact ⟨by simp only [sp_lheldByteS_0, st_lheldByteS_0, RT.val, h1, cond_false]; rfl, _, _, _, rfl, by simp⟩
theorem rd_lheldByteS_0 : ∀ d, execC Try.prog tt S39 QF39 (fun _ _ => none) 0 body_lheldByteS_0 (S_lheldByteS_0.st d 0 []) (fun e s' => some (e, S_lheldByteS_0.cutE (kepts [4] [(0, [1])]) e s')) = (sp_lheldByteS_0 d).opt 0 [] := by
  intro d
  kernel_rfl
noncomputable abbrev say_lheldByteS_0 : St → Option Tree := S_lheldByteS_0.say 0 [] [] (fun d => T_lheldByteS_0 d.1.1 d.1.2.1 d.1.2.2.2.2.2.1)
theorem lw_lheldByteS_0 : LoopWp Try.prog say_lheldByteS_0 body_lheldByteS_0 := SS.wp G39 (fun _ _ => none) (by rw [show loopsIn 0 body_lheldByteS_0 = [] by kernel_rfl]; simp) S_lheldByteS_0 0 [] (kepts [4] [(0, [1])]) [] sp_lheldByteS_0 rd_lheldByteS_0 _ (fun d => R_lheldByteS_0 d.1.1 d.1.2.1 d.1.2.2.2.2.2.1)
noncomputable def lheldByteS (a0 : List Int) (a1 : Int) : Int := (cond (isInl (loopN (f_lheldByteS_0 a0) (a0.length - (0 : Int).toNat) (0 : Int).toNat a1)) (getInl (-1) (loopN (f_lheldByteS_0 a0) (a0.length - (0 : Int).toNat) (0 : Int).toNat a1)) (-1 : Int))
noncomputable abbrev e_lheldByteS (r : Int) : AV × List AObj := ((.t true (.int .i64) r), [])
noncomputable abbrev g_lheldByteS : pshsDen P_lheldByteS → AV × List AObj := fun d => e_lheldByteS (lheldByteS d.1 d.2.1)
noncomputable def q_lheldByteS (a0 : List Int) (a1 : Int) : Bool := okL a0 && decide (0 ≤ a1 ∧ a1 ≤ 100000)
noncomputable abbrev pre_lheldByteS : pshsDen P_lheldByteS → Bool := fun d => q_lheldByteS d.1 d.2.1
theorem runA_lheldByteS (a0 : List Int) (a1 : Int) (hp : (okL a0 && decide (0 ≤ a1 ∧ a1 ≤ 100000)) = true) : runP true Try.prog tt S39 QF39 (fun b => match b with | 0 => say_lheldByteS_0 | _ => fun _ => none) Try.f40 (argsMk P_lheldByteS (a0, (a1, ()))) = some (g_lheldByteS (a0, (a1, ()))) := by
  refine Eq.trans (b := (cond (decide (0 ≤ (0 : Int)) && (decide (0 ≤ a1 ∧ a1 ≤ 100000 * ((0 : Int) + 1)) && okL a0)) (cond (isInl (loopN (f_lheldByteS_0 a0) (a0.length - (0 : Int).toNat) (0 : Int).toNat a1)) (some (e_lheldByteS (getInl (-1) (loopN (f_lheldByteS_0 a0) (a0.length - (0 : Int).toNat) (0 : Int).toNat a1)))) (some (e_lheldByteS (-1 : Int)))) none)) (by kernel_rfl) ?_
  exact (cndT (by first | rfl | decide | exact hp | (simp only [Bool.and_eq_true] at hp; simp only [hp]; done) | (simp [*]; done) | (simp [okL] at hp; simp [okL, MAXB]; omega) | (simp_all; done) | (simp at *; omega)) (fun _h => (cnd (F := fun r => some (e_lheldByteS r)) (fun _h => rfl) (fun _h => rfl))))
theorem run_lheldByteS : ∀ d, pre_lheldByteS d = true → runP true Try.prog tt S39 QF39 (fun b => match b with | 0 => say_lheldByteS_0 | _ => fun _ => none) Try.f40 (argsMk P_lheldByteS d) = some (g_lheldByteS d) := fun d hp => runA_lheldByteS d.1 d.2.1 hp
theorem c_lheldByteS : PContract Try.prog 40 (sumOf P_lheldByteS pre_lheldByteS g_lheldByteS) := PContract.of_data true G39 (fn := Try.f40) (by kernel_rfl) (L := fun b => match b with | 0 => say_lheldByteS_0 | _ => fun _ => none) (by rw [show loopsIn 0 (bodyOf Try.f40) = [(0, body_lheldByteS_0)] by kernel_rfl]; intro p hp; simp only [List.mem_singleton] at hp; subst hp; exact lw_lheldByteS_0) P_lheldByteS pre_lheldByteS g_lheldByteS run_lheldByteS
noncomputable def S40 : Tab := Tab.add S39 40 (lift (sumOf P_lheldByteS pre_lheldByteS g_lheldByteS))
noncomputable def QF40 : FuncId → Bool := qadd QF39 40
theorem G40 : Good Try.prog tt S40 QF40 := G39.addQ c_lheldByteS ⟨Try.f40, by kernel_rfl, by kernel_rfl, by kernel_rfl⟩ (fun _ => rfl)

/-! 7 loop.example/g00244/laws.FnExactPutWord -/
theorem szOp_spec (k : Int) (s v : ByteArray) (b : Int) (h0 : 0 ≤ b) (h1 : b ≤ 1048576) (hs : bigS s = true) (hv : bigS v = true) (h : 0 ≤ lszOp k s v b) : lszOp k s v b ≤ b ∧ okS s = true ∧ okS v = true := by
  simp only [bigS, decide_eq_true_eq] at hs hv
  have e1 := wrap64 (n := b - ((s.size : Nat) : Int)) (by omega) (by omega)
  simp only [lszOp, e1] at h ⊢
  cases hd : decide (b - ((s.size : Nat) : Int) < 0) with
  | true => rw [hd] at h; simp at h
  | false =>
    rw [hd] at h
    have := of_decide_eq_false hd
    have e2 := wrap64 (n := b - ((s.size : Nat) : Int) - ((v.size : Nat) : Int)) (by omega) (by omega)
    simp only [cond_false, e2] at h ⊢
    cases hd2 : decide (b - ((s.size : Nat) : Int) - ((v.size : Nat) : Int) < 0) with
    | true => rw [hd2] at h; simp at h
    | false =>
      have := of_decide_eq_false hd2
      simp only [cond_false, okS, decide_eq_true_eq]
      omega
theorem szOpS_spec (l : List (Int × ByteArray × ByteArray)) (b : Int) (h0 : 0 ≤ b) (h1 : b ≤ 1048576) (hb : bigOps l = true) (h : 0 ≤ lszOpS l b) : lszOpS l b ≤ b ∧ okOps l = true := by
  have hl : l.length ≤ 9223372036854775807 := by simp only [bigOps, Bool.and_eq_true, decide_eq_true_eq] at hb; exact hb.1
  have e1 := wrap64 (n := b - ((l.length : Nat) : Int)) (by omega) (by omega)
  simp only [lszOpS, e1, Int.toNat_zero, Nat.sub_zero] at h ⊢
  cases hd : decide (b - ((l.length : Nat) : Int) < 0) with
  | true => rw [hd] at h; simp at h
  | false =>
    rw [hd] at h
    have := of_decide_eq_false hd
    simp only [cond_false] at h ⊢
    cases hi : isInl (szN (f_lszOpS_0 l) l.length 0 (b - ((l.length : Nat) : Int))) with
    | false => rw [hi] at h; simp at h
    | true =>
      obtain ⟨r1, r2, r3⟩ := szN_all (M := 1048576) (Q := fun i => okS (l.getD i dOp).2.1 = true ∧ okS (l.getD i dOp).2.2 = true) l.length 0 (b - ((l.length : Nat) : Int)) (fun j b' _ hj q0 q1 hf => by
        obtain ⟨p1, p2⟩ := bigOps_at hb j (by omega)
        obtain ⟨s1, s2, s3⟩ := szOp_spec _ _ _ b' q0 q1 p1 p2 hf
        exact ⟨⟨s2, s3⟩, s1⟩) (by omega) (by omega) hi
      simp only [cond_true]
      exact ⟨by omega, okOps_of (by omega) (fun i hi => r1 i (Nat.zero_le _) (by omega))⟩
theorem toOpS_same (l : List (Int × ByteArray × ByteArray)) : ltoOpS l = l := by
  have e := mapN (fun o : Int × ByteArray × ByteArray => (ltoOp o.1 o.2.1 o.2.2)) dOp l l.length 0 (List.replicate l.length dOp) (by simp) (by simp)
  simp only [List.take_zero, List.nil_append, List.drop_zero] at e
  have e2 : l.map (fun o : Int × ByteArray × ByteArray => (ltoOp o.1 o.2.1 o.2.2)) = l := by
    rw [show (fun o : Int × ByteArray × ByteArray => (ltoOp o.1 o.2.1 o.2.2)) = id from funext fun _ => rfl, List.map_id]
  rw [e2] at e
  exact e
theorem eqOp_same (k : Int) (s v : ByteArray) : leqOp k s v k s v = true := by simp [leqOp]
theorem eqOpS_same (l : List (Int × ByteArray × ByteArray)) : leqOpS l l = true := by
  have e : allF (f_leqOpS_0 l l) (l.length - (0 : Int).toNat) (0 : Int).toNat = true := allF_same _ _ (fun j _ _ => by simp [f_leqOpS_0, eqOp_same])
  simp only [leqOpS, e, cond_true]
  simp
theorem keyAt_same (s : ByteArray) (i : Nat) : sKeyAt s i = iKeyAt s i := by
  have hb : 0 ≤ bt s (i : Int) ∧ bt s (i : Int) < 256 := by
    unfold bt
    split
    · have := UInt8.toNat_lt s[(i : Int).toNat]; omega
    · simp
  have e := wrap64 (n := bt s (i : Int)) (by omega) (by omega)
  simp only [sKeyAt, iKeyAt, sl1In, iisKeyByte, e]
  generalize bt s (i : Int) = c
  by_cases h1 : c ≥ 97 <;> by_cases h2 : c ≤ 122 <;> by_cases h3 : c ≥ 48 <;> by_cases h4 : c ≤ 57 <;> simp [h1, h2, h3, h4]
theorem keyOk_same (s : ByteArray) : sKeyOk s = iKeyOk s := by
  have e : allF (sKeyAt s) (s.size - (0 : Int).toNat) (0 : Int).toNat = allF (iKeyAt s) (s.size - (0 : Int).toNat) (0 : Int).toNat := allF_congr _ _ (fun j _ _ => keyAt_same s j)
  simp only [sKeyOk, iKeyOk, iisWord, iinRange, sl1In, e]
  cases allF (iKeyAt s) (s.size - (0 : Int).toNat) (0 : Int).toNat <;> cases decide (((s.size : Nat) : Int) ≥ 1) <;> cases decide (((s.size : Nat) : Int) ≤ 12) <;> rfl
theorem opOk_same (k : Int) (s v : ByteArray) : sl7Op k s v = iopOk k s v := by
  simp only [sl7Op, iopOk, keyOk_same, ba_beq, sl1In]
  cases iKeyOk s with
  | false =>
    by_cases h1 : k = 1 <;> by_cases h2 : k = 2 <;> by_cases h3 : k = 3 <;> by_cases h4 : v = ⟨#[]⟩ <;> by_cases h5 : k ≥ 1 <;> by_cases h6 : k ≤ 3 <;> simp [h1, h2, h3, h4, h5, h6] <;> omega
  | true =>
    by_cases h2 : k = 2
    · subst h2
      by_cases h4 : v = ⟨#[]⟩
      · subst h4; simp [ByteArray.size]
      · simp [h4]
    · by_cases h1 : k = 1
      · subst h1; simp
      · by_cases h3 : k = 3
        · subst h3; simp
        · by_cases h5 : k ≥ 1 <;> by_cases h6 : k ≤ 3 <;> simp [h1, h2, h3, h5, h6] <;> omega
theorem opAt_same (l : List (Int × ByteArray × ByteArray)) (i : Nat) : sOpAt l i = iOpAt l i := by
  simp only [sOpAt, iOpAt, opOk_same]
  rw [← bytesLess_ge, Bool.not_not]
theorem opsOk_same (l : List (Int × ByteArray × ByteArray)) : sOpsOk l = iOpsOk l := by
  have e : allF (sOpAt l) (l.length - (0 : Int).toNat) (0 : Int).toNat = allF (iOpAt l) (l.length - (0 : Int).toNat) (0 : Int).toNat := allF_congr _ _ (fun j _ _ => opAt_same l j)
  simp only [sOpsOk, iOpsOk, e]
  rfl
theorem toWord_same (k s t : Int) (l : List (Int × ByteArray × ByteArray)) (y : Bool) : ltoWord k s t l y = (k, s, t, y, l) := by simp only [ltoWord, toOpS_same]
theorem eqWord_same (k s t : Int) (l : List (Int × ByteArray × ByteArray)) (y : Bool) : leqWord k s t l y k s t l y = true := by simp [leqWord, eqOpS_same]
theorem szWord_spec (k s t : Int) (l : List (Int × ByteArray × ByteArray)) (y : Bool) (b : Int) (h0 : 0 ≤ b) (h1 : b ≤ 1048576) (hb : bigOps l = true) (h : decide (lszWord k s t l y b < 0) = false) : okOps l = true := by
  have h := of_decide_eq_false h
  simp only [lszWord] at h
  cases hd : decide (lszOpS l b < 0) with
  | true => rw [hd] at h; simp at h
  | false =>
    have := of_decide_eq_false hd
    exact (szOpS_spec l b h0 h1 hb (by omega)).2
theorem bigWord_ops {k s t : Int} {l : List (Int × ByteArray × ByteArray)} {y : Bool} (h : bigT (.pair (.int .i64) (.pair (.int .i64) (.pair (.int .i64) (.pair (.sl (.pair (.int .i64) (.pair .str .str))) .bool)))) (k, (s, (t, (l, y)))) = true) : bigOps l = true := by
  have hb : ((Lit.int .i64 k).wf && ((Lit.int .i64 s).wf && ((Lit.int .i64 t).wf && (bigT (.sl (.pair (.int .i64) (.pair .str .str))) l && true)))) = true := h
  rw [Bool.and_eq_true, Bool.and_eq_true, Bool.and_eq_true, Bool.and_eq_true] at hb
  exact bigOps_of hb.2.2.2.1
theorem wordOk_same (k s t : Int) (l : List (Int × ByteArray × ByteArray)) (y : Bool) : sWordOk k s t l y = iWordOk k s t l y := by
  simp only [sWordOk, iWordOk, iisTx, iisId, opsOk_same]
  rfl
theorem markN {α : Type} (el : Int → α) (c : Int) (hc : 0 ≤ c ∧ c ≤ 100000) (d : α) (f : Nat → Int × List α → Int × List α)
    (hf : ∀ i k (h : List α), i < h.length → 0 ≤ k → k ≤ 100000 * ((i : Int) + 1) → h.length ≤ 1048576 → f i (k, h) = (k + c, h.set i (el k))) :
    ∀ n i k (h : List α), i + n = h.length → 0 ≤ k → k ≤ 100000 * ((i : Int) + 1) → h.length ≤ 1048576 →
      (foldN f n i (k, h)).1 = k + c * (n : Int) ∧ (foldN f n i (k, h)).2.length = h.length ∧ (∀ j, i ≤ j → j < h.length → (foldN f n i (k, h)).2.getD j d = el (k + c * ((j - i : Nat) : Int))) ∧ ∀ j, j < i → (foldN f n i (k, h)).2.getD j d = h.getD j d := by
  intro n
  induction n with
  | zero => intro i k h hi h0 h1 h2; exact ⟨by simp [foldN], rfl, fun j hj hl => by omega, fun j _ => rfl⟩
  | succ n ih =>
    intro i k h hi h0 h1 h2
    simp only [foldN]
    rw [hf i k h (by omega) h0 h1 h2]
    obtain ⟨q1, q2, q3, q4⟩ := ih (i + 1) (k + c) (h.set i (el k)) (by simp; omega) (by omega) (by omega) (by simpa using h2)
    refine ⟨?_, by rw [q2]; simp, fun j hj hl => ?_, fun j hj => ?_⟩
    · rw [q1, Int.natCast_add, Int.mul_add]; simp; omega
    · by_cases e : j = i
      · subst e
        rw [q4 j (by omega)]
        have : j < h.length := hl
        simp [List.getD_eq_getElem?_getD, this]
      · rw [q3 j (by omega) (by simpa using hl)]
        congr 1
        have : ((j - i : Nat) : Int) = ((j - (i + 1) : Nat) : Int) + 1 := by omega
        rw [this, Int.mul_add]; omega
    · rw [q4 j (by omega)]
      have : i ≠ j := by omega
      simp [List.getD_eq_getElem?_getD, List.getElem?_set_ne this]
theorem heldN {α : Type} (el : Int → α) (c : Int) (hc : 0 ≤ c ∧ c ≤ 100000) (d : α) (x : List α) (hx : x.length ≤ 1048576) (g : Nat → Int → Int ⊕ Unit)
    (hg : ∀ i k, i < x.length → 0 ≤ k → k ≤ 100000 * ((i : Int) + 1) → x.getD i d = el k → g i k = .inl (k + c)) :
    ∀ n i k, i + n = x.length → 0 ≤ k → k ≤ 100000 * ((i : Int) + 1) → (∀ j, i ≤ j → j < x.length → x.getD j d = el (k + c * ((j - i : Nat) : Int))) → loopN g n i k = .inl (k + c * (n : Int)) := by
  intro n
  induction n with
  | zero => intro i k hi h0 h1 he; simp [loopN]
  | succ n ih =>
    intro i k hi h0 h1 he
    have h2 := he i (Nat.le_refl _) (by omega)
    rw [Nat.sub_self] at h2
    simp only [loopN]
    rw [hg i k (by omega) h0 h1 (by simpa using h2)]
    simp only
    rw [ih (i + 1) (k + c) (by omega) (by omega) (by omega) (fun j hj hl => by
      rw [he j (by omega) hl]
      congr 1
      have : ((j - i : Nat) : Int) = ((j - (i + 1) : Nat) : Int) + 1 := by omega
      rw [this, Int.mul_add]; omega)]
    rw [Int.natCast_add, Int.mul_add]; congr 1; simp; omega
theorem heldmark {α : Type} (el : Int → α) (c : Int) (hc : 0 ≤ c ∧ c ≤ 100000) (d : α) (f : Nat → Int × List α → Int × List α) (g : List α → Nat → Int → Int ⊕ Unit)
    (hf : ∀ i k (h : List α), i < h.length → 0 ≤ k → k ≤ 100000 * ((i : Int) + 1) → h.length ≤ 1048576 → f i (k, h) = (k + c, h.set i (el k)))
    (hg : ∀ (x : List α) i k, x.length ≤ 1048576 → i < x.length → 0 ≤ k → k ≤ 100000 * ((i : Int) + 1) → x.getD i d = el k → g x i k = .inl (k + c)) (h : List α) (hh : h.length ≤ 1048576) (k : Int) (h0 : 0 ≤ k) (h1 : k ≤ 100000) :
    (foldN f h.length 0 (k, h)).1 = k + c * (h.length : Int) ∧ (foldN f h.length 0 (k, h)).2.length = h.length ∧ loopN (g (foldN f h.length 0 (k, h)).2) (foldN f h.length 0 (k, h)).2.length 0 k = .inl (k + c * (h.length : Int)) := by
  obtain ⟨q1, q2, q3, _⟩ := markN el c hc d f hf h.length 0 k h (by omega) h0 (by omega) hh
  refine ⟨q1, q2, ?_⟩
  have := heldN el c hc d (foldN f h.length 0 (k, h)).2 (by rw [q2]; exact hh) (g (foldN f h.length 0 (k, h)).2) (fun i k hi => hg _ i k (by rw [q2]; exact hh) hi) (foldN f h.length 0 (k, h)).2.length 0 k (by omega) h0 (by omega) (fun j hj hl => q3 j hj (by rw [q2] at hl; exact hl))
  rw [this, q2]
theorem wordOk_ops {k s t : Int} {l : List (Int × ByteArray × ByteArray)} {y : Bool} (h : sWordOk k s t l y = true) : (k == 1) = decide (((l.length : Nat) : Int) > 0) ∧ ((k == 1) = true → sOpsOk l = true) := by
  simp only [sWordOk] at h
  cases h1 : sl1In s 0 7 with
  | false => simp [h1] at h
  | true =>
  cases h2 : sl1In t 1 1000000 with
  | false => simp [h1, h2] at h
  | true =>
  simp only [h1, h2, Bool.not_true, cond_false] at h
  cases h3 : (k == 1) with
  | true =>
    simp only [h3, cond_true] at h
    cases h4 : sOpsOk l with
    | false => simp [h4] at h
    | true =>
      refine ⟨?_, fun _ => rfl⟩
      simp only [sOpsOk] at h4
      cases h5 : allF (sOpAt l) (l.length - (0 : Int).toNat) (0 : Int).toNat with
      | false => rw [h5] at h4; simp at h4
      | true =>
        rw [h5] at h4
        simp only [cond_true, sl1In] at h4
        cases h6 : decide (((l.length : Nat) : Int) ≥ 1) with
        | false => simp [h6] at h4
        | true => have := of_decide_eq_true h6; exact (decide_eq_true (by omega)).symm
  | false =>
    refine ⟨?_, fun h => by cases h⟩
    simp only [h3, cond_false] at h
    have : ((l.length : Nat) : Int) = 0 := by
      cases h4 : (((l.length : Nat) : Int) == 0) with
      | true => simpa using h4
      | false => simp [h4] at h
    exact (decide_eq_false (by omega)).symm
theorem putWord_same (k s t : Int) (l : List (Int × ByteArray × ByteArray)) (y : Bool) (ho : okOps l = true) : iPutWord k s t l y = sPutWord k s t l y := by
  simp only [iPutWord, sPutWord, ← wordOk_same]
  cases hw : sWordOk k s t l y with
  | false => rfl
  | true =>
    obtain ⟨h1, h2⟩ := wordOk_ops hw
    simp only [Bool.not_true, cond_false, h1]
    cases hd : decide (((l.length : Nat) : Int) > 0) with
    | false => cases y <;> simp only [cond_false, cond_true, iputNum_eq, iputNum_nil_eq, sPutNum_eq, sl10Bool, List.nil_append]
    | true =>
      have h3 := h2 (by rw [h1]; exact hd)
      cases y <;> simp only [cond_false, cond_true, iputNum_eq, iputNum_nil_eq, sPutNum_eq, sl10Bool, List.nil_append, iputOps_eq _ _ ho, sPutOps_eq _ ho, h3, Bool.not_true]
theorem opsOk_small {l : List (Int × ByteArray × ByteArray)} (h : sOpsOk l = true) : l.length ≤ 8 ∧ ∀ o ∈ l, o.2.1.size ≤ 12 ∧ o.2.2.size ≤ 20 := by
  simp only [sOpsOk] at h
  cases h5 : allF (sOpAt l) (l.length - (0 : Int).toNat) (0 : Int).toNat with
  | false => rw [h5] at h; simp at h
  | true =>
    rw [h5] at h
    simp only [cond_true, sl1In] at h
    constructor
    · cases h6 : decide (((l.length : Nat) : Int) ≥ 1) with
      | false => simp [h6] at h
      | true => rw [h6] at h; simp only [cond_true, decide_eq_true_eq] at h; omega
    · intro o ho
      obtain ⟨i, hi, rfl⟩ := List.getElem_of_mem ho
      have h6 := (allF_true _ _).1 h5 i (Nat.zero_le _) (by simpa using hi)
      simp only [sOpAt, Bool.and_eq_true, List.getD_eq_getElem?_getD, List.getElem?_eq_getElem hi, Option.getD_some] at h6
      have h7 := h6.1
      simp only [sl7Op] at h7
      have hk : ∀ s : ByteArray, sKeyOk s = true → s.size ≤ 12 := by
        intro s hs
        simp only [sKeyOk] at hs
        cases h8 : allF (sKeyAt s) (s.size - (0 : Int).toNat) (0 : Int).toNat with
        | false => rw [h8] at hs; simp at hs
        | true =>
          rw [h8] at hs
          simp only [cond_true, sl1In] at hs
          cases h9 : decide (((s.size : Nat) : Int) ≥ 1) with
          | false => simp [h9] at hs
          | true => rw [h9] at hs; simp only [cond_true, decide_eq_true_eq] at hs; omega
      cases h8 : sKeyOk (l[i]).2.1 with
      | false => exfalso; revert h7; simp only [h8, cond_false]; cases sl1In (l[i]).1 1 3 <;> cases ((l[i]).1 == 2) <;> simp
      | true =>
        refine ⟨hk _ h8, ?_⟩
        revert h7
        simp only [h8, cond_true]
        cases sl1In (l[i]).1 1 3 <;> cases ((l[i]).1 == 2) <;> simp <;> omega
theorem putWord_len (k s t : Int) (l : List (Int × ByteArray × ByteArray)) (y : Bool) (ho : okOps l = true) : (sPutWord k s t l y).length ≤ 1000 := by
  simp only [sPutWord]
  cases hw : sWordOk k s t l y with
  | false => simp
  | true =>
    obtain ⟨h1, h2⟩ := wordOk_ops hw
    have l1 := sPutNum_len [] k
    have l2 := sPutNum_len (sPutNum [] k) s
    have l3 := sPutNum_len (sPutNum (sPutNum [] k) s) t
    have l4 := sPutNum_len (sPutNum (sPutNum (sPutNum [] k) s) t) (sl10Bool y)
    simp only [List.length_nil] at l1
    cases h3 : (k == 1) with
    | false => simp only [Bool.not_true, cond_false]; omega
    | true =>
      have h4 := h2 h3
      obtain ⟨a1, a2⟩ := opsOk_small h4
      have h5 := flat_len (M := 47) l (fun o ho' => by have := a2 o ho'; have := opB_len o; omega)
      have h6 := numB_len (clampN (l.length : Int))
      simp only [Bool.not_true, cond_false, cond_true, sPutOps_eq _ ho, h4, List.length_append]
      omega
theorem eqByteS_same (l : List Int) : leqByteS l l = true := by
  have e : (((l.length : Nat) : Int) != ((l.length : Nat) : Int)) = false := by simp
  simp only [leqByteS, e, cond_false]
  rw [allF_same]
  · rfl
  · intro j _ _; simp [f_leqByteS_0]
theorem byteS_held (l : List Int) (h : l.length ≤ 1048576) : (lmarkByteS 1 l).1 = 1 + (l.length : Int) ∧ (lmarkByteS 1 l).2.length = l.length ∧ lheldByteS (lmarkByteS 1 l).2 1 = 1 + (l.length : Int) := by
  obtain ⟨q1, q2, q3⟩ := heldmark (fun k => IntKind.wrap .u8 k) 1 (by omega) (0 : Int) f_lmarkByteS_0 f_lheldByteS_0 (fun i k h hi h0 h1 h2 => by
    have w1 : IntKind.wrap .i64 (k + (1 : Int)) = k + 1 := wrap64 (by omega) (by omega)
    simp only [f_lmarkByteS_0, w1]) (fun x i k hx hi h0 h1 he => by
    have w1 : IntKind.wrap .i64 (k + (1 : Int)) = k + 1 := wrap64 (by omega) (by omega)
    have e : (x.getD i (0 : Int) != IntKind.wrap .u8 k) = false := by rw [he]; simp
    simp only [f_lheldByteS_0, e, cond_false, w1]) l h 1 (by omega) (by omega)
  rw [Int.one_mul] at q1 q3
  have e1 : lmarkByteS 1 l = foldN f_lmarkByteS_0 l.length 0 (1, l) := rfl
  rw [e1]
  refine ⟨q1, q2, ?_⟩
  have e2 : ∀ x, lheldByteS x 1 = cond (isInl (loopN (f_lheldByteS_0 x) x.length 0 1)) (getInl (-1) (loopN (f_lheldByteS_0 x) x.length 0 1)) (-1 : Int) := fun x => rfl
  rw [e2, q3]; rfl
theorem markOpS_pos (l : List (Int × ByteArray × ByteArray)) (h : l.length ≤ 1048576) : 0 ≤ (lmarkOpS 1 l).1 := by
  have e : lmarkOpS 1 l = foldN f_lmarkOpS_0 l.length 0 (1, l) := rfl
  rw [e]
  have := foldN_inv (g := f_lmarkOpS_0) (fun i b => 0 ≤ b.1 ∧ b.1 ≤ 100000 * ((i : Int) + 1)) l.length 0 (1, l) (by simp) (fun j b hj hl hb => by
    have w1 : IntKind.wrap .i64 (b.1 + (1 : Int)) = b.1 + 1 := wrap64 (by omega) (by omega)
    have w2 : IntKind.wrap .i64 (b.1 + 1 + (1 : Int)) = b.1 + 1 + 1 := wrap64 (by omega) (by omega)
    have w3 : IntKind.wrap .i64 (b.1 + 1 + 1 + (1 : Int)) = b.1 + 1 + 1 + 1 := wrap64 (by omega) (by omega)
    simp only [f_lmarkOpS_0, w1, w2, w3]
    omega)
  exact this.1

noncomputable abbrev P_lFnExactPutWord : List PSh := [.agg [(.int .i64), (.int .i64), (.int .i64), (.sl (.pair (.int .i64) (.pair .str .str))), .bool]]
noncomputable def lFnExactPutWord (a0 : Int) (a1 : Int) (a2 : Int) (a3 : List (Int × ByteArray × ByteArray)) (a4 : Bool) : Bool := (cond (decide ((lszWord a0 a1 a2 a3 a4 (1048576 : Int)) < (0 : Int))) true (cond (!(leqByteS (iPutWord ((ltoWord a0 a1 a2 a3 a4).1) ((ltoWord a0 a1 a2 a3 a4).2.1) ((ltoWord a0 a1 a2 a3 a4).2.2.1) ((ltoWord a0 a1 a2 a3 a4).2.2.2.2) ((ltoWord a0 a1 a2 a3 a4).2.2.2.1)) (sPutWord ((ltoWord a0 a1 a2 a3 a4).1) ((ltoWord a0 a1 a2 a3 a4).2.1) ((ltoWord a0 a1 a2 a3 a4).2.2.1) ((ltoWord a0 a1 a2 a3 a4).2.2.2.2) ((ltoWord a0 a1 a2 a3 a4).2.2.2.1)))) false (cond (!(leqWord ((ltoWord a0 a1 a2 a3 a4).1) ((ltoWord a0 a1 a2 a3 a4).2.1) ((ltoWord a0 a1 a2 a3 a4).2.2.1) ((ltoWord a0 a1 a2 a3 a4).2.2.2.2) ((ltoWord a0 a1 a2 a3 a4).2.2.2.1) ((ltoWord a0 a1 a2 a3 a4).1) ((ltoWord a0 a1 a2 a3 a4).2.1) ((ltoWord a0 a1 a2 a3 a4).2.2.1) ((ltoWord a0 a1 a2 a3 a4).2.2.2.2) ((ltoWord a0 a1 a2 a3 a4).2.2.2.1))) false (cond (decide (((lmarkWord ((ltoWord a0 a1 a2 a3 a4).1) ((ltoWord a0 a1 a2 a3 a4).2.1) ((ltoWord a0 a1 a2 a3 a4).2.2.1) ((ltoWord a0 a1 a2 a3 a4).2.2.2.1) (1 : Int) ((ltoWord a0 a1 a2 a3 a4).2.2.2.2)).1) < (0 : Int))) false (cond (!(leqByteS (iPutWord ((ltoWord a0 a1 a2 a3 a4).1) ((ltoWord a0 a1 a2 a3 a4).2.1) ((ltoWord a0 a1 a2 a3 a4).2.2.1) ((ltoWord a0 a1 a2 a3 a4).2.2.2.2) ((ltoWord a0 a1 a2 a3 a4).2.2.2.1)) (sPutWord ((ltoWord a0 a1 a2 a3 a4).1) ((ltoWord a0 a1 a2 a3 a4).2.1) ((ltoWord a0 a1 a2 a3 a4).2.2.1) ((ltoWord a0 a1 a2 a3 a4).2.2.2.2) ((ltoWord a0 a1 a2 a3 a4).2.2.2.1)))) false (cond (decide ((lheldByteS ((lmarkByteS (1 : Int) (iPutWord ((ltoWord a0 a1 a2 a3 a4).1) ((ltoWord a0 a1 a2 a3 a4).2.1) ((ltoWord a0 a1 a2 a3 a4).2.2.1) ((ltoWord a0 a1 a2 a3 a4).2.2.2.2) ((ltoWord a0 a1 a2 a3 a4).2.2.2.1))).2) (1 : Int)) < (0 : Int))) false (cond ((lheldByteS ((lmarkByteS (1 : Int) (iPutWord ((ltoWord a0 a1 a2 a3 a4).1) ((ltoWord a0 a1 a2 a3 a4).2.1) ((ltoWord a0 a1 a2 a3 a4).2.2.1) ((ltoWord a0 a1 a2 a3 a4).2.2.2.2) ((ltoWord a0 a1 a2 a3 a4).2.2.2.1))).2) (1 : Int)) != ((lmarkByteS (1 : Int) (iPutWord ((ltoWord a0 a1 a2 a3 a4).1) ((ltoWord a0 a1 a2 a3 a4).2.1) ((ltoWord a0 a1 a2 a3 a4).2.2.1) ((ltoWord a0 a1 a2 a3 a4).2.2.2.2) ((ltoWord a0 a1 a2 a3 a4).2.2.2.1))).1)) false (cond (!(leqByteS (iPutWord ((ltoWord a0 a1 a2 a3 a4).1) ((ltoWord a0 a1 a2 a3 a4).2.1) ((ltoWord a0 a1 a2 a3 a4).2.2.1) ((ltoWord a0 a1 a2 a3 a4).2.2.2.2) ((ltoWord a0 a1 a2 a3 a4).2.2.2.1)) (sPutWord ((ltoWord a0 a1 a2 a3 a4).1) ((ltoWord a0 a1 a2 a3 a4).2.1) ((ltoWord a0 a1 a2 a3 a4).2.2.1) ((ltoWord a0 a1 a2 a3 a4).2.2.2.2) ((ltoWord a0 a1 a2 a3 a4).2.2.2.1)))) false (cond (decide ((lheldByteS ((lmarkByteS (1 : Int) (iPutWord ((ltoWord a0 a1 a2 a3 a4).1) ((ltoWord a0 a1 a2 a3 a4).2.1) ((ltoWord a0 a1 a2 a3 a4).2.2.1) ((ltoWord a0 a1 a2 a3 a4).2.2.2.2) ((ltoWord a0 a1 a2 a3 a4).2.2.2.1))).2) (1 : Int)) < (0 : Int))) false (cond ((lheldByteS ((lmarkByteS (1 : Int) (iPutWord ((ltoWord a0 a1 a2 a3 a4).1) ((ltoWord a0 a1 a2 a3 a4).2.1) ((ltoWord a0 a1 a2 a3 a4).2.2.1) ((ltoWord a0 a1 a2 a3 a4).2.2.2.2) ((ltoWord a0 a1 a2 a3 a4).2.2.2.1))).2) (1 : Int)) != ((lmarkByteS (1 : Int) (iPutWord ((ltoWord a0 a1 a2 a3 a4).1) ((ltoWord a0 a1 a2 a3 a4).2.1) ((ltoWord a0 a1 a2 a3 a4).2.2.1) ((ltoWord a0 a1 a2 a3 a4).2.2.2.2) ((ltoWord a0 a1 a2 a3 a4).2.2.2.1))).1)) false true))))))))))
noncomputable abbrev e_lFnExactPutWord (r : Bool) : AV × List AObj := ((.t true .bool r), [])
noncomputable abbrev g_lFnExactPutWord : pshsDen P_lFnExactPutWord → AV × List AObj := fun d => e_lFnExactPutWord (lFnExactPutWord d.1.1 d.1.2.1 d.1.2.2.1 d.1.2.2.2.1 d.1.2.2.2.2.1)
noncomputable def q_lFnExactPutWord (a0 : Int) (a1 : Int) (a2 : Int) (a3 : List (Int × ByteArray × ByteArray)) (a4 : Bool) : Bool := bigT (.pair (.int .i64) (.pair (.int .i64) (.pair (.int .i64) (.pair (.sl (.pair (.int .i64) (.pair .str .str))) .bool)))) (a0, (a1, (a2, (a3, a4))))
noncomputable abbrev pre_lFnExactPutWord : pshsDen P_lFnExactPutWord → Bool := fun d => q_lFnExactPutWord d.1.1 d.1.2.1 d.1.2.2.1 d.1.2.2.2.1 d.1.2.2.2.2.1
theorem runA_lFnExactPutWord (a0 : Int) (a1 : Int) (a2 : Int) (a3 : List (Int × ByteArray × ByteArray)) (a4 : Bool) (hp : (bigT (.pair (.int .i64) (.pair (.int .i64) (.pair (.int .i64) (.pair (.sl (.pair (.int .i64) (.pair .str .str))) .bool)))) (a0, (a1, (a2, (a3, a4))))) = true) : runP true Try.prog tt S40 QF40 (fun _ _ => none) Try.f7 (argsMk P_lFnExactPutWord ((a0, (a1, (a2, (a3, (a4, ()))))), ())) = some (g_lFnExactPutWord ((a0, (a1, (a2, (a3, (a4, ()))))), ())) := by
  refine Eq.trans (b := (cond (q_lszWord a0 a1 a2 a3 a4 (1048576 : Int)) (cond (decide ((lszWord a0 a1 a2 a3 a4 (1048576 : Int)) < (0 : Int))) (some (e_lFnExactPutWord true)) (cond (q_ltoWord a0 a1 a2 a3 a4) (cond (q_sPutWord ((ltoWord a0 a1 a2 a3 a4).1) ((ltoWord a0 a1 a2 a3 a4).2.1) ((ltoWord a0 a1 a2 a3 a4).2.2.1) ((ltoWord a0 a1 a2 a3 a4).2.2.2.2) ((ltoWord a0 a1 a2 a3 a4).2.2.2.1)) (cond (q_ltoWord a0 a1 a2 a3 a4) (cond (q_iPutWord ((ltoWord a0 a1 a2 a3 a4).1) ((ltoWord a0 a1 a2 a3 a4).2.1) ((ltoWord a0 a1 a2 a3 a4).2.2.1) ((ltoWord a0 a1 a2 a3 a4).2.2.2.2) ((ltoWord a0 a1 a2 a3 a4).2.2.2.1)) (cond (q_leqByteS (iPutWord ((ltoWord a0 a1 a2 a3 a4).1) ((ltoWord a0 a1 a2 a3 a4).2.1) ((ltoWord a0 a1 a2 a3 a4).2.2.1) ((ltoWord a0 a1 a2 a3 a4).2.2.2.2) ((ltoWord a0 a1 a2 a3 a4).2.2.2.1)) (sPutWord ((ltoWord a0 a1 a2 a3 a4).1) ((ltoWord a0 a1 a2 a3 a4).2.1) ((ltoWord a0 a1 a2 a3 a4).2.2.1) ((ltoWord a0 a1 a2 a3 a4).2.2.2.2) ((ltoWord a0 a1 a2 a3 a4).2.2.2.1))) (cond (!(leqByteS (iPutWord ((ltoWord a0 a1 a2 a3 a4).1) ((ltoWord a0 a1 a2 a3 a4).2.1) ((ltoWord a0 a1 a2 a3 a4).2.2.1) ((ltoWord a0 a1 a2 a3 a4).2.2.2.2) ((ltoWord a0 a1 a2 a3 a4).2.2.2.1)) (sPutWord ((ltoWord a0 a1 a2 a3 a4).1) ((ltoWord a0 a1 a2 a3 a4).2.1) ((ltoWord a0 a1 a2 a3 a4).2.2.1) ((ltoWord a0 a1 a2 a3 a4).2.2.2.2) ((ltoWord a0 a1 a2 a3 a4).2.2.2.1)))) (some (e_lFnExactPutWord false)) (cond (q_ltoWord a0 a1 a2 a3 a4) (cond (q_leqWord ((ltoWord a0 a1 a2 a3 a4).1) ((ltoWord a0 a1 a2 a3 a4).2.1) ((ltoWord a0 a1 a2 a3 a4).2.2.1) ((ltoWord a0 a1 a2 a3 a4).2.2.2.2) ((ltoWord a0 a1 a2 a3 a4).2.2.2.1) ((ltoWord a0 a1 a2 a3 a4).1) ((ltoWord a0 a1 a2 a3 a4).2.1) ((ltoWord a0 a1 a2 a3 a4).2.2.1) ((ltoWord a0 a1 a2 a3 a4).2.2.2.2) ((ltoWord a0 a1 a2 a3 a4).2.2.2.1)) (cond (!(leqWord ((ltoWord a0 a1 a2 a3 a4).1) ((ltoWord a0 a1 a2 a3 a4).2.1) ((ltoWord a0 a1 a2 a3 a4).2.2.1) ((ltoWord a0 a1 a2 a3 a4).2.2.2.2) ((ltoWord a0 a1 a2 a3 a4).2.2.2.1) ((ltoWord a0 a1 a2 a3 a4).1) ((ltoWord a0 a1 a2 a3 a4).2.1) ((ltoWord a0 a1 a2 a3 a4).2.2.1) ((ltoWord a0 a1 a2 a3 a4).2.2.2.2) ((ltoWord a0 a1 a2 a3 a4).2.2.2.1))) (some (e_lFnExactPutWord false)) (cond (q_lmarkWord ((ltoWord a0 a1 a2 a3 a4).1) ((ltoWord a0 a1 a2 a3 a4).2.1) ((ltoWord a0 a1 a2 a3 a4).2.2.1) ((ltoWord a0 a1 a2 a3 a4).2.2.2.1) (1 : Int) ((ltoWord a0 a1 a2 a3 a4).2.2.2.2)) (cond (decide (((lmarkWord ((ltoWord a0 a1 a2 a3 a4).1) ((ltoWord a0 a1 a2 a3 a4).2.1) ((ltoWord a0 a1 a2 a3 a4).2.2.1) ((ltoWord a0 a1 a2 a3 a4).2.2.2.1) (1 : Int) ((ltoWord a0 a1 a2 a3 a4).2.2.2.2)).1) < (0 : Int))) (some (e_lFnExactPutWord false)) (cond (q_leqByteS (iPutWord ((ltoWord a0 a1 a2 a3 a4).1) ((ltoWord a0 a1 a2 a3 a4).2.1) ((ltoWord a0 a1 a2 a3 a4).2.2.1) ((ltoWord a0 a1 a2 a3 a4).2.2.2.2) ((ltoWord a0 a1 a2 a3 a4).2.2.2.1)) (sPutWord ((ltoWord a0 a1 a2 a3 a4).1) ((ltoWord a0 a1 a2 a3 a4).2.1) ((ltoWord a0 a1 a2 a3 a4).2.2.1) ((ltoWord a0 a1 a2 a3 a4).2.2.2.2) ((ltoWord a0 a1 a2 a3 a4).2.2.2.1))) (cond (!(leqByteS (iPutWord ((ltoWord a0 a1 a2 a3 a4).1) ((ltoWord a0 a1 a2 a3 a4).2.1) ((ltoWord a0 a1 a2 a3 a4).2.2.1) ((ltoWord a0 a1 a2 a3 a4).2.2.2.2) ((ltoWord a0 a1 a2 a3 a4).2.2.2.1)) (sPutWord ((ltoWord a0 a1 a2 a3 a4).1) ((ltoWord a0 a1 a2 a3 a4).2.1) ((ltoWord a0 a1 a2 a3 a4).2.2.1) ((ltoWord a0 a1 a2 a3 a4).2.2.2.2) ((ltoWord a0 a1 a2 a3 a4).2.2.2.1)))) (some (e_lFnExactPutWord false)) (cond (q_lmarkByteS (1 : Int) (iPutWord ((ltoWord a0 a1 a2 a3 a4).1) ((ltoWord a0 a1 a2 a3 a4).2.1) ((ltoWord a0 a1 a2 a3 a4).2.2.1) ((ltoWord a0 a1 a2 a3 a4).2.2.2.2) ((ltoWord a0 a1 a2 a3 a4).2.2.2.1))) (cond (q_lheldByteS ((lmarkByteS (1 : Int) (iPutWord ((ltoWord a0 a1 a2 a3 a4).1) ((ltoWord a0 a1 a2 a3 a4).2.1) ((ltoWord a0 a1 a2 a3 a4).2.2.1) ((ltoWord a0 a1 a2 a3 a4).2.2.2.2) ((ltoWord a0 a1 a2 a3 a4).2.2.2.1))).2) (1 : Int)) (cond (decide ((lheldByteS ((lmarkByteS (1 : Int) (iPutWord ((ltoWord a0 a1 a2 a3 a4).1) ((ltoWord a0 a1 a2 a3 a4).2.1) ((ltoWord a0 a1 a2 a3 a4).2.2.1) ((ltoWord a0 a1 a2 a3 a4).2.2.2.2) ((ltoWord a0 a1 a2 a3 a4).2.2.2.1))).2) (1 : Int)) < (0 : Int))) (some (e_lFnExactPutWord false)) (cond ((lheldByteS ((lmarkByteS (1 : Int) (iPutWord ((ltoWord a0 a1 a2 a3 a4).1) ((ltoWord a0 a1 a2 a3 a4).2.1) ((ltoWord a0 a1 a2 a3 a4).2.2.1) ((ltoWord a0 a1 a2 a3 a4).2.2.2.2) ((ltoWord a0 a1 a2 a3 a4).2.2.2.1))).2) (1 : Int)) != ((lmarkByteS (1 : Int) (iPutWord ((ltoWord a0 a1 a2 a3 a4).1) ((ltoWord a0 a1 a2 a3 a4).2.1) ((ltoWord a0 a1 a2 a3 a4).2.2.1) ((ltoWord a0 a1 a2 a3 a4).2.2.2.2) ((ltoWord a0 a1 a2 a3 a4).2.2.2.1))).1)) (some (e_lFnExactPutWord false)) (cond (q_ltoWord a0 a1 a2 a3 a4) (cond (q_iPutWord ((ltoWord a0 a1 a2 a3 a4).1) ((ltoWord a0 a1 a2 a3 a4).2.1) ((ltoWord a0 a1 a2 a3 a4).2.2.1) ((ltoWord a0 a1 a2 a3 a4).2.2.2.2) ((ltoWord a0 a1 a2 a3 a4).2.2.2.1)) (cond (q_leqByteS (iPutWord ((ltoWord a0 a1 a2 a3 a4).1) ((ltoWord a0 a1 a2 a3 a4).2.1) ((ltoWord a0 a1 a2 a3 a4).2.2.1) ((ltoWord a0 a1 a2 a3 a4).2.2.2.2) ((ltoWord a0 a1 a2 a3 a4).2.2.2.1)) (sPutWord ((ltoWord a0 a1 a2 a3 a4).1) ((ltoWord a0 a1 a2 a3 a4).2.1) ((ltoWord a0 a1 a2 a3 a4).2.2.1) ((ltoWord a0 a1 a2 a3 a4).2.2.2.2) ((ltoWord a0 a1 a2 a3 a4).2.2.2.1))) (cond (!(leqByteS (iPutWord ((ltoWord a0 a1 a2 a3 a4).1) ((ltoWord a0 a1 a2 a3 a4).2.1) ((ltoWord a0 a1 a2 a3 a4).2.2.1) ((ltoWord a0 a1 a2 a3 a4).2.2.2.2) ((ltoWord a0 a1 a2 a3 a4).2.2.2.1)) (sPutWord ((ltoWord a0 a1 a2 a3 a4).1) ((ltoWord a0 a1 a2 a3 a4).2.1) ((ltoWord a0 a1 a2 a3 a4).2.2.1) ((ltoWord a0 a1 a2 a3 a4).2.2.2.2) ((ltoWord a0 a1 a2 a3 a4).2.2.2.1)))) (some (e_lFnExactPutWord false)) (cond (q_lheldByteS ((lmarkByteS (1 : Int) (iPutWord ((ltoWord a0 a1 a2 a3 a4).1) ((ltoWord a0 a1 a2 a3 a4).2.1) ((ltoWord a0 a1 a2 a3 a4).2.2.1) ((ltoWord a0 a1 a2 a3 a4).2.2.2.2) ((ltoWord a0 a1 a2 a3 a4).2.2.2.1))).2) (1 : Int)) (cond (decide ((lheldByteS ((lmarkByteS (1 : Int) (iPutWord ((ltoWord a0 a1 a2 a3 a4).1) ((ltoWord a0 a1 a2 a3 a4).2.1) ((ltoWord a0 a1 a2 a3 a4).2.2.1) ((ltoWord a0 a1 a2 a3 a4).2.2.2.2) ((ltoWord a0 a1 a2 a3 a4).2.2.2.1))).2) (1 : Int)) < (0 : Int))) (some (e_lFnExactPutWord false)) (cond ((lheldByteS ((lmarkByteS (1 : Int) (iPutWord ((ltoWord a0 a1 a2 a3 a4).1) ((ltoWord a0 a1 a2 a3 a4).2.1) ((ltoWord a0 a1 a2 a3 a4).2.2.1) ((ltoWord a0 a1 a2 a3 a4).2.2.2.2) ((ltoWord a0 a1 a2 a3 a4).2.2.2.1))).2) (1 : Int)) != ((lmarkByteS (1 : Int) (iPutWord ((ltoWord a0 a1 a2 a3 a4).1) ((ltoWord a0 a1 a2 a3 a4).2.1) ((ltoWord a0 a1 a2 a3 a4).2.2.1) ((ltoWord a0 a1 a2 a3 a4).2.2.2.2) ((ltoWord a0 a1 a2 a3 a4).2.2.2.1))).1)) (some (e_lFnExactPutWord false)) (some (e_lFnExactPutWord true)))) none)) none) none) none))) none) none)) none)) none)) none) none)) none) none) none) none) none)) none)) (by kernel_rfl) ?_
  exact (cndT (by simp [q_lszWord, bigOps_len (bigWord_ops hp)]) (fun _h => (cnd (F := fun r => some (e_lFnExactPutWord r)) (fun _h => rfl) (fun _h => (cndT (by have ho := szWord_spec a0 a1 a2 a3 a4 1048576 (by decide) (by decide) (bigWord_ops hp) (by assumption); have h1 := putWord_len a0 a1 a2 a3 a4 ho; have h2 : okL (sPutWord a0 a1 a2 a3 a4) = true := decide_eq_true (Nat.le_trans h1 (by decide)); have h3 : okL (lmarkByteS 1 (sPutWord a0 a1 a2 a3 a4)).2 = true := decide_eq_true (Nat.le_trans (Nat.le_of_eq (byteS_held _ (okL_le h2)).2.1) (okL_le h2)); simp only [q_ltoWord, q_sPutWord, q_iPutWord, q_leqByteS, q_leqWord, q_lmarkWord, q_lmarkOpS, q_lmarkByteS, q_lheldByteS, toWord_same, putWord_same _ _ _ _ _ ho, ho, okOps_okL ho, h2, h3] <;> rfl) (fun _h => (cndT (by have ho := szWord_spec a0 a1 a2 a3 a4 1048576 (by decide) (by decide) (bigWord_ops hp) (by assumption); have h1 := putWord_len a0 a1 a2 a3 a4 ho; have h2 : okL (sPutWord a0 a1 a2 a3 a4) = true := decide_eq_true (Nat.le_trans h1 (by decide)); have h3 : okL (lmarkByteS 1 (sPutWord a0 a1 a2 a3 a4)).2 = true := decide_eq_true (Nat.le_trans (Nat.le_of_eq (byteS_held _ (okL_le h2)).2.1) (okL_le h2)); simp only [q_ltoWord, q_sPutWord, q_iPutWord, q_leqByteS, q_leqWord, q_lmarkWord, q_lmarkOpS, q_lmarkByteS, q_lheldByteS, toWord_same, putWord_same _ _ _ _ _ ho, ho, okOps_okL ho, h2, h3] <;> rfl) (fun _h => (cndT (by have ho := szWord_spec a0 a1 a2 a3 a4 1048576 (by decide) (by decide) (bigWord_ops hp) (by assumption); have h1 := putWord_len a0 a1 a2 a3 a4 ho; have h2 : okL (sPutWord a0 a1 a2 a3 a4) = true := decide_eq_true (Nat.le_trans h1 (by decide)); have h3 : okL (lmarkByteS 1 (sPutWord a0 a1 a2 a3 a4)).2 = true := decide_eq_true (Nat.le_trans (Nat.le_of_eq (byteS_held _ (okL_le h2)).2.1) (okL_le h2)); simp only [q_ltoWord, q_sPutWord, q_iPutWord, q_leqByteS, q_leqWord, q_lmarkWord, q_lmarkOpS, q_lmarkByteS, q_lheldByteS, toWord_same, putWord_same _ _ _ _ _ ho, ho, okOps_okL ho, h2, h3] <;> rfl) (fun _h => (cndT (by have ho := szWord_spec a0 a1 a2 a3 a4 1048576 (by decide) (by decide) (bigWord_ops hp) (by assumption); have h1 := putWord_len a0 a1 a2 a3 a4 ho; have h2 : okL (sPutWord a0 a1 a2 a3 a4) = true := decide_eq_true (Nat.le_trans h1 (by decide)); have h3 : okL (lmarkByteS 1 (sPutWord a0 a1 a2 a3 a4)).2 = true := decide_eq_true (Nat.le_trans (Nat.le_of_eq (byteS_held _ (okL_le h2)).2.1) (okL_le h2)); simp only [q_ltoWord, q_sPutWord, q_iPutWord, q_leqByteS, q_leqWord, q_lmarkWord, q_lmarkOpS, q_lmarkByteS, q_lheldByteS, toWord_same, putWord_same _ _ _ _ _ ho, ho, okOps_okL ho, h2, h3] <;> rfl) (fun _h => (cndT (by have ho := szWord_spec a0 a1 a2 a3 a4 1048576 (by decide) (by decide) (bigWord_ops hp) (by assumption); have h1 := putWord_len a0 a1 a2 a3 a4 ho; have h2 : okL (sPutWord a0 a1 a2 a3 a4) = true := decide_eq_true (Nat.le_trans h1 (by decide)); have h3 : okL (lmarkByteS 1 (sPutWord a0 a1 a2 a3 a4)).2 = true := decide_eq_true (Nat.le_trans (Nat.le_of_eq (byteS_held _ (okL_le h2)).2.1) (okL_le h2)); simp only [q_ltoWord, q_sPutWord, q_iPutWord, q_leqByteS, q_leqWord, q_lmarkWord, q_lmarkOpS, q_lmarkByteS, q_lheldByteS, toWord_same, putWord_same _ _ _ _ _ ho, ho, okOps_okL ho, h2, h3] <;> rfl) (fun _h => (cnd (F := fun r => some (e_lFnExactPutWord r)) (fun _h => rfl) (fun _h => (cndT (by have ho := szWord_spec a0 a1 a2 a3 a4 1048576 (by decide) (by decide) (bigWord_ops hp) (by assumption); have h1 := putWord_len a0 a1 a2 a3 a4 ho; have h2 : okL (sPutWord a0 a1 a2 a3 a4) = true := decide_eq_true (Nat.le_trans h1 (by decide)); have h3 : okL (lmarkByteS 1 (sPutWord a0 a1 a2 a3 a4)).2 = true := decide_eq_true (Nat.le_trans (Nat.le_of_eq (byteS_held _ (okL_le h2)).2.1) (okL_le h2)); simp only [q_ltoWord, q_sPutWord, q_iPutWord, q_leqByteS, q_leqWord, q_lmarkWord, q_lmarkOpS, q_lmarkByteS, q_lheldByteS, toWord_same, putWord_same _ _ _ _ _ ho, ho, okOps_okL ho, h2, h3] <;> rfl) (fun _h => (cndT (by have ho := szWord_spec a0 a1 a2 a3 a4 1048576 (by decide) (by decide) (bigWord_ops hp) (by assumption); have h1 := putWord_len a0 a1 a2 a3 a4 ho; have h2 : okL (sPutWord a0 a1 a2 a3 a4) = true := decide_eq_true (Nat.le_trans h1 (by decide)); have h3 : okL (lmarkByteS 1 (sPutWord a0 a1 a2 a3 a4)).2 = true := decide_eq_true (Nat.le_trans (Nat.le_of_eq (byteS_held _ (okL_le h2)).2.1) (okL_le h2)); simp only [q_ltoWord, q_sPutWord, q_iPutWord, q_leqByteS, q_leqWord, q_lmarkWord, q_lmarkOpS, q_lmarkByteS, q_lheldByteS, toWord_same, putWord_same _ _ _ _ _ ho, ho, okOps_okL ho, h2, h3] <;> rfl) (fun _h => (cnd (F := fun r => some (e_lFnExactPutWord r)) (fun _h => rfl) (fun _h => (cndT (by have ho := szWord_spec a0 a1 a2 a3 a4 1048576 (by decide) (by decide) (bigWord_ops hp) (by assumption); have h1 := putWord_len a0 a1 a2 a3 a4 ho; have h2 : okL (sPutWord a0 a1 a2 a3 a4) = true := decide_eq_true (Nat.le_trans h1 (by decide)); have h3 : okL (lmarkByteS 1 (sPutWord a0 a1 a2 a3 a4)).2 = true := decide_eq_true (Nat.le_trans (Nat.le_of_eq (byteS_held _ (okL_le h2)).2.1) (okL_le h2)); simp only [q_ltoWord, q_sPutWord, q_iPutWord, q_leqByteS, q_leqWord, q_lmarkWord, q_lmarkOpS, q_lmarkByteS, q_lheldByteS, toWord_same, putWord_same _ _ _ _ _ ho, ho, okOps_okL ho, h2, h3] <;> rfl) (fun _h => (cnd (F := fun r => some (e_lFnExactPutWord r)) (fun _h => rfl) (fun _h => (cndT (by have ho := szWord_spec a0 a1 a2 a3 a4 1048576 (by decide) (by decide) (bigWord_ops hp) (by assumption); have h1 := putWord_len a0 a1 a2 a3 a4 ho; have h2 : okL (sPutWord a0 a1 a2 a3 a4) = true := decide_eq_true (Nat.le_trans h1 (by decide)); have h3 : okL (lmarkByteS 1 (sPutWord a0 a1 a2 a3 a4)).2 = true := decide_eq_true (Nat.le_trans (Nat.le_of_eq (byteS_held _ (okL_le h2)).2.1) (okL_le h2)); simp only [q_ltoWord, q_sPutWord, q_iPutWord, q_leqByteS, q_leqWord, q_lmarkWord, q_lmarkOpS, q_lmarkByteS, q_lheldByteS, toWord_same, putWord_same _ _ _ _ _ ho, ho, okOps_okL ho, h2, h3] <;> rfl) (fun _h => (cnd (F := fun r => some (e_lFnExactPutWord r)) (fun _h => rfl) (fun _h => (cndT (by have ho := szWord_spec a0 a1 a2 a3 a4 1048576 (by decide) (by decide) (bigWord_ops hp) (by assumption); have h1 := putWord_len a0 a1 a2 a3 a4 ho; have h2 : okL (sPutWord a0 a1 a2 a3 a4) = true := decide_eq_true (Nat.le_trans h1 (by decide)); have h3 : okL (lmarkByteS 1 (sPutWord a0 a1 a2 a3 a4)).2 = true := decide_eq_true (Nat.le_trans (Nat.le_of_eq (byteS_held _ (okL_le h2)).2.1) (okL_le h2)); simp only [q_ltoWord, q_sPutWord, q_iPutWord, q_leqByteS, q_leqWord, q_lmarkWord, q_lmarkOpS, q_lmarkByteS, q_lheldByteS, toWord_same, putWord_same _ _ _ _ _ ho, ho, okOps_okL ho, h2, h3] <;> rfl) (fun _h => (cndT (by have ho := szWord_spec a0 a1 a2 a3 a4 1048576 (by decide) (by decide) (bigWord_ops hp) (by assumption); have h1 := putWord_len a0 a1 a2 a3 a4 ho; have h2 : okL (sPutWord a0 a1 a2 a3 a4) = true := decide_eq_true (Nat.le_trans h1 (by decide)); have h3 : okL (lmarkByteS 1 (sPutWord a0 a1 a2 a3 a4)).2 = true := decide_eq_true (Nat.le_trans (Nat.le_of_eq (byteS_held _ (okL_le h2)).2.1) (okL_le h2)); simp only [q_ltoWord, q_sPutWord, q_iPutWord, q_leqByteS, q_leqWord, q_lmarkWord, q_lmarkOpS, q_lmarkByteS, q_lheldByteS, toWord_same, putWord_same _ _ _ _ _ ho, ho, okOps_okL ho, h2, h3] <;> rfl) (fun _h => (cnd (F := fun r => some (e_lFnExactPutWord r)) (fun _h => rfl) (fun _h => (cnd (F := fun r => some (e_lFnExactPutWord r)) (fun _h => rfl) (fun _h => (cndT (by have ho := szWord_spec a0 a1 a2 a3 a4 1048576 (by decide) (by decide) (bigWord_ops hp) (by assumption); have h1 := putWord_len a0 a1 a2 a3 a4 ho; have h2 : okL (sPutWord a0 a1 a2 a3 a4) = true := decide_eq_true (Nat.le_trans h1 (by decide)); have h3 : okL (lmarkByteS 1 (sPutWord a0 a1 a2 a3 a4)).2 = true := decide_eq_true (Nat.le_trans (Nat.le_of_eq (byteS_held _ (okL_le h2)).2.1) (okL_le h2)); simp only [q_ltoWord, q_sPutWord, q_iPutWord, q_leqByteS, q_leqWord, q_lmarkWord, q_lmarkOpS, q_lmarkByteS, q_lheldByteS, toWord_same, putWord_same _ _ _ _ _ ho, ho, okOps_okL ho, h2, h3] <;> rfl) (fun _h => (cndT (by have ho := szWord_spec a0 a1 a2 a3 a4 1048576 (by decide) (by decide) (bigWord_ops hp) (by assumption); have h1 := putWord_len a0 a1 a2 a3 a4 ho; have h2 : okL (sPutWord a0 a1 a2 a3 a4) = true := decide_eq_true (Nat.le_trans h1 (by decide)); have h3 : okL (lmarkByteS 1 (sPutWord a0 a1 a2 a3 a4)).2 = true := decide_eq_true (Nat.le_trans (Nat.le_of_eq (byteS_held _ (okL_le h2)).2.1) (okL_le h2)); simp only [q_ltoWord, q_sPutWord, q_iPutWord, q_leqByteS, q_leqWord, q_lmarkWord, q_lmarkOpS, q_lmarkByteS, q_lheldByteS, toWord_same, putWord_same _ _ _ _ _ ho, ho, okOps_okL ho, h2, h3] <;> rfl) (fun _h => (cndT (by have ho := szWord_spec a0 a1 a2 a3 a4 1048576 (by decide) (by decide) (bigWord_ops hp) (by assumption); have h1 := putWord_len a0 a1 a2 a3 a4 ho; have h2 : okL (sPutWord a0 a1 a2 a3 a4) = true := decide_eq_true (Nat.le_trans h1 (by decide)); have h3 : okL (lmarkByteS 1 (sPutWord a0 a1 a2 a3 a4)).2 = true := decide_eq_true (Nat.le_trans (Nat.le_of_eq (byteS_held _ (okL_le h2)).2.1) (okL_le h2)); simp only [q_ltoWord, q_sPutWord, q_iPutWord, q_leqByteS, q_leqWord, q_lmarkWord, q_lmarkOpS, q_lmarkByteS, q_lheldByteS, toWord_same, putWord_same _ _ _ _ _ ho, ho, okOps_okL ho, h2, h3] <;> rfl) (fun _h => (cnd (F := fun r => some (e_lFnExactPutWord r)) (fun _h => rfl) (fun _h => (cndT (by have ho := szWord_spec a0 a1 a2 a3 a4 1048576 (by decide) (by decide) (bigWord_ops hp) (by assumption); have h1 := putWord_len a0 a1 a2 a3 a4 ho; have h2 : okL (sPutWord a0 a1 a2 a3 a4) = true := decide_eq_true (Nat.le_trans h1 (by decide)); have h3 : okL (lmarkByteS 1 (sPutWord a0 a1 a2 a3 a4)).2 = true := decide_eq_true (Nat.le_trans (Nat.le_of_eq (byteS_held _ (okL_le h2)).2.1) (okL_le h2)); simp only [q_ltoWord, q_sPutWord, q_iPutWord, q_leqByteS, q_leqWord, q_lmarkWord, q_lmarkOpS, q_lmarkByteS, q_lheldByteS, toWord_same, putWord_same _ _ _ _ _ ho, ho, okOps_okL ho, h2, h3] <;> rfl) (fun _h => (cnd (F := fun r => some (e_lFnExactPutWord r)) (fun _h => rfl) (fun _h => (cnd (F := fun r => some (e_lFnExactPutWord r)) (fun _h => rfl) (fun _h => rfl))))))))))))))))))))))))))))))))))))))))))))))))))))
theorem run_lFnExactPutWord : ∀ d, pre_lFnExactPutWord d = true → runP true Try.prog tt S40 QF40 (fun _ _ => none) Try.f7 (argsMk P_lFnExactPutWord d) = some (g_lFnExactPutWord d) := fun d hp => runA_lFnExactPutWord d.1.1 d.1.2.1 d.1.2.2.1 d.1.2.2.2.1 d.1.2.2.2.2.1 hp
theorem c_lFnExactPutWord : PContract Try.prog 7 (sumOf P_lFnExactPutWord pre_lFnExactPutWord g_lFnExactPutWord) := PContract.of_data true G40 (fn := Try.f7) (by kernel_rfl) (L := fun _ _ => none) (by rw [show loopsIn 0 (bodyOf Try.f7) = [] by kernel_rfl]; simp) P_lFnExactPutWord pre_lFnExactPutWord g_lFnExactPutWord run_lFnExactPutWord
noncomputable def S41 : Tab := Tab.add S40 7 (lift (sumOf P_lFnExactPutWord pre_lFnExactPutWord g_lFnExactPutWord))
noncomputable def QF41 : FuncId → Bool := qadd QF40 7
theorem G41 : Good Try.prog tt S41 QF41 := G40.addQ c_lFnExactPutWord ⟨Try.f7, by kernel_rfl, by kernel_rfl, by kernel_rfl⟩ (fun _ => rfl)
theorem pre_of_lFnExactPutWord (k s t : Int) (l : List (Int × ByteArray × ByteArray)) (y : Bool) (h : bigT (.pair (.int .i64) (.pair (.int .i64) (.pair (.int .i64) (.pair (.sl (.pair (.int .i64) (.pair .str .str))) .bool)))) (k, (s, (t, (l, y)))) = true) : pre_lFnExactPutWord ((k, s, t, l, y, ()), ()) = true := h
theorem exact_lFnExactPutWord (k s t : Int) (l : List (Int × ByteArray × ByteArray)) (y : Bool) (hb : pre_lFnExactPutWord ((k, s, t, l, y, ()), ()) = true) : lFnExactPutWord k s t l y = true := by
  have hb : bigT (.pair (.int .i64) (.pair (.int .i64) (.pair (.int .i64) (.pair (.sl (.pair (.int .i64) (.pair .str .str))) .bool)))) (k, (s, (t, (l, y)))) = true := hb
  cases h : decide (lszWord k s t l y 1048576 < 0) with
  | true => simp only [lFnExactPutWord, h, cond_true]
  | false =>
    have ho := szWord_spec k s t l y 1048576 (by decide) (by decide) (bigWord_ops hb) h
    have h1 := putWord_len k s t l y ho
    obtain ⟨b1, b2, b3⟩ := byteS_held (sPutWord k s t l y) (by omega)
    have b4 := markOpS_pos l (okL_le (okOps_okL ho))
    have e1 : decide ((lmarkOpS 1 l).1 < 0) = false := decide_eq_false (by omega)
    have e2 : decide ((1 + ((sPutWord k s t l y).length : Int)) < 0) = false := decide_eq_false (by omega)
    simp only [lFnExactPutWord, toWord_same, putWord_same _ _ _ _ _ ho, h, eqByteS_same, eqWord_same, lmarkWord, b1, b3, e1, e2, cond_false, Bool.not_true]
    simp

end Go.Proofs.Ytoddiofedjnapaa.Eng

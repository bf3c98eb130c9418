/- What the functions that FnExactApply reaches compute, and that it answers true. -/
import Derived.Test.YtoddiofedjnapaaT
import Derived.Test.YtoddiofedjnapaaRows
import Derived.Test.YtoddiofedjnapaaE45
import Derived.Shelf.Spec.SlicesInsertGrow
namespace Go.Proofs.Ytoddiofedjnapaa.Eng
open Go Go.RowKit
set_option linter.unusedSimpArgs false
set_option linter.unusedVariables false
set_option maxRecDepth 10000
noncomputable def S0 : Tab := fun _ => none
noncomputable def QF0 : FuncId → Bool := fun _ => false
theorem G0 : Good Try.prog tt S0 QF0 := Good.start tt_ok (by kernel_rfl)
/-! Plain laws: order of bytes, keys, ops. -/
theorem bytesLess_irrefl : ∀ a : List UInt8, Op.bytesLess a a = false := by
  intro a
  induction a with
  | nil => rfl
  | cons x a ih => simp only [Op.bytesLess, ih, Bool.and_false, Bool.or_false, decide_eq_false_iff_not]; exact UInt8.lt_irrefl x
theorem bytesLess_ge : ∀ a b : List UInt8, (!(Op.bytesLess a b)) = (Op.bytesLess b a || b == a) := by
  intro a
  induction a with
  | nil => intro b; cases b <;> simp [Op.bytesLess]
  | cons x a ih =>
    intro b
    cases b with
    | nil => simp [Op.bytesLess]
    | cons y b =>
      simp only [Op.bytesLess]
      by_cases h1 : x < y
      · have h2 : ¬ y < x := fun h => UInt8.lt_irrefl _ (UInt8.lt_trans h1 h)
        have h3 : (y == x) = false := by rw [beq_eq_false_iff_ne]; intro h; subst h; exact h2 h1
        have h4 : (y :: b == x :: a) = false := by rw [List.cons_beq_cons, h3, Bool.false_and]
        simp [h1, h2, h3, h4]
      · by_cases h5 : x = y
        · subst h5
          have h6 : (x :: b == x :: a) = (b == a) := by rw [List.cons_beq_cons]; simp
          have := ih b
          simp only [h1, decide_false, Bool.false_or, beq_self_eq_true, Bool.true_and, h6, this]
        · have h7 : y < x := by
            rcases Nat.lt_trichotomy x.toNat y.toNat with h | h | h
            · exact absurd (UInt8.lt_iff_toNat_lt.2 h) h1
            · exact absurd (UInt8.toNat_inj.1 h) h5
            · exact UInt8.lt_iff_toNat_lt.2 h
          have h8 : (x == y) = false := by rw [beq_eq_false_iff_ne]; exact h5
          simp [h1, h7, h8]
theorem allF_congr {p q : Nat → Bool} : ∀ k i, (∀ j, i ≤ j → j < i + k → p j = q j) → allF p k i = allF q k i := by
  intro k
  induction k with
  | zero => intro i h; rfl
  | succ k ih => intro i h; simp only [allF]; rw [h i (Nat.le_refl _) (by omega), ih (i + 1) (fun j h1 h2 => h j (by omega) (by omega))]
theorem allF_same {p : Nat → Bool} (k i : Nat) (h : ∀ j, i ≤ j → j < i + k → p j = true) : allF p k i = true := (allF_true k i).2 h
theorem szN_all {f : Nat → Int → Int} {Q : Nat → Prop} {M : Int} : ∀ (k i : Nat) (b : Int), (∀ j b, i ≤ j → j < i + k → 0 ≤ b → b ≤ M → 0 ≤ f j b → Q j ∧ f j b ≤ b) → 0 ≤ b → b ≤ M → isInl (szN f k i b) = true →
    (∀ j, i ≤ j → j < i + k → Q j) ∧ 0 ≤ getInl (-1) (szN f k i b) ∧ getInl (-1) (szN f k i b) ≤ b := by
  intro k
  induction k with
  | zero => intro i b hf h1 h2 h3; exact ⟨fun j hj hk => by omega, h1, Int.le_refl _⟩
  | succ k ih =>
    intro i b hf h1 h2 h3
    have e : szN f (k + 1) i b = cond (decide (f i b < 0)) (.inr ()) (szN f k (i + 1) (f i b)) := by
      simp only [szN, loopN]
      cases decide (f i b < 0) <;> rfl
    rw [e] at h3 ⊢
    cases hd : decide (f i b < 0) with
    | true => rw [hd] at h3; cases h3
    | false =>
      rw [hd] at h3
      simp only [cond_false] at h3 ⊢
      have h0 : 0 ≤ f i b := by have := of_decide_eq_false hd; omega
      obtain ⟨q1, q2⟩ := hf i b (Nat.le_refl _) (by omega) h1 h2 h0
      obtain ⟨r1, r2, r3⟩ := ih (i + 1) (f i b) (fun j b hj hk => hf j b (by omega) (by omega)) h0 (by omega) h3
      refine ⟨fun j hj hk => ?_, r2, by omega⟩
      by_cases ej : j = i
      · exact ej ▸ q1
      · exact r1 j (by omega) (by omega)
noncomputable abbrev OpT : Type := Int × ByteArray × ByteArray
noncomputable def dOp : Int × ByteArray × ByteArray := ((0 : Int), ((⟨#[]⟩ : ByteArray), (⟨#[]⟩ : ByteArray)))
noncomputable def okOp (o : Int × ByteArray × ByteArray) : Bool := okS o.2.1 && okS o.2.2
noncomputable def okOps (l : List (Int × ByteArray × ByteArray)) : Bool := okL l && l.all okOp
theorem okOps_at {l : List (Int × ByteArray × ByteArray)} (h : okOps l = true) (i : Nat) (hi : i < l.length) : okS (l.getD i dOp).2.1 = true ∧ okS (l.getD i dOp).2.2 = true := by
  simp only [okOps, Bool.and_eq_true, List.all_eq_true] at h
  have := h.2 (l.getD i dOp) (by simp [List.getD_eq_getElem?_getD, hi])
  simpa [okOp] using this
theorem okOps_len {l : List (Int × ByteArray × ByteArray)} (h : okOps l = true) : l.length ≤ 1048576 := by
  simp only [okOps, Bool.and_eq_true] at h
  exact okL_le h.1
noncomputable def bigS (s : ByteArray) : Bool := decide (s.size ≤ 9223372036854775807)
noncomputable def bigOps (l : List (Int × ByteArray × ByteArray)) : Bool := decide (l.length ≤ 9223372036854775807) && l.all (fun o => bigS o.2.1 && bigS o.2.2)
theorem bigOps_at {l : List (Int × ByteArray × ByteArray)} (h : bigOps l = true) (i : Nat) (hi : i < l.length) : bigS (l.getD i dOp).2.1 = true ∧ bigS (l.getD i dOp).2.2 = true := by
  simp only [bigOps, Bool.and_eq_true, List.all_eq_true] at h
  exact h.2 (l.getD i dOp) (by simp [List.getD_eq_getElem?_getD, hi])
theorem okOps_of {l : List (Int × ByteArray × ByteArray)} (h1 : l.length ≤ 1048576) (h2 : ∀ i, i < l.length → okS (l.getD i dOp).2.1 = true ∧ okS (l.getD i dOp).2.2 = true) : okOps l = true := by
  simp only [okOps, okL, Bool.and_eq_true, decide_eq_true_eq, List.all_eq_true]
  refine ⟨h1, fun o ho => ?_⟩
  obtain ⟨i, hi, rfl⟩ := List.getElem_of_mem ho
  have := h2 i hi
  simp only [List.getD_eq_getElem?_getD, List.getElem?_eq_getElem hi, Option.getD_some] at this
  simp [okOp, this.1, this.2]
theorem ba_beq (a b : ByteArray) : (a.toList == b.toList) = decide (a = b) := by
  rw [ByteArray.toList_eq, ByteArray.toList_eq]
  by_cases h : a = b
  · subst h; simp
  · rw [decide_eq_false h, beq_eq_false_iff_ne]
    intro e
    exact h (by cases a; cases b; simp at e; rw [e])
theorem bigOps_len {l : List (Int × ByteArray × ByteArray)} (h : bigOps l = true) : l.length ≤ 9223372036854775807 := by
  simp only [bigOps, Bool.and_eq_true, decide_eq_true_eq] at h; exact h.1
theorem okOps_okL {l : List (Int × ByteArray × ByteArray)} (h : okOps l = true) : okL l = true := by
  simp only [okOps, Bool.and_eq_true] at h; exact h.1
theorem bigOps_of {l : List (Int × ByteArray × ByteArray)} (h : bigT (.sl (.pair (.int .i64) (.pair .str .str))) l = true) : bigOps l = true := by
  have h : (decide (l.length ≤ maxLen) && l.all fun o => (Lit.int .i64 o.1).wf && (decide (o.2.1.size ≤ maxLen) && decide (o.2.2.size ≤ maxLen))) = true := h
  have hm : maxLen = 9223372036854775807 := by decide
  rw [hm] at h
  simp only [Bool.and_eq_true, decide_eq_true_eq, List.all_eq_true] at h
  simp only [bigOps, bigS, Bool.and_eq_true, decide_eq_true_eq, List.all_eq_true]
  exact ⟨h.1, fun o ho => (h.2 o ho).2⟩
theorem bigRec_ops {k t : Int} {l : List (Int × ByteArray × ByteArray)} (h : bigT (.pair (.int .i64) (.pair (.int .i64) (.sl (.pair (.int .i64) (.pair .str .str))))) (k, (t, l)) = true) : bigOps l = true := by
  have hb : ((Lit.int .i64 k).wf && ((Lit.int .i64 t).wf && bigT (.sl (.pair (.int .i64) (.pair .str .str))) l)) = true := h
  rw [Bool.and_eq_true, Bool.and_eq_true] at hb
  exact bigOps_of hb.2.2
/-- The high groups of a number, and what is left. -/
noncomputable def hiF (g : Int → Int) : Nat → Int → List Int × Int
  | 0, x => ([], x)
  | k + 1, x => cond (decide (x > 127)) (g x :: (hiF g k (Int.fdiv x (2 ^ 7))).1, (hiF g k (Int.fdiv x (2 ^ 7))).2) ([], x)
theorem fdiv128 (x : Int) : Int.fdiv x (2 ^ 7) = x / 128 := by
  rw [show (2 : Int) ^ 7 = 128 from rfl, Int.fdiv_eq_ediv_of_nonneg _ (by decide)]
theorem hiF_small (g : Int → Int) (k : Nat) : ∀ x : Int, 0 ≤ x → x < 128 ^ (k + 1) → 0 ≤ (hiF g k x).2 ∧ (hiF g k x).2 ≤ 127 := by
  induction k with
  | zero => intro x h0 h1; simp only [hiF]; exact ⟨h0, by rw [show (128 : Int) ^ (0 + 1) = 128 from rfl] at h1; omega⟩
  | succ k ih =>
    intro x h0 h1
    simp only [hiF]
    by_cases hx : x > 127
    · simp only [decide_eq_true hx, cond_true, fdiv128]
      rw [Int.pow_succ] at h1
      exact ih (x / 128) (by omega) (by omega)
    · simp only [decide_eq_false hx, cond_false]
      exact ⟨h0, by omega⟩
theorem hiF_len (g : Int → Int) (k : Nat) : ∀ x : Int, (hiF g k x).1.length ≤ k := by
  induction k with
  | zero => intro x; simp [hiF]
  | succ k ih =>
    intro x
    simp only [hiF]
    cases decide (x > 127) with
    | true => simp; exact ih _
    | false => simp
noncomputable def gNum (x : Int) : Int := IntKind.wrap .u8 (ior .i64 (iand .i64 x (127 : Int)) (128 : Int))
noncomputable def gNum' (x : Int) : Int := IntKind.wrap .u8 (ior .i64 (128 : Int) (iand .i64 x (127 : Int)))
theorem gNum_same : gNum' = gNum := by
  funext x
  simp only [gNum, gNum', ior]
  rw [BitVec.or_comm]
theorem nX_is : ∃ f : Int → List Int × Int, ∀ x, f x = hiF gNum 4 x := ⟨_, fun _ => rfl⟩
/-- The same, not to be unfolded. -/
noncomputable def nX : Int → List Int × Int := Classical.choose nX_is
theorem nX_eq (x : Int) : nX x = hiF gNum 4 x := Classical.choose_spec nX_is x
theorem nX_eq' (x : Int) : nX x = hiF gNum' 4 x := by rw [gNum_same]; exact nX_eq x
theorem nX_len (x : Int) : (nX x).1.length ≤ 4 := by rw [nX_eq]; exact hiF_len gNum 4 x
/-- The bytes of a number. -/
noncomputable def numB (x : Int) : List Int := (nX x).1 ++ [IntKind.wrap .u8 (nX x).2]
theorem numB_len (x : Int) : (numB x).length ≤ 5 := by
  have := nX_len x
  simp [numB]; omega
noncomputable def clampN (n : Int) : Int := if n > 1000000000 then 1000000000 else if n < 0 then 0 else n
noncomputable def textB (s : ByteArray) : List Int := numB (s.size : Int) ++ strInts s
noncomputable def opB (o : Int × ByteArray × ByteArray) : List Int := numB (clampN o.1) ++ (textB o.2.1 ++ textB o.2.2)
theorem clampN_of {n : Int} (h0 : 0 ≤ n) (h1 : n ≤ 1000000000) : clampN n = n := by simp only [clampN]; split <;> (try split) <;> omega
theorem strInts_len (s : ByteArray) : (strInts s).length = s.size := by rw [strInts, List.length_map, Array.length_toList]; rfl
theorem textB_len (s : ByteArray) : (textB s).length ≤ 5 + s.size := by
  have := numB_len (s.size : Int)
  simp [textB, strInts_len]; omega

noncomputable def clampI (x : Int) : Int := if (if (1000000000 : Int) < x then (1000000000 : Int) else x) > (0 : Int) then (if (1000000000 : Int) < x then (1000000000 : Int) else x) else (0 : Int)
theorem clampI_eq (x : Int) : clampI x = clampN x := by
  simp only [clampI, clampN]
  split <;> split <;> (try split) <;> omega
theorem clampN_range (x : Int) : 0 ≤ clampN x ∧ clampN x ≤ 1000000000 := by
  simp only [clampN]
  split <;> (try split) <;> omega
theorem clampI_range (x : Int) : 0 ≤ clampI x ∧ clampI x ≤ 1000000000 := by rw [clampI_eq]; exact clampN_range x

noncomputable def digB (x : Int) : ByteArray := (⟨([IntKind.wrap .u8 (IntKind.wrap .i64 ((48 : Int) + (Int.tmod x (10 : Int))))].map fun n => UInt8.ofNat n.toNat).toArray⟩ : ByteArray)
theorem digB_size (x : Int) : (digB x).size = 1 := rfl
/-- A number's digits. -/
noncomputable def txtN : Nat → Int → ByteArray → ByteArray
  | 0, _, s => s
  | k + 1, x, s => cond (decide (x > 0)) (txtN k (IntKind.wrap .i64 (Int.tdiv x (10 : Int))) (digB x ++ s)) s
theorem txtN_len : ∀ (k : Nat) (x : Int) (s : ByteArray), (txtN k x s).size ≤ k + s.size := by
  intro k
  induction k with
  | zero => intro x s; simp [txtN]
  | succ k ih =>
    intro x s
    simp only [txtN]
    cases decide (x > 0) with
    | true =>
      have := ih (IntKind.wrap .i64 (Int.tdiv x (10 : Int))) (digB x ++ s)
      rw [ByteArray.size_append, digB_size] at this
      simp only [cond_true]; omega
    | false => simp only [cond_false]; omega
theorem foldN_app {α : Type} (f : α → List Int) (d : α) (l : List α) (g : Nat → List Int → List Int) (hg : ∀ i h, i < l.length → g i h = h ++ f (l.getD i d)) : ∀ k i h, i + k = l.length → foldN g k i h = h ++ ((l.drop i).map f).flatten := by
  intro k
  induction k with
  | zero =>
    intro i h hi
    have : l.drop i = [] := List.drop_eq_nil_of_le (by omega)
    simp [foldN, this]
  | succ k ih =>
    intro i h hi
    have hlt : i < l.length := by omega
    simp only [foldN]
    rw [ih (i + 1) (g i h) (by omega), hg i h hlt, List.append_assoc, show l.drop i = l[i] :: l.drop (i + 1) from List.drop_eq_getElem_cons hlt, List.map_cons, List.flatten_cons, show l.getD i d = l[i] from by simp [List.getD_eq_getElem?_getD, hlt]]
theorem opB_len (o : Int × ByteArray × ByteArray) : (opB o).length ≤ 15 + o.2.1.size + o.2.2.size := by
  have h1 := numB_len (clampN o.1)
  have h2 := textB_len o.2.1
  have h3 := textB_len o.2.2
  simp only [opB, List.length_append]; omega
theorem flat_len {M : Nat} : ∀ l : List (Int × ByteArray × ByteArray), (∀ o ∈ l, (opB o).length ≤ M) → (l.map opB).flatten.length ≤ M * l.length := by
  intro l
  induction l with
  | nil => intro _; simp
  | cons o l ih =>
    intro h
    have h1 := h o (by simp)
    have h2 := ih fun x hx => h x (by simp [hx])
    simp only [List.map_cons, List.flatten_cons, List.length_append, List.length_cons]
    rw [Nat.mul_add]; omega
theorem okOps_mem {l : List (Int × ByteArray × ByteArray)} (h : okOps l = true) : ∀ o ∈ l, o.2.1.size ≤ 1048576 ∧ o.2.2.size ≤ 1048576 := by
  intro o ho
  simp only [okOps, Bool.and_eq_true, List.all_eq_true] at h
  have := h.2 o ho
  simpa [okOp, okS] using this

/-! 101 loop.example/g00244/laws.szPair -/
noncomputable abbrev P_lszPair : List PSh := [.agg [.str, .str], .t (.int .i64)]
noncomputable def lszPair (a0 : ByteArray) (a1 : ByteArray) (a2 : Int) : Int := (cond (decide ((IntKind.wrap .i64 (a2 - ((a0.size : Nat) : Int))) < (0 : Int))) (-1 : Int) (cond (decide ((IntKind.wrap .i64 ((IntKind.wrap .i64 (a2 - ((a0.size : Nat) : Int))) - ((a1.size : Nat) : Int))) < (0 : Int))) (-1 : Int) (IntKind.wrap .i64 ((IntKind.wrap .i64 (a2 - ((a0.size : Nat) : Int))) - ((a1.size : Nat) : Int)))))
noncomputable abbrev e_lszPair (r : Int) : AV × List AObj := ((.t true (.int .i64) r), [])
noncomputable abbrev g_lszPair : pshsDen P_lszPair → AV × List AObj := fun d => e_lszPair (lszPair d.1.1 d.1.2.1 d.2.1)
noncomputable abbrev pre_lszPair : pshsDen P_lszPair → Bool := fun d => true
theorem runA_lszPair (a0 : ByteArray) (a1 : ByteArray) (a2 : Int) : runP true Try.prog tt S0 QF0 (fun _ _ => none) Try.f101 (argsMk P_lszPair ((a0, (a1, ())), (a2, ()))) = some (g_lszPair ((a0, (a1, ())), (a2, ()))) := by
  refine Eq.trans (b := (cond (decide ((IntKind.wrap .i64 (a2 - ((a0.size : Nat) : Int))) < (0 : Int))) (some (e_lszPair (-1 : Int))) (cond (decide ((IntKind.wrap .i64 ((IntKind.wrap .i64 (a2 - ((a0.size : Nat) : Int))) - ((a1.size : Nat) : Int))) < (0 : Int))) (some (e_lszPair (-1 : Int))) (some (e_lszPair (IntKind.wrap .i64 ((IntKind.wrap .i64 (a2 - ((a0.size : Nat) : Int))) - ((a1.size : Nat) : Int)))))))) (by kernel_rfl) ?_
  exact (cnd (F := fun r => some (e_lszPair r)) (fun _h => rfl) (fun _h => (cnd (F := fun r => some (e_lszPair r)) (fun _h => rfl) (fun _h => rfl))))
theorem run_lszPair : ∀ d, pre_lszPair d = true → runP true Try.prog tt S0 QF0 (fun _ _ => none) Try.f101 (argsMk P_lszPair d) = some (g_lszPair d) := fun d hp => runA_lszPair d.1.1 d.1.2.1 d.2.1
theorem c_lszPair : PContract Try.prog 101 (sumOf P_lszPair pre_lszPair g_lszPair) := PContract.of_data true G0 (fn := Try.f101) (by kernel_rfl) (L := fun _ _ => none) (by rw [show loopsIn 0 (bodyOf Try.f101) = [] by kernel_rfl]; simp) P_lszPair pre_lszPair g_lszPair run_lszPair
noncomputable def S1 : Tab := Tab.add S0 101 (lift (sumOf P_lszPair pre_lszPair g_lszPair))
noncomputable def QF1 : FuncId → Bool := qadd QF0 101
theorem G1 : Good Try.prog tt S1 QF1 := G0.addQ c_lszPair ⟨Try.f101, by kernel_rfl, by kernel_rfl, by kernel_rfl⟩ (fun _ => rfl)

/-! 41 loop.example/g00244/laws.szPairS -/
noncomputable def f_lszPairS_0 (x0 : List (ByteArray × ByteArray)) (i : Nat) (b : Int) : Int := (lszPair ((x0.getD i ((⟨#[]⟩ : ByteArray), (⟨#[]⟩ : ByteArray))).1) ((x0.getD i ((⟨#[]⟩ : ByteArray), (⟨#[]⟩ : ByteArray))).2) b)
noncomputable abbrev P_lszPairS : List PSh := [.t (.sl (.pair .str .str)), .t (.int .i64)]
noncomputable abbrev S_lszPairS_0 : SS := ⟨[.t false (.sl (.pair .str .str)), .t true (.int .i64), .junk, .junk, .junk, .t true (.int .i64), .junk, .junk, .junk, .junk, .junk, .junk, .junk, .junk, .junk, .junk, .junk, .junk, .junk, .junk, .junk, .junk, .junk, .junk, .junk, .junk, .junk], []⟩
noncomputable abbrev E_lszPairS_0_0 : SS := ⟨[.junk, .junk, .junk, .junk, .t true (.int .i64), .junk, .junk, .junk, .junk, .junk, .junk, .junk, .junk, .junk, .junk, .junk, .junk, .junk, .junk, .junk, .junk, .junk, .junk, .junk, .junk, .junk, .junk], []⟩
noncomputable abbrev E_lszPairS_0_1 : SS := ⟨[.junk, .t true (.int .i64), .junk, .junk, .junk, .junk, .junk, .junk, .junk, .junk, .junk, .junk, .junk, .junk, .junk, .junk, .junk, .junk, .junk, .junk, .junk, .junk, .junk, .junk, .junk, .junk, .junk], []⟩
noncomputable def st_lszPairS_0 (x0 : List (ByteArray × ByteArray)) (x1 : Int) (x5 : Int) : RT S_lszPairS_0.den := (.br (decide (x5 < ((x0.length : Nat) : Int))) (.br (decide (0 ≤ x5 ∧ x5 < ((x0.length : Nat) : Int))) (.br (decide ((lszPair ((x0.getD x5.toNat ((⟨#[]⟩ : ByteArray), (⟨#[]⟩ : ByteArray))).1) ((x0.getD x5.toNat ((⟨#[]⟩ : ByteArray), (⟨#[]⟩ : ByteArray))).2) x1) < (0 : Int))) (.done .ret E_lszPairS_0_0 (((), (), (), (), (-1 : Int), (), (), (), (), (), (), (), (), (), (), (), (), (), (), (), (), (), (), (), (), (), (), ()), ())) (.next ((x0, (lszPair ((x0.getD x5.toNat ((⟨#[]⟩ : ByteArray), (⟨#[]⟩ : ByteArray))).1) ((x0.getD x5.toNat ((⟨#[]⟩ : ByteArray), (⟨#[]⟩ : ByteArray))).2) x1), (), (), (), IntKind.wrap .i64 (x5 + (1 : Int)), (), (), (), (), (), (), (), (), (), (), (), (), (), (), (), (), (), (), (), (), (), ()), ()))) .fail) (.done (.exit 0) E_lszPairS_0_1 (((), x1, (), (), (), (), (), (), (), (), (), (), (), (), (), (), (), (), (), (), (), (), (), (), (), (), (), ()), ())))
noncomputable def T_lszPairS_0 (x0 : List (ByteArray × ByteArray)) (x1 : Int) (x5 : Int) : CT := (.br (decide (0 ≤ x5) && okL x0) (.br (isInl (szN (f_lszPairS_0 x0) (x0.length - x5.toNat) x5.toNat x1)) (.done (.exit 0) E_lszPairS_0_1 (((), (getInl (-1) (szN (f_lszPairS_0 x0) (x0.length - x5.toNat) x5.toNat x1)), (), (), (), (), (), (), (), (), (), (), (), (), (), (), (), (), (), (), (), (), (), (), (), (), (), ()), ())) (.done .ret E_lszPairS_0_0 (((), (), (), (), (-1 : Int), (), (), (), (), (), (), (), (), (), (), (), (), (), (), (), (), (), (), (), (), (), (), ()), ()))) .fail)
noncomputable abbrev sp_lszPairS_0 : S_lszPairS_0.den → RT S_lszPairS_0.den := fun d => st_lszPairS_0 d.1.1 d.1.2.1 d.1.2.2.2.2.2.1
noncomputable abbrev pk_lszPairS_0 (x0 : List (ByteArray × ByteArray)) (x1 : Int) (x5 : Int) : S_lszPairS_0.den := ((x0, x1, (), (), (), x5, (), (), (), (), (), (), (), (), (), (), (), (), (), (), (), (), (), (), (), (), (), ()), ())
noncomputable def body_lszPairS_0 : Code := ((loopsIn 0 (bodyOf Try.f41)).getD 0 (0, .skip)).2
theorem R_lszPairS_0 (x0 : List (ByteArray × ByteArray)) (x1 : Int) (x5 : Int) : (T_lszPairS_0 x0 x1 x5).val (D := S_lszPairS_0.den) = .fail ∨ Runs sp_lszPairS_0 (pk_lszPairS_0 x0 x1 x5) (T_lszPairS_0 x0 x1 x5).val := by
  cases hc : (decide (0 ≤ x5) && okL x0) with
  | false => left; simp only [T_lszPairS_0, CT.val, hc, cond_false]
  | true =>
    right
    simp only [T_lszPairS_0, CT.val, hc, cond_true]
    simp only [Bool.and_eq_true, decide_eq_true_eq] at hc
    obtain ⟨i, rfl⟩ := Int.eq_ofNat_of_zero_le hc.1
    have hs := okL_le hc.2
    simp only [Int.toNat_natCast]
    have h := Runs.loopN (step := sp_lszPairS_0) (fun j b => pk_lszPairS_0 x0 b (j : Int)) (fun _ _ => True) (x0.length) (fun i b => cond (decide (f_lszPairS_0 x0 i b < 0)) (.inr ()) (.inl (f_lszPairS_0 x0 i b)))
      (fin := fun b => ((.done (.exit 0) E_lszPairS_0_1 (((), b, (), (), (), (), (), (), (), (), (), (), (), (), (), (), (), (), (), (), (), (), (), (), (), (), (), ()), ())) : CT).val) (bad := fun _ => ((.done .ret E_lszPairS_0_0 (((), (), (), (), (-1 : Int), (), (), (), (), (), (), (), (), (), (), (), (), (), (), (), (), (), (), (), (), (), (), ()), ())) : CT).val)
      (fun i b hi _ => ?_) (fun i b hi _ => ?_) (x0.length - i) i x1 rfl trivial
    · simp only [szN]
      revert h
      cases loopN (fun i b => cond (decide (f_lszPairS_0 x0 i b < 0)) (.inr ()) (.inl (f_lszPairS_0 x0 i b))) (x0.length - i) i x1 with
      | inl b => exact id
      | inr c => exact id
    · 
      have h0a : decide ((i : Int) < ((x0.length : Nat) : Int)) = true := decide_eq_true (by omega)
      have h0b : decide (0 ≤ (i : Int) ∧ (i : Int) < ((x0.length : Nat) : Int)) = true := decide_eq_true (by omega)
      have e : (sp_lszPairS_0 (pk_lszPairS_0 x0 b (i : Int))).val = cond (decide (f_lszPairS_0 x0 i b < 0)) ((.done .ret E_lszPairS_0_0 (((), (), (), (), (-1 : Int), (), (), (), (), (), (), (), (), (), (), (), (), (), (), (), (), (), (), (), (), (), (), ()), ())) : CT).val (.next (pk_lszPairS_0 x0 (f_lszPairS_0 x0 i b) ((i + 1 : Nat) : Int))) := by
        simp only [sp_lszPairS_0, st_lszPairS_0, RT.val, h0a, h0b, cond_true, wrapS i (by omega), Int.toNat_natCast]
        rfl
      cases hr : decide (f_lszPairS_0 x0 i b < 0) with
      | true => exact .inr ⟨(), _, _, _, rfl, by rw [e, hr]; rfl, rfl, by simp⟩
      | false => exact .inl ⟨_, rfl, trivial, by rw [e, hr]; rfl⟩
    · have h1 : decide ((i : Int) < ((x0.length : Nat) : Int)) = false := decide_eq_false (by omega)
      exact ⟨by simp only [sp_lszPairS_0, st_lszPairS_0, RT.val, h1, cond_false]; rfl, _, _, _, rfl, by simp⟩
theorem rd_lszPairS_0 : ∀ d, execC Try.prog tt S1 QF1 (fun _ _ => none) 0 body_lszPairS_0 (S_lszPairS_0.st d 0 []) (fun e s' => some (e, S_lszPairS_0.cutE (kepts [4] [(0, [1])]) e s')) = (sp_lszPairS_0 d).opt 0 [] := by
  intro d
  kernel_rfl
noncomputable abbrev say_lszPairS_0 : St → Option Tree := S_lszPairS_0.say 0 [] [] (fun d => T_lszPairS_0 d.1.1 d.1.2.1 d.1.2.2.2.2.2.1)
theorem lw_lszPairS_0 : LoopWp Try.prog say_lszPairS_0 body_lszPairS_0 := SS.wp G1 (fun _ _ => none) (by rw [show loopsIn 0 body_lszPairS_0 = [] by kernel_rfl]; simp) S_lszPairS_0 0 [] (kepts [4] [(0, [1])]) [] sp_lszPairS_0 rd_lszPairS_0 _ (fun d => R_lszPairS_0 d.1.1 d.1.2.1 d.1.2.2.2.2.2.1)
noncomputable def lszPairS (a0 : List (ByteArray × ByteArray)) (a1 : Int) : Int := (cond (decide ((IntKind.wrap .i64 (a1 - ((a0.length : Nat) : Int))) < (0 : Int))) (-1 : Int) (cond (isInl (szN (f_lszPairS_0 a0) (a0.length - (0 : Int).toNat) (0 : Int).toNat (IntKind.wrap .i64 (a1 - ((a0.length : Nat) : Int))))) (getInl (-1) (szN (f_lszPairS_0 a0) (a0.length - (0 : Int).toNat) (0 : Int).toNat (IntKind.wrap .i64 (a1 - ((a0.length : Nat) : Int))))) (-1 : Int)))
noncomputable abbrev e_lszPairS (r : Int) : AV × List AObj := ((.t true (.int .i64) r), [])
noncomputable abbrev g_lszPairS : pshsDen P_lszPairS → AV × List AObj := fun d => e_lszPairS (lszPairS d.1 d.2.1)
noncomputable def q_lszPairS (a0 : List (ByteArray × ByteArray)) (a1 : Int) : Bool := decide (0 ≤ a1 ∧ a1 ≤ 1048576 ∧ a0.length ≤ 9223372036854775807)
noncomputable abbrev pre_lszPairS : pshsDen P_lszPairS → Bool := fun d => q_lszPairS d.1 d.2.1
theorem runA_lszPairS (a0 : List (ByteArray × ByteArray)) (a1 : Int) (hp : (decide (0 ≤ a1 ∧ a1 ≤ 1048576 ∧ a0.length ≤ 9223372036854775807)) = true) : runP true Try.prog tt S1 QF1 (fun b => match b with | 0 => say_lszPairS_0 | _ => fun _ => none) Try.f41 (argsMk P_lszPairS (a0, (a1, ()))) = some (g_lszPairS (a0, (a1, ()))) := by
  refine Eq.trans (b := (cond (decide ((IntKind.wrap .i64 (a1 - ((a0.length : Nat) : Int))) < (0 : Int))) (some (e_lszPairS (-1 : Int))) (cond (decide (0 ≤ (0 : Int)) && okL a0) (cond (isInl (szN (f_lszPairS_0 a0) (a0.length - (0 : Int).toNat) (0 : Int).toNat (IntKind.wrap .i64 (a1 - ((a0.length : Nat) : Int))))) (some (e_lszPairS (getInl (-1) (szN (f_lszPairS_0 a0) (a0.length - (0 : Int).toNat) (0 : Int).toNat (IntKind.wrap .i64 (a1 - ((a0.length : Nat) : Int))))))) (some (e_lszPairS (-1 : Int)))) none))) (by kernel_rfl) ?_
  exact (cnd (F := fun r => some (e_lszPairS r)) (fun _h => rfl) (fun _h => (cndT (by simp only [decide_eq_true_eq, decide_eq_false_iff_not] at hp _h; have hw := wrap64 (n := a1 - ((a0.length : Nat) : Int)) (by omega) (by omega); rw [hw] at _h; simp [okL]; omega) (fun _h => (cnd (F := fun r => some (e_lszPairS r)) (fun _h => rfl) (fun _h => rfl))))))
theorem run_lszPairS : ∀ d, pre_lszPairS d = true → runP true Try.prog tt S1 QF1 (fun b => match b with | 0 => say_lszPairS_0 | _ => fun _ => none) Try.f41 (argsMk P_lszPairS d) = some (g_lszPairS d) := fun d hp => runA_lszPairS d.1 d.2.1 hp
theorem c_lszPairS : PContract Try.prog 41 (sumOf P_lszPairS pre_lszPairS g_lszPairS) := PContract.of_data true G1 (fn := Try.f41) (by kernel_rfl) (L := fun b => match b with | 0 => say_lszPairS_0 | _ => fun _ => none) (by rw [show loopsIn 0 (bodyOf Try.f41) = [(0, body_lszPairS_0)] by kernel_rfl]; intro p hp; simp only [List.mem_singleton] at hp; subst hp; exact lw_lszPairS_0) P_lszPairS pre_lszPairS g_lszPairS run_lszPairS
noncomputable def S2 : Tab := Tab.add S1 41 (lift (sumOf P_lszPairS pre_lszPairS g_lszPairS))
noncomputable def QF2 : FuncId → Bool := qadd QF1 41
theorem G2 : Good Try.prog tt S2 QF2 := G1.addQ c_lszPairS ⟨Try.f41, by kernel_rfl, by kernel_rfl, by kernel_rfl⟩ (fun _ => rfl)

/-! 102 loop.example/g00244/laws.szOp -/
noncomputable abbrev P_lszOp : List PSh := [.agg [(.int .i64), .str, .str], .t (.int .i64)]
noncomputable def lszOp (a0 : Int) (a1 : ByteArray) (a2 : ByteArray) (a3 : Int) : Int := (cond (decide ((IntKind.wrap .i64 (a3 - ((a1.size : Nat) : Int))) < (0 : Int))) (-1 : Int) (cond (decide ((IntKind.wrap .i64 ((IntKind.wrap .i64 (a3 - ((a1.size : Nat) : Int))) - ((a2.size : Nat) : Int))) < (0 : Int))) (-1 : Int) (IntKind.wrap .i64 ((IntKind.wrap .i64 (a3 - ((a1.size : Nat) : Int))) - ((a2.size : Nat) : Int)))))
noncomputable abbrev e_lszOp (r : Int) : AV × List AObj := ((.t true (.int .i64) r), [])
noncomputable abbrev g_lszOp : pshsDen P_lszOp → AV × List AObj := fun d => e_lszOp (lszOp d.1.1 d.1.2.1 d.1.2.2.1 d.2.1)
noncomputable abbrev pre_lszOp : pshsDen P_lszOp → Bool := fun d => true
theorem runA_lszOp (a0 : Int) (a1 : ByteArray) (a2 : ByteArray) (a3 : Int) : runP true Try.prog tt S2 QF2 (fun _ _ => none) Try.f102 (argsMk P_lszOp ((a0, (a1, (a2, ()))), (a3, ()))) = some (g_lszOp ((a0, (a1, (a2, ()))), (a3, ()))) := by
  refine Eq.trans (b := (cond (decide ((IntKind.wrap .i64 (a3 - ((a1.size : Nat) : Int))) < (0 : Int))) (some (e_lszOp (-1 : Int))) (cond (decide ((IntKind.wrap .i64 ((IntKind.wrap .i64 (a3 - ((a1.size : Nat) : Int))) - ((a2.size : Nat) : Int))) < (0 : Int))) (some (e_lszOp (-1 : Int))) (some (e_lszOp (IntKind.wrap .i64 ((IntKind.wrap .i64 (a3 - ((a1.size : Nat) : Int))) - ((a2.size : Nat) : Int)))))))) (by kernel_rfl) ?_
  exact (cnd (F := fun r => some (e_lszOp r)) (fun _h => rfl) (fun _h => (cnd (F := fun r => some (e_lszOp r)) (fun _h => rfl) (fun _h => rfl))))
theorem run_lszOp : ∀ d, pre_lszOp d = true → runP true Try.prog tt S2 QF2 (fun _ _ => none) Try.f102 (argsMk P_lszOp d) = some (g_lszOp d) := fun d hp => runA_lszOp d.1.1 d.1.2.1 d.1.2.2.1 d.2.1
theorem c_lszOp : PContract Try.prog 102 (sumOf P_lszOp pre_lszOp g_lszOp) := PContract.of_data true G2 (fn := Try.f102) (by kernel_rfl) (L := fun _ _ => none) (by rw [show loopsIn 0 (bodyOf Try.f102) = [] by kernel_rfl]; simp) P_lszOp pre_lszOp g_lszOp run_lszOp
noncomputable def S3 : Tab := Tab.add S2 102 (lift (sumOf P_lszOp pre_lszOp g_lszOp))
noncomputable def QF3 : FuncId → Bool := qadd QF2 102
theorem G3 : Good Try.prog tt S3 QF3 := G2.addQ c_lszOp ⟨Try.f102, by kernel_rfl, by kernel_rfl, by kernel_rfl⟩ (fun _ => rfl)

/-! 42 loop.example/g00244/laws.szOpS -/
noncomputable def f_lszOpS_0 (x0 : List (Int × ByteArray × ByteArray)) (i : Nat) (b : Int) : Int := (lszOp ((x0.getD i ((0 : Int), ((⟨#[]⟩ : ByteArray), (⟨#[]⟩ : ByteArray)))).1) (((x0.getD i ((0 : Int), ((⟨#[]⟩ : ByteArray), (⟨#[]⟩ : ByteArray)))).2).1) (((x0.getD i ((0 : Int), ((⟨#[]⟩ : ByteArray), (⟨#[]⟩ : ByteArray)))).2).2) b)
noncomputable abbrev P_lszOpS : List PSh := [.t (.sl (.pair (.int .i64) (.pair .str .str))), .t (.int .i64)]
noncomputable abbrev S_lszOpS_0 : SS := ⟨[.t false (.sl (.pair (.int .i64) (.pair .str .str))), .t true (.int .i64), .junk, .junk, .junk, .t true (.int .i64), .junk, .junk, .junk, .junk, .junk, .junk, .junk, .junk, .junk, .junk, .junk, .junk, .junk, .junk, .junk, .junk, .junk, .junk, .junk, .junk, .junk], []⟩
noncomputable abbrev E_lszOpS_0_0 : SS := ⟨[.junk, .junk, .junk, .junk, .t true (.int .i64), .junk, .junk, .junk, .junk, .junk, .junk, .junk, .junk, .junk, .junk, .junk, .junk, .junk, .junk, .junk, .junk, .junk, .junk, .junk, .junk, .junk, .junk], []⟩
noncomputable abbrev E_lszOpS_0_1 : SS := ⟨[.junk, .t true (.int .i64), .junk, .junk, .junk, .junk, .junk, .junk, .junk, .junk, .junk, .junk, .junk, .junk, .junk, .junk, .junk, .junk, .junk, .junk, .junk, .junk, .junk, .junk, .junk, .junk, .junk], []⟩
noncomputable def st_lszOpS_0 (x0 : List (Int × ByteArray × ByteArray)) (x1 : Int) (x5 : Int) : RT S_lszOpS_0.den := (.br (decide (x5 < ((x0.length : Nat) : Int))) (.br (decide (0 ≤ x5 ∧ x5 < ((x0.length : Nat) : Int))) (.br (decide ((lszOp ((x0.getD x5.toNat ((0 : Int), ((⟨#[]⟩ : ByteArray), (⟨#[]⟩ : ByteArray)))).1) (((x0.getD x5.toNat ((0 : Int), ((⟨#[]⟩ : ByteArray), (⟨#[]⟩ : ByteArray)))).2).1) (((x0.getD x5.toNat ((0 : Int), ((⟨#[]⟩ : ByteArray), (⟨#[]⟩ : ByteArray)))).2).2) x1) < (0 : Int))) (.done .ret E_lszOpS_0_0 (((), (), (), (), (-1 : Int), (), (), (), (), (), (), (), (), (), (), (), (), (), (), (), (), (), (), (), (), (), (), ()), ())) (.next ((x0, (lszOp ((x0.getD x5.toNat ((0 : Int), ((⟨#[]⟩ : ByteArray), (⟨#[]⟩ : ByteArray)))).1) (((x0.getD x5.toNat ((0 : Int), ((⟨#[]⟩ : ByteArray), (⟨#[]⟩ : ByteArray)))).2).1) (((x0.getD x5.toNat ((0 : Int), ((⟨#[]⟩ : ByteArray), (⟨#[]⟩ : ByteArray)))).2).2) x1), (), (), (), IntKind.wrap .i64 (x5 + (1 : Int)), (), (), (), (), (), (), (), (), (), (), (), (), (), (), (), (), (), (), (), (), (), ()), ()))) .fail) (.done (.exit 0) E_lszOpS_0_1 (((), x1, (), (), (), (), (), (), (), (), (), (), (), (), (), (), (), (), (), (), (), (), (), (), (), (), (), ()), ())))
noncomputable def T_lszOpS_0 (x0 : List (Int × ByteArray × ByteArray)) (x1 : Int) (x5 : Int) : CT := (.br (decide (0 ≤ x5) && okL x0) (.br (isInl (szN (f_lszOpS_0 x0) (x0.length - x5.toNat) x5.toNat x1)) (.done (.exit 0) E_lszOpS_0_1 (((), (getInl (-1) (szN (f_lszOpS_0 x0) (x0.length - x5.toNat) x5.toNat x1)), (), (), (), (), (), (), (), (), (), (), (), (), (), (), (), (), (), (), (), (), (), (), (), (), (), ()), ())) (.done .ret E_lszOpS_0_0 (((), (), (), (), (-1 : Int), (), (), (), (), (), (), (), (), (), (), (), (), (), (), (), (), (), (), (), (), (), (), ()), ()))) .fail)
noncomputable abbrev sp_lszOpS_0 : S_lszOpS_0.den → RT S_lszOpS_0.den := fun d => st_lszOpS_0 d.1.1 d.1.2.1 d.1.2.2.2.2.2.1
noncomputable abbrev pk_lszOpS_0 (x0 : List (Int × ByteArray × ByteArray)) (x1 : Int) (x5 : Int) : S_lszOpS_0.den := ((x0, x1, (), (), (), x5, (), (), (), (), (), (), (), (), (), (), (), (), (), (), (), (), (), (), (), (), (), ()), ())
noncomputable def body_lszOpS_0 : Code := ((loopsIn 0 (bodyOf Try.f42)).getD 0 (0, .skip)).2
theorem R_lszOpS_0 (x0 : List (Int × ByteArray × ByteArray)) (x1 : Int) (x5 : Int) : (T_lszOpS_0 x0 x1 x5).val (D := S_lszOpS_0.den) = .fail ∨ Runs sp_lszOpS_0 (pk_lszOpS_0 x0 x1 x5) (T_lszOpS_0 x0 x1 x5).val := by
  cases hc : (decide (0 ≤ x5) && okL x0) with
  | false => left; simp only [T_lszOpS_0, CT.val, hc, cond_false]
  | true =>
    right
    simp only [T_lszOpS_0, CT.val, hc, cond_true]
    simp only [Bool.and_eq_true, decide_eq_true_eq] at hc
    obtain ⟨i, rfl⟩ := Int.eq_ofNat_of_zero_le hc.1
    have hs := okL_le hc.2
    simp only [Int.toNat_natCast]
    have h := Runs.loopN (step := sp_lszOpS_0) (fun j b => pk_lszOpS_0 x0 b (j : Int)) (fun _ _ => True) (x0.length) (fun i b => cond (decide (f_lszOpS_0 x0 i b < 0)) (.inr ()) (.inl (f_lszOpS_0 x0 i b)))
      (fin := fun b => ((.done (.exit 0) E_lszOpS_0_1 (((), b, (), (), (), (), (), (), (), (), (), (), (), (), (), (), (), (), (), (), (), (), (), (), (), (), (), ()), ())) : CT).val) (bad := fun _ => ((.done .ret E_lszOpS_0_0 (((), (), (), (), (-1 : Int), (), (), (), (), (), (), (), (), (), (), (), (), (), (), (), (), (), (), (), (), (), (), ()), ())) : CT).val)
      (fun i b hi _ => ?_) (fun i b hi _ => ?_) (x0.length - i) i x1 rfl trivial
    · simp only [szN]
      revert h
      cases loopN (fun i b => cond (decide (f_lszOpS_0 x0 i b < 0)) (.inr ()) (.inl (f_lszOpS_0 x0 i b))) (x0.length - i) i x1 with
      | inl b => exact id
      | inr c => exact id
    · 
      have h0a : decide ((i : Int) < ((x0.length : Nat) : Int)) = true := decide_eq_true (by omega)
      have h0b : decide (0 ≤ (i : Int) ∧ (i : Int) < ((x0.length : Nat) : Int)) = true := decide_eq_true (by omega)
      have e : (sp_lszOpS_0 (pk_lszOpS_0 x0 b (i : Int))).val = cond (decide (f_lszOpS_0 x0 i b < 0)) ((.done .ret E_lszOpS_0_0 (((), (), (), (), (-1 : Int), (), (), (), (), (), (), (), (), (), (), (), (), (), (), (), (), (), (), (), (), (), (), ()), ())) : CT).val (.next (pk_lszOpS_0 x0 (f_lszOpS_0 x0 i b) ((i + 1 : Nat) : Int))) := by
        simp only [sp_lszOpS_0, st_lszOpS_0, RT.val, h0a, h0b, cond_true, wrapS i (by omega), Int.toNat_natCast]
        rfl
      cases hr : decide (f_lszOpS_0 x0 i b < 0) with
      | true => exact .inr ⟨(), _, _, _, rfl, by rw [e, hr]; rfl, rfl, by simp⟩
      | false => exact .inl ⟨_, rfl, trivial, by rw [e, hr]; rfl⟩
    · have h1 : decide ((i : Int) < ((x0.length : Nat) : Int)) = false := decide_eq_false (by omega)
      exact ⟨by simp only [sp_lszOpS_0, st_lszOpS_0, RT.val, h1, cond_false]; rfl, _, _, _, rfl, by simp⟩
theorem rd_lszOpS_0 : ∀ d, execC Try.prog tt S3 QF3 (fun _ _ => none) 0 body_lszOpS_0 (S_lszOpS_0.st d 0 []) (fun e s' => some (e, S_lszOpS_0.cutE (kepts [4] [(0, [1])]) e s')) = (sp_lszOpS_0 d).opt 0 [] := by
  intro d
  kernel_rfl
noncomputable abbrev say_lszOpS_0 : St → Option Tree := S_lszOpS_0.say 0 [] [] (fun d => T_lszOpS_0 d.1.1 d.1.2.1 d.1.2.2.2.2.2.1)
theorem lw_lszOpS_0 : LoopWp Try.prog say_lszOpS_0 body_lszOpS_0 := SS.wp G3 (fun _ _ => none) (by rw [show loopsIn 0 body_lszOpS_0 = [] by kernel_rfl]; simp) S_lszOpS_0 0 [] (kepts [4] [(0, [1])]) [] sp_lszOpS_0 rd_lszOpS_0 _ (fun d => R_lszOpS_0 d.1.1 d.1.2.1 d.1.2.2.2.2.2.1)
noncomputable def lszOpS (a0 : List (Int × ByteArray × ByteArray)) (a1 : Int) : Int := (cond (decide ((IntKind.wrap .i64 (a1 - ((a0.length : Nat) : Int))) < (0 : Int))) (-1 : Int) (cond (isInl (szN (f_lszOpS_0 a0) (a0.length - (0 : Int).toNat) (0 : Int).toNat (IntKind.wrap .i64 (a1 - ((a0.length : Nat) : Int))))) (getInl (-1) (szN (f_lszOpS_0 a0) (a0.length - (0 : Int).toNat) (0 : Int).toNat (IntKind.wrap .i64 (a1 - ((a0.length : Nat) : Int))))) (-1 : Int)))
noncomputable abbrev e_lszOpS (r : Int) : AV × List AObj := ((.t true (.int .i64) r), [])
noncomputable abbrev g_lszOpS : pshsDen P_lszOpS → AV × List AObj := fun d => e_lszOpS (lszOpS d.1 d.2.1)
noncomputable def q_lszOpS (a0 : List (Int × ByteArray × ByteArray)) (a1 : Int) : Bool := decide (0 ≤ a1 ∧ a1 ≤ 1048576 ∧ a0.length ≤ 9223372036854775807)
noncomputable abbrev pre_lszOpS : pshsDen P_lszOpS → Bool := fun d => q_lszOpS d.1 d.2.1
theorem runA_lszOpS (a0 : List (Int × ByteArray × ByteArray)) (a1 : Int) (hp : (decide (0 ≤ a1 ∧ a1 ≤ 1048576 ∧ a0.length ≤ 9223372036854775807)) = true) : runP true Try.prog tt S3 QF3 (fun b => match b with | 0 => say_lszOpS_0 | _ => fun _ => none) Try.f42 (argsMk P_lszOpS (a0, (a1, ()))) = some (g_lszOpS (a0, (a1, ()))) := by
  refine Eq.trans (b := (cond (decide ((IntKind.wrap .i64 (a1 - ((a0.length : Nat) : Int))) < (0 : Int))) (some (e_lszOpS (-1 : Int))) (cond (decide (0 ≤ (0 : Int)) && okL a0) (cond (isInl (szN (f_lszOpS_0 a0) (a0.length - (0 : Int).toNat) (0 : Int).toNat (IntKind.wrap .i64 (a1 - ((a0.length : Nat) : Int))))) (some (e_lszOpS (getInl (-1) (szN (f_lszOpS_0 a0) (a0.length - (0 : Int).toNat) (0 : Int).toNat (IntKind.wrap .i64 (a1 - ((a0.length : Nat) : Int))))))) (some (e_lszOpS (-1 : Int)))) none))) (by kernel_rfl) ?_
  exact (cnd (F := fun r => some (e_lszOpS r)) (fun _h => rfl) (fun _h => (cndT (by simp only [decide_eq_true_eq, decide_eq_false_iff_not] at hp _h; have hw := wrap64 (n := a1 - ((a0.length : Nat) : Int)) (by omega) (by omega); rw [hw] at _h; simp [okL]; omega) (fun _h => (cnd (F := fun r => some (e_lszOpS r)) (fun _h => rfl) (fun _h => rfl))))))
theorem run_lszOpS : ∀ d, pre_lszOpS d = true → runP true Try.prog tt S3 QF3 (fun b => match b with | 0 => say_lszOpS_0 | _ => fun _ => none) Try.f42 (argsMk P_lszOpS d) = some (g_lszOpS d) := fun d hp => runA_lszOpS d.1 d.2.1 hp
theorem c_lszOpS : PContract Try.prog 42 (sumOf P_lszOpS pre_lszOpS g_lszOpS) := PContract.of_data true G3 (fn := Try.f42) (by kernel_rfl) (L := fun b => match b with | 0 => say_lszOpS_0 | _ => fun _ => none) (by rw [show loopsIn 0 (bodyOf Try.f42) = [(0, body_lszOpS_0)] by kernel_rfl]; intro p hp; simp only [List.mem_singleton] at hp; subst hp; exact lw_lszOpS_0) P_lszOpS pre_lszOpS g_lszOpS run_lszOpS
noncomputable def S4 : Tab := Tab.add S3 42 (lift (sumOf P_lszOpS pre_lszOpS g_lszOpS))
noncomputable def QF4 : FuncId → Bool := qadd QF3 42
theorem G4 : Good Try.prog tt S4 QF4 := G3.addQ c_lszOpS ⟨Try.f42, by kernel_rfl, by kernel_rfl, by kernel_rfl⟩ (fun _ => rfl)

/-! 105 loop.example/g00244/laws.toPair -/
noncomputable abbrev P_ltoPair : List PSh := [.agg [.str, .str]]
noncomputable def ltoPair (a0 : ByteArray) (a1 : ByteArray) : ByteArray × ByteArray := (a0, a1)
noncomputable abbrev e_ltoPair (r : ByteArray × ByteArray) : AV × List AObj := ((.agg [(.t true .str r.1), (.t true .str r.2)]), [])
noncomputable abbrev g_ltoPair : pshsDen P_ltoPair → AV × List AObj := fun d => e_ltoPair (ltoPair d.1.1 d.1.2.1)
noncomputable abbrev pre_ltoPair : pshsDen P_ltoPair → Bool := fun d => true
theorem runA_ltoPair (a0 : ByteArray) (a1 : ByteArray) : runP true Try.prog tt S4 QF4 (fun _ _ => none) Try.f105 (argsMk P_ltoPair ((a0, (a1, ())), ())) = some (g_ltoPair ((a0, (a1, ())), ())) := by
  kernel_rfl
theorem run_ltoPair : ∀ d, pre_ltoPair d = true → runP true Try.prog tt S4 QF4 (fun _ _ => none) Try.f105 (argsMk P_ltoPair d) = some (g_ltoPair d) := fun d hp => runA_ltoPair d.1.1 d.1.2.1
theorem c_ltoPair : PContract Try.prog 105 (sumOf P_ltoPair pre_ltoPair g_ltoPair) := PContract.of_data true G4 (fn := Try.f105) (by kernel_rfl) (L := fun _ _ => none) (by rw [show loopsIn 0 (bodyOf Try.f105) = [] by kernel_rfl]; simp) P_ltoPair pre_ltoPair g_ltoPair run_ltoPair
noncomputable def S5 : Tab := Tab.add S4 105 (lift (sumOf P_ltoPair pre_ltoPair g_ltoPair))
noncomputable def QF5 : FuncId → Bool := qadd QF4 105
theorem G5 : Good Try.prog tt S5 QF5 := G4.addQ c_ltoPair ⟨Try.f105, by kernel_rfl, by kernel_rfl, by kernel_rfl⟩ (fun _ => rfl)

/-! 44 loop.example/g00244/laws.toPairS -/
noncomputable def f_ltoPairS_0 (x0 : List (ByteArray × ByteArray)) (i : Nat) : ByteArray × ByteArray := (((ltoPair ((x0.getD i ((⟨#[]⟩ : ByteArray), (⟨#[]⟩ : ByteArray))).1) ((x0.getD i ((⟨#[]⟩ : ByteArray), (⟨#[]⟩ : ByteArray))).2)).1), ((ltoPair ((x0.getD i ((⟨#[]⟩ : ByteArray), (⟨#[]⟩ : ByteArray))).1) ((x0.getD i ((⟨#[]⟩ : ByteArray), (⟨#[]⟩ : ByteArray))).2)).2))
noncomputable abbrev P_ltoPairS : List PSh := [.t (.sl (.pair .str .str))]
noncomputable abbrev S_ltoPairS_0 : SS := ⟨[.t false (.sl (.pair .str .str)), .junk, .junk, .all 0 2, .t true (.int .i64), .junk, .junk, .junk, .junk, .junk, .junk, .junk, .junk, .junk, .junk, .junk, .junk, .junk, .junk, .junk, .junk, .junk, .junk], [.rows 118 true (.pair .str .str)]⟩
noncomputable abbrev E_ltoPairS_0_0 : SS := ⟨[.junk, .junk, .junk, .all 0 2, .junk, .junk, .junk, .junk, .junk, .junk, .junk, .junk, .junk, .junk, .junk, .junk, .junk, .junk, .junk, .junk, .junk, .junk, .junk], [.rows 118 true (.pair .str .str)]⟩
noncomputable def st_ltoPairS_0 (x0 : List (ByteArray × ByteArray)) (x4 : Int) (h0 : List (ByteArray × ByteArray)) : RT S_ltoPairS_0.den := (.br (decide (x4 < ((x0.length : Nat) : Int))) (.br (decide (0 ≤ x4 ∧ x4 < ((x0.length : Nat) : Int))) (.br (decide (0 ≤ x4 ∧ x4 < ((h0.length : Nat) : Int))) (.next ((x0, (), (), (), IntKind.wrap .i64 (x4 + (1 : Int)), (), (), (), (), (), (), (), (), (), (), (), (), (), (), (), (), (), (), ()), (h0.set x4.toNat (((ltoPair ((x0.getD x4.toNat ((⟨#[]⟩ : ByteArray), (⟨#[]⟩ : ByteArray))).1) ((x0.getD x4.toNat ((⟨#[]⟩ : ByteArray), (⟨#[]⟩ : ByteArray))).2)).1), ((ltoPair ((x0.getD x4.toNat ((⟨#[]⟩ : ByteArray), (⟨#[]⟩ : ByteArray))).1) ((x0.getD x4.toNat ((⟨#[]⟩ : ByteArray), (⟨#[]⟩ : ByteArray))).2)).2)), ()))) .fail) .fail) (.done (.exit 0) E_ltoPairS_0_0 (((), (), (), (), (), (), (), (), (), (), (), (), (), (), (), (), (), (), (), (), (), (), (), ()), (h0, ()))))
noncomputable def T_ltoPairS_0 (x0 : List (ByteArray × ByteArray)) (x4 : Int) (h0 : List (ByteArray × ByteArray)) : CT := (.br (decide (0 ≤ x4) && (decide (h0.length = x0.length) && okL x0)) (.done (.exit 0) E_ltoPairS_0_0 (((), (), (), (), (), (), (), (), (), (), (), (), (), (), (), (), (), (), (), (), (), (), (), ()), ((foldN (fun i h => h.set i (f_ltoPairS_0 x0 i)) (x0.length - x4.toNat) x4.toNat h0), ()))) .fail)
noncomputable abbrev sp_ltoPairS_0 : S_ltoPairS_0.den → RT S_ltoPairS_0.den := fun d => st_ltoPairS_0 d.1.1 d.1.2.2.2.2.1 d.2.1
noncomputable abbrev pk_ltoPairS_0 (x0 : List (ByteArray × ByteArray)) (x4 : Int) (h0 : List (ByteArray × ByteArray)) : S_ltoPairS_0.den := ((x0, (), (), (), x4, (), (), (), (), (), (), (), (), (), (), (), (), (), (), (), (), (), (), ()), (h0, ()))
noncomputable def body_ltoPairS_0 : Code := ((loopsIn 0 (bodyOf Try.f44)).getD 0 (0, .skip)).2
theorem R_ltoPairS_0 (x0 : List (ByteArray × ByteArray)) (x4 : Int) (h0 : List (ByteArray × ByteArray)) : (T_ltoPairS_0 x0 x4 h0).val (D := S_ltoPairS_0.den) = .fail ∨ Runs sp_ltoPairS_0 (pk_ltoPairS_0 x0 x4 h0) (T_ltoPairS_0 x0 x4 h0).val := by
  cases hc : (decide (0 ≤ x4) && (decide (h0.length = x0.length) && okL x0)) with
  | false => left; simp only [T_ltoPairS_0, CT.val, hc, cond_false]
  | true =>
    right
    simp only [T_ltoPairS_0, CT.val, hc, cond_true]
    simp only [Bool.and_eq_true, decide_eq_true_eq] at hc
    obtain ⟨i, rfl⟩ := Int.eq_ofNat_of_zero_le hc.1
    have hs := okL_le hc.2.2
    simp only [Int.toNat_natCast]
    refine Runs.foldN (step := sp_ltoPairS_0) (fun j b => pk_ltoPairS_0 x0 (j : Int) b) (fun _ b => b.length = x0.length) (x0.length) (fun i h => h.set i (f_ltoPairS_0 x0 i))
      (fin := fun b => ((.done (.exit 0) E_ltoPairS_0_0 (((), (), (), (), (), (), (), (), (), (), (), (), (), (), (), (), (), (), (), (), (), (), (), ()), (b, ()))) : CT).val) (fun i b hi hb => ⟨by simpa using hb, ?_⟩) (fun i b hi hb => ?_) (x0.length - i) i h0 rfl hc.2.1
    · 
      have h0a : decide ((i : Int) < ((x0.length : Nat) : Int)) = true := decide_eq_true (by omega)
      have h0b : decide (0 ≤ (i : Int) ∧ (i : Int) < ((x0.length : Nat) : Int)) = true := decide_eq_true (by omega)
      have h9 : decide (0 ≤ (i : Int) ∧ (i : Int) < ((b.length : Nat) : Int)) = true := decide_eq_true (by omega)
      simp only [sp_ltoPairS_0, st_ltoPairS_0, RT.val, h0a, h0b, h9, cond_true, wrapS i (by omega), Int.toNat_natCast]
      rfl
    · have h1 : decide ((i : Int) < ((x0.length : Nat) : Int)) = false := decide_eq_false (by omega)
      exact ⟨by simp only [sp_ltoPairS_0, st_ltoPairS_0, RT.val, h1, cond_false]; rfl, _, _, _, rfl, by simp⟩
theorem rd_ltoPairS_0 : ∀ d, execC Try.prog tt S5 QF5 (fun _ _ => none) 0 body_ltoPairS_0 (S_ltoPairS_0.st d 0 []) (fun e s' => some (e, S_ltoPairS_0.cutE (kepts [] [(0, [3])]) e s')) = (sp_ltoPairS_0 d).opt 0 [] := by
  intro d
  kernel_rfl
noncomputable abbrev say_ltoPairS_0 : St → Option Tree := S_ltoPairS_0.say 0 [] [] (fun d => T_ltoPairS_0 d.1.1 d.1.2.2.2.2.1 d.2.1)
theorem lw_ltoPairS_0 : LoopWp Try.prog say_ltoPairS_0 body_ltoPairS_0 := SS.wp G5 (fun _ _ => none) (by rw [show loopsIn 0 body_ltoPairS_0 = [] by kernel_rfl]; simp) S_ltoPairS_0 0 [] (kepts [] [(0, [3])]) [] sp_ltoPairS_0 rd_ltoPairS_0 _ (fun d => R_ltoPairS_0 d.1.1 d.1.2.2.2.2.1 d.2.1)
noncomputable def ltoPairS (a0 : List (ByteArray × ByteArray)) : List (ByteArray × ByteArray) := (foldN (fun i h => h.set i (f_ltoPairS_0 a0 i)) (a0.length - (0 : Int).toNat) (0 : Int).toNat (List.replicate ((a0.length : Nat) : Int).toNat ((⟨#[]⟩ : ByteArray), (⟨#[]⟩ : ByteArray))))
noncomputable abbrev e_ltoPairS (r : List (ByteArray × ByteArray)) : AV × List AObj := ((.all 0 2), [(.rows 118 true (.pair .str .str) r)])
noncomputable abbrev g_ltoPairS : pshsDen P_ltoPairS → AV × List AObj := fun d => e_ltoPairS (ltoPairS d.1)
noncomputable def q_ltoPairS (a0 : List (ByteArray × ByteArray)) : Bool := okL a0
noncomputable abbrev pre_ltoPairS : pshsDen P_ltoPairS → Bool := fun d => q_ltoPairS d.1
theorem runA_ltoPairS (a0 : List (ByteArray × ByteArray)) (hp : (okL a0) = true) : runP false Try.prog tt S5 QF5 (fun b => match b with | 0 => say_ltoPairS_0 | _ => fun _ => none) Try.f44 (argsMk P_ltoPairS (a0, ())) = some (g_ltoPairS (a0, ())) := by
  refine Eq.trans (b := (cond (decide (0 ≤ ((a0.length : Nat) : Int) ∧ ((a0.length : Nat) : Int) = ((a0.length : Nat) : Int) ∧ ((a0.length : Nat) : Int).toNat * 32 ≤ MAXB ∧ ((a0.length : Nat) : Int) ≤ 9223372036854775807)) (cond (decide (0 ≤ (0 : Int)) && (decide ((List.replicate ((a0.length : Nat) : Int).toNat ((⟨#[]⟩ : ByteArray), (⟨#[]⟩ : ByteArray))).length = a0.length) && okL a0)) (some (e_ltoPairS (foldN (fun i h => h.set i (f_ltoPairS_0 a0 i)) (a0.length - (0 : Int).toNat) (0 : Int).toNat (List.replicate ((a0.length : Nat) : Int).toNat ((⟨#[]⟩ : ByteArray), (⟨#[]⟩ : ByteArray)))))) none) none)) (by kernel_rfl) ?_
  exact (cndT (by first | rfl | decide | exact hp | (simp only [Bool.and_eq_true] at hp; simp only [hp]; done) | (simp [*]; done) | (simp [okL] at hp; simp [okL, MAXB]; omega) | (simp_all; done) | (simp at *; omega)) (fun _h => (cndT (by first | rfl | decide | exact hp | (simp only [Bool.and_eq_true] at hp; simp only [hp]; done) | (simp [*]; done) | (simp [okL] at hp; simp [okL, MAXB]; omega) | (simp_all; done) | (simp at *; omega)) (fun _h => rfl))))
theorem run_ltoPairS : ∀ d, pre_ltoPairS d = true → runP false Try.prog tt S5 QF5 (fun b => match b with | 0 => say_ltoPairS_0 | _ => fun _ => none) Try.f44 (argsMk P_ltoPairS d) = some (g_ltoPairS d) := fun d hp => runA_ltoPairS d.1 hp
theorem c_ltoPairS : PContract Try.prog 44 (sumOf P_ltoPairS pre_ltoPairS g_ltoPairS) := PContract.of_data false G5 (fn := Try.f44) (by kernel_rfl) (L := fun b => match b with | 0 => say_ltoPairS_0 | _ => fun _ => none) (by rw [show loopsIn 0 (bodyOf Try.f44) = [(0, body_ltoPairS_0)] by kernel_rfl]; intro p hp; simp only [List.mem_singleton] at hp; subst hp; exact lw_ltoPairS_0) P_ltoPairS pre_ltoPairS g_ltoPairS run_ltoPairS
noncomputable def S6 : Tab := Tab.add S5 44 (lift (sumOf P_ltoPairS pre_ltoPairS g_ltoPairS))
noncomputable def QF6 : FuncId → Bool := QF5
theorem G6 : Good Try.prog tt S6 QF6 := G5.add c_ltoPairS ⟨Try.f44, by kernel_rfl, by kernel_rfl, by kernel_rfl⟩ (by kernel_rfl)

/-! 106 loop.example/g00244/laws.toOp -/
noncomputable abbrev P_ltoOp : List PSh := [.agg [(.int .i64), .str, .str]]
noncomputable def ltoOp (a0 : Int) (a1 : ByteArray) (a2 : ByteArray) : Int × ByteArray × ByteArray := (a0, a1, a2)
noncomputable abbrev e_ltoOp (r : Int × ByteArray × ByteArray) : AV × List AObj := ((.agg [(.t true (.int .i64) r.1), (.t true .str r.2.1), (.t true .str r.2.2)]), [])
noncomputable abbrev g_ltoOp : pshsDen P_ltoOp → AV × List AObj := fun d => e_ltoOp (ltoOp d.1.1 d.1.2.1 d.1.2.2.1)
noncomputable abbrev pre_ltoOp : pshsDen P_ltoOp → Bool := fun d => true
theorem runA_ltoOp (a0 : Int) (a1 : ByteArray) (a2 : ByteArray) : runP true Try.prog tt S6 QF6 (fun _ _ => none) Try.f106 (argsMk P_ltoOp ((a0, (a1, (a2, ()))), ())) = some (g_ltoOp ((a0, (a1, (a2, ()))), ())) := by
  kernel_rfl
theorem run_ltoOp : ∀ d, pre_ltoOp d = true → runP true Try.prog tt S6 QF6 (fun _ _ => none) Try.f106 (argsMk P_ltoOp d) = some (g_ltoOp d) := fun d hp => runA_ltoOp d.1.1 d.1.2.1 d.1.2.2.1
theorem c_ltoOp : PContract Try.prog 106 (sumOf P_ltoOp pre_ltoOp g_ltoOp) := PContract.of_data true G6 (fn := Try.f106) (by kernel_rfl) (L := fun _ _ => none) (by rw [show loopsIn 0 (bodyOf Try.f106) = [] by kernel_rfl]; simp) P_ltoOp pre_ltoOp g_ltoOp run_ltoOp
noncomputable def S7 : Tab := Tab.add S6 106 (lift (sumOf P_ltoOp pre_ltoOp g_ltoOp))
noncomputable def QF7 : FuncId → Bool := qadd QF6 106
theorem G7 : Good Try.prog tt S7 QF7 := G6.addQ c_ltoOp ⟨Try.f106, by kernel_rfl, by kernel_rfl, by kernel_rfl⟩ (fun _ => rfl)

/-! 45 loop.example/g00244/laws.toOpS -/
noncomputable def f_ltoOpS_0 (x0 : List (Int × ByteArray × ByteArray)) (i : Nat) : Int × ByteArray × ByteArray := (((ltoOp ((x0.getD i ((0 : Int), ((⟨#[]⟩ : ByteArray), (⟨#[]⟩ : ByteArray)))).1) (((x0.getD i ((0 : Int), ((⟨#[]⟩ : ByteArray), (⟨#[]⟩ : ByteArray)))).2).1) (((x0.getD i ((0 : Int), ((⟨#[]⟩ : ByteArray), (⟨#[]⟩ : ByteArray)))).2).2)).1), (((ltoOp ((x0.getD i ((0 : Int), ((⟨#[]⟩ : ByteArray), (⟨#[]⟩ : ByteArray)))).1) (((x0.getD i ((0 : Int), ((⟨#[]⟩ : ByteArray), (⟨#[]⟩ : ByteArray)))).2).1) (((x0.getD i ((0 : Int), ((⟨#[]⟩ : ByteArray), (⟨#[]⟩ : ByteArray)))).2).2)).2.1), ((ltoOp ((x0.getD i ((0 : Int), ((⟨#[]⟩ : ByteArray), (⟨#[]⟩ : ByteArray)))).1) (((x0.getD i ((0 : Int), ((⟨#[]⟩ : ByteArray), (⟨#[]⟩ : ByteArray)))).2).1) (((x0.getD i ((0 : Int), ((⟨#[]⟩ : ByteArray), (⟨#[]⟩ : ByteArray)))).2).2)).2.2)))
noncomputable abbrev P_ltoOpS : List PSh := [.t (.sl (.pair (.int .i64) (.pair .str .str)))]
noncomputable abbrev S_ltoOpS_0 : SS := ⟨[.t false (.sl (.pair (.int .i64) (.pair .str .str))), .junk, .junk, .all 0 3, .t true (.int .i64), .junk, .junk, .junk, .junk, .junk, .junk, .junk, .junk, .junk, .junk, .junk, .junk, .junk, .junk, .junk, .junk, .junk, .junk], [.rows 85 true (.pair (.int .i64) (.pair .str .str))]⟩
noncomputable abbrev E_ltoOpS_0_0 : SS := ⟨[.junk, .junk, .junk, .all 0 3, .junk, .junk, .junk, .junk, .junk, .junk, .junk, .junk, .junk, .junk, .junk, .junk, .junk, .junk, .junk, .junk, .junk, .junk, .junk], [.rows 85 true (.pair (.int .i64) (.pair .str .str))]⟩
noncomputable def st_ltoOpS_0 (x0 : List (Int × ByteArray × ByteArray)) (x4 : Int) (h0 : List (Int × ByteArray × ByteArray)) : RT S_ltoOpS_0.den := (.br (decide (x4 < ((x0.length : Nat) : Int))) (.br (decide (0 ≤ x4 ∧ x4 < ((x0.length : Nat) : Int))) (.br (decide (0 ≤ x4 ∧ x4 < ((h0.length : Nat) : Int))) (.next ((x0, (), (), (), IntKind.wrap .i64 (x4 + (1 : Int)), (), (), (), (), (), (), (), (), (), (), (), (), (), (), (), (), (), (), ()), (h0.set x4.toNat (((ltoOp ((x0.getD x4.toNat ((0 : Int), ((⟨#[]⟩ : ByteArray), (⟨#[]⟩ : ByteArray)))).1) (((x0.getD x4.toNat ((0 : Int), ((⟨#[]⟩ : ByteArray), (⟨#[]⟩ : ByteArray)))).2).1) (((x0.getD x4.toNat ((0 : Int), ((⟨#[]⟩ : ByteArray), (⟨#[]⟩ : ByteArray)))).2).2)).1), (((ltoOp ((x0.getD x4.toNat ((0 : Int), ((⟨#[]⟩ : ByteArray), (⟨#[]⟩ : ByteArray)))).1) (((x0.getD x4.toNat ((0 : Int), ((⟨#[]⟩ : ByteArray), (⟨#[]⟩ : ByteArray)))).2).1) (((x0.getD x4.toNat ((0 : Int), ((⟨#[]⟩ : ByteArray), (⟨#[]⟩ : ByteArray)))).2).2)).2.1), ((ltoOp ((x0.getD x4.toNat ((0 : Int), ((⟨#[]⟩ : ByteArray), (⟨#[]⟩ : ByteArray)))).1) (((x0.getD x4.toNat ((0 : Int), ((⟨#[]⟩ : ByteArray), (⟨#[]⟩ : ByteArray)))).2).1) (((x0.getD x4.toNat ((0 : Int), ((⟨#[]⟩ : ByteArray), (⟨#[]⟩ : ByteArray)))).2).2)).2.2))), ()))) .fail) .fail) (.done (.exit 0) E_ltoOpS_0_0 (((), (), (), (), (), (), (), (), (), (), (), (), (), (), (), (), (), (), (), (), (), (), (), ()), (h0, ()))))
noncomputable def T_ltoOpS_0 (x0 : List (Int × ByteArray × ByteArray)) (x4 : Int) (h0 : List (Int × ByteArray × ByteArray)) : CT := (.br (decide (0 ≤ x4) && (decide (h0.length = x0.length) && okL x0)) (.done (.exit 0) E_ltoOpS_0_0 (((), (), (), (), (), (), (), (), (), (), (), (), (), (), (), (), (), (), (), (), (), (), (), ()), ((foldN (fun i h => h.set i (f_ltoOpS_0 x0 i)) (x0.length - x4.toNat) x4.toNat h0), ()))) .fail)
noncomputable abbrev sp_ltoOpS_0 : S_ltoOpS_0.den → RT S_ltoOpS_0.den := fun d => st_ltoOpS_0 d.1.1 d.1.2.2.2.2.1 d.2.1
noncomputable abbrev pk_ltoOpS_0 (x0 : List (Int × ByteArray × ByteArray)) (x4 : Int) (h0 : List (Int × ByteArray × ByteArray)) : S_ltoOpS_0.den := ((x0, (), (), (), x4, (), (), (), (), (), (), (), (), (), (), (), (), (), (), (), (), (), (), ()), (h0, ()))
noncomputable def body_ltoOpS_0 : Code := ((loopsIn 0 (bodyOf Try.f45)).getD 0 (0, .skip)).2
theorem R_ltoOpS_0 (x0 : List (Int × ByteArray × ByteArray)) (x4 : Int) (h0 : List (Int × ByteArray × ByteArray)) : (T_ltoOpS_0 x0 x4 h0).val (D := S_ltoOpS_0.den) = .fail ∨ Runs sp_ltoOpS_0 (pk_ltoOpS_0 x0 x4 h0) (T_ltoOpS_0 x0 x4 h0).val := by
  cases hc : (decide (0 ≤ x4) && (decide (h0.length = x0.length) && okL x0)) with
  | false => left; simp only [T_ltoOpS_0, CT.val, hc, cond_false]
  | true =>
    right
    simp only [T_ltoOpS_0, CT.val, hc, cond_true]
    simp only [Bool.and_eq_true, decide_eq_true_eq] at hc
    obtain ⟨i, rfl⟩ := Int.eq_ofNat_of_zero_le hc.1
    have hs := okL_le hc.2.2
    simp only [Int.toNat_natCast]
    refine Runs.foldN (step := sp_ltoOpS_0) (fun j b => pk_ltoOpS_0 x0 (j : Int) b) (fun _ b => b.length = x0.length) (x0.length) (fun i h => h.set i (f_ltoOpS_0 x0 i))
      (fin := fun b => ((.done (.exit 0) E_ltoOpS_0_0 (((), (), (), (), (), (), (), (), (), (), (), (), (), (), (), (), (), (), (), (), (), (), (), ()), (b, ()))) : CT).val) (fun i b hi hb => ⟨by simpa using hb, ?_⟩) (fun i b hi hb => ?_) (x0.length - i) i h0 rfl hc.2.1
    · 
      have h0a : decide ((i : Int) < ((x0.length : Nat) : Int)) = true := decide_eq_true (by omega)
      have h0b : decide (0 ≤ (i : Int) ∧ (i : Int) < ((x0.length : Nat) : Int)) = true := decide_eq_true (by omega)
      have h9 : decide (0 ≤ (i : Int) ∧ (i : Int) < ((b.length : Nat) : Int)) = true := decide_eq_true (by omega)
      simp only [sp_ltoOpS_0, st_ltoOpS_0, RT.val, h0a, h0b, h9, cond_true, wrapS i (by omega), Int.toNat_natCast]
      rfl
    · have h1 : decide ((i : Int) < ((x0.length : Nat) : Int)) = false := decide_eq_false (by omega)
      exact ⟨by simp only [sp_ltoOpS_0, st_ltoOpS_0, RT.val, h1, cond_false]; rfl, _, _, _, rfl, by simp⟩
theorem rd_ltoOpS_0 : ∀ d, execC Try.prog tt S7 QF7 (fun _ _ => none) 0 body_ltoOpS_0 (S_ltoOpS_0.st d 0 []) (fun e s' => some (e, S_ltoOpS_0.cutE (kepts [] [(0, [3])]) e s')) = (sp_ltoOpS_0 d).opt 0 [] := by
  intro d
  kernel_rfl
noncomputable abbrev say_ltoOpS_0 : St → Option Tree := S_ltoOpS_0.say 0 [] [] (fun d => T_ltoOpS_0 d.1.1 d.1.2.2.2.2.1 d.2.1)
theorem lw_ltoOpS_0 : LoopWp Try.prog say_ltoOpS_0 body_ltoOpS_0 := SS.wp G7 (fun _ _ => none) (by rw [show loopsIn 0 body_ltoOpS_0 = [] by kernel_rfl]; simp) S_ltoOpS_0 0 [] (kepts [] [(0, [3])]) [] sp_ltoOpS_0 rd_ltoOpS_0 _ (fun d => R_ltoOpS_0 d.1.1 d.1.2.2.2.2.1 d.2.1)
noncomputable def ltoOpS (a0 : List (Int × ByteArray × ByteArray)) : List (Int × ByteArray × ByteArray) := (foldN (fun i h => h.set i (f_ltoOpS_0 a0 i)) (a0.length - (0 : Int).toNat) (0 : Int).toNat (List.replicate ((a0.length : Nat) : Int).toNat ((0 : Int), ((⟨#[]⟩ : ByteArray), (⟨#[]⟩ : ByteArray)))))
noncomputable abbrev e_ltoOpS (r : List (Int × ByteArray × ByteArray)) : AV × List AObj := ((.all 0 3), [(.rows 85 true (.pair (.int .i64) (.pair .str .str)) r)])
noncomputable abbrev g_ltoOpS : pshsDen P_ltoOpS → AV × List AObj := fun d => e_ltoOpS (ltoOpS d.1)
noncomputable def q_ltoOpS (a0 : List (Int × ByteArray × ByteArray)) : Bool := okL a0
noncomputable abbrev pre_ltoOpS : pshsDen P_ltoOpS → Bool := fun d => q_ltoOpS d.1
theorem runA_ltoOpS (a0 : List (Int × ByteArray × ByteArray)) (hp : (okL a0) = true) : runP false Try.prog tt S7 QF7 (fun b => match b with | 0 => say_ltoOpS_0 | _ => fun _ => none) Try.f45 (argsMk P_ltoOpS (a0, ())) = some (g_ltoOpS (a0, ())) := by
  refine Eq.trans (b := (cond (decide (0 ≤ ((a0.length : Nat) : Int) ∧ ((a0.length : Nat) : Int) = ((a0.length : Nat) : Int) ∧ ((a0.length : Nat) : Int).toNat * 40 ≤ MAXB ∧ ((a0.length : Nat) : Int) ≤ 9223372036854775807)) (cond (decide (0 ≤ (0 : Int)) && (decide ((List.replicate ((a0.length : Nat) : Int).toNat ((0 : Int), ((⟨#[]⟩ : ByteArray), (⟨#[]⟩ : ByteArray)))).length = a0.length) && okL a0)) (some (e_ltoOpS (foldN (fun i h => h.set i (f_ltoOpS_0 a0 i)) (a0.length - (0 : Int).toNat) (0 : Int).toNat (List.replicate ((a0.length : Nat) : Int).toNat ((0 : Int), ((⟨#[]⟩ : ByteArray), (⟨#[]⟩ : ByteArray))))))) none) none)) (by kernel_rfl) ?_
  exact (cndT (by first | rfl | decide | exact hp | (simp only [Bool.and_eq_true] at hp; simp only [hp]; done) | (simp [*]; done) | (simp [okL] at hp; simp [okL, MAXB]; omega) | (simp_all; done) | (simp at *; omega)) (fun _h => (cndT (by first | rfl | decide | exact hp | (simp only [Bool.and_eq_true] at hp; simp only [hp]; done) | (simp [*]; done) | (simp [okL] at hp; simp [okL, MAXB]; omega) | (simp_all; done) | (simp at *; omega)) (fun _h => rfl))))
theorem run_ltoOpS : ∀ d, pre_ltoOpS d = true → runP false Try.prog tt S7 QF7 (fun b => match b with | 0 => say_ltoOpS_0 | _ => fun _ => none) Try.f45 (argsMk P_ltoOpS d) = some (g_ltoOpS d) := fun d hp => runA_ltoOpS d.1 hp
theorem c_ltoOpS : PContract Try.prog 45 (sumOf P_ltoOpS pre_ltoOpS g_ltoOpS) := PContract.of_data false G7 (fn := Try.f45) (by kernel_rfl) (L := fun b => match b with | 0 => say_ltoOpS_0 | _ => fun _ => none) (by rw [show loopsIn 0 (bodyOf Try.f45) = [(0, body_ltoOpS_0)] by kernel_rfl]; intro p hp; simp only [List.mem_singleton] at hp; subst hp; exact lw_ltoOpS_0) P_ltoOpS pre_ltoOpS g_ltoOpS run_ltoOpS
noncomputable def S8 : Tab := Tab.add S7 45 (lift (sumOf P_ltoOpS pre_ltoOpS g_ltoOpS))
noncomputable def QF8 : FuncId → Bool := QF7
theorem G8 : Good Try.prog tt S8 QF8 := G7.add c_ltoOpS ⟨Try.f45, by kernel_rfl, by kernel_rfl, by kernel_rfl⟩ (by kernel_rfl)

/-! 103 loop.example/g00244/spec.PutKey -/
noncomputable abbrev P_sPutKey : List PSh := [.t (.sl (.pair .str .str)), .t .str, .t .str]
noncomputable def body_sPutKey_0 : Code := ((loopsIn 0 (bodyOf Try.f103)).getD 0 (0, .skip)).2
noncomputable def body_sPutKey_1 : Code := ((loopsIn 0 (bodyOf Try.f103)).getD 1 (0, .skip)).2
noncomputable abbrev S_sPutKey_0 : SS := ⟨[.t false (.sl (.pair .str .str)), .t true .str, .t true .str, .junk, .junk, .junk, .junk, .all 0 2, .t true (.int .i64), .junk, .junk, .junk, .junk, .junk, .junk, .junk, .junk, .junk, .junk, .junk, .junk, .junk, .junk, .junk, .junk, .junk, .junk, .junk, .junk, .junk, .junk, .junk, .junk, .junk, .junk, .junk, .junk, .junk, .junk, .junk, .junk, .junk, .junk, .junk, .junk, .junk, .junk, .junk, .junk, .junk, .junk, .junk, .junk, .junk, .junk, .junk, .junk, .junk, .junk, .junk, .junk, .junk], [.rows 118 true (.pair .str .str)]⟩
noncomputable abbrev E_sPutKey_0_0 : SS := ⟨[.junk, .junk, .junk, .junk, .junk, .junk, .all 0 2, .junk, .junk, .junk, .junk, .junk, .junk, .junk, .junk, .junk, .junk, .junk, .junk, .junk, .junk, .junk, .junk, .junk, .junk, .junk, .junk, .junk, .junk, .junk, .junk, .junk, .junk, .junk, .junk, .junk, .junk, .junk, .junk, .junk, .junk, .junk, .junk, .junk, .junk, .junk, .junk, .junk, .junk, .junk, .junk, .junk, .junk, .junk, .junk, .junk, .junk, .junk, .junk, .junk, .junk, .junk], [.rows 118 true (.pair .str .str)]⟩
noncomputable abbrev E_sPutKey_0_1 : SS := ⟨[.t false (.sl (.pair .str .str)), .t true .str, .t true .str, .junk, .junk, .junk, .junk, .junk, .junk, .junk, .junk, .junk, .junk, .junk, .junk, .junk, .junk, .junk, .junk, .junk, .junk, .junk, .junk, .junk, .junk, .junk, .junk, .junk, .junk, .junk, .junk, .junk, .junk, .junk, .junk, .junk, .junk, .junk, .junk, .junk, .junk, .junk, .junk, .junk, .junk, .junk, .junk, .junk, .junk, .junk, .junk, .junk, .junk, .junk, .junk, .junk, .junk, .junk, .junk, .junk, .junk, .junk], []⟩
noncomputable def st_sPutKey_0 (x0 : List (ByteArray × ByteArray)) (x1 : ByteArray) (x2 : ByteArray) (x8 : Int) (h0 : List (ByteArray × ByteArray)) : RT S_sPutKey_0.den := (.br (decide (x8 < ((h0.length : Nat) : Int))) (.br (decide (0 ≤ x8 ∧ x8 < ((h0.length : Nat) : Int))) (.br (((h0.getD x8.toNat ((⟨#[]⟩ : ByteArray), (⟨#[]⟩ : ByteArray))).1).toList == x1.toList) (.br (decide (0 ≤ x8 ∧ x8 < ((h0.length : Nat) : Int))) (.done .ret E_sPutKey_0_0 (((), (), (), (), (), (), (), (), (), (), (), (), (), (), (), (), (), (), (), (), (), (), (), (), (), (), (), (), (), (), (), (), (), (), (), (), (), (), (), (), (), (), (), (), (), (), (), (), (), (), (), (), (), (), (), (), (), (), (), (), (), (), ()), (h0.set x8.toNat ((h0.getD x8.toNat ((⟨#[]⟩ : ByteArray), (⟨#[]⟩ : ByteArray))).1, x2), ()))) .fail) (.next ((x0, x1, x2, (), (), (), (), (), IntKind.wrap .i64 (x8 + (1 : Int)), (), (), (), (), (), (), (), (), (), (), (), (), (), (), (), (), (), (), (), (), (), (), (), (), (), (), (), (), (), (), (), (), (), (), (), (), (), (), (), (), (), (), (), (), (), (), (), (), (), (), (), (), (), ()), (h0, ())))) .fail) (.done (.exit 0) E_sPutKey_0_1 ((x0, x1, x2, (), (), (), (), (), (), (), (), (), (), (), (), (), (), (), (), (), (), (), (), (), (), (), (), (), (), (), (), (), (), (), (), (), (), (), (), (), (), (), (), (), (), (), (), (), (), (), (), (), (), (), (), (), (), (), (), (), (), (), ()), ())))
noncomputable abbrev V_sPutKey_0 := (List (ByteArray × ByteArray)) × (ByteArray) × (ByteArray) × (Int) × (List (ByteArray × ByteArray))
noncomputable abbrev A_sPutKey_0 := Nat × (List (ByteArray × ByteArray)) × (List (ByteArray × ByteArray)) × (ByteArray) × (ByteArray)
noncomputable def fl_sPutKey_0 : A_sPutKey_0 := (99, ([] : List (ByteArray × ByteArray)), ([] : List (ByteArray × ByteArray)), ((⟨#[]⟩ : ByteArray) : ByteArray), ((⟨#[]⟩ : ByteArray) : ByteArray))
noncomputable def ss_sPutKey_0 (x0 : List (ByteArray × ByteArray)) (x1 : ByteArray) (x2 : ByteArray) (x8 : Int) (h0 : List (ByteArray × ByteArray)) : V_sPutKey_0 ⊕ A_sPutKey_0 := (cond (decide (x8 < ((h0.length : Nat) : Int))) (cond (decide (0 ≤ x8 ∧ x8 < ((h0.length : Nat) : Int))) (cond (((h0.getD x8.toNat ((⟨#[]⟩ : ByteArray), (⟨#[]⟩ : ByteArray))).1).toList == x1.toList) (cond (decide (0 ≤ x8 ∧ x8 < ((h0.length : Nat) : Int))) (.inr (0, h0.set x8.toNat ((h0.getD x8.toNat ((⟨#[]⟩ : ByteArray), (⟨#[]⟩ : ByteArray))).1, x2), ([] : List (ByteArray × ByteArray)), ((⟨#[]⟩ : ByteArray) : ByteArray), ((⟨#[]⟩ : ByteArray) : ByteArray))) (.inr fl_sPutKey_0)) (.inl (x0, x1, x2, IntKind.wrap .i64 (x8 + (1 : Int)), h0))) (.inr fl_sPutKey_0)) (.inr (1, ([] : List (ByteArray × ByteArray)), x0, x1, x2)))
noncomputable def it_sPutKey_0 (x0 : List (ByteArray × ByteArray)) (x1 : ByteArray) (x2 : ByteArray) (x8 : Int) (h0 : List (ByteArray × ByteArray)) : A_sPutKey_0 := itX (fun v : V_sPutKey_0 => ss_sPutKey_0 v.1 v.2.1 v.2.2.1 v.2.2.2.1 v.2.2.2.2) fl_sPutKey_0 (x0, x1, x2, x8, h0)
noncomputable def ct_sPutKey_0 (a : A_sPutKey_0) : CT := (.br (a.1 == 0) (.done .ret E_sPutKey_0_0 (((), (), (), (), (), (), (), (), (), (), (), (), (), (), (), (), (), (), (), (), (), (), (), (), (), (), (), (), (), (), (), (), (), (), (), (), (), (), (), (), (), (), (), (), (), (), (), (), (), (), (), (), (), (), (), (), (), (), (), (), (), (), ()), (a.2.1, ()))) (.br (a.1 == 1) (.done (.exit 0) E_sPutKey_0_1 ((a.2.2.1, a.2.2.2.1, a.2.2.2.2, (), (), (), (), (), (), (), (), (), (), (), (), (), (), (), (), (), (), (), (), (), (), (), (), (), (), (), (), (), (), (), (), (), (), (), (), (), (), (), (), (), (), (), (), (), (), (), (), (), (), (), (), (), (), (), (), (), (), (), ()), ())) .fail))
noncomputable def T_sPutKey_0 (x0 : List (ByteArray × ByteArray)) (x1 : ByteArray) (x2 : ByteArray) (x8 : Int) (h0 : List (ByteArray × ByteArray)) : CT := ct_sPutKey_0 (it_sPutKey_0 x0 x1 x2 x8 h0)
noncomputable abbrev sp_sPutKey_0 : S_sPutKey_0.den → RT S_sPutKey_0.den := fun d => st_sPutKey_0 d.1.1 d.1.2.1 d.1.2.2.1 d.1.2.2.2.2.2.2.2.2.1 d.2.1
noncomputable abbrev pk_sPutKey_0 (x0 : List (ByteArray × ByteArray)) (x1 : ByteArray) (x2 : ByteArray) (x8 : Int) (h0 : List (ByteArray × ByteArray)) : S_sPutKey_0.den := ((x0, x1, x2, (), (), (), (), (), x8, (), (), (), (), (), (), (), (), (), (), (), (), (), (), (), (), (), (), (), (), (), (), (), (), (), (), (), (), (), (), (), (), (), (), (), (), (), (), (), (), (), (), (), (), (), (), (), (), (), (), (), (), (), ()), (h0, ()))
theorem R_sPutKey_0 (x0 : List (ByteArray × ByteArray)) (x1 : ByteArray) (x2 : ByteArray) (x8 : Int) (h0 : List (ByteArray × ByteArray)) : (T_sPutKey_0 x0 x1 x2 x8 h0).val (D := S_sPutKey_0.den) = .fail ∨ Runs sp_sPutKey_0 (pk_sPutKey_0 x0 x1 x2 x8 h0) (T_sPutKey_0 x0 x1 x2 x8 h0).val := Runs.ofIt (step := sp_sPutKey_0) (fun v : V_sPutKey_0 => pk_sPutKey_0 v.1 v.2.1 v.2.2.1 v.2.2.2.1 v.2.2.2.2) (ct := ct_sPutKey_0) rfl (fun v => ((relB (relB (relB (relB rfl rfl) rfl) rfl) rfl) : (st_sPutKey_0 v.1 v.2.1 v.2.2.1 v.2.2.2.1 v.2.2.2.2).val = relS (fun v : V_sPutKey_0 => pk_sPutKey_0 v.1 v.2.1 v.2.2.1 v.2.2.2.1 v.2.2.2.2) ct_sPutKey_0 (ss_sPutKey_0 v.1 v.2.1 v.2.2.1 v.2.2.2.1 v.2.2.2.2))) (fun a => ((cendB (cendD (by simp)) (cendB (cendD (by simp)) cendF)) : CEnd _ (ct_sPutKey_0 a))) (x0, x1, x2, x8, h0)
theorem rd_sPutKey_0 : ∀ d, execC Try.prog tt S8 QF8 (fun _ _ => none) 0 body_sPutKey_0 (S_sPutKey_0.st d 0 []) (fun e s' => some (e, S_sPutKey_0.cutE (kepts [6] [(0, [0, 1, 2])]) e s')) = (sp_sPutKey_0 d).opt 0 [] := by
  intro d
  kernel_rfl
noncomputable abbrev say_sPutKey_0 : St → Option Tree := S_sPutKey_0.say 0 [] [] (fun d => T_sPutKey_0 d.1.1 d.1.2.1 d.1.2.2.1 d.1.2.2.2.2.2.2.2.2.1 d.2.1)
theorem lw_sPutKey_0 : LoopWp Try.prog say_sPutKey_0 body_sPutKey_0 := SS.wp G8 (fun _ _ => none) (by rw [show loopsIn 0 body_sPutKey_0 = [] by kernel_rfl]; simp) S_sPutKey_0 0 [] (kepts [6] [(0, [0, 1, 2])]) [] sp_sPutKey_0 rd_sPutKey_0 _ (fun d => R_sPutKey_0 d.1.1 d.1.2.1 d.1.2.2.1 d.1.2.2.2.2.2.2.2.2.1 d.2.1)
noncomputable abbrev S_sPutKey_1 : SS := ⟨[.t false (.sl (.pair .str .str)), .t true .str, .t true .str, .junk, .junk, .junk, .junk, .junk, .junk, .t true (.int .i64), .junk, .junk, .junk, .junk, .junk, .junk, .junk, .junk, .junk, .junk, .junk, .junk, .junk, .junk, .junk, .junk, .junk, .junk, .junk, .junk, .junk, .junk, .junk, .junk, .junk, .junk, .junk, .junk, .junk, .junk, .junk, .junk, .junk, .junk, .junk, .junk, .junk, .junk, .junk, .junk, .junk, .junk, .junk, .junk, .junk, .junk, .junk, .junk, .junk, .junk, .junk, .junk], []⟩
noncomputable abbrev E_sPutKey_1_0 : SS := ⟨[.t false (.sl (.pair .str .str)), .t true .str, .t true .str, .junk, .junk, .junk, .junk, .junk, .junk, .t true (.int .i64), .junk, .junk, .junk, .junk, .junk, .junk, .junk, .junk, .junk, .junk, .junk, .junk, .junk, .junk, .junk, .junk, .junk, .junk, .junk, .junk, .junk, .junk, .junk, .junk, .junk, .junk, .junk, .junk, .junk, .junk, .junk, .junk, .junk, .junk, .junk, .junk, .junk, .junk, .junk, .junk, .junk, .junk, .junk, .junk, .junk, .junk, .junk, .junk, .junk, .junk, .junk, .junk], []⟩
noncomputable def st_sPutKey_1 (x0 : List (ByteArray × ByteArray)) (x1 : ByteArray) (x2 : ByteArray) (x9 : Int) : RT S_sPutKey_1.den := (.br (decide (x9 < ((x0.length : Nat) : Int))) (.br (decide (0 ≤ x9 ∧ x9 < ((x0.length : Nat) : Int))) (.br (Op.bytesLess ((x0.getD x9.toNat ((⟨#[]⟩ : ByteArray), (⟨#[]⟩ : ByteArray))).1).toList x1.toList || (((x0.getD x9.toNat ((⟨#[]⟩ : ByteArray), (⟨#[]⟩ : ByteArray))).1).toList == x1.toList)) (.next ((x0, x1, x2, (), (), (), (), (), (), IntKind.wrap .i64 (x9 + (1 : Int)), (), (), (), (), (), (), (), (), (), (), (), (), (), (), (), (), (), (), (), (), (), (), (), (), (), (), (), (), (), (), (), (), (), (), (), (), (), (), (), (), (), (), (), (), (), (), (), (), (), (), (), (), ()), ())) (.done (.exit 2) E_sPutKey_1_0 ((x0, x1, x2, (), (), (), (), (), (), x9, (), (), (), (), (), (), (), (), (), (), (), (), (), (), (), (), (), (), (), (), (), (), (), (), (), (), (), (), (), (), (), (), (), (), (), (), (), (), (), (), (), (), (), (), (), (), (), (), (), (), (), (), ()), ()))) .fail) (.done (.exit 2) E_sPutKey_1_0 ((x0, x1, x2, (), (), (), (), (), (), x9, (), (), (), (), (), (), (), (), (), (), (), (), (), (), (), (), (), (), (), (), (), (), (), (), (), (), (), (), (), (), (), (), (), (), (), (), (), (), (), (), (), (), (), (), (), (), (), (), (), (), (), (), ()), ())))
noncomputable abbrev V_sPutKey_1 := (List (ByteArray × ByteArray)) × (ByteArray) × (ByteArray) × (Int)
noncomputable abbrev A_sPutKey_1 := Nat × (List (ByteArray × ByteArray)) × (ByteArray) × (ByteArray) × (Int)
noncomputable def fl_sPutKey_1 : A_sPutKey_1 := (99, ([] : List (ByteArray × ByteArray)), ((⟨#[]⟩ : ByteArray) : ByteArray), ((⟨#[]⟩ : ByteArray) : ByteArray), ((0 : Int) : Int))
noncomputable def ss_sPutKey_1 (x0 : List (ByteArray × ByteArray)) (x1 : ByteArray) (x2 : ByteArray) (x9 : Int) : V_sPutKey_1 ⊕ A_sPutKey_1 := (cond (decide (x9 < ((x0.length : Nat) : Int))) (cond (decide (0 ≤ x9 ∧ x9 < ((x0.length : Nat) : Int))) (cond (Op.bytesLess ((x0.getD x9.toNat ((⟨#[]⟩ : ByteArray), (⟨#[]⟩ : ByteArray))).1).toList x1.toList || (((x0.getD x9.toNat ((⟨#[]⟩ : ByteArray), (⟨#[]⟩ : ByteArray))).1).toList == x1.toList)) (.inl (x0, x1, x2, IntKind.wrap .i64 (x9 + (1 : Int)))) (.inr (0, x0, x1, x2, x9))) (.inr fl_sPutKey_1)) (.inr (0, x0, x1, x2, x9)))
noncomputable def it_sPutKey_1 (x0 : List (ByteArray × ByteArray)) (x1 : ByteArray) (x2 : ByteArray) (x9 : Int) : A_sPutKey_1 := itX (fun v : V_sPutKey_1 => ss_sPutKey_1 v.1 v.2.1 v.2.2.1 v.2.2.2) fl_sPutKey_1 (x0, x1, x2, x9)
noncomputable def ct_sPutKey_1 (a : A_sPutKey_1) : CT := (.br (a.1 == 0) (.done (.exit 2) E_sPutKey_1_0 ((a.2.1, a.2.2.1, a.2.2.2.1, (), (), (), (), (), (), a.2.2.2.2, (), (), (), (), (), (), (), (), (), (), (), (), (), (), (), (), (), (), (), (), (), (), (), (), (), (), (), (), (), (), (), (), (), (), (), (), (), (), (), (), (), (), (), (), (), (), (), (), (), (), (), (), ()), ())) .fail)
noncomputable def T_sPutKey_1 (x0 : List (ByteArray × ByteArray)) (x1 : ByteArray) (x2 : ByteArray) (x9 : Int) : CT := ct_sPutKey_1 (it_sPutKey_1 x0 x1 x2 x9)
noncomputable abbrev sp_sPutKey_1 : S_sPutKey_1.den → RT S_sPutKey_1.den := fun d => st_sPutKey_1 d.1.1 d.1.2.1 d.1.2.2.1 d.1.2.2.2.2.2.2.2.2.2.1
noncomputable abbrev pk_sPutKey_1 (x0 : List (ByteArray × ByteArray)) (x1 : ByteArray) (x2 : ByteArray) (x9 : Int) : S_sPutKey_1.den := ((x0, x1, x2, (), (), (), (), (), (), x9, (), (), (), (), (), (), (), (), (), (), (), (), (), (), (), (), (), (), (), (), (), (), (), (), (), (), (), (), (), (), (), (), (), (), (), (), (), (), (), (), (), (), (), (), (), (), (), (), (), (), (), (), ()), ())
theorem R_sPutKey_1 (x0 : List (ByteArray × ByteArray)) (x1 : ByteArray) (x2 : ByteArray) (x9 : Int) : (T_sPutKey_1 x0 x1 x2 x9).val (D := S_sPutKey_1.den) = .fail ∨ Runs sp_sPutKey_1 (pk_sPutKey_1 x0 x1 x2 x9) (T_sPutKey_1 x0 x1 x2 x9).val := Runs.ofIt (step := sp_sPutKey_1) (fun v : V_sPutKey_1 => pk_sPutKey_1 v.1 v.2.1 v.2.2.1 v.2.2.2) (ct := ct_sPutKey_1) rfl (fun v => ((relB (relB (relB rfl rfl) rfl) rfl) : (st_sPutKey_1 v.1 v.2.1 v.2.2.1 v.2.2.2).val = relS (fun v : V_sPutKey_1 => pk_sPutKey_1 v.1 v.2.1 v.2.2.1 v.2.2.2) ct_sPutKey_1 (ss_sPutKey_1 v.1 v.2.1 v.2.2.1 v.2.2.2))) (fun a => ((cendB (cendD (by simp)) cendF) : CEnd _ (ct_sPutKey_1 a))) (x0, x1, x2, x9)
theorem rd_sPutKey_1 : ∀ d, execC Try.prog tt S8 QF8 (fun _ _ => none) 2 body_sPutKey_1 (S_sPutKey_1.st d 0 []) (fun e s' => some (e, S_sPutKey_1.cutE (kepts [] [(2, [0, 1, 2, 9])]) e s')) = (sp_sPutKey_1 d).opt 0 [] := by
  intro d
  kernel_rfl
noncomputable abbrev say_sPutKey_1 : St → Option Tree := S_sPutKey_1.say 0 [] [] (fun d => T_sPutKey_1 d.1.1 d.1.2.1 d.1.2.2.1 d.1.2.2.2.2.2.2.2.2.2.1)
theorem lw_sPutKey_1 : LoopWp Try.prog say_sPutKey_1 body_sPutKey_1 := SS.wp G8 (fun _ _ => none) (by rw [show loopsIn 2 body_sPutKey_1 = [] by kernel_rfl]; simp) S_sPutKey_1 0 [] (kepts [] [(2, [0, 1, 2, 9])]) [] sp_sPutKey_1 rd_sPutKey_1 _ (fun d => R_sPutKey_1 d.1.1 d.1.2.1 d.1.2.2.1 d.1.2.2.2.2.2.2.2.2.2.1)
noncomputable def k1_sPutKey (a0 : List (ByteArray × ByteArray)) (a1 : ByteArray) (a2 : ByteArray) := it_sPutKey_1 ((it_sPutKey_0 a0 a1 a2 (0 : Int) (([] : List (ByteArray × ByteArray)) ++ a0)).2.2.1) ((it_sPutKey_0 a0 a1 a2 (0 : Int) (([] : List (ByteArray × ByteArray)) ++ a0)).2.2.2.1) ((it_sPutKey_0 a0 a1 a2 (0 : Int) (([] : List (ByteArray × ByteArray)) ++ a0)).2.2.2.2) (0 : Int)
noncomputable def sPutKey (a0 : List (ByteArray × ByteArray)) (a1 : ByteArray) (a2 : ByteArray) : List (ByteArray × ByteArray) := (cond ((it_sPutKey_0 a0 a1 a2 (0 : Int) (([] : List (ByteArray × ByteArray)) ++ a0)).1 == 0) ((it_sPutKey_0 a0 a1 a2 (0 : Int) (([] : List (ByteArray × ByteArray)) ++ a0)).2.1) (((([] : List (ByteArray × ByteArray)) ++ ((((k1_sPutKey a0 a1 a2).2.1).take ((k1_sPutKey a0 a1 a2).2.2.2.2).toNat).drop (0 : Int).toNat)) ++ [(((k1_sPutKey a0 a1 a2).2.2.1), ((k1_sPutKey a0 a1 a2).2.2.2.1))]) ++ ((((k1_sPutKey a0 a1 a2).2.1).take ((((k1_sPutKey a0 a1 a2).2.1).length : Nat) : Int).toNat).drop ((k1_sPutKey a0 a1 a2).2.2.2.2).toNat)))
noncomputable abbrev e_sPutKey (r : List (ByteArray × ByteArray)) : AV × List AObj := ((.all 0 2), [(.rows 118 true (.pair .str .str) r)])
noncomputable abbrev g_sPutKey : pshsDen P_sPutKey → AV × List AObj := fun d => e_sPutKey (sPutKey d.1 d.2.1 d.2.2.1)
noncomputable def q_sPutKey (a0 : List (ByteArray × ByteArray)) (a1 : ByteArray) (a2 : ByteArray) : Bool := (decide ((([] : List (ByteArray × ByteArray)).length + a0.length) * 32 ≤ MAXB)) && (cond ((it_sPutKey_0 a0 a1 a2 (0 : Int) (([] : List (ByteArray × ByteArray)) ++ a0)).1 == 0) true (((it_sPutKey_0 a0 a1 a2 (0 : Int) (([] : List (ByteArray × ByteArray)) ++ a0)).1 == 1) && (((k1_sPutKey a0 a1 a2).1 == 0) && ((decide (0 ≤ (0 : Int) ∧ (0 : Int) ≤ ((k1_sPutKey a0 a1 a2).2.2.2.2) ∧ ((k1_sPutKey a0 a1 a2).2.2.2.2) ≤ ((((k1_sPutKey a0 a1 a2).2.1).length : Nat) : Int))) && ((decide ((([] : List (ByteArray × ByteArray)).length + ((((k1_sPutKey a0 a1 a2).2.1).take ((k1_sPutKey a0 a1 a2).2.2.2.2).toNat).drop (0 : Int).toNat).length) * 32 ≤ MAXB)) && ((decide (((([] : List (ByteArray × ByteArray)) ++ ((((k1_sPutKey a0 a1 a2).2.1).take ((k1_sPutKey a0 a1 a2).2.2.2.2).toNat).drop (0 : Int).toNat)).length + [(((k1_sPutKey a0 a1 a2).2.2.1), ((k1_sPutKey a0 a1 a2).2.2.2.1))].length) * 32 ≤ MAXB)) && ((decide (0 ≤ ((k1_sPutKey a0 a1 a2).2.2.2.2) ∧ ((k1_sPutKey a0 a1 a2).2.2.2.2) ≤ ((((k1_sPutKey a0 a1 a2).2.1).length : Nat) : Int) ∧ ((((k1_sPutKey a0 a1 a2).2.1).length : Nat) : Int) ≤ ((((k1_sPutKey a0 a1 a2).2.1).length : Nat) : Int))) && (decide ((((([] : List (ByteArray × ByteArray)) ++ ((((k1_sPutKey a0 a1 a2).2.1).take ((k1_sPutKey a0 a1 a2).2.2.2.2).toNat).drop (0 : Int).toNat)) ++ [(((k1_sPutKey a0 a1 a2).2.2.1), ((k1_sPutKey a0 a1 a2).2.2.2.1))]).length + ((((k1_sPutKey a0 a1 a2).2.1).take ((((k1_sPutKey a0 a1 a2).2.1).length : Nat) : Int).toNat).drop ((k1_sPutKey a0 a1 a2).2.2.2.2).toNat).length) * 32 ≤ MAXB)))))))))
noncomputable abbrev pre_sPutKey : pshsDen P_sPutKey → Bool := fun d => q_sPutKey d.1 d.2.1 d.2.2.1
theorem runA_sPutKey (a0 : List (ByteArray × ByteArray)) (a1 : ByteArray) (a2 : ByteArray) (hp : ((decide ((([] : List (ByteArray × ByteArray)).length + a0.length) * 32 ≤ MAXB)) && (cond ((it_sPutKey_0 a0 a1 a2 (0 : Int) (([] : List (ByteArray × ByteArray)) ++ a0)).1 == 0) true (((it_sPutKey_0 a0 a1 a2 (0 : Int) (([] : List (ByteArray × ByteArray)) ++ a0)).1 == 1) && (((k1_sPutKey a0 a1 a2).1 == 0) && ((decide (0 ≤ (0 : Int) ∧ (0 : Int) ≤ ((k1_sPutKey a0 a1 a2).2.2.2.2) ∧ ((k1_sPutKey a0 a1 a2).2.2.2.2) ≤ ((((k1_sPutKey a0 a1 a2).2.1).length : Nat) : Int))) && ((decide ((([] : List (ByteArray × ByteArray)).length + ((((k1_sPutKey a0 a1 a2).2.1).take ((k1_sPutKey a0 a1 a2).2.2.2.2).toNat).drop (0 : Int).toNat).length) * 32 ≤ MAXB)) && ((decide (((([] : List (ByteArray × ByteArray)) ++ ((((k1_sPutKey a0 a1 a2).2.1).take ((k1_sPutKey a0 a1 a2).2.2.2.2).toNat).drop (0 : Int).toNat)).length + [(((k1_sPutKey a0 a1 a2).2.2.1), ((k1_sPutKey a0 a1 a2).2.2.2.1))].length) * 32 ≤ MAXB)) && ((decide (0 ≤ ((k1_sPutKey a0 a1 a2).2.2.2.2) ∧ ((k1_sPutKey a0 a1 a2).2.2.2.2) ≤ ((((k1_sPutKey a0 a1 a2).2.1).length : Nat) : Int) ∧ ((((k1_sPutKey a0 a1 a2).2.1).length : Nat) : Int) ≤ ((((k1_sPutKey a0 a1 a2).2.1).length : Nat) : Int))) && (decide ((((([] : List (ByteArray × ByteArray)) ++ ((((k1_sPutKey a0 a1 a2).2.1).take ((k1_sPutKey a0 a1 a2).2.2.2.2).toNat).drop (0 : Int).toNat)) ++ [(((k1_sPutKey a0 a1 a2).2.2.1), ((k1_sPutKey a0 a1 a2).2.2.2.1))]).length + ((((k1_sPutKey a0 a1 a2).2.1).take ((((k1_sPutKey a0 a1 a2).2.1).length : Nat) : Int).toNat).drop ((k1_sPutKey a0 a1 a2).2.2.2.2).toNat).length) * 32 ≤ MAXB)))))))))) = true) : runP false Try.prog tt S8 QF8 (fun b => match b with | 0 => say_sPutKey_0 | 2 => say_sPutKey_1 | _ => fun _ => none) Try.f103 (argsMk P_sPutKey (a0, (a1, (a2, ())))) = some (g_sPutKey (a0, (a1, (a2, ())))) := by
  refine Eq.trans (b := (cond (decide ((([] : List (ByteArray × ByteArray)).length + a0.length) * 32 ≤ MAXB)) (cond ((it_sPutKey_0 a0 a1 a2 (0 : Int) (([] : List (ByteArray × ByteArray)) ++ a0)).1 == 0) (some (e_sPutKey ((it_sPutKey_0 a0 a1 a2 (0 : Int) (([] : List (ByteArray × ByteArray)) ++ a0)).2.1))) (cond ((it_sPutKey_0 a0 a1 a2 (0 : Int) (([] : List (ByteArray × ByteArray)) ++ a0)).1 == 1) (cond ((k1_sPutKey a0 a1 a2).1 == 0) (cond (decide (0 ≤ (0 : Int) ∧ (0 : Int) ≤ ((k1_sPutKey a0 a1 a2).2.2.2.2) ∧ ((k1_sPutKey a0 a1 a2).2.2.2.2) ≤ ((((k1_sPutKey a0 a1 a2).2.1).length : Nat) : Int))) (cond (decide ((([] : List (ByteArray × ByteArray)).length + ((((k1_sPutKey a0 a1 a2).2.1).take ((k1_sPutKey a0 a1 a2).2.2.2.2).toNat).drop (0 : Int).toNat).length) * 32 ≤ MAXB)) (cond (decide (((([] : List (ByteArray × ByteArray)) ++ ((((k1_sPutKey a0 a1 a2).2.1).take ((k1_sPutKey a0 a1 a2).2.2.2.2).toNat).drop (0 : Int).toNat)).length + [(((k1_sPutKey a0 a1 a2).2.2.1), ((k1_sPutKey a0 a1 a2).2.2.2.1))].length) * 32 ≤ MAXB)) (cond (decide (0 ≤ ((k1_sPutKey a0 a1 a2).2.2.2.2) ∧ ((k1_sPutKey a0 a1 a2).2.2.2.2) ≤ ((((k1_sPutKey a0 a1 a2).2.1).length : Nat) : Int) ∧ ((((k1_sPutKey a0 a1 a2).2.1).length : Nat) : Int) ≤ ((((k1_sPutKey a0 a1 a2).2.1).length : Nat) : Int))) (cond (decide ((((([] : List (ByteArray × ByteArray)) ++ ((((k1_sPutKey a0 a1 a2).2.1).take ((k1_sPutKey a0 a1 a2).2.2.2.2).toNat).drop (0 : Int).toNat)) ++ [(((k1_sPutKey a0 a1 a2).2.2.1), ((k1_sPutKey a0 a1 a2).2.2.2.1))]).length + ((((k1_sPutKey a0 a1 a2).2.1).take ((((k1_sPutKey a0 a1 a2).2.1).length : Nat) : Int).toNat).drop ((k1_sPutKey a0 a1 a2).2.2.2.2).toNat).length) * 32 ≤ MAXB)) (some (e_sPutKey (((([] : List (ByteArray × ByteArray)) ++ ((((k1_sPutKey a0 a1 a2).2.1).take ((k1_sPutKey a0 a1 a2).2.2.2.2).toNat).drop (0 : Int).toNat)) ++ [(((k1_sPutKey a0 a1 a2).2.2.1), ((k1_sPutKey a0 a1 a2).2.2.2.1))]) ++ ((((k1_sPutKey a0 a1 a2).2.1).take ((((k1_sPutKey a0 a1 a2).2.1).length : Nat) : Int).toNat).drop ((k1_sPutKey a0 a1 a2).2.2.2.2).toNat)))) none) none) none) none) none) none) none)) none)) (by kernel_rfl) ?_
  exact (cndT (andL hp) (fun _h => (fun hp => (cndQ (F := fun r => some (e_sPutKey r)) hp (fun hp => rfl) (fun hp => (cndT (andL hp) (fun _h => (fun hp => (cndT (andL hp) (fun _h => (fun hp => (cndT (andL hp) (fun _h => (fun hp => (cndT (andL hp) (fun _h => (fun hp => (cndT (andL hp) (fun _h => (fun hp => (cndT (andL hp) (fun _h => (fun hp => (cndT hp (fun _h => rfl))) (andR hp)))) (andR hp)))) (andR hp)))) (andR hp)))) (andR hp)))) (andR hp)))))) (andR hp)))
theorem run_sPutKey : ∀ d, pre_sPutKey d = true → runP false Try.prog tt S8 QF8 (fun b => match b with | 0 => say_sPutKey_0 | 2 => say_sPutKey_1 | _ => fun _ => none) Try.f103 (argsMk P_sPutKey d) = some (g_sPutKey d) := fun d hp => runA_sPutKey d.1 d.2.1 d.2.2.1 hp
theorem c_sPutKey : PContract Try.prog 103 (sumOf P_sPutKey pre_sPutKey g_sPutKey) := PContract.of_data false G8 (fn := Try.f103) (by kernel_rfl) (L := fun b => match b with | 0 => say_sPutKey_0 | 2 => say_sPutKey_1 | _ => fun _ => none) (by
    rw [show loopsIn 0 (bodyOf Try.f103) = [(0, body_sPutKey_0), (2, body_sPutKey_1)] by kernel_rfl]; intro p hp; simp only [List.mem_cons, List.mem_nil_iff, or_false] at hp
    rcases hp with rfl | rfl
    · exact lw_sPutKey_0
    · exact lw_sPutKey_1) P_sPutKey pre_sPutKey g_sPutKey run_sPutKey
noncomputable def S9 : Tab := Tab.add S8 103 (lift (sumOf P_sPutKey pre_sPutKey g_sPutKey))
noncomputable def QF9 : FuncId → Bool := QF8
theorem G9 : Good Try.prog tt S9 QF9 := G8.add c_sPutKey ⟨Try.f103, by kernel_rfl, by kernel_rfl, by kernel_rfl⟩ (by kernel_rfl)

/-! 104 loop.example/g00244/spec.DelKey -/
noncomputable abbrev P_sDelKey : List PSh := [.t (.sl (.pair .str .str)), .t .str]
noncomputable abbrev S_sDelKey_0 : SS := ⟨[.t false (.sl (.pair .str .str)), .t true .str, .junk, .junk, .junk, .all 0 2, .t true (.int .i64), .junk, .junk, .junk, .junk, .junk, .junk, .junk, .junk, .junk, .junk, .junk, .junk, .junk, .junk, .junk, .junk, .junk, .junk, .junk, .junk, .junk, .junk], [.rows 118 true (.pair .str .str)]⟩
noncomputable abbrev E_sDelKey_0_0 : SS := ⟨[.junk, .junk, .junk, .junk, .junk, .all 0 2, .junk, .junk, .junk, .junk, .junk, .junk, .junk, .junk, .junk, .junk, .junk, .junk, .junk, .junk, .junk, .junk, .junk, .junk, .junk, .junk, .junk, .junk, .junk], [.rows 118 true (.pair .str .str)]⟩
noncomputable def st_sDelKey_0 (x0 : List (ByteArray × ByteArray)) (x1 : ByteArray) (x6 : Int) (h0 : List (ByteArray × ByteArray)) : RT S_sDelKey_0.den := (.br (decide (x6 < ((x0.length : Nat) : Int))) (.br (decide (0 ≤ x6 ∧ x6 < ((x0.length : Nat) : Int))) (.br (!(((x0.getD x6.toNat ((⟨#[]⟩ : ByteArray), (⟨#[]⟩ : ByteArray))).1).toList == x1.toList)) (.br (decide (0 ≤ x6 ∧ x6 < ((x0.length : Nat) : Int))) (.br (decide ((h0.length + ([((x0.getD x6.toNat ((⟨#[]⟩ : ByteArray), (⟨#[]⟩ : ByteArray))).1, (x0.getD x6.toNat ((⟨#[]⟩ : ByteArray), (⟨#[]⟩ : ByteArray))).2)]).length) * 32 ≤ MAXB)) (.next ((x0, x1, (), (), (), (), IntKind.wrap .i64 (x6 + (1 : Int)), (), (), (), (), (), (), (), (), (), (), (), (), (), (), (), (), (), (), (), (), (), (), ()), (h0 ++ ([((x0.getD x6.toNat ((⟨#[]⟩ : ByteArray), (⟨#[]⟩ : ByteArray))).1, (x0.getD x6.toNat ((⟨#[]⟩ : ByteArray), (⟨#[]⟩ : ByteArray))).2)]), ()))) .fail) .fail) (.next ((x0, x1, (), (), (), (), IntKind.wrap .i64 (x6 + (1 : Int)), (), (), (), (), (), (), (), (), (), (), (), (), (), (), (), (), (), (), (), (), (), (), ()), (h0, ())))) .fail) (.done (.exit 0) E_sDelKey_0_0 (((), (), (), (), (), (), (), (), (), (), (), (), (), (), (), (), (), (), (), (), (), (), (), (), (), (), (), (), (), ()), (h0, ()))))
noncomputable abbrev V_sDelKey_0 := (List (ByteArray × ByteArray)) × (ByteArray) × (Int) × (List (ByteArray × ByteArray))
noncomputable abbrev A_sDelKey_0 := Nat × (List (ByteArray × ByteArray))
noncomputable def fl_sDelKey_0 : A_sDelKey_0 := (99, ([] : List (ByteArray × ByteArray)))
noncomputable def ss_sDelKey_0 (x0 : List (ByteArray × ByteArray)) (x1 : ByteArray) (x6 : Int) (h0 : List (ByteArray × ByteArray)) : V_sDelKey_0 ⊕ A_sDelKey_0 := (cond (decide (x6 < ((x0.length : Nat) : Int))) (cond (decide (0 ≤ x6 ∧ x6 < ((x0.length : Nat) : Int))) (cond (!(((x0.getD x6.toNat ((⟨#[]⟩ : ByteArray), (⟨#[]⟩ : ByteArray))).1).toList == x1.toList)) (cond (decide (0 ≤ x6 ∧ x6 < ((x0.length : Nat) : Int))) (cond (decide ((h0.length + ([((x0.getD x6.toNat ((⟨#[]⟩ : ByteArray), (⟨#[]⟩ : ByteArray))).1, (x0.getD x6.toNat ((⟨#[]⟩ : ByteArray), (⟨#[]⟩ : ByteArray))).2)]).length) * 32 ≤ MAXB)) (.inl (x0, x1, IntKind.wrap .i64 (x6 + (1 : Int)), h0 ++ ([((x0.getD x6.toNat ((⟨#[]⟩ : ByteArray), (⟨#[]⟩ : ByteArray))).1, (x0.getD x6.toNat ((⟨#[]⟩ : ByteArray), (⟨#[]⟩ : ByteArray))).2)]))) (.inr fl_sDelKey_0)) (.inr fl_sDelKey_0)) (.inl (x0, x1, IntKind.wrap .i64 (x6 + (1 : Int)), h0))) (.inr fl_sDelKey_0)) (.inr (0, h0)))
noncomputable def it_sDelKey_0 (x0 : List (ByteArray × ByteArray)) (x1 : ByteArray) (x6 : Int) (h0 : List (ByteArray × ByteArray)) : A_sDelKey_0 := itX (fun v : V_sDelKey_0 => ss_sDelKey_0 v.1 v.2.1 v.2.2.1 v.2.2.2) fl_sDelKey_0 (x0, x1, x6, h0)
noncomputable def ct_sDelKey_0 (a : A_sDelKey_0) : CT := (.br (a.1 == 0) (.done (.exit 0) E_sDelKey_0_0 (((), (), (), (), (), (), (), (), (), (), (), (), (), (), (), (), (), (), (), (), (), (), (), (), (), (), (), (), (), ()), (a.2, ()))) .fail)
noncomputable def T_sDelKey_0 (x0 : List (ByteArray × ByteArray)) (x1 : ByteArray) (x6 : Int) (h0 : List (ByteArray × ByteArray)) : CT := ct_sDelKey_0 (it_sDelKey_0 x0 x1 x6 h0)
noncomputable abbrev sp_sDelKey_0 : S_sDelKey_0.den → RT S_sDelKey_0.den := fun d => st_sDelKey_0 d.1.1 d.1.2.1 d.1.2.2.2.2.2.2.1 d.2.1
noncomputable abbrev pk_sDelKey_0 (x0 : List (ByteArray × ByteArray)) (x1 : ByteArray) (x6 : Int) (h0 : List (ByteArray × ByteArray)) : S_sDelKey_0.den := ((x0, x1, (), (), (), (), x6, (), (), (), (), (), (), (), (), (), (), (), (), (), (), (), (), (), (), (), (), (), (), ()), (h0, ()))
noncomputable def body_sDelKey_0 : Code := ((loopsIn 0 (bodyOf Try.f104)).getD 0 (0, .skip)).2
theorem R_sDelKey_0 (x0 : List (ByteArray × ByteArray)) (x1 : ByteArray) (x6 : Int) (h0 : List (ByteArray × ByteArray)) : (T_sDelKey_0 x0 x1 x6 h0).val (D := S_sDelKey_0.den) = .fail ∨ Runs sp_sDelKey_0 (pk_sDelKey_0 x0 x1 x6 h0) (T_sDelKey_0 x0 x1 x6 h0).val := Runs.ofIt (step := sp_sDelKey_0) (fun v : V_sDelKey_0 => pk_sDelKey_0 v.1 v.2.1 v.2.2.1 v.2.2.2) (ct := ct_sDelKey_0) rfl (fun v => ((relB (relB (relB (relB (relB rfl rfl) rfl) rfl) rfl) rfl) : (st_sDelKey_0 v.1 v.2.1 v.2.2.1 v.2.2.2).val = relS (fun v : V_sDelKey_0 => pk_sDelKey_0 v.1 v.2.1 v.2.2.1 v.2.2.2) ct_sDelKey_0 (ss_sDelKey_0 v.1 v.2.1 v.2.2.1 v.2.2.2))) (fun a => ((cendB (cendD (by simp)) cendF) : CEnd _ (ct_sDelKey_0 a))) (x0, x1, x6, h0)
theorem rd_sDelKey_0 : ∀ d, execC Try.prog tt S9 QF9 (fun _ _ => none) 0 body_sDelKey_0 (S_sDelKey_0.st d 0 []) (fun e s' => some (e, S_sDelKey_0.cutE (kepts [] [(0, [5])]) e s')) = (sp_sDelKey_0 d).opt 0 [] := by
  intro d
  kernel_rfl
noncomputable abbrev say_sDelKey_0 : St → Option Tree := S_sDelKey_0.say 0 [] [] (fun d => T_sDelKey_0 d.1.1 d.1.2.1 d.1.2.2.2.2.2.2.1 d.2.1)
theorem lw_sDelKey_0 : LoopWp Try.prog say_sDelKey_0 body_sDelKey_0 := SS.wp G9 (fun _ _ => none) (by rw [show loopsIn 0 body_sDelKey_0 = [] by kernel_rfl]; simp) S_sDelKey_0 0 [] (kepts [] [(0, [5])]) [] sp_sDelKey_0 rd_sDelKey_0 _ (fun d => R_sDelKey_0 d.1.1 d.1.2.1 d.1.2.2.2.2.2.2.1 d.2.1)
noncomputable def sDelKey (a0 : List (ByteArray × ByteArray)) (a1 : ByteArray) : List (ByteArray × ByteArray) := ((it_sDelKey_0 a0 a1 (0 : Int) ([] : List (ByteArray × ByteArray))).2)
noncomputable abbrev e_sDelKey (r : List (ByteArray × ByteArray)) : AV × List AObj := ((.all 0 2), [(.rows 118 true (.pair .str .str) r)])
noncomputable abbrev g_sDelKey : pshsDen P_sDelKey → AV × List AObj := fun d => e_sDelKey (sDelKey d.1 d.2.1)
noncomputable def q_sDelKey (a0 : List (ByteArray × ByteArray)) (a1 : ByteArray) : Bool := ((it_sDelKey_0 a0 a1 (0 : Int) ([] : List (ByteArray × ByteArray))).1 == 0)
noncomputable abbrev pre_sDelKey : pshsDen P_sDelKey → Bool := fun d => q_sDelKey d.1 d.2.1
theorem runA_sDelKey (a0 : List (ByteArray × ByteArray)) (a1 : ByteArray) (hp : (((it_sDelKey_0 a0 a1 (0 : Int) ([] : List (ByteArray × ByteArray))).1 == 0)) = true) : runP false Try.prog tt S9 QF9 (fun b => match b with | 0 => say_sDelKey_0 | _ => fun _ => none) Try.f104 (argsMk P_sDelKey (a0, (a1, ()))) = some (g_sDelKey (a0, (a1, ()))) := by
  refine Eq.trans (b := (cond ((it_sDelKey_0 a0 a1 (0 : Int) ([] : List (ByteArray × ByteArray))).1 == 0) (some (e_sDelKey ((it_sDelKey_0 a0 a1 (0 : Int) ([] : List (ByteArray × ByteArray))).2))) none)) (by kernel_rfl) ?_
  exact (cndT hp (fun _h => rfl))
theorem run_sDelKey : ∀ d, pre_sDelKey d = true → runP false Try.prog tt S9 QF9 (fun b => match b with | 0 => say_sDelKey_0 | _ => fun _ => none) Try.f104 (argsMk P_sDelKey d) = some (g_sDelKey d) := fun d hp => runA_sDelKey d.1 d.2.1 hp
theorem c_sDelKey : PContract Try.prog 104 (sumOf P_sDelKey pre_sDelKey g_sDelKey) := PContract.of_data false G9 (fn := Try.f104) (by kernel_rfl) (L := fun b => match b with | 0 => say_sDelKey_0 | _ => fun _ => none) (by rw [show loopsIn 0 (bodyOf Try.f104) = [(0, body_sDelKey_0)] by kernel_rfl]; intro p hp; simp only [List.mem_singleton] at hp; subst hp; exact lw_sDelKey_0) P_sDelKey pre_sDelKey g_sDelKey run_sDelKey
noncomputable def S10 : Tab := Tab.add S9 104 (lift (sumOf P_sDelKey pre_sDelKey g_sDelKey))
noncomputable def QF10 : FuncId → Bool := QF9
theorem G10 : Good Try.prog tt S10 QF10 := G9.add c_sDelKey ⟨Try.f104, by kernel_rfl, by kernel_rfl, by kernel_rfl⟩ (by kernel_rfl)

/-! 43 loop.example/g00244/spec.Apply -/
noncomputable abbrev P_sApply : List PSh := [.t (.sl (.pair .str .str)), .t (.sl (.pair (.int .i64) (.pair .str .str)))]
noncomputable abbrev S_sApply_0 : SS := ⟨[.junk, .t false (.sl (.pair (.int .i64) (.pair .str .str))), .junk, .junk, .junk, .all 0 2, .t true (.int .i64), .junk, .junk, .junk, .junk, .junk, .junk, .junk, .junk, .junk, .junk, .junk, .junk, .junk, .junk, .junk, .junk, .junk, .junk, .junk, .junk, .junk, .junk, .junk, .junk, .junk, .junk, .junk, .junk, .junk, .junk, .junk, .junk, .junk, .junk, .junk, .junk, .junk, .junk], [.rows 118 true (.pair .str .str)]⟩
noncomputable abbrev E_sApply_0_0 : SS := ⟨[.junk, .junk, .junk, .junk, .junk, .all 0 2, .junk, .junk, .junk, .junk, .junk, .junk, .junk, .junk, .junk, .junk, .junk, .junk, .junk, .junk, .junk, .junk, .junk, .junk, .junk, .junk, .junk, .junk, .junk, .junk, .junk, .junk, .junk, .junk, .junk, .junk, .junk, .junk, .junk, .junk, .junk, .junk, .junk, .junk, .junk], [.rows 118 true (.pair .str .str)]⟩
noncomputable def k1_sApply (x1 : List (Int × ByteArray × ByteArray)) (x6 : Int) (h0 : List (ByteArray × ByteArray)) := sPutKey h0 (((x1.getD x6.toNat ((0 : Int), ((⟨#[]⟩ : ByteArray), (⟨#[]⟩ : ByteArray)))).2).1) (((x1.getD x6.toNat ((0 : Int), ((⟨#[]⟩ : ByteArray), (⟨#[]⟩ : ByteArray)))).2).2)
noncomputable def k2_sApply (x1 : List (Int × ByteArray × ByteArray)) (x6 : Int) (h0 : List (ByteArray × ByteArray)) := sDelKey h0 (((x1.getD x6.toNat ((0 : Int), ((⟨#[]⟩ : ByteArray), (⟨#[]⟩ : ByteArray)))).2).1)
noncomputable def st_sApply_0 (x1 : List (Int × ByteArray × ByteArray)) (x6 : Int) (h0 : List (ByteArray × ByteArray)) : RT S_sApply_0.den := (.br (decide (x6 < ((x1.length : Nat) : Int))) (.br (decide (0 ≤ x6 ∧ x6 < ((x1.length : Nat) : Int))) (.br (((x1.getD x6.toNat ((0 : Int), ((⟨#[]⟩ : ByteArray), (⟨#[]⟩ : ByteArray)))).1) == (1 : Int)) (.br (decide (0 ≤ x6 ∧ x6 < ((x1.length : Nat) : Int))) (.br (decide (0 ≤ x6 ∧ x6 < ((x1.length : Nat) : Int))) (.br (q_sPutKey h0 (((x1.getD x6.toNat ((0 : Int), ((⟨#[]⟩ : ByteArray), (⟨#[]⟩ : ByteArray)))).2).1) (((x1.getD x6.toNat ((0 : Int), ((⟨#[]⟩ : ByteArray), (⟨#[]⟩ : ByteArray)))).2).2)) (.next (((), x1, (), (), (), (), IntKind.wrap .i64 (x6 + (1 : Int)), (), (), (), (), (), (), (), (), (), (), (), (), (), (), (), (), (), (), (), (), (), (), (), (), (), (), (), (), (), (), (), (), (), (), (), (), (), (), ()), ((k1_sApply x1 x6 h0), ()))) .fail) .fail) .fail) (.br (((x1.getD x6.toNat ((0 : Int), ((⟨#[]⟩ : ByteArray), (⟨#[]⟩ : ByteArray)))).1) == (2 : Int)) (.br (decide (0 ≤ x6 ∧ x6 < ((x1.length : Nat) : Int))) (.br (q_sDelKey h0 (((x1.getD x6.toNat ((0 : Int), ((⟨#[]⟩ : ByteArray), (⟨#[]⟩ : ByteArray)))).2).1)) (.next (((), x1, (), (), (), (), IntKind.wrap .i64 (x6 + (1 : Int)), (), (), (), (), (), (), (), (), (), (), (), (), (), (), (), (), (), (), (), (), (), (), (), (), (), (), (), (), (), (), (), (), (), (), (), (), (), (), ()), ((k2_sApply x1 x6 h0), ()))) .fail) .fail) (.next (((), x1, (), (), (), (), IntKind.wrap .i64 (x6 + (1 : Int)), (), (), (), (), (), (), (), (), (), (), (), (), (), (), (), (), (), (), (), (), (), (), (), (), (), (), (), (), (), (), (), (), (), (), (), (), (), (), ()), (h0, ()))))) .fail) (.done (.exit 0) E_sApply_0_0 (((), (), (), (), (), (), (), (), (), (), (), (), (), (), (), (), (), (), (), (), (), (), (), (), (), (), (), (), (), (), (), (), (), (), (), (), (), (), (), (), (), (), (), (), (), ()), (h0, ()))))
noncomputable abbrev V_sApply_0 := (List (Int × ByteArray × ByteArray)) × (Int) × (List (ByteArray × ByteArray))
noncomputable abbrev A_sApply_0 := Nat × (List (ByteArray × ByteArray))
noncomputable def fl_sApply_0 : A_sApply_0 := (99, ([] : List (ByteArray × ByteArray)))
noncomputable def ss_sApply_0 (x1 : List (Int × ByteArray × ByteArray)) (x6 : Int) (h0 : List (ByteArray × ByteArray)) : V_sApply_0 ⊕ A_sApply_0 := (cond (decide (x6 < ((x1.length : Nat) : Int))) (cond (decide (0 ≤ x6 ∧ x6 < ((x1.length : Nat) : Int))) (cond (((x1.getD x6.toNat ((0 : Int), ((⟨#[]⟩ : ByteArray), (⟨#[]⟩ : ByteArray)))).1) == (1 : Int)) (cond (decide (0 ≤ x6 ∧ x6 < ((x1.length : Nat) : Int))) (cond (decide (0 ≤ x6 ∧ x6 < ((x1.length : Nat) : Int))) (cond (q_sPutKey h0 (((x1.getD x6.toNat ((0 : Int), ((⟨#[]⟩ : ByteArray), (⟨#[]⟩ : ByteArray)))).2).1) (((x1.getD x6.toNat ((0 : Int), ((⟨#[]⟩ : ByteArray), (⟨#[]⟩ : ByteArray)))).2).2)) (.inl (x1, IntKind.wrap .i64 (x6 + (1 : Int)), (k1_sApply x1 x6 h0))) (.inr fl_sApply_0)) (.inr fl_sApply_0)) (.inr fl_sApply_0)) (cond (((x1.getD x6.toNat ((0 : Int), ((⟨#[]⟩ : ByteArray), (⟨#[]⟩ : ByteArray)))).1) == (2 : Int)) (cond (decide (0 ≤ x6 ∧ x6 < ((x1.length : Nat) : Int))) (cond (q_sDelKey h0 (((x1.getD x6.toNat ((0 : Int), ((⟨#[]⟩ : ByteArray), (⟨#[]⟩ : ByteArray)))).2).1)) (.inl (x1, IntKind.wrap .i64 (x6 + (1 : Int)), (k2_sApply x1 x6 h0))) (.inr fl_sApply_0)) (.inr fl_sApply_0)) (.inl (x1, IntKind.wrap .i64 (x6 + (1 : Int)), h0)))) (.inr fl_sApply_0)) (.inr (0, h0)))
noncomputable def it_sApply_0 (x1 : List (Int × ByteArray × ByteArray)) (x6 : Int) (h0 : List (ByteArray × ByteArray)) : A_sApply_0 := itX (fun v : V_sApply_0 => ss_sApply_0 v.1 v.2.1 v.2.2) fl_sApply_0 (x1, x6, h0)
noncomputable def ct_sApply_0 (a : A_sApply_0) : CT := (.br (a.1 == 0) (.done (.exit 0) E_sApply_0_0 (((), (), (), (), (), (), (), (), (), (), (), (), (), (), (), (), (), (), (), (), (), (), (), (), (), (), (), (), (), (), (), (), (), (), (), (), (), (), (), (), (), (), (), (), (), ()), (a.2, ()))) .fail)
noncomputable def T_sApply_0 (x1 : List (Int × ByteArray × ByteArray)) (x6 : Int) (h0 : List (ByteArray × ByteArray)) : CT := ct_sApply_0 (it_sApply_0 x1 x6 h0)
noncomputable abbrev sp_sApply_0 : S_sApply_0.den → RT S_sApply_0.den := fun d => st_sApply_0 d.1.2.1 d.1.2.2.2.2.2.2.1 d.2.1
noncomputable abbrev pk_sApply_0 (x1 : List (Int × ByteArray × ByteArray)) (x6 : Int) (h0 : List (ByteArray × ByteArray)) : S_sApply_0.den := (((), x1, (), (), (), (), x6, (), (), (), (), (), (), (), (), (), (), (), (), (), (), (), (), (), (), (), (), (), (), (), (), (), (), (), (), (), (), (), (), (), (), (), (), (), (), ()), (h0, ()))
noncomputable def body_sApply_0 : Code := ((loopsIn 0 (bodyOf Try.f43)).getD 0 (0, .skip)).2
theorem R_sApply_0 (x1 : List (Int × ByteArray × ByteArray)) (x6 : Int) (h0 : List (ByteArray × ByteArray)) : (T_sApply_0 x1 x6 h0).val (D := S_sApply_0.den) = .fail ∨ Runs sp_sApply_0 (pk_sApply_0 x1 x6 h0) (T_sApply_0 x1 x6 h0).val := Runs.ofIt (step := sp_sApply_0) (fun v : V_sApply_0 => pk_sApply_0 v.1 v.2.1 v.2.2) (ct := ct_sApply_0) rfl (fun v => ((relB (relB (relB (relB (relB (relB rfl rfl) rfl) rfl) (relB (relB (relB rfl rfl) rfl) rfl)) rfl) rfl) : (st_sApply_0 v.1 v.2.1 v.2.2).val = relS (fun v : V_sApply_0 => pk_sApply_0 v.1 v.2.1 v.2.2) ct_sApply_0 (ss_sApply_0 v.1 v.2.1 v.2.2))) (fun a => ((cendB (cendD (by simp)) cendF) : CEnd _ (ct_sApply_0 a))) (x1, x6, h0)
theorem rd_sApply_0 : ∀ d, execC Try.prog tt S10 QF10 (fun _ _ => none) 0 body_sApply_0 (S_sApply_0.st d 0 []) (fun e s' => some (e, S_sApply_0.cutE (kepts [] [(0, [5])]) e s')) = (sp_sApply_0 d).opt 0 [] := by
  intro d
  kernel_rfl
noncomputable abbrev say_sApply_0 : St → Option Tree := S_sApply_0.say 0 [] [] (fun d => T_sApply_0 d.1.2.1 d.1.2.2.2.2.2.2.1 d.2.1)
theorem lw_sApply_0 : LoopWp Try.prog say_sApply_0 body_sApply_0 := SS.wp G10 (fun _ _ => none) (by rw [show loopsIn 0 body_sApply_0 = [] by kernel_rfl]; simp) S_sApply_0 0 [] (kepts [] [(0, [5])]) [] sp_sApply_0 rd_sApply_0 _ (fun d => R_sApply_0 d.1.2.1 d.1.2.2.2.2.2.2.1 d.2.1)
noncomputable def sApply (a0 : List (ByteArray × ByteArray)) (a1 : List (Int × ByteArray × ByteArray)) : List (ByteArray × ByteArray) := ((it_sApply_0 a1 (0 : Int) (([] : List (ByteArray × ByteArray)) ++ a0)).2)
noncomputable abbrev e_sApply (r : List (ByteArray × ByteArray)) : AV × List AObj := ((.all 0 2), [(.rows 118 true (.pair .str .str) r)])
noncomputable abbrev g_sApply : pshsDen P_sApply → AV × List AObj := fun d => e_sApply (sApply d.1 d.2.1)
noncomputable def q_sApply (a0 : List (ByteArray × ByteArray)) (a1 : List (Int × ByteArray × ByteArray)) : Bool := (decide ((([] : List (ByteArray × ByteArray)).length + a0.length) * 32 ≤ MAXB)) && ((it_sApply_0 a1 (0 : Int) (([] : List (ByteArray × ByteArray)) ++ a0)).1 == 0)
noncomputable abbrev pre_sApply : pshsDen P_sApply → Bool := fun d => q_sApply d.1 d.2.1
theorem runA_sApply (a0 : List (ByteArray × ByteArray)) (a1 : List (Int × ByteArray × ByteArray)) (hp : ((decide ((([] : List (ByteArray × ByteArray)).length + a0.length) * 32 ≤ MAXB)) && ((it_sApply_0 a1 (0 : Int) (([] : List (ByteArray × ByteArray)) ++ a0)).1 == 0)) = true) : runP false Try.prog tt S10 QF10 (fun b => match b with | 0 => say_sApply_0 | _ => fun _ => none) Try.f43 (argsMk P_sApply (a0, (a1, ()))) = some (g_sApply (a0, (a1, ()))) := by
  refine Eq.trans (b := (cond (decide ((([] : List (ByteArray × ByteArray)).length + a0.length) * 32 ≤ MAXB)) (cond ((it_sApply_0 a1 (0 : Int) (([] : List (ByteArray × ByteArray)) ++ a0)).1 == 0) (some (e_sApply ((it_sApply_0 a1 (0 : Int) (([] : List (ByteArray × ByteArray)) ++ a0)).2))) none) none)) (by kernel_rfl) ?_
  exact (cndT (andL hp) (fun _h => (fun hp => (cndT hp (fun _h => rfl))) (andR hp)))
theorem run_sApply : ∀ d, pre_sApply d = true → runP false Try.prog tt S10 QF10 (fun b => match b with | 0 => say_sApply_0 | _ => fun _ => none) Try.f43 (argsMk P_sApply d) = some (g_sApply d) := fun d hp => runA_sApply d.1 d.2.1 hp
theorem c_sApply : PContract Try.prog 43 (sumOf P_sApply pre_sApply g_sApply) := PContract.of_data false G10 (fn := Try.f43) (by kernel_rfl) (L := fun b => match b with | 0 => say_sApply_0 | _ => fun _ => none) (by rw [show loopsIn 0 (bodyOf Try.f43) = [(0, body_sApply_0)] by kernel_rfl]; intro p hp; simp only [List.mem_singleton] at hp; subst hp; exact lw_sApply_0) P_sApply pre_sApply g_sApply run_sApply
noncomputable def S11 : Tab := Tab.add S10 43 (lift (sumOf P_sApply pre_sApply g_sApply))
noncomputable def QF11 : FuncId → Bool := QF10
theorem G11 : Good Try.prog tt S11 QF11 := G10.add c_sApply ⟨Try.f43, by kernel_rfl, by kernel_rfl, by kernel_rfl⟩ (by kernel_rfl)

/-! 107 slices.Clone[[]loop.example/g00244/impl.Pair,loop.example/g00244/impl.Pair] -/
noncomputable abbrev P_slices_Clone_iPair : List PSh := [.t (.sl (.pair .str .str))]
noncomputable def slices_Clone_iPair (a0 : List (ByteArray × ByteArray)) : List (ByteArray × ByteArray) := a0
noncomputable abbrev e_slices_Clone_iPair (r : List (ByteArray × ByteArray)) : AV × List AObj := (.all 0 2, [.rows 118 true (.pair .str .str) r])
noncomputable abbrev g_slices_Clone_iPair : pshsDen P_slices_Clone_iPair → AV × List AObj := fun d => e_slices_Clone_iPair (slices_Clone_iPair d.1)
noncomputable def q_slices_Clone_iPair (a0 : List (ByteArray × ByteArray)) : Bool := decide ((([] : List (ByteArray × ByteArray)).length + a0.length) * 32 ≤ MAXB)
noncomputable abbrev pre_slices_Clone_iPair : pshsDen P_slices_Clone_iPair → Bool := fun d => q_slices_Clone_iPair d.1
theorem r1_slices_Clone_iPair (a0 : List (ByteArray × ByteArray)) (h0 : 0 < a0.length) (hp : q_slices_Clone_iPair a0 = true) : runP false Try.prog tt S11 QF11 (fun _ _ => none) Try.f107 [.t (Ty.sl (.pair .str .str)).flat (.sl (.pair .str .str)) a0] = some (e_slices_Clone_iPair a0) := by
  refine Eq.trans (b := cond (decide (0 < a0.length)) (cond (q_slices_Clone_iPair a0) (some (e_slices_Clone_iPair a0)) none) none) (by kernel_rfl) ?_
  rw [decide_eq_true h0, hp]; rfl
theorem r2_slices_Clone_iPair (A : Option Addr) (c : Nat) : runP false Try.prog tt S11 QF11 (fun _ _ => none) Try.f107 [.raw (.slice A 0 c)] = some (e_slices_Clone_iPair []) := by
  cases A <;> kernel_rfl
theorem c_slices_Clone_iPair : PContract Try.prog 107 (sumOf P_slices_Clone_iPair pre_slices_Clone_iPair g_slices_Clone_iPair) := PContract.split (e := (.pair .str .str)) (pre := q_slices_Clone_iPair) (g := fun a0 => e_slices_Clone_iPair (slices_Clone_iPair a0)) (fun l h0 hp => PCalls.of_run false G11 (fn := Try.f107) (by kernel_rfl) (L := fun _ _ => none) (by rw [show loopsIn 0 (bodyOf Try.f107) = [] by kernel_rfl]; simp) (r1_slices_Clone_iPair l h0 hp) rfl rfl) (fun A c => PCalls.of_run false G11 (fn := Try.f107) (by kernel_rfl) (L := fun _ _ => none) (by rw [show loopsIn 0 (bodyOf Try.f107) = [] by kernel_rfl]; simp) (r2_slices_Clone_iPair A c) rfl rfl)
noncomputable def S12 : Tab := Tab.add S11 107 (lift (sumOf P_slices_Clone_iPair pre_slices_Clone_iPair g_slices_Clone_iPair))
noncomputable def QF12 : FuncId → Bool := QF11
theorem G12 : Good Try.prog tt S12 QF12 := G11.add c_slices_Clone_iPair ⟨Try.f107, by kernel_rfl, by kernel_rfl, by kernel_rfl⟩ (by kernel_rfl)

/-! 154 loop.example/g00244/impl.pairAt$1 -/
noncomputable abbrev SM_ipairAt_1 : SS := ⟨[.agg [.t true .str, .t true .str], .ptr 0 0 1 0], [.box [.t true .str]]⟩
noncomputable def ipairAt_1 (x0_0 : ByteArray) (x0_1 : ByteArray) (h0_0 : ByteArray) : Bool := (x0_0.toList == h0_0.toList)
noncomputable abbrev e_ipairAt_1 (h0_0 : ByteArray) (r : Bool) : AV × List AObj × List Nat := ((.t true .bool r), [(.box [(.t true .str h0_0)])], [])
noncomputable abbrev g_ipairAt_1 : SM_ipairAt_1.den → AV × List AObj × List Nat := fun d => e_ipairAt_1 d.2.1.1 (ipairAt_1 d.1.1.1 d.1.1.2.1 d.2.1.1)
noncomputable abbrev pre_ipairAt_1 : SM_ipairAt_1.den → Bool := fun d => true
theorem runA_ipairAt_1 (x0_0 : ByteArray) (x0_1 : ByteArray) (h0_0 : ByteArray) : runM Try.prog tt S12 QF12 (fun _ _ => none) Try.f154 (shsMk SM_ipairAt_1.sl ((((x0_0, x0_1, ()), (), ()), ((h0_0, ()), ())) : SM_ipairAt_1.den).1) (ohsMk SM_ipairAt_1.hp ((((x0_0, x0_1, ()), (), ()), ((h0_0, ()), ())) : SM_ipairAt_1.den).2) = some (g_ipairAt_1 (((x0_0, x0_1, ()), (), ()), ((h0_0, ()), ()))) := by
  kernel_rfl
theorem run_ipairAt_1 : ∀ d : SM_ipairAt_1.den, pre_ipairAt_1 d = true → runM Try.prog tt S12 QF12 (fun _ _ => none) Try.f154 (shsMk SM_ipairAt_1.sl (d : SM_ipairAt_1.den).1) (ohsMk SM_ipairAt_1.hp (d : SM_ipairAt_1.den).2) = some (g_ipairAt_1 d) := fun d hp => runA_ipairAt_1 d.1.1.1 d.1.1.2.1 d.2.1.1
theorem c_ipairAt_1 : MContract Try.prog 154 (winQ (msum SM_ipairAt_1 pre_ipairAt_1 g_ipairAt_1)) := (MContract.of_data G12 (fn := Try.f154) (by kernel_rfl) (L := fun _ _ => none) (by rw [show loopsIn 0 (bodyOf Try.f154) = [] by kernel_rfl]; simp) SM_ipairAt_1 pre_ipairAt_1 g_ipairAt_1 run_ipairAt_1).winQ (msum_quiet fun d => ⟨rfl, rfl⟩)
noncomputable def S13 : Tab := Tab.add S12 154 (winQ (msum SM_ipairAt_1 pre_ipairAt_1 g_ipairAt_1))
noncomputable def QF13 : FuncId → Bool := qadd QF12 154
theorem G13 : Good Try.prog tt S13 QF13 := G12.addMQ c_ipairAt_1 (winQ_local _) ⟨Try.f154, by kernel_rfl, by kernel_rfl, by kernel_rfl⟩ (winQ_quiet _)

/-! 153 slices.IndexFunc[[]loop.example/g00244/impl.Pair,loop.example/g00244/impl.Pair] -/
noncomputable abbrev SM_slices_IndexFunc_iPair_ipairAt_1 : SS := ⟨[.t false (.sl (.pair .str .str)), .fn 154 [0]], [.box [.t true .str]]⟩
noncomputable abbrev S_slices_IndexFunc_iPair_ipairAt_1_0 : SS := ⟨[.t false (.sl (.pair .str .str)), .fn 154 [0], .junk, .junk, .junk, .junk, .junk, .t true (.int .i64), .t true (.int .i64), .junk, .junk, .junk, .junk, .junk, .junk, .junk, .junk, .junk, .junk], [.box [.t true .str]]⟩
noncomputable abbrev E_slices_IndexFunc_iPair_ipairAt_1_0_0 : SS := ⟨[.junk, .junk, .junk, .junk, .t true (.int .i64), .junk, .junk, .junk, .junk, .junk, .junk, .junk, .junk, .junk, .junk, .junk, .junk, .junk, .junk], [.box [.t true .str]]⟩
noncomputable abbrev E_slices_IndexFunc_iPair_ipairAt_1_0_1 : SS := ⟨[.junk, .junk, .junk, .junk, .junk, .junk, .junk, .junk, .junk, .junk, .junk, .junk, .junk, .junk, .junk, .junk, .junk, .junk, .junk], [.box [.t true .str]]⟩
noncomputable def k1_slices_IndexFunc_iPair_ipairAt_1 (x0 : List (ByteArray × ByteArray)) (x8 : Int) (h0_0 : ByteArray) := ipairAt_1 ((x0.getD x8.toNat ((⟨#[]⟩ : ByteArray), (⟨#[]⟩ : ByteArray))).1) ((x0.getD x8.toNat ((⟨#[]⟩ : ByteArray), (⟨#[]⟩ : ByteArray))).2) h0_0
noncomputable def st_slices_IndexFunc_iPair_ipairAt_1_0 (x0 : List (ByteArray × ByteArray)) (x7 : Int) (x8 : Int) (h0_0 : ByteArray) : RT S_slices_IndexFunc_iPair_ipairAt_1_0.den := (.br (decide (x8 < x7)) (.br (decide (0 ≤ x8 ∧ x8 < ((x0.length : Nat) : Int))) (.br (k1_slices_IndexFunc_iPair_ipairAt_1 x0 x8 h0_0) (.done .ret E_slices_IndexFunc_iPair_ipairAt_1_0_0 (((), (), (), (), x8, (), (), (), (), (), (), (), (), (), (), (), (), (), (), ()), ((h0_0, ()), ()))) (.next ((x0, (), (), (), (), (), (), x7, IntKind.wrap .i64 (x8 + (1 : Int)), (), (), (), (), (), (), (), (), (), (), ()), ((h0_0, ()), ())))) .fail) (.done (.exit 0) E_slices_IndexFunc_iPair_ipairAt_1_0_1 (((), (), (), (), (), (), (), (), (), (), (), (), (), (), (), (), (), (), (), ()), ((h0_0, ()), ()))))
noncomputable abbrev V_slices_IndexFunc_iPair_ipairAt_1_0 := (List (ByteArray × ByteArray)) × (Int) × (Int)
noncomputable abbrev A_slices_IndexFunc_iPair_ipairAt_1_0 := Nat × (Int)
noncomputable def fl_slices_IndexFunc_iPair_ipairAt_1_0 : A_slices_IndexFunc_iPair_ipairAt_1_0 := (99, ((0 : Int) : Int))
noncomputable def ss_slices_IndexFunc_iPair_ipairAt_1_0 (x0 : List (ByteArray × ByteArray)) (x7 : Int) (x8 : Int) (h0_0 : ByteArray) : V_slices_IndexFunc_iPair_ipairAt_1_0 ⊕ A_slices_IndexFunc_iPair_ipairAt_1_0 := (cond (decide (x8 < x7)) (cond (decide (0 ≤ x8 ∧ x8 < ((x0.length : Nat) : Int))) (cond (k1_slices_IndexFunc_iPair_ipairAt_1 x0 x8 h0_0) (.inr (0, x8)) (.inl (x0, x7, IntKind.wrap .i64 (x8 + (1 : Int))))) (.inr fl_slices_IndexFunc_iPair_ipairAt_1_0)) (.inr (1, ((0 : Int) : Int))))
noncomputable def it_slices_IndexFunc_iPair_ipairAt_1_0 (x0 : List (ByteArray × ByteArray)) (x7 : Int) (x8 : Int) (h0_0 : ByteArray) : A_slices_IndexFunc_iPair_ipairAt_1_0 := itX (fun v : V_slices_IndexFunc_iPair_ipairAt_1_0 => ss_slices_IndexFunc_iPair_ipairAt_1_0 v.1 v.2.1 v.2.2 h0_0) fl_slices_IndexFunc_iPair_ipairAt_1_0 (x0, x7, x8)
noncomputable def ct_slices_IndexFunc_iPair_ipairAt_1_0 (h0_0 : ByteArray) (a : A_slices_IndexFunc_iPair_ipairAt_1_0) : CT := (.br (a.1 == 0) (.done .ret E_slices_IndexFunc_iPair_ipairAt_1_0_0 (((), (), (), (), a.2, (), (), (), (), (), (), (), (), (), (), (), (), (), (), ()), ((h0_0, ()), ()))) (.br (a.1 == 1) (.done (.exit 0) E_slices_IndexFunc_iPair_ipairAt_1_0_1 (((), (), (), (), (), (), (), (), (), (), (), (), (), (), (), (), (), (), (), ()), ((h0_0, ()), ()))) .fail))
noncomputable def T_slices_IndexFunc_iPair_ipairAt_1_0 (x0 : List (ByteArray × ByteArray)) (x7 : Int) (x8 : Int) (h0_0 : ByteArray) : CT := (ct_slices_IndexFunc_iPair_ipairAt_1_0 h0_0) (it_slices_IndexFunc_iPair_ipairAt_1_0 x0 x7 x8 h0_0)
noncomputable abbrev sp_slices_IndexFunc_iPair_ipairAt_1_0 : S_slices_IndexFunc_iPair_ipairAt_1_0.den → RT S_slices_IndexFunc_iPair_ipairAt_1_0.den := fun d => st_slices_IndexFunc_iPair_ipairAt_1_0 d.1.1 d.1.2.2.2.2.2.2.2.1 d.1.2.2.2.2.2.2.2.2.1 d.2.1.1
noncomputable abbrev pk_slices_IndexFunc_iPair_ipairAt_1_0 (x0 : List (ByteArray × ByteArray)) (x7 : Int) (x8 : Int) (h0_0 : ByteArray) : S_slices_IndexFunc_iPair_ipairAt_1_0.den := ((x0, (), (), (), (), (), (), x7, x8, (), (), (), (), (), (), (), (), (), (), ()), ((h0_0, ()), ()))
noncomputable def body_slices_IndexFunc_iPair_ipairAt_1_0 : Code := ((loopsIn 0 (bodyOf Try.f153)).getD 0 (0, .skip)).2
theorem R_slices_IndexFunc_iPair_ipairAt_1_0 (x0 : List (ByteArray × ByteArray)) (x7 : Int) (x8 : Int) (h0_0 : ByteArray) : (T_slices_IndexFunc_iPair_ipairAt_1_0 x0 x7 x8 h0_0).val (D := S_slices_IndexFunc_iPair_ipairAt_1_0.den) = .fail ∨ Runs sp_slices_IndexFunc_iPair_ipairAt_1_0 (pk_slices_IndexFunc_iPair_ipairAt_1_0 x0 x7 x8 h0_0) (T_slices_IndexFunc_iPair_ipairAt_1_0 x0 x7 x8 h0_0).val := Runs.ofIt (step := sp_slices_IndexFunc_iPair_ipairAt_1_0) (fun v : V_slices_IndexFunc_iPair_ipairAt_1_0 => pk_slices_IndexFunc_iPair_ipairAt_1_0 v.1 v.2.1 v.2.2 h0_0) (ct := (ct_slices_IndexFunc_iPair_ipairAt_1_0 h0_0)) rfl (fun v => ((relB (relB (relB rfl rfl) rfl) rfl) : (st_slices_IndexFunc_iPair_ipairAt_1_0 v.1 v.2.1 v.2.2 h0_0).val = relS (fun v : V_slices_IndexFunc_iPair_ipairAt_1_0 => pk_slices_IndexFunc_iPair_ipairAt_1_0 v.1 v.2.1 v.2.2 h0_0) (ct_slices_IndexFunc_iPair_ipairAt_1_0 h0_0) (ss_slices_IndexFunc_iPair_ipairAt_1_0 v.1 v.2.1 v.2.2 h0_0))) (fun a => ((cendB (cendD (by simp)) (cendB (cendD (by simp)) cendF)) : CEnd _ ((ct_slices_IndexFunc_iPair_ipairAt_1_0 h0_0) a))) (x0, x7, x8)
theorem rd_slices_IndexFunc_iPair_ipairAt_1_0 : ∀ d, execC Try.prog tt S13 QF13 (fun _ _ => none) 0 body_slices_IndexFunc_iPair_ipairAt_1_0 (S_slices_IndexFunc_iPair_ipairAt_1_0.st d 1 []) (fun e s' => some (e, S_slices_IndexFunc_iPair_ipairAt_1_0.cutE (kepts [4] [(0, [])]) e s')) = (sp_slices_IndexFunc_iPair_ipairAt_1_0 d).opt 1 [] := by
  intro d
  kernel_rfl
noncomputable abbrev say_slices_IndexFunc_iPair_ipairAt_1_0 : St → Option Tree := S_slices_IndexFunc_iPair_ipairAt_1_0.say 1 [] [] (fun d => T_slices_IndexFunc_iPair_ipairAt_1_0 d.1.1 d.1.2.2.2.2.2.2.2.1 d.1.2.2.2.2.2.2.2.2.1 d.2.1.1)
theorem lw_slices_IndexFunc_iPair_ipairAt_1_0 : LoopWp Try.prog say_slices_IndexFunc_iPair_ipairAt_1_0 body_slices_IndexFunc_iPair_ipairAt_1_0 := SS.wp G13 (fun _ _ => none) (by rw [show loopsIn 0 body_slices_IndexFunc_iPair_ipairAt_1_0 = [] by kernel_rfl]; simp) S_slices_IndexFunc_iPair_ipairAt_1_0 1 [] (kepts [4] [(0, [])]) [] sp_slices_IndexFunc_iPair_ipairAt_1_0 rd_slices_IndexFunc_iPair_ipairAt_1_0 _ (fun d => R_slices_IndexFunc_iPair_ipairAt_1_0 d.1.1 d.1.2.2.2.2.2.2.2.1 d.1.2.2.2.2.2.2.2.2.1 d.2.1.1)
noncomputable def slices_IndexFunc_iPair_ipairAt_1 (x0 : List (ByteArray × ByteArray)) (h0_0 : ByteArray) : Int := (cond ((it_slices_IndexFunc_iPair_ipairAt_1_0 x0 ((x0.length : Nat) : Int) (0 : Int) h0_0).1 == 0) ((it_slices_IndexFunc_iPair_ipairAt_1_0 x0 ((x0.length : Nat) : Int) (0 : Int) h0_0).2) (-1 : Int))
noncomputable abbrev e_slices_IndexFunc_iPair_ipairAt_1 (h0_0 : ByteArray) (r : Int) : AV × List AObj × List Nat := ((.t true (.int .i64) r), [(.box [(.t true .str h0_0)])], [])
noncomputable abbrev g_slices_IndexFunc_iPair_ipairAt_1 : SM_slices_IndexFunc_iPair_ipairAt_1.den → AV × List AObj × List Nat := fun d => e_slices_IndexFunc_iPair_ipairAt_1 d.2.1.1 (slices_IndexFunc_iPair_ipairAt_1 d.1.1 d.2.1.1)
noncomputable def q_slices_IndexFunc_iPair_ipairAt_1 (x0 : List (ByteArray × ByteArray)) (h0_0 : ByteArray) : Bool := cond ((it_slices_IndexFunc_iPair_ipairAt_1_0 x0 ((x0.length : Nat) : Int) (0 : Int) h0_0).1 == 0) true ((it_slices_IndexFunc_iPair_ipairAt_1_0 x0 ((x0.length : Nat) : Int) (0 : Int) h0_0).1 == 1)
noncomputable abbrev pre_slices_IndexFunc_iPair_ipairAt_1 : SM_slices_IndexFunc_iPair_ipairAt_1.den → Bool := fun d => q_slices_IndexFunc_iPair_ipairAt_1 d.1.1 d.2.1.1
theorem runA_slices_IndexFunc_iPair_ipairAt_1 (x0 : List (ByteArray × ByteArray)) (h0_0 : ByteArray) (hp : (cond ((it_slices_IndexFunc_iPair_ipairAt_1_0 x0 ((x0.length : Nat) : Int) (0 : Int) h0_0).1 == 0) true ((it_slices_IndexFunc_iPair_ipairAt_1_0 x0 ((x0.length : Nat) : Int) (0 : Int) h0_0).1 == 1)) = true) : runM Try.prog tt S13 QF13 (fun b => match b with | 0 => say_slices_IndexFunc_iPair_ipairAt_1_0 | _ => fun _ => none) Try.f153 (shsMk SM_slices_IndexFunc_iPair_ipairAt_1.sl (((x0, (), ()), ((h0_0, ()), ())) : SM_slices_IndexFunc_iPair_ipairAt_1.den).1) (ohsMk SM_slices_IndexFunc_iPair_ipairAt_1.hp (((x0, (), ()), ((h0_0, ()), ())) : SM_slices_IndexFunc_iPair_ipairAt_1.den).2) = some (g_slices_IndexFunc_iPair_ipairAt_1 ((x0, (), ()), ((h0_0, ()), ()))) := by
  refine Eq.trans (b := (cond ((it_slices_IndexFunc_iPair_ipairAt_1_0 x0 ((x0.length : Nat) : Int) (0 : Int) h0_0).1 == 0) (some (e_slices_IndexFunc_iPair_ipairAt_1 h0_0 ((it_slices_IndexFunc_iPair_ipairAt_1_0 x0 ((x0.length : Nat) : Int) (0 : Int) h0_0).2))) (cond ((it_slices_IndexFunc_iPair_ipairAt_1_0 x0 ((x0.length : Nat) : Int) (0 : Int) h0_0).1 == 1) (some (e_slices_IndexFunc_iPair_ipairAt_1 h0_0 (-1 : Int))) none))) (by kernel_rfl) ?_
  exact (cndQ (F := fun r => some (e_slices_IndexFunc_iPair_ipairAt_1 h0_0 r)) hp (fun hp => rfl) (fun hp => (cndT hp (fun _h => rfl))))
theorem run_slices_IndexFunc_iPair_ipairAt_1 : ∀ d : SM_slices_IndexFunc_iPair_ipairAt_1.den, pre_slices_IndexFunc_iPair_ipairAt_1 d = true → runM Try.prog tt S13 QF13 (fun b => match b with | 0 => say_slices_IndexFunc_iPair_ipairAt_1_0 | _ => fun _ => none) Try.f153 (shsMk SM_slices_IndexFunc_iPair_ipairAt_1.sl (d : SM_slices_IndexFunc_iPair_ipairAt_1.den).1) (ohsMk SM_slices_IndexFunc_iPair_ipairAt_1.hp (d : SM_slices_IndexFunc_iPair_ipairAt_1.den).2) = some (g_slices_IndexFunc_iPair_ipairAt_1 d) := fun d hp => runA_slices_IndexFunc_iPair_ipairAt_1 d.1.1 d.2.1.1 hp
theorem c_slices_IndexFunc_iPair_ipairAt_1 : MContract Try.prog 153 (winQ (msum SM_slices_IndexFunc_iPair_ipairAt_1 pre_slices_IndexFunc_iPair_ipairAt_1 g_slices_IndexFunc_iPair_ipairAt_1)) := (MContract.of_data G13 (fn := Try.f153) (by kernel_rfl) (L := fun b => match b with | 0 => say_slices_IndexFunc_iPair_ipairAt_1_0 | _ => fun _ => none) (by rw [show loopsIn 0 (bodyOf Try.f153) = [(0, body_slices_IndexFunc_iPair_ipairAt_1_0)] by kernel_rfl]; intro p hp; simp only [List.mem_singleton] at hp; subst hp; exact lw_slices_IndexFunc_iPair_ipairAt_1_0) SM_slices_IndexFunc_iPair_ipairAt_1 pre_slices_IndexFunc_iPair_ipairAt_1 g_slices_IndexFunc_iPair_ipairAt_1 run_slices_IndexFunc_iPair_ipairAt_1).winQ (msum_quiet fun d => ⟨rfl, rfl⟩)
noncomputable def S14 : Tab := Tab.add S13 153 (winQ (msum SM_slices_IndexFunc_iPair_ipairAt_1 pre_slices_IndexFunc_iPair_ipairAt_1 g_slices_IndexFunc_iPair_ipairAt_1))
noncomputable def QF14 : FuncId → Bool := qadd QF13 153
theorem G14 : Good Try.prog tt S14 QF14 := G13.addMQ c_slices_IndexFunc_iPair_ipairAt_1 (winQ_local _) ⟨Try.f153, by kernel_rfl, by kernel_rfl, by kernel_rfl⟩ (winQ_quiet _)

/-! 125 loop.example/g00244/impl.pairAt -/
noncomputable abbrev P_ipairAt : List PSh := [.t (.sl (.pair .str .str)), .t .str]
noncomputable def ipairAt (a0 : List (ByteArray × ByteArray)) (a1 : ByteArray) : Int := (slices_IndexFunc_iPair_ipairAt_1 a0 a1)
noncomputable abbrev e_ipairAt (r : Int) : AV × List AObj := ((.t true (.int .i64) r), [])
noncomputable abbrev g_ipairAt : pshsDen P_ipairAt → AV × List AObj := fun d => e_ipairAt (ipairAt d.1 d.2.1)
noncomputable def q_ipairAt (a0 : List (ByteArray × ByteArray)) (a1 : ByteArray) : Bool := q_slices_IndexFunc_iPair_ipairAt_1 a0 a1
noncomputable abbrev pre_ipairAt : pshsDen P_ipairAt → Bool := fun d => q_ipairAt d.1 d.2.1
theorem runA_ipairAt (a0 : List (ByteArray × ByteArray)) (a1 : ByteArray) (hp : (q_slices_IndexFunc_iPair_ipairAt_1 a0 a1) = true) : runP true Try.prog tt S14 QF14 (fun _ _ => none) Try.f125 (argsMk P_ipairAt (a0, (a1, ()))) = some (g_ipairAt (a0, (a1, ()))) := by
  refine Eq.trans (b := (cond (q_slices_IndexFunc_iPair_ipairAt_1 a0 a1) (some (e_ipairAt (slices_IndexFunc_iPair_ipairAt_1 a0 a1))) none)) (by kernel_rfl) ?_
  exact (cndT hp (fun _h => rfl))
theorem run_ipairAt : ∀ d, pre_ipairAt d = true → runP true Try.prog tt S14 QF14 (fun _ _ => none) Try.f125 (argsMk P_ipairAt d) = some (g_ipairAt d) := fun d hp => runA_ipairAt d.1 d.2.1 hp
theorem c_ipairAt : PContract Try.prog 125 (sumOf P_ipairAt pre_ipairAt g_ipairAt) := PContract.of_data true G14 (fn := Try.f125) (by kernel_rfl) (L := fun _ _ => none) (by rw [show loopsIn 0 (bodyOf Try.f125) = [] by kernel_rfl]; simp) P_ipairAt pre_ipairAt g_ipairAt run_ipairAt
noncomputable def S15 : Tab := Tab.add S14 125 (lift (sumOf P_ipairAt pre_ipairAt g_ipairAt))
noncomputable def QF15 : FuncId → Bool := qadd QF14 125
theorem G15 : Good Try.prog tt S15 QF15 := G14.addQ c_ipairAt ⟨Try.f125, by kernel_rfl, by kernel_rfl, by kernel_rfl⟩ (fun _ => rfl)

/-! 142 slices.Insert[[]loop.example/g00244/impl.Pair,loop.example/g00244/impl.Pair] -/
section
open Go.Proofs Go.Lib
theorem iT0 : ∀ w, (isAgg 0).run Try.prog w = .ok false w := fun w => by kernel_rfl
theorem iT3 : ∀ w, (isAgg 3).run Try.prog w = .ok false w := fun w => by kernel_rfl
theorem iZ118 : ∀ w, (Go.sizeOf 118).run Try.prog w = .ok 2 w := fun w => by kernel_rfl
theorem iZ43 : ∀ w, (Go.sizeOf 43).run Try.prog w = .ok 1 w := fun w => by kernel_rfl
theorem iV43 : ∀ w, (zeroValue 43).run Try.prog w = .ok (Value.slice none 0 0) w := fun w => by kernel_rfl
theorem iI118 : (Try.prog.info? 118).map (fun i => (i.zero, i.size, i.bytes)) = some (some (Value.agg #[.string ⟨#[]⟩, .string ⟨#[]⟩]), 2, 32) := by kernel_rfl
theorem ntmps142 : Try.f142.ntmps = 95 := by kernel_rfl

set_option maxHeartbeats 4000000 in
set_option maxRecDepth 100000 in
/-- Insert: there is room, in the middle: in place. -/
theorem ins_shift (b n c i vb voff m vc : Nat) (cs vs : List Value) (w : World) (hi : i < n) (hm : 0 < m) (hroom : n + m ≤ c) (hc63 : c ≤ 9223372036854775807) (hvb : vb ≠ b)
    (hcl : cs.length = n * 2) (hvl : vs.length = m * 2)
    (hcs : ∀ j v, cs[j]? = some v → w.cell? ⟨b, j, none⟩ = some v) (hsp : ∀ j, j < (n + m) * 2 → (w.cell? ⟨b, j, none⟩).isSome = true) (hfz : ∀ j, j < (n + m) * 2 → w.frozen? ⟨b, j, none⟩ = false)
    (hvs : ∀ j v, vs[j]? = some v → w.cell? ⟨vb, voff + j, none⟩ = some v) (h1c : ∀ v ∈ cs, v.oneCell' = true) (h1v : ∀ v ∈ vs, v.oneCell' = true)
    (tA tB : TypeId) (kA kB : Nat) (hsa : w.shape? vb = some (tA, kA)) (hsb : w.shape? b = some (tB, kB)) (hkB : kB ≠ 0) (hfa : w.frozen? ⟨vb, voff, none⟩ = false) (hfe : w.frozen? ⟨vb, kA, none⟩ = false) :
    Calls Try.prog 142 #[.slice (some ⟨b, 0, none⟩) n c, .int .i64 i, .slice (some ⟨vb, voff, none⟩) m vc] w fun e w' =>
      e = .returned (.slice (some ⟨b, 0, none⟩) (n + m) c) ∧ w' = (w.drew.setCells b ((i + m) * 2) (cs.drop (i * 2))).setCells b (i * 2) vs := by
  have t0 := Try.underlying0; have t3 := Try.underlying3; have t4 := Try.underlying4; have t43 := Try.underlying43
  have a0 := iT0; have a3 := iT3; have z118 := iZ118; have z43 := iZ43; have v43 := iV43
  have u0 := run_underlying t0; have u3 := run_underlying t3; have u4 := run_underlying t4; have u43 := run_underlying t43
  have hz1 : ¬ ((m : Int) = 0) := by omega
  have hz2 : ¬ ((i : Int) = (n : Int)) := by omega
  have hsz : (Try.prog.info? 118).map (·.size) = some 2 := by
    obtain ⟨i0, hi0, h0, h1, h2⟩ := info_parts iI118
    rw [hi0]; simp [h1]
  have hov : ∀ lb cb, (callFunc 161 #[.slice (some ⟨vb, voff, none⟩) m vc, .slice (some ⟨b, (i + m) * 2, none⟩) lb cb]).run Try.prog w = .ok (.value (.bool false)) w := fun lb cb => by
    rw [run_callFunc_extern Try.func161 (by kernel_rfl) (by kernel_rfl) (by kernel_rfl) (e := Extern.SlicesOverlaps.overlaps #[43, 43] #[4]) (by kernel_rfl),
      Lib.run_overlaps_apart w 43 4 118 t43 2 iZ118 ⟨vb, voff, none⟩ ⟨b, (i + m) * 2, none⟩ m vc lb cb hvb tA tB kA kB hsa hsb hkB hfa hfe]
    rfl
  have hdl : (cs.drop (i * 2)).length = (n - i) * 2 := by rw [List.length_drop, hcl]; omega
  have mixed : Try.prog.follows .mixedOrders = true := by kernel_rfl
  have hw1 : IntKind.i64.wrap ((i : Int) + (m : Int)) = (i : Int) + (m : Int) := by rw [IntKind.wrap_i64]; omega
  have hb1 : (0 : Int) ≤ (i : Int) + (m : Int) := by omega
  have hin : i ≤ n := by omega
  have htn : ((i : Int) + (m : Int)).toNat = i + m := by omega
  have hb2 : ¬ (c = i + m) := by omega
  have hb3 : (i : Int) ≤ (n : Int) + (m : Int) := by omega
  have hb4 : ¬ (c = i) := by omega
  have hcp1 : ∀ ty dc sc, (Builtin.copy_ #[43, 43] ty #[.slice (some ⟨b, (i + m) * 2, none⟩) (n + m - (i + m)) dc, .slice (some ⟨b, i * 2, none⟩) (n + m - i) sc]).run Try.prog w.drew = .ok (goInt ((n - i : Nat) : Int)) (w.drew.setCells b ((i + m) * 2) (cs.drop (i * 2))) := fun ty dc sc => by
    have hmin : Nat.min (n + m - i) (n + m - (i + m)) = n - i := by simp only [Nat.min_def]; split <;> omega
    have := run_copy_k w.drew 43 43 ty 118 2 b ((i + m) * 2) (n + m - (i + m)) dc ⟨b, i * 2, none⟩ (n + m - i) sc (cs.drop (i * 2)) t43 hsz (by rw [hdl, hmin])
      (fun j v hj => by rw [Addr.add_lit]; exact hcs (i * 2 + j) v (by rwa [List.getElem?_drop] at hj))
      (fun j hj => hsp _ (by rw [hdl] at hj; omega)) (fun j hj => hfz _ (by rw [hdl] at hj; omega)) (fun v hv => h1c v (List.mem_of_mem_drop hv))
    rw [hmin] at this
    exact this
  obtain ⟨W1, hW1⟩ : ∃ W1, W1 = w.drew.setCells b ((i + m) * 2) (cs.drop (i * 2)) := ⟨_, rfl⟩
  have hsp1 : ∀ k, k < (n + m) * 2 → (W1.cell? ⟨b, k, none⟩).isSome = true := fun k hk => by
    rw [hW1]
    exact isSome_setCells b (cs.drop (i * 2)) ((i + m) * 2) w.drew (fun j hj => hsp ((i + m) * 2 + j) (by rw [hdl] at hj; omega)) k (hsp k hk)
  have hcp2 : ∀ (W : World), (∀ x, W.cell? x = W1.cell? x) → (∀ x, W.frozen? x = W1.frozen? x) → ∀ ty dc, (Builtin.copy_ #[43, 43] ty #[.slice (some ⟨b, i * 2, none⟩) (n + m - i) dc, .slice (some ⟨vb, voff, none⟩) m vc]).run Try.prog W = .ok (goInt m) (W.setCells b (i * 2) vs) := fun W hWc hWf ty dc => by
    have hmin : Nat.min m (n + m - i) = m := by simp only [Nat.min_def]; split <;> omega
    have := run_copy_k W 43 43 ty 118 2 b (i * 2) (n + m - i) dc ⟨vb, voff, none⟩ m vc vs t43 hsz (by rw [hvl, hmin])
      (fun j v hj => by
        rw [Addr.add_lit, hWc, hW1, World.cell?_setCells_out b _ _ _ _ (fun h _ => absurd h hvb)]
        exact hvs j v hj)
      (fun j hj => by rw [hWc]; exact hsp1 _ (by omega)) (fun j hj => by rw [hWf, hW1, World.frozen?_setCells]; exact hfz _ (by omega)) h1v
    rw [hmin] at this
    exact this
  rw [← hW1] at hcp1
  go_enter Try.func142, ntmps142
  go_wp2_with (simp only [hov])
  go_region_law_o (refine step_copy_runI rfl _ _ 43 43 rfl _ _ (by simp [Act.eval, Act.put]) (by simp [Act.eval, Act.put]) (hcp1 _ _ _) ?_)
  go_wp2_with (at_builtin; refine wpList_copy_runI _ rfl _ _ 43 43 rfl _ _ rfl rfl (hcp2 _ (fun _ => rfl) (fun _ => rfl) _ _) ?_)
  go_ret
  first | exact ⟨rfl, rfl⟩ | exact ⟨rfl, by rw [hW1]⟩
set_option maxHeartbeats 4000000 in
set_option maxRecDepth 100000 in
/-- Insert: at the end, there is room. -/
theorem ins_end_room (b n c vb voff m vc : Nat) (vs : List Value) (w : World) (hm : 0 < m) (hroom : n + m ≤ c) (hc63 : c ≤ 9223372036854775807)
    (hvl : vs.length = m * 2) (hsp : ∀ j, j < m * 2 → (w.cell? ⟨b, n * 2 + j, none⟩).isSome = true) (hfz : ∀ j, j < m * 2 → w.frozen? ⟨b, n * 2 + j, none⟩ = false)
    (hvs : ∀ j v, vs[j]? = some v → w.cell? ⟨vb, voff + j, none⟩ = some v) (h1v : ∀ v ∈ vs, v.oneCell' = true) :
    Calls Try.prog 142 #[.slice (some ⟨b, 0, none⟩) n c, .int .i64 n, .slice (some ⟨vb, voff, none⟩) m vc] w fun e w' =>
      e = .returned (.slice (some ⟨b, 0, none⟩) (n + m) c) ∧ w' = w.setCells b (n * 2) vs := by
  have t0 := Try.underlying0; have t3 := Try.underlying3; have t4 := Try.underlying4; have t43 := Try.underlying43
  have a0 := iT0; have a3 := iT3; have z118 := iZ118; have z43 := iZ43; have v43 := iV43
  have u0 := run_underlying t0; have u3 := run_underlying t3; have u4 := run_underlying t4; have u43 := run_underlying t43
  have mixed : Try.prog.follows .mixedOrders = true := by kernel_rfl
  obtain ⟨i0, hi0, hz0, hzs, hzb⟩ := info_parts iI118
  have hz1 : ¬ ((m : Int) = 0) := by omega
  have hsrc : Src Try.prog i0.size 43 (.slice (some ⟨vb, voff, none⟩) m vc) m vs w := Src.ofSlice w t43 ⟨vb, voff, none⟩ m vc vs (by rw [hzs]; exact hvl) (fun j u hj => by rw [Addr.add_lit]; exact hvs j u hj) h1v
  have h1 : ∀ j, j < vs.length → (w.cell? ⟨b, 0 + n * i0.size + j, none⟩).isSome = true := fun j hj => by rw [hzs, Nat.zero_add]; exact hsp j (by omega)
  have h2 : ∀ j, j < vs.length → w.frozen? ⟨b, 0 + n * i0.size + j, none⟩ = false := fun j hj => by rw [hzs, Nat.zero_add]; exact hfz j (by omega)
  have hoff : 0 + n * i0.size = n * 2 := by rw [hzs]; omega
  go_enter Try.func142, ntmps142
  go_wp2_with (at_builtin; refine wpList_append_room_src _ rfl _ _ 43 43 rfl 118 i0 t43 hi0 b 0 n c rfl _ rfl m vs hsrc hroom h1 h2 ?_)
  go_ret
  first | exact ⟨rfl, rfl⟩ | exact ⟨rfl, by rw [hoff]⟩ | exact ⟨rfl, by rw [← hoff]⟩ | exact ⟨rfl, by simp [hzs]⟩

set_option maxHeartbeats 4000000 in
set_option maxRecDepth 100000 in
/-- Insert: at the end, there is no room: a new row. -/
theorem ins_end_grow (base : Option Addr) (n c vb voff m vc : Nat) (cs vs : List Value) (w : World) (hm : 0 < m) (hnc : n ≤ c) (hroom : c < n + m) (hbig : (n + m) * 32 ≤ 140737488355328)
    (hcl : cs.length = n * 2) (hvl : vs.length = m * 2) (hnil : base = none → n = 0)
    (hcs : ∀ a, base = some a → ∀ j v, cs[j]? = some v → w.cell? (a.add j) = some v)
    (hvs : ∀ j v, vs[j]? = some v → w.cell? ⟨vb, voff + j, none⟩ = some v) (h1v : ∀ v ∈ vs, v.oneCell' = true) :
    Calls Try.prog 142 #[.slice base n c, .int .i64 n, .slice (some ⟨vb, voff, none⟩) m vc] w fun e w' =>
      e = .returned (.slice (some ⟨w.heap.size, 0, none⟩) (n + m) (grownCap w (n + m) c 118)) ∧
      w' = w.drew.alloc (.cells ((cs ++ vs).toArray ++ Builtin.zeroCells #[Value.string ⟨#[]⟩, Value.string ⟨#[]⟩] (grownCap w (n + m) c 118 - (n + m))) 118) := by
  have t0 := Try.underlying0; have t3 := Try.underlying3; have t4 := Try.underlying4; have t43 := Try.underlying43
  have a0 := iT0; have a3 := iT3; have z118 := iZ118; have z43 := iZ43; have v43 := iV43
  have u0 := run_underlying t0; have u3 := run_underlying t3; have u4 := run_underlying t4; have u43 := run_underlying t43
  have mixed : Try.prog.follows .mixedOrders = true := by kernel_rfl
  obtain ⟨i0, hi0, hz0, hzs, hzb⟩ := info_parts iI118
  have hz1 : ¬ ((m : Int) = 0) := by omega
  have hsrc : Src Try.prog i0.size 43 (.slice (some ⟨vb, voff, none⟩) m vc) m vs w := Src.ofSlice w t43 ⟨vb, voff, none⟩ m vc vs (by rw [hzs]; exact hvl) (fun j u hj => by rw [Addr.add_lit]; exact hvs j u hj) h1v
  have hold : (Builtin.firstCells i0.size n (.slice base n c)).run Try.prog w.drew = .ok cs.toArray w.drew := by
    rw [hzs]
    cases base with
    | none =>
      have h0 := hnil rfl
      subst h0
      have hc0 : cs = [] := List.length_eq_zero_iff.1 (by omega)
      rw [hc0]
      exact run_firstCells_none w.drew 2 0 0 c
    | some a => exact run_firstCells_some w.drew 2 n a n c cs (by omega) (fun j v hj => hcs a rfl j v hj)
  have hrun : ∀ ty, (Builtin.append_ #[43, 43] ty #[.slice base n c, .slice (some ⟨vb, voff, none⟩) m vc]).run Try.prog w = _ := fun ty =>
    run_append_grow_src w 43 43 ty 118 i0 _ t43 hi0 hz0 base n c cs hold _ m vs hsrc hroom (by omega) (by rw [hzb]; exact growslice_fits hroom hbig)
  go_enter Try.func142, ntmps142
  cases base with
  | none =>
    have h0 := hnil rfl
    subst h0
    go_wp2_with (at_builtin; refine Lib.wpList_append_run _ rfl _ _ _ _ rfl _ _ rfl rfl _ _ (hrun _) ?_)
    go_ret
    exact ⟨rfl, rfl⟩
  | some a =>
    obtain ⟨ab, ao, asp⟩ := a
    go_wp2_with (at_builtin; refine Lib.wpList_append_run _ rfl _ _ _ _ rfl _ _ rfl rfl _ _ (hrun _) ?_)
    all_goals (go_ret; exact ⟨rfl, rfl⟩)
set_option maxHeartbeats 4000000 in
set_option maxRecDepth 100000 in
/-- Insert: in the middle, there is no room: a new row. -/
theorem ins_grow (b n c i vb voff m vc : Nat) (cs vs : List Value) (w : World) (hi : i < n) (hm : 0 < m) (hnc : n ≤ c) (hroom : c < n + m) (hbig : (n + m) * 32 ≤ 140737488355328)
    (hcl : cs.length = n * 2) (hvl : vs.length = m * 2)
    (hcs : ∀ j v, cs[j]? = some v → w.cell? ⟨b, j, none⟩ = some v)
    (hvs : ∀ j v, vs[j]? = some v → w.cell? ⟨vb, voff + j, none⟩ = some v) (h1c : ∀ v ∈ cs, v.oneCell' = true) (h1v : ∀ v ∈ vs, v.oneCell' = true) :
    Calls Try.prog 142 #[.slice (some ⟨b, 0, none⟩) n c, .int .i64 i, .slice (some ⟨vb, voff, none⟩) m vc] w fun e w' =>
      e = .returned (.slice (some ⟨w.heap.size, 0, none⟩) (n + m) (grownCap w (n + m) c 118)) ∧
      w' = (((w.alloc (.cells ((cs.take (i * 2)).toArray ++ Builtin.zeroCells #[Value.string ⟨#[]⟩, Value.string ⟨#[]⟩] (n + m - i) ++ Builtin.zeroCells #[Value.string ⟨#[]⟩, Value.string ⟨#[]⟩] (grownCap w (n + m) c 118 - (n + m))) 118)).drew.setCells w.heap.size (i * 2) vs).drew).setCells w.heap.size ((i + m) * 2) (cs.drop (i * 2)) := by
  have t0 := Try.underlying0; have t3 := Try.underlying3; have t4 := Try.underlying4; have t43 := Try.underlying43
  have a0 := iT0; have a3 := iT3; have z118 := iZ118; have z43 := iZ43; have v43 := iV43
  have u0 := run_underlying t0; have u3 := run_underlying t3; have u4 := run_underlying t4; have u43 := run_underlying t43
  have mixed : Try.prog.follows .mixedOrders = true := by kernel_rfl
  obtain ⟨i0, hi0, hz0, hzs, hzb⟩ := info_parts iI118
  have hz1 : ¬ ((m : Int) = 0) := by omega
  have hz2 : ¬ ((i : Int) = (n : Int)) := by omega
  have hz3 : (c : Int) < (n : Int) + (m : Int) := by omega
  have hsz : (Try.prog.info? 118).map (·.size) = some 2 := by rw [hi0]; simp [hzs]
  have hbw : b < w.heap.size := block_lt_of_cell (hcs 0 _ (List.getElem?_eq_getElem (by omega)))
  have hvw : vb < w.heap.size := block_lt_of_cell (hvs 0 _ (List.getElem?_eq_getElem (by omega)))
  have hkk : (n : Int) + (m : Int) - (i : Int) = ((n + m - i : Nat) : Int) := by omega
  have hik : i + (n + m - i) = n + m := by omega
  have hold : (Builtin.firstCells i0.size i (.slice (some ⟨b, 0, none⟩) i c)).run Try.prog w.drew = .ok (cs.take (i * 2)).toArray w.drew := by
    rw [hzs]
    exact run_firstCells_some w.drew 2 i ⟨b, 0, none⟩ i c (cs.take (i * 2)) (by rw [List.length_take]; omega) (fun j v hj => by
      rw [Addr.add_lit, Nat.zero_add]
      rw [List.getElem?_take] at hj
      split at hj
      · exact hcs j v hj
      · cases hj)
  have hrz : ∀ ty, (Builtin.append_ #[43, 3] ty #[.slice (some ⟨b, 0, none⟩) i c, .int .i64 ((n : Int) + (m : Int) - (i : Int))]).run Try.prog w =
      .ok (.slice (some ⟨w.heap.size, 0, none⟩) (n + m) (grownCap w (n + m) c 118)) (w.drew.alloc (.cells ((cs.take (i * 2)).toArray ++ Builtin.zeroCells #[Value.string ⟨#[]⟩, Value.string ⟨#[]⟩] (n + m - i) ++ Builtin.zeroCells #[Value.string ⟨#[]⟩, Value.string ⟨#[]⟩] (grownCap w (n + m) c 118 - (n + m))) 118)) := fun ty => by
    have h := Lib.run_append_grow_zeros w 43 3 ty 118 i0 _ .i64 .i64 t43 t3 hi0 hz0 (some ⟨b, 0, none⟩) i c (cs.take (i * 2)) hold (n + m - i) (by omega) (by omega) (by omega) (by omega) (by rw [hzb]; omega) (by rw [hzb, hik]; exact growslice_fits hroom hbig)
    rw [hik] at h
    rw [hkk]
    exact h
  obtain ⟨G, hG⟩ : ∃ G, G = grownCap w (n + m) c 118 := ⟨_, rfl⟩
  obtain ⟨ROW, hROW⟩ : ∃ ROW : Array Value, ROW = (cs.take (i * 2)).toArray ++ Builtin.zeroCells #[Value.string ⟨#[]⟩, Value.string ⟨#[]⟩] (n + m - i) ++ Builtin.zeroCells #[Value.string ⟨#[]⟩, Value.string ⟨#[]⟩] (G - (n + m)) := ⟨_, rfl⟩
  rw [← hG] at hrz ⊢
  rw [← hROW] at hrz ⊢
  have hRl : (n + m) * 2 ≤ ROW.size := by
    rw [hROW]
    simp [Builtin.zeroCells]
    omega
  obtain ⟨W1, hW1⟩ : ∃ W1, W1 = w.drew.alloc (.cells ROW 118) := ⟨_, rfl⟩
  rw [← hW1] at hrz
  have hN : ∀ j, j < (n + m) * 2 → (W1.cell? ⟨w.heap.size, j, none⟩).isSome = true := fun j hj => by
    rw [hW1, World.cell?_alloc_at (w := w.drew) ROW _ w.heap.size j rfl, Array.getElem?_eq_getElem (by omega)]; rfl
  have hNf : ∀ j, W1.frozen? ⟨w.heap.size, j, none⟩ = false := fun j => by rw [hW1]; exact World.frozen?_alloc_at (w := w.drew) ROW _ w.heap.size j rfl
  have hOb : ∀ j v, w.cell? ⟨b, j, none⟩ = some v → W1.cell? ⟨b, j, none⟩ = some v := fun j v h => by rw [hW1, World.cell?_alloc_past (w := w.drew) _ b j hbw]; exact h
  have hOv : ∀ j v, w.cell? ⟨vb, j, none⟩ = some v → W1.cell? ⟨vb, j, none⟩ = some v := fun j v h => by rw [hW1, World.cell?_alloc_past (w := w.drew) _ vb j hvw]; exact h
  have hcpA : ∀ (W : World), (∀ x, W.cell? x = W1.cell? x) → (∀ x, W.frozen? x = W1.frozen? x) → ∀ ty dc, (Builtin.copy_ #[43, 43] ty #[.slice (some ⟨w.heap.size, i * 2, none⟩) (n + m - i) dc, .slice (some ⟨vb, voff, none⟩) m vc]).run Try.prog W = .ok (goInt m) (W.setCells w.heap.size (i * 2) vs) := fun W hWc hWf ty dc => by
    have hmin : Nat.min m (n + m - i) = m := by simp only [Nat.min_def]; split <;> omega
    have := run_copy_k W 43 43 ty 118 2 w.heap.size (i * 2) (n + m - i) dc ⟨vb, voff, none⟩ m vc vs t43 hsz (by rw [hvl, hmin])
      (fun j v hj => by rw [Addr.add_lit, hWc]; exact hOv _ v (hvs j v hj))
      (fun j hj => by rw [hWc]; exact hN _ (by omega)) (fun j hj => by rw [hWf]; exact hNf _) h1v
    rw [hmin] at this
    exact this
  have hGn : n + m ≤ G := by rw [hG]; exact grownCap_ge w _ _ _
  have hG63 : G ≤ 9223372036854775807 := by
    have := grownCap_le_maxLen w (n + m) c 118 (by unfold maxLen; omega)
    rw [← hG] at this
    unfold maxLen at this
    omega
  have hGi : ¬ (G = i) := by omega
  have hGim : ¬ (G = i + m) := by omega
  have hci : ¬ (c = i) := by omega
  have hbN : b ≠ w.heap.size := by omega
  have hdl : (cs.drop (i * 2)).length = (n - i) * 2 := by rw [List.length_drop, hcl]; omega
  have hcpB : ∀ (W : World), (∀ x, W.cell? x = (W1.setCells w.heap.size (i * 2) vs).cell? x) → (∀ x, W.frozen? x = (W1.setCells w.heap.size (i * 2) vs).frozen? x) → ∀ ty dc sc, (Builtin.copy_ #[43, 43] ty #[.slice (some ⟨w.heap.size, (i + m) * 2, none⟩) (n + m - (i + m)) dc, .slice (some ⟨b, i * 2, none⟩) (n - i) sc]).run Try.prog W = .ok (goInt ((n - i : Nat) : Int)) (W.setCells w.heap.size ((i + m) * 2) (cs.drop (i * 2))) := fun W hWc hWf ty dc sc => by
    have hmin : Nat.min (n - i) (n + m - (i + m)) = n - i := by simp only [Nat.min_def]; split <;> omega
    have := run_copy_k W 43 43 ty 118 2 w.heap.size ((i + m) * 2) (n + m - (i + m)) dc ⟨b, i * 2, none⟩ (n - i) sc (cs.drop (i * 2)) t43 hsz (by rw [hdl, hmin])
      (fun j v hj => by
        rw [Addr.add_lit, hWc, World.cell?_setCells_out _ _ _ _ _ (fun h _ => absurd h hbN)]
        exact hOb _ v (hcs (i * 2 + j) v (by rwa [List.getElem?_drop] at hj)))
      (fun j hj => by rw [hWc]; exact isSome_setCells w.heap.size vs (i * 2) W1 (fun t ht => hN (i * 2 + t) (by omega)) _ (hN _ (by rw [hdl] at hj; omega)))
      (fun j hj => by rw [hWf, World.frozen?_setCells]; exact hNf _) (fun v hv => h1c v (List.mem_of_mem_drop hv))
    rw [hmin] at this
    exact this
  subst hW1
  have hE1 : ∀ x, ((w.alloc (.cells ROW 118)).drew).cell? x = (w.drew.alloc (.cells ROW 118)).cell? x := fun x => rfl
  have hE2 : ∀ x, ((w.alloc (.cells ROW 118)).drew).frozen? x = (w.drew.alloc (.cells ROW 118)).frozen? x := fun x => rfl
  have hF1 : ∀ x, (((w.alloc (.cells ROW 118)).drew.setCells w.heap.size (i * 2) vs).drew).cell? x = ((w.drew.alloc (.cells ROW 118)).setCells w.heap.size (i * 2) vs).cell? x := fun x => rfl
  have hF2 : ∀ x, (((w.alloc (.cells ROW 118)).drew.setCells w.heap.size (i * 2) vs).drew).frozen? x = ((w.drew.alloc (.cells ROW 118)).setCells w.heap.size (i * 2) vs).frozen? x := fun x => rfl
  have hw1 : IntKind.i64.wrap ((i : Int) + (m : Int)) = (i : Int) + (m : Int) := by rw [IntKind.wrap_i64]; omega
  have hb1 : (0 : Int) ≤ (i : Int) + (m : Int) := by omega
  have hin : i ≤ n := by omega
  have htn : ((i : Int) + (m : Int)).toNat = i + m := by omega
  have hb3 : (i : Int) ≤ (n : Int) := by omega
  clear hkk hik hold hROW hG hRl
  go_enter Try.func142, ntmps142
  go_wp2_with (first
    | (at_builtin; refine Lib.wpList_append_run _ rfl _ _ _ _ rfl _ _ rfl rfl _ _ (hrz _) ?_)
    | (at_builtin; refine wpList_copy_runI _ rfl _ _ 43 43 rfl _ _ rfl rfl (hcpA _ hE1 hE2 _ _) ?_)
    | (at_builtin; refine wpList_copy_runI _ rfl _ _ 43 43 rfl _ _ rfl rfl (hcpB _ (fun _ => rfl) (fun _ => rfl) _ _ _) ?_))
  go_region_law_o (refine step_copy_runI rfl _ _ 43 43 rfl (.slice (some ⟨w.heap.size, (i + m) * 2, none⟩) (n + m - (i + m)) (G - (i + m))) (.slice (some ⟨b, i * 2, none⟩) (n - i) (c - i)) (by simp [Act.eval, Act.put]) (by simp [Act.eval, Act.put]) (hcpB _ hF1 hF2 3 (G - (i + m)) (c - i)) ?_)
  go_wp2
  go_ret
  exact ⟨rfl, rfl⟩
end
theorem c_insP : MContract Try.prog 142 (insSum 118) := MContract.insPair (F := 142) (E := 118)
  (fun b n c i vb vc cs vs w h1 h2 h3 h4 h5 h6 h7 h8 h9 h10 h11 h12 tA tB kA kB g1 g2 g3 g4 g5 => ins_shift b n c i vb 0 1 vc cs vs w h1 (by decide) h2 h3 h4 h5 h6 h7 h8 h9 h10 h11 h12 tA tB kA kB g1 g2 g3 g4 g5)
  (fun b n c vb vc vs w h1 h2 h3 h4 h5 h6 h7 => ins_end_room b n c vb 0 1 vc vs w (by decide) h1 h2 h3 h4 h5 h6 h7)
  (fun base n c vb vc cs vs w h1 h2 h3 h4 h5 h6 h7 h8 h9 => (ins_end_grow base n c vb 0 1 vc cs vs w (by decide) h1 h2 h3 h4 h5 h6 h7 h8 h9).mono (fun _ _ h => ⟨_, grownCap_ge w (n + 1) c 118, grownCap_le_maxLen w (n + 1) c 118 (by simp only [maxLen]; omega), h.1, h.2⟩))
  (fun b n c i vb vc cs vs w h1 h2 h3 h4 h5 h6 h7 h8 h9 h10 => (ins_grow b n c i vb 0 1 vc cs vs w h1 (by decide) h2 h3 h4 h5 h6 h7 h8 h9 h10).mono (fun _ _ h => ⟨_, grownCap_ge w (n + 1) c 118, grownCap_le_maxLen w (n + 1) c 118 (by simp only [maxLen]; omega), h.1, h.2⟩))
noncomputable def insP (l : List (ByteArray × ByteArray)) (i : Int) (y : List (ByteArray × ByteArray)) : List (ByteArray × ByteArray) := l.take i.toNat ++ (y ++ l.drop i.toNat)
noncomputable def q_insP (l : List (ByteArray × ByteArray)) (i : Int) (y : List (ByteArray × ByteArray)) : Bool := decide (0 ≤ i ∧ i ≤ ((l.length : Nat) : Int)) && decide ((l.length + 1) * 32 ≤ 140737488355328)
noncomputable def S16 : Tab := Tab.add S15 142 (win winIds (insSum 118))
noncomputable def QF16 : FuncId → Bool := QF15
theorem G16 : Good Try.prog tt S16 QF16 := G15.addM (c_insP.win winIds) (win_local _) ⟨Try.f142, by kernel_rfl, by kernel_rfl, by kernel_rfl⟩ (by kernel_rfl)

/-! 108 loop.example/g00244/impl.putKey -/
noncomputable abbrev SM_iputKey : SS := ⟨[.all 0 2, .t true .str, .t true .str], [.rows 118 true (.pair .str .str)]⟩
noncomputable abbrev S_iputKey_0 : SS := ⟨[.all 0 2, .t true .str, .t true .str, .junk, .junk, .junk, .junk, .junk, .t true (.int .i64), .junk, .junk, .junk, .junk, .junk, .junk, .junk, .junk, .junk, .junk, .junk, .junk, .junk, .junk, .junk, .junk, .junk, .junk, .junk, .junk, .junk, .junk, .junk, .junk, .junk, .junk, .junk, .junk, .junk, .junk, .junk, .junk, .junk], [.rows 118 true (.pair .str .str)]⟩
noncomputable abbrev E_iputKey_0_0 : SS := ⟨[.all 0 2, .t true .str, .t true .str, .junk, .junk, .junk, .junk, .junk, .t true (.int .i64), .junk, .junk, .junk, .junk, .junk, .junk, .junk, .junk, .junk, .junk, .junk, .junk, .junk, .junk, .junk, .junk, .junk, .junk, .junk, .junk, .junk, .junk, .junk, .junk, .junk, .junk, .junk, .junk, .junk, .junk, .junk, .junk, .junk], [.rows 118 true (.pair .str .str)]⟩
noncomputable def st_iputKey_0 (x1 : ByteArray) (x2 : ByteArray) (x8 : Int) (h0 : List (ByteArray × ByteArray)) : RT S_iputKey_0.den := (.br (decide (x8 < ((h0.length : Nat) : Int))) (.br (decide (0 ≤ x8 ∧ x8 < ((h0.length : Nat) : Int))) (.br (Op.bytesLess ((h0.getD x8.toNat ((⟨#[]⟩ : ByteArray), (⟨#[]⟩ : ByteArray))).1).toList x1.toList || (((h0.getD x8.toNat ((⟨#[]⟩ : ByteArray), (⟨#[]⟩ : ByteArray))).1).toList == x1.toList)) (.next (((), x1, x2, (), (), (), (), (), IntKind.wrap .i64 (x8 + (1 : Int)), (), (), (), (), (), (), (), (), (), (), (), (), (), (), (), (), (), (), (), (), (), (), (), (), (), (), (), (), (), (), (), (), (), ()), (h0, ()))) (.done (.exit 0) E_iputKey_0_0 (((), x1, x2, (), (), (), (), (), x8, (), (), (), (), (), (), (), (), (), (), (), (), (), (), (), (), (), (), (), (), (), (), (), (), (), (), (), (), (), (), (), (), (), ()), (h0, ())))) .fail) (.done (.exit 0) E_iputKey_0_0 (((), x1, x2, (), (), (), (), (), x8, (), (), (), (), (), (), (), (), (), (), (), (), (), (), (), (), (), (), (), (), (), (), (), (), (), (), (), (), (), (), (), (), (), ()), (h0, ()))))
noncomputable abbrev V_iputKey_0 := (ByteArray) × (ByteArray) × (Int) × (List (ByteArray × ByteArray))
noncomputable abbrev A_iputKey_0 := Nat × (ByteArray) × (ByteArray) × (Int) × (List (ByteArray × ByteArray))
noncomputable def fl_iputKey_0 : A_iputKey_0 := (99, ((⟨#[]⟩ : ByteArray) : ByteArray), ((⟨#[]⟩ : ByteArray) : ByteArray), ((0 : Int) : Int), ([] : List (ByteArray × ByteArray)))
noncomputable def ss_iputKey_0 (x1 : ByteArray) (x2 : ByteArray) (x8 : Int) (h0 : List (ByteArray × ByteArray)) : V_iputKey_0 ⊕ A_iputKey_0 := (cond (decide (x8 < ((h0.length : Nat) : Int))) (cond (decide (0 ≤ x8 ∧ x8 < ((h0.length : Nat) : Int))) (cond (Op.bytesLess ((h0.getD x8.toNat ((⟨#[]⟩ : ByteArray), (⟨#[]⟩ : ByteArray))).1).toList x1.toList || (((h0.getD x8.toNat ((⟨#[]⟩ : ByteArray), (⟨#[]⟩ : ByteArray))).1).toList == x1.toList)) (.inl (x1, x2, IntKind.wrap .i64 (x8 + (1 : Int)), h0)) (.inr (0, x1, x2, x8, h0))) (.inr fl_iputKey_0)) (.inr (0, x1, x2, x8, h0)))
noncomputable def it_iputKey_0 (x1 : ByteArray) (x2 : ByteArray) (x8 : Int) (h0 : List (ByteArray × ByteArray)) : A_iputKey_0 := itX (fun v : V_iputKey_0 => ss_iputKey_0 v.1 v.2.1 v.2.2.1 v.2.2.2) fl_iputKey_0 (x1, x2, x8, h0)
noncomputable def ct_iputKey_0 (a : A_iputKey_0) : CT := (.br (a.1 == 0) (.done (.exit 0) E_iputKey_0_0 (((), a.2.1, a.2.2.1, (), (), (), (), (), a.2.2.2.1, (), (), (), (), (), (), (), (), (), (), (), (), (), (), (), (), (), (), (), (), (), (), (), (), (), (), (), (), (), (), (), (), (), ()), (a.2.2.2.2, ()))) .fail)
noncomputable def T_iputKey_0 (x1 : ByteArray) (x2 : ByteArray) (x8 : Int) (h0 : List (ByteArray × ByteArray)) : CT := ct_iputKey_0 (it_iputKey_0 x1 x2 x8 h0)
noncomputable abbrev sp_iputKey_0 : S_iputKey_0.den → RT S_iputKey_0.den := fun d => st_iputKey_0 d.1.2.1 d.1.2.2.1 d.1.2.2.2.2.2.2.2.2.1 d.2.1
noncomputable abbrev pk_iputKey_0 (x1 : ByteArray) (x2 : ByteArray) (x8 : Int) (h0 : List (ByteArray × ByteArray)) : S_iputKey_0.den := (((), x1, x2, (), (), (), (), (), x8, (), (), (), (), (), (), (), (), (), (), (), (), (), (), (), (), (), (), (), (), (), (), (), (), (), (), (), (), (), (), (), (), (), ()), (h0, ()))
noncomputable def body_iputKey_0 : Code := ((loopsIn 0 (bodyOf Try.f108)).getD 0 (0, .skip)).2
theorem R_iputKey_0 (x1 : ByteArray) (x2 : ByteArray) (x8 : Int) (h0 : List (ByteArray × ByteArray)) : (T_iputKey_0 x1 x2 x8 h0).val (D := S_iputKey_0.den) = .fail ∨ Runs sp_iputKey_0 (pk_iputKey_0 x1 x2 x8 h0) (T_iputKey_0 x1 x2 x8 h0).val := Runs.ofIt (step := sp_iputKey_0) (fun v : V_iputKey_0 => pk_iputKey_0 v.1 v.2.1 v.2.2.1 v.2.2.2) (ct := ct_iputKey_0) rfl (fun v => ((relB (relB (relB rfl rfl) rfl) rfl) : (st_iputKey_0 v.1 v.2.1 v.2.2.1 v.2.2.2).val = relS (fun v : V_iputKey_0 => pk_iputKey_0 v.1 v.2.1 v.2.2.1 v.2.2.2) ct_iputKey_0 (ss_iputKey_0 v.1 v.2.1 v.2.2.1 v.2.2.2))) (fun a => ((cendB (cendD (by simp)) cendF) : CEnd _ (ct_iputKey_0 a))) (x1, x2, x8, h0)
theorem rd_iputKey_0 : ∀ d, execC Try.prog tt S16 QF16 (fun _ _ => none) 0 body_iputKey_0 (S_iputKey_0.st d 1 []) (fun e s' => some (e, S_iputKey_0.cutE (kepts [] [(0, [0, 1, 2, 8])]) e s')) = (sp_iputKey_0 d).opt 1 [] := by
  intro d
  kernel_rfl
noncomputable abbrev say_iputKey_0 : St → Option Tree := S_iputKey_0.say 1 [] [] (fun d => T_iputKey_0 d.1.2.1 d.1.2.2.1 d.1.2.2.2.2.2.2.2.2.1 d.2.1)
theorem lw_iputKey_0 : LoopWp Try.prog say_iputKey_0 body_iputKey_0 := SS.wp G16 (fun _ _ => none) (by rw [show loopsIn 0 body_iputKey_0 = [] by kernel_rfl]; simp) S_iputKey_0 1 [] (kepts [] [(0, [0, 1, 2, 8])]) [] sp_iputKey_0 rd_iputKey_0 _ (fun d => R_iputKey_0 d.1.2.1 d.1.2.2.1 d.1.2.2.2.2.2.2.2.2.1 d.2.1)
noncomputable def k1_iputKey (x1 : ByteArray) (x2 : ByteArray) (h0 : List (ByteArray × ByteArray)) := insP ((it_iputKey_0 x1 x2 (0 : Int) h0).2.2.2.2) ((it_iputKey_0 x1 x2 (0 : Int) h0).2.2.2.1) [(((it_iputKey_0 x1 x2 (0 : Int) h0).2.1), ((it_iputKey_0 x1 x2 (0 : Int) h0).2.2.1))]
noncomputable def iputKey (x1 : ByteArray) (x2 : ByteArray) (h0 : List (ByteArray × ByteArray)) : List (ByteArray × ByteArray) := (cond (decide ((ipairAt h0 x1) ≥ (0 : Int))) (h0.set ((ipairAt h0 x1).toNat) ((h0.getD ((ipairAt h0 x1).toNat) ((⟨#[]⟩ : ByteArray), (⟨#[]⟩ : ByteArray))).1, x2)) (k1_iputKey x1 x2 h0))
noncomputable abbrev e_iputKey (r : List (ByteArray × ByteArray)) : AV × List AObj × List Nat := ((.all 0 2), [(.rows 118 true (.pair .str .str) r)], [0])
noncomputable abbrev g_iputKey : SM_iputKey.den → AV × List AObj × List Nat := fun d => e_iputKey (iputKey d.1.2.1 d.1.2.2.1 d.2.1)
noncomputable def q_iputKey (x1 : ByteArray) (x2 : ByteArray) (h0 : List (ByteArray × ByteArray)) : Bool := (q_ipairAt h0 x1) && (cond (decide ((ipairAt h0 x1) ≥ (0 : Int))) (decide (0 ≤ (ipairAt h0 x1) ∧ (ipairAt h0 x1) < ((h0.length : Nat) : Int))) (((it_iputKey_0 x1 x2 (0 : Int) h0).1 == 0) && (q_insP ((it_iputKey_0 x1 x2 (0 : Int) h0).2.2.2.2) ((it_iputKey_0 x1 x2 (0 : Int) h0).2.2.2.1) [(((it_iputKey_0 x1 x2 (0 : Int) h0).2.1), ((it_iputKey_0 x1 x2 (0 : Int) h0).2.2.1))])))
noncomputable abbrev pre_iputKey : SM_iputKey.den → Bool := fun d => q_iputKey d.1.2.1 d.1.2.2.1 d.2.1
theorem runA_iputKey (x1 : ByteArray) (x2 : ByteArray) (h0 : List (ByteArray × ByteArray)) (hp : ((q_ipairAt h0 x1) && (cond (decide ((ipairAt h0 x1) ≥ (0 : Int))) (decide (0 ≤ (ipairAt h0 x1) ∧ (ipairAt h0 x1) < ((h0.length : Nat) : Int))) (((it_iputKey_0 x1 x2 (0 : Int) h0).1 == 0) && (q_insP ((it_iputKey_0 x1 x2 (0 : Int) h0).2.2.2.2) ((it_iputKey_0 x1 x2 (0 : Int) h0).2.2.2.1) [(((it_iputKey_0 x1 x2 (0 : Int) h0).2.1), ((it_iputKey_0 x1 x2 (0 : Int) h0).2.2.1))])))) = true) : runE false Try.prog tt S16 QF16 (fun b => match b with | 0 => say_iputKey_0 | _ => fun _ => none) Try.f108 (shsMk SM_iputKey.sl ((((), x1, x2, ()), (h0, ())) : SM_iputKey.den).1) (ohsMk SM_iputKey.hp ((((), x1, x2, ()), (h0, ())) : SM_iputKey.den).2) [] [0] [] = some (g_iputKey (((), x1, x2, ()), (h0, ()))) := by
  refine Eq.trans (b := (cond (q_ipairAt h0 x1) (cond (decide ((ipairAt h0 x1) ≥ (0 : Int))) (cond (decide (0 ≤ (ipairAt h0 x1) ∧ (ipairAt h0 x1) < ((h0.length : Nat) : Int))) (some (e_iputKey (h0.set ((ipairAt h0 x1).toNat) ((h0.getD ((ipairAt h0 x1).toNat) ((⟨#[]⟩ : ByteArray), (⟨#[]⟩ : ByteArray))).1, x2)))) none) (cond ((it_iputKey_0 x1 x2 (0 : Int) h0).1 == 0) (cond (q_insP ((it_iputKey_0 x1 x2 (0 : Int) h0).2.2.2.2) ((it_iputKey_0 x1 x2 (0 : Int) h0).2.2.2.1) [(((it_iputKey_0 x1 x2 (0 : Int) h0).2.1), ((it_iputKey_0 x1 x2 (0 : Int) h0).2.2.1))]) (some (e_iputKey (k1_iputKey x1 x2 h0))) none) none)) none)) (by kernel_rfl) ?_
  exact (cndT (andL hp) (fun _h => (fun hp => (cndQ (F := fun r => some (e_iputKey r)) hp (fun hp => (cndT hp (fun _h => rfl))) (fun hp => (cndT (andL hp) (fun _h => (fun hp => (cndT hp (fun _h => rfl))) (andR hp)))))) (andR hp)))
theorem run_iputKey : ∀ d : SM_iputKey.den, pre_iputKey d = true → runE false Try.prog tt S16 QF16 (fun b => match b with | 0 => say_iputKey_0 | _ => fun _ => none) Try.f108 (shsMk SM_iputKey.sl (d : SM_iputKey.den).1) (ohsMk SM_iputKey.hp (d : SM_iputKey.den).2) [] [0] [] = some (g_iputKey d) := fun d hp => runA_iputKey d.1.2.1 d.1.2.2.1 d.2.1 hp
theorem c_iputKey : MContract Try.prog 108 (win winIds (msum SM_iputKey pre_iputKey g_iputKey)) := (MContract.of_dataE false [] [0] []  G16 (fn := Try.f108) (by kernel_rfl) (L := fun b => match b with | 0 => say_iputKey_0 | _ => fun _ => none) (by rw [show loopsIn 0 (bodyOf Try.f108) = [(0, body_iputKey_0)] by kernel_rfl]; intro p hp; simp only [List.mem_singleton] at hp; subst hp; exact lw_iputKey_0) SM_iputKey pre_iputKey g_iputKey run_iputKey).win winIds
noncomputable def S17 : Tab := Tab.add S16 108 (win winIds (msum SM_iputKey pre_iputKey g_iputKey))
noncomputable def QF17 : FuncId → Bool := QF16
theorem G17 : Good Try.prog tt S17 QF17 := G16.addM c_iputKey (win_local _) ⟨Try.f108, by kernel_rfl, by kernel_rfl, by kernel_rfl⟩ (by kernel_rfl)

/-! 144 loop.example/g00244/impl.DelKey$1 -/
noncomputable abbrev SM_iDelKey_1 : SS := ⟨[.agg [.t true .str, .t true .str], .ptr 0 0 1 0], [.box [.t true .str]]⟩
noncomputable def iDelKey_1 (x0_0 : ByteArray) (x0_1 : ByteArray) (h0_0 : ByteArray) : Bool := (x0_0.toList == h0_0.toList)
noncomputable abbrev e_iDelKey_1 (h0_0 : ByteArray) (r : Bool) : AV × List AObj × List Nat := ((.t true .bool r), [(.box [(.t true .str h0_0)])], [])
noncomputable abbrev g_iDelKey_1 : SM_iDelKey_1.den → AV × List AObj × List Nat := fun d => e_iDelKey_1 d.2.1.1 (iDelKey_1 d.1.1.1 d.1.1.2.1 d.2.1.1)
noncomputable abbrev pre_iDelKey_1 : SM_iDelKey_1.den → Bool := fun d => true
theorem runA_iDelKey_1 (x0_0 : ByteArray) (x0_1 : ByteArray) (h0_0 : ByteArray) : runM Try.prog tt S17 QF17 (fun _ _ => none) Try.f144 (shsMk SM_iDelKey_1.sl ((((x0_0, x0_1, ()), (), ()), ((h0_0, ()), ())) : SM_iDelKey_1.den).1) (ohsMk SM_iDelKey_1.hp ((((x0_0, x0_1, ()), (), ()), ((h0_0, ()), ())) : SM_iDelKey_1.den).2) = some (g_iDelKey_1 (((x0_0, x0_1, ()), (), ()), ((h0_0, ()), ()))) := by
  kernel_rfl
theorem run_iDelKey_1 : ∀ d : SM_iDelKey_1.den, pre_iDelKey_1 d = true → runM Try.prog tt S17 QF17 (fun _ _ => none) Try.f144 (shsMk SM_iDelKey_1.sl (d : SM_iDelKey_1.den).1) (ohsMk SM_iDelKey_1.hp (d : SM_iDelKey_1.den).2) = some (g_iDelKey_1 d) := fun d hp => runA_iDelKey_1 d.1.1.1 d.1.1.2.1 d.2.1.1
theorem c_iDelKey_1 : MContract Try.prog 144 (winQ (msum SM_iDelKey_1 pre_iDelKey_1 g_iDelKey_1)) := (MContract.of_data G17 (fn := Try.f144) (by kernel_rfl) (L := fun _ _ => none) (by rw [show loopsIn 0 (bodyOf Try.f144) = [] by kernel_rfl]; simp) SM_iDelKey_1 pre_iDelKey_1 g_iDelKey_1 run_iDelKey_1).winQ (msum_quiet fun d => ⟨rfl, rfl⟩)
noncomputable def S18 : Tab := Tab.add S17 144 (winQ (msum SM_iDelKey_1 pre_iDelKey_1 g_iDelKey_1))
noncomputable def QF18 : FuncId → Bool := qadd QF17 144
theorem G18 : Good Try.prog tt S18 QF18 := G17.addMQ c_iDelKey_1 (winQ_local _) ⟨Try.f144, by kernel_rfl, by kernel_rfl, by kernel_rfl⟩ (winQ_quiet _)

/-! 153 slices.IndexFunc[[]loop.example/g00244/impl.Pair,loop.example/g00244/impl.Pair] -/
noncomputable abbrev SM_slices_IndexFunc_iPair_iDelKey_1 : SS := ⟨[.all 0 2, .fn 144 [1]], [.rows 118 true (.pair .str .str), .box [.t true .str]]⟩
noncomputable abbrev S_slices_IndexFunc_iPair_iDelKey_1_0 : SS := ⟨[.all 0 2, .fn 144 [1], .junk, .junk, .junk, .junk, .junk, .t true (.int .i64), .t true (.int .i64), .junk, .junk, .junk, .junk, .junk, .junk, .junk, .junk, .junk, .junk], [.rows 118 true (.pair .str .str), .box [.t true .str]]⟩
noncomputable abbrev E_slices_IndexFunc_iPair_iDelKey_1_0_0 : SS := ⟨[.junk, .junk, .junk, .junk, .t true (.int .i64), .junk, .junk, .junk, .junk, .junk, .junk, .junk, .junk, .junk, .junk, .junk, .junk, .junk, .junk], [.rows 118 true (.pair .str .str), .box [.t true .str]]⟩
noncomputable abbrev E_slices_IndexFunc_iPair_iDelKey_1_0_1 : SS := ⟨[.junk, .junk, .junk, .junk, .junk, .junk, .junk, .junk, .junk, .junk, .junk, .junk, .junk, .junk, .junk, .junk, .junk, .junk, .junk], [.rows 118 true (.pair .str .str), .box [.t true .str]]⟩
noncomputable def k1_slices_IndexFunc_iPair_iDelKey_1 (x8 : Int) (h0 : List (ByteArray × ByteArray)) (h1_0 : ByteArray) := iDelKey_1 ((h0.getD x8.toNat ((⟨#[]⟩ : ByteArray), (⟨#[]⟩ : ByteArray))).1) ((h0.getD x8.toNat ((⟨#[]⟩ : ByteArray), (⟨#[]⟩ : ByteArray))).2) h1_0
noncomputable def st_slices_IndexFunc_iPair_iDelKey_1_0 (x7 : Int) (x8 : Int) (h0 : List (ByteArray × ByteArray)) (h1_0 : ByteArray) : RT S_slices_IndexFunc_iPair_iDelKey_1_0.den := (.br (decide (x8 < x7)) (.br (decide (0 ≤ x8 ∧ x8 < ((h0.length : Nat) : Int))) (.br (k1_slices_IndexFunc_iPair_iDelKey_1 x8 h0 h1_0) (.done .ret E_slices_IndexFunc_iPair_iDelKey_1_0_0 (((), (), (), (), x8, (), (), (), (), (), (), (), (), (), (), (), (), (), (), ()), (h0, (h1_0, ()), ()))) (.next (((), (), (), (), (), (), (), x7, IntKind.wrap .i64 (x8 + (1 : Int)), (), (), (), (), (), (), (), (), (), (), ()), (h0, (h1_0, ()), ())))) .fail) (.done (.exit 0) E_slices_IndexFunc_iPair_iDelKey_1_0_1 (((), (), (), (), (), (), (), (), (), (), (), (), (), (), (), (), (), (), (), ()), (h0, (h1_0, ()), ()))))
noncomputable abbrev V_slices_IndexFunc_iPair_iDelKey_1_0 := (Int) × (Int)
noncomputable abbrev A_slices_IndexFunc_iPair_iDelKey_1_0 := Nat × (Int)
noncomputable def fl_slices_IndexFunc_iPair_iDelKey_1_0 : A_slices_IndexFunc_iPair_iDelKey_1_0 := (99, ((0 : Int) : Int))
noncomputable def ss_slices_IndexFunc_iPair_iDelKey_1_0 (x7 : Int) (x8 : Int) (h0 : List (ByteArray × ByteArray)) (h1_0 : ByteArray) : V_slices_IndexFunc_iPair_iDelKey_1_0 ⊕ A_slices_IndexFunc_iPair_iDelKey_1_0 := (cond (decide (x8 < x7)) (cond (decide (0 ≤ x8 ∧ x8 < ((h0.length : Nat) : Int))) (cond (k1_slices_IndexFunc_iPair_iDelKey_1 x8 h0 h1_0) (.inr (0, x8)) (.inl (x7, IntKind.wrap .i64 (x8 + (1 : Int))))) (.inr fl_slices_IndexFunc_iPair_iDelKey_1_0)) (.inr (1, ((0 : Int) : Int))))
noncomputable def it_slices_IndexFunc_iPair_iDelKey_1_0 (x7 : Int) (x8 : Int) (h0 : List (ByteArray × ByteArray)) (h1_0 : ByteArray) : A_slices_IndexFunc_iPair_iDelKey_1_0 := itX (fun v : V_slices_IndexFunc_iPair_iDelKey_1_0 => ss_slices_IndexFunc_iPair_iDelKey_1_0 v.1 v.2 h0 h1_0) fl_slices_IndexFunc_iPair_iDelKey_1_0 (x7, x8)
noncomputable def ct_slices_IndexFunc_iPair_iDelKey_1_0 (h0 : List (ByteArray × ByteArray)) (h1_0 : ByteArray) (a : A_slices_IndexFunc_iPair_iDelKey_1_0) : CT := (.br (a.1 == 0) (.done .ret E_slices_IndexFunc_iPair_iDelKey_1_0_0 (((), (), (), (), a.2, (), (), (), (), (), (), (), (), (), (), (), (), (), (), ()), (h0, (h1_0, ()), ()))) (.br (a.1 == 1) (.done (.exit 0) E_slices_IndexFunc_iPair_iDelKey_1_0_1 (((), (), (), (), (), (), (), (), (), (), (), (), (), (), (), (), (), (), (), ()), (h0, (h1_0, ()), ()))) .fail))
noncomputable def T_slices_IndexFunc_iPair_iDelKey_1_0 (x7 : Int) (x8 : Int) (h0 : List (ByteArray × ByteArray)) (h1_0 : ByteArray) : CT := (ct_slices_IndexFunc_iPair_iDelKey_1_0 h0 h1_0) (it_slices_IndexFunc_iPair_iDelKey_1_0 x7 x8 h0 h1_0)
noncomputable abbrev sp_slices_IndexFunc_iPair_iDelKey_1_0 : S_slices_IndexFunc_iPair_iDelKey_1_0.den → RT S_slices_IndexFunc_iPair_iDelKey_1_0.den := fun d => st_slices_IndexFunc_iPair_iDelKey_1_0 d.1.2.2.2.2.2.2.2.1 d.1.2.2.2.2.2.2.2.2.1 d.2.1 d.2.2.1.1
noncomputable abbrev pk_slices_IndexFunc_iPair_iDelKey_1_0 (x7 : Int) (x8 : Int) (h0 : List (ByteArray × ByteArray)) (h1_0 : ByteArray) : S_slices_IndexFunc_iPair_iDelKey_1_0.den := (((), (), (), (), (), (), (), x7, x8, (), (), (), (), (), (), (), (), (), (), ()), (h0, (h1_0, ()), ()))
noncomputable def body_slices_IndexFunc_iPair_iDelKey_1_0 : Code := ((loopsIn 0 (bodyOf Try.f153)).getD 0 (0, .skip)).2
theorem R_slices_IndexFunc_iPair_iDelKey_1_0 (x7 : Int) (x8 : Int) (h0 : List (ByteArray × ByteArray)) (h1_0 : ByteArray) : (T_slices_IndexFunc_iPair_iDelKey_1_0 x7 x8 h0 h1_0).val (D := S_slices_IndexFunc_iPair_iDelKey_1_0.den) = .fail ∨ Runs sp_slices_IndexFunc_iPair_iDelKey_1_0 (pk_slices_IndexFunc_iPair_iDelKey_1_0 x7 x8 h0 h1_0) (T_slices_IndexFunc_iPair_iDelKey_1_0 x7 x8 h0 h1_0).val := Runs.ofIt (step := sp_slices_IndexFunc_iPair_iDelKey_1_0) (fun v : V_slices_IndexFunc_iPair_iDelKey_1_0 => pk_slices_IndexFunc_iPair_iDelKey_1_0 v.1 v.2 h0 h1_0) (ct := (ct_slices_IndexFunc_iPair_iDelKey_1_0 h0 h1_0)) rfl (fun v => ((relB (relB (relB rfl rfl) rfl) rfl) : (st_slices_IndexFunc_iPair_iDelKey_1_0 v.1 v.2 h0 h1_0).val = relS (fun v : V_slices_IndexFunc_iPair_iDelKey_1_0 => pk_slices_IndexFunc_iPair_iDelKey_1_0 v.1 v.2 h0 h1_0) (ct_slices_IndexFunc_iPair_iDelKey_1_0 h0 h1_0) (ss_slices_IndexFunc_iPair_iDelKey_1_0 v.1 v.2 h0 h1_0))) (fun a => ((cendB (cendD (by simp)) (cendB (cendD (by simp)) cendF)) : CEnd _ ((ct_slices_IndexFunc_iPair_iDelKey_1_0 h0 h1_0) a))) (x7, x8)
theorem rd_slices_IndexFunc_iPair_iDelKey_1_0 : ∀ d, execC Try.prog tt S18 QF18 (fun _ _ => none) 0 body_slices_IndexFunc_iPair_iDelKey_1_0 (S_slices_IndexFunc_iPair_iDelKey_1_0.st d 2 []) (fun e s' => some (e, S_slices_IndexFunc_iPair_iDelKey_1_0.cutE (kepts [4] [(0, [])]) e s')) = (sp_slices_IndexFunc_iPair_iDelKey_1_0 d).opt 2 [] := by
  intro d
  kernel_rfl
noncomputable abbrev say_slices_IndexFunc_iPair_iDelKey_1_0 : St → Option Tree := S_slices_IndexFunc_iPair_iDelKey_1_0.say 2 [] [] (fun d => T_slices_IndexFunc_iPair_iDelKey_1_0 d.1.2.2.2.2.2.2.2.1 d.1.2.2.2.2.2.2.2.2.1 d.2.1 d.2.2.1.1)
theorem lw_slices_IndexFunc_iPair_iDelKey_1_0 : LoopWp Try.prog say_slices_IndexFunc_iPair_iDelKey_1_0 body_slices_IndexFunc_iPair_iDelKey_1_0 := SS.wp G18 (fun _ _ => none) (by rw [show loopsIn 0 body_slices_IndexFunc_iPair_iDelKey_1_0 = [] by kernel_rfl]; simp) S_slices_IndexFunc_iPair_iDelKey_1_0 2 [] (kepts [4] [(0, [])]) [] sp_slices_IndexFunc_iPair_iDelKey_1_0 rd_slices_IndexFunc_iPair_iDelKey_1_0 _ (fun d => R_slices_IndexFunc_iPair_iDelKey_1_0 d.1.2.2.2.2.2.2.2.1 d.1.2.2.2.2.2.2.2.2.1 d.2.1 d.2.2.1.1)
noncomputable def slices_IndexFunc_iPair_iDelKey_1 (h0 : List (ByteArray × ByteArray)) (h1_0 : ByteArray) : Int := (cond ((it_slices_IndexFunc_iPair_iDelKey_1_0 ((h0.length : Nat) : Int) (0 : Int) h0 h1_0).1 == 0) ((it_slices_IndexFunc_iPair_iDelKey_1_0 ((h0.length : Nat) : Int) (0 : Int) h0 h1_0).2) (-1 : Int))
noncomputable abbrev e_slices_IndexFunc_iPair_iDelKey_1 (h0 : List (ByteArray × ByteArray)) (h1_0 : ByteArray) (r : Int) : AV × List AObj × List Nat := ((.t true (.int .i64) r), [(.rows 118 true (.pair .str .str) h0), (.box [(.t true .str h1_0)])], [])
noncomputable abbrev g_slices_IndexFunc_iPair_iDelKey_1 : SM_slices_IndexFunc_iPair_iDelKey_1.den → AV × List AObj × List Nat := fun d => e_slices_IndexFunc_iPair_iDelKey_1 d.2.1 d.2.2.1.1 (slices_IndexFunc_iPair_iDelKey_1 d.2.1 d.2.2.1.1)
noncomputable def q_slices_IndexFunc_iPair_iDelKey_1 (h0 : List (ByteArray × ByteArray)) (h1_0 : ByteArray) : Bool := cond ((it_slices_IndexFunc_iPair_iDelKey_1_0 ((h0.length : Nat) : Int) (0 : Int) h0 h1_0).1 == 0) true ((it_slices_IndexFunc_iPair_iDelKey_1_0 ((h0.length : Nat) : Int) (0 : Int) h0 h1_0).1 == 1)
noncomputable abbrev pre_slices_IndexFunc_iPair_iDelKey_1 : SM_slices_IndexFunc_iPair_iDelKey_1.den → Bool := fun d => q_slices_IndexFunc_iPair_iDelKey_1 d.2.1 d.2.2.1.1
theorem runA_slices_IndexFunc_iPair_iDelKey_1 (h0 : List (ByteArray × ByteArray)) (h1_0 : ByteArray) (hp : (cond ((it_slices_IndexFunc_iPair_iDelKey_1_0 ((h0.length : Nat) : Int) (0 : Int) h0 h1_0).1 == 0) true ((it_slices_IndexFunc_iPair_iDelKey_1_0 ((h0.length : Nat) : Int) (0 : Int) h0 h1_0).1 == 1)) = true) : runM Try.prog tt S18 QF18 (fun b => match b with | 0 => say_slices_IndexFunc_iPair_iDelKey_1_0 | _ => fun _ => none) Try.f153 (shsMk SM_slices_IndexFunc_iPair_iDelKey_1.sl ((((), (), ()), (h0, (h1_0, ()), ())) : SM_slices_IndexFunc_iPair_iDelKey_1.den).1) (ohsMk SM_slices_IndexFunc_iPair_iDelKey_1.hp ((((), (), ()), (h0, (h1_0, ()), ())) : SM_slices_IndexFunc_iPair_iDelKey_1.den).2) = some (g_slices_IndexFunc_iPair_iDelKey_1 (((), (), ()), (h0, (h1_0, ()), ()))) := by
  refine Eq.trans (b := (cond ((it_slices_IndexFunc_iPair_iDelKey_1_0 ((h0.length : Nat) : Int) (0 : Int) h0 h1_0).1 == 0) (some (e_slices_IndexFunc_iPair_iDelKey_1 h0 h1_0 ((it_slices_IndexFunc_iPair_iDelKey_1_0 ((h0.length : Nat) : Int) (0 : Int) h0 h1_0).2))) (cond ((it_slices_IndexFunc_iPair_iDelKey_1_0 ((h0.length : Nat) : Int) (0 : Int) h0 h1_0).1 == 1) (some (e_slices_IndexFunc_iPair_iDelKey_1 h0 h1_0 (-1 : Int))) none))) (by kernel_rfl) ?_
  exact (cndQ (F := fun r => some (e_slices_IndexFunc_iPair_iDelKey_1 h0 h1_0 r)) hp (fun hp => rfl) (fun hp => (cndT hp (fun _h => rfl))))
theorem run_slices_IndexFunc_iPair_iDelKey_1 : ∀ d : SM_slices_IndexFunc_iPair_iDelKey_1.den, pre_slices_IndexFunc_iPair_iDelKey_1 d = true → runM Try.prog tt S18 QF18 (fun b => match b with | 0 => say_slices_IndexFunc_iPair_iDelKey_1_0 | _ => fun _ => none) Try.f153 (shsMk SM_slices_IndexFunc_iPair_iDelKey_1.sl (d : SM_slices_IndexFunc_iPair_iDelKey_1.den).1) (ohsMk SM_slices_IndexFunc_iPair_iDelKey_1.hp (d : SM_slices_IndexFunc_iPair_iDelKey_1.den).2) = some (g_slices_IndexFunc_iPair_iDelKey_1 d) := fun d hp => runA_slices_IndexFunc_iPair_iDelKey_1 d.2.1 d.2.2.1.1 hp
theorem c_slices_IndexFunc_iPair_iDelKey_1 : MContract Try.prog 153 (winQ (msum SM_slices_IndexFunc_iPair_iDelKey_1 pre_slices_IndexFunc_iPair_iDelKey_1 g_slices_IndexFunc_iPair_iDelKey_1)) := (MContract.of_data G18 (fn := Try.f153) (by kernel_rfl) (L := fun b => match b with | 0 => say_slices_IndexFunc_iPair_iDelKey_1_0 | _ => fun _ => none) (by rw [show loopsIn 0 (bodyOf Try.f153) = [(0, body_slices_IndexFunc_iPair_iDelKey_1_0)] by kernel_rfl]; intro p hp; simp only [List.mem_singleton] at hp; subst hp; exact lw_slices_IndexFunc_iPair_iDelKey_1_0) SM_slices_IndexFunc_iPair_iDelKey_1 pre_slices_IndexFunc_iPair_iDelKey_1 g_slices_IndexFunc_iPair_iDelKey_1 run_slices_IndexFunc_iPair_iDelKey_1).winQ (msum_quiet fun d => ⟨rfl, rfl⟩)
noncomputable def S19 : Tab := Tab.add S18 153 (orElseS (winQ (msum SM_slices_IndexFunc_iPair_ipairAt_1 pre_slices_IndexFunc_iPair_ipairAt_1 g_slices_IndexFunc_iPair_ipairAt_1)) (winQ (msum SM_slices_IndexFunc_iPair_iDelKey_1 pre_slices_IndexFunc_iPair_iDelKey_1 g_slices_IndexFunc_iPair_iDelKey_1)))
noncomputable def QF19 : FuncId → Bool := qadd QF18 153
theorem G19 : Good Try.prog tt S19 QF19 := G18.addMQ (MContract.orElse c_slices_IndexFunc_iPair_ipairAt_1 c_slices_IndexFunc_iPair_iDelKey_1) (orElse_local (winQ_local _) (winQ_local _)) ⟨Try.f153, by kernel_rfl, by kernel_rfl, by kernel_rfl⟩ (QuietS.orElse (winQ_quiet _) (winQ_quiet _))

/-! 143 slices.DeleteFunc[[]loop.example/g00244/impl.Pair,loop.example/g00244/impl.Pair] -/
noncomputable abbrev SM_slices_DeleteFunc_iPair : SS := ⟨[.all 0 2, .fn 144 [1]], [.rows 118 true (.pair .str .str), .box [.t true .str]]⟩
noncomputable abbrev S_slices_DeleteFunc_iPair_0 : SS := ⟨[.all 0 2, .fn 144 [1], .junk, .junk, .junk, .t true (.int .i64), .t true (.int .i64), .junk, .junk, .junk, .junk, .junk, .junk, .junk, .junk, .junk, .junk, .junk, .junk, .junk, .junk, .junk, .junk, .junk, .junk, .junk, .junk, .junk, .junk, .junk, .junk, .junk, .junk, .junk, .junk, .junk, .junk, .junk, .junk, .junk, .junk, .junk], [.rows 118 true (.pair .str .str), .box [.t true .str]]⟩
noncomputable abbrev E_slices_DeleteFunc_iPair_0_0 : SS := ⟨[.all 0 2, .junk, .junk, .junk, .junk, .t true (.int .i64), .junk, .junk, .junk, .junk, .junk, .junk, .junk, .junk, .junk, .junk, .junk, .junk, .junk, .junk, .junk, .junk, .junk, .junk, .junk, .junk, .junk, .junk, .junk, .junk, .junk, .junk, .junk, .junk, .junk, .junk, .junk, .junk, .junk, .junk, .junk, .junk], [.rows 118 true (.pair .str .str), .box [.t true .str]]⟩
noncomputable def k1_slices_DeleteFunc_iPair (x6 : Int) (h0 : List (ByteArray × ByteArray)) (h1_0 : ByteArray) := iDelKey_1 ((h0.getD x6.toNat ((⟨#[]⟩ : ByteArray), (⟨#[]⟩ : ByteArray))).1) ((h0.getD x6.toNat ((⟨#[]⟩ : ByteArray), (⟨#[]⟩ : ByteArray))).2) h1_0
noncomputable def st_slices_DeleteFunc_iPair_0 (x5 : Int) (x6 : Int) (h0 : List (ByteArray × ByteArray)) (h1_0 : ByteArray) : RT S_slices_DeleteFunc_iPair_0.den := (.br (decide (x6 < ((h0.length : Nat) : Int))) (.br (decide (0 ≤ x6 ∧ x6 < ((h0.length : Nat) : Int))) (.br (!(k1_slices_DeleteFunc_iPair x6 h0 h1_0)) (.br (decide (0 ≤ x5 ∧ x5 < ((h0.length : Nat) : Int))) (.next (((), (), (), (), (), IntKind.wrap .i64 (x5 + (1 : Int)), IntKind.wrap .i64 (x6 + (1 : Int)), (), (), (), (), (), (), (), (), (), (), (), (), (), (), (), (), (), (), (), (), (), (), (), (), (), (), (), (), (), (), (), (), (), (), (), ()), (h0.set x5.toNat ((h0.getD x6.toNat ((⟨#[]⟩ : ByteArray), (⟨#[]⟩ : ByteArray))).1, (h0.getD x6.toNat ((⟨#[]⟩ : ByteArray), (⟨#[]⟩ : ByteArray))).2), (h1_0, ()), ()))) .fail) (.next (((), (), (), (), (), x5, IntKind.wrap .i64 (x6 + (1 : Int)), (), (), (), (), (), (), (), (), (), (), (), (), (), (), (), (), (), (), (), (), (), (), (), (), (), (), (), (), (), (), (), (), (), (), (), ()), (h0, (h1_0, ()), ())))) .fail) (.done (.exit 0) E_slices_DeleteFunc_iPair_0_0 (((), (), (), (), (), x5, (), (), (), (), (), (), (), (), (), (), (), (), (), (), (), (), (), (), (), (), (), (), (), (), (), (), (), (), (), (), (), (), (), (), (), (), ()), (h0, (h1_0, ()), ()))))
noncomputable abbrev V_slices_DeleteFunc_iPair_0 := (Int) × (Int) × (List (ByteArray × ByteArray))
noncomputable abbrev A_slices_DeleteFunc_iPair_0 := Nat × (Int) × (List (ByteArray × ByteArray))
noncomputable def fl_slices_DeleteFunc_iPair_0 : A_slices_DeleteFunc_iPair_0 := (99, ((0 : Int) : Int), ([] : List (ByteArray × ByteArray)))
noncomputable def ss_slices_DeleteFunc_iPair_0 (x5 : Int) (x6 : Int) (h0 : List (ByteArray × ByteArray)) (h1_0 : ByteArray) : V_slices_DeleteFunc_iPair_0 ⊕ A_slices_DeleteFunc_iPair_0 := (cond (decide (x6 < ((h0.length : Nat) : Int))) (cond (decide (0 ≤ x6 ∧ x6 < ((h0.length : Nat) : Int))) (cond (!(k1_slices_DeleteFunc_iPair x6 h0 h1_0)) (cond (decide (0 ≤ x5 ∧ x5 < ((h0.length : Nat) : Int))) (.inl (IntKind.wrap .i64 (x5 + (1 : Int)), IntKind.wrap .i64 (x6 + (1 : Int)), h0.set x5.toNat ((h0.getD x6.toNat ((⟨#[]⟩ : ByteArray), (⟨#[]⟩ : ByteArray))).1, (h0.getD x6.toNat ((⟨#[]⟩ : ByteArray), (⟨#[]⟩ : ByteArray))).2))) (.inr fl_slices_DeleteFunc_iPair_0)) (.inl (x5, IntKind.wrap .i64 (x6 + (1 : Int)), h0))) (.inr fl_slices_DeleteFunc_iPair_0)) (.inr (0, x5, h0)))
noncomputable def it_slices_DeleteFunc_iPair_0 (x5 : Int) (x6 : Int) (h0 : List (ByteArray × ByteArray)) (h1_0 : ByteArray) : A_slices_DeleteFunc_iPair_0 := itX (fun v : V_slices_DeleteFunc_iPair_0 => ss_slices_DeleteFunc_iPair_0 v.1 v.2.1 v.2.2 h1_0) fl_slices_DeleteFunc_iPair_0 (x5, x6, h0)
noncomputable def ct_slices_DeleteFunc_iPair_0 (h1_0 : ByteArray) (a : A_slices_DeleteFunc_iPair_0) : CT := (.br (a.1 == 0) (.done (.exit 0) E_slices_DeleteFunc_iPair_0_0 (((), (), (), (), (), a.2.1, (), (), (), (), (), (), (), (), (), (), (), (), (), (), (), (), (), (), (), (), (), (), (), (), (), (), (), (), (), (), (), (), (), (), (), (), ()), (a.2.2, (h1_0, ()), ()))) .fail)
noncomputable def T_slices_DeleteFunc_iPair_0 (x5 : Int) (x6 : Int) (h0 : List (ByteArray × ByteArray)) (h1_0 : ByteArray) : CT := (ct_slices_DeleteFunc_iPair_0 h1_0) (it_slices_DeleteFunc_iPair_0 x5 x6 h0 h1_0)
noncomputable abbrev sp_slices_DeleteFunc_iPair_0 : S_slices_DeleteFunc_iPair_0.den → RT S_slices_DeleteFunc_iPair_0.den := fun d => st_slices_DeleteFunc_iPair_0 d.1.2.2.2.2.2.1 d.1.2.2.2.2.2.2.1 d.2.1 d.2.2.1.1
noncomputable abbrev pk_slices_DeleteFunc_iPair_0 (x5 : Int) (x6 : Int) (h0 : List (ByteArray × ByteArray)) (h1_0 : ByteArray) : S_slices_DeleteFunc_iPair_0.den := (((), (), (), (), (), x5, x6, (), (), (), (), (), (), (), (), (), (), (), (), (), (), (), (), (), (), (), (), (), (), (), (), (), (), (), (), (), (), (), (), (), (), (), ()), (h0, (h1_0, ()), ()))
noncomputable def body_slices_DeleteFunc_iPair_0 : Code := ((loopsIn 0 (bodyOf Try.f143)).getD 0 (0, .skip)).2
theorem R_slices_DeleteFunc_iPair_0 (x5 : Int) (x6 : Int) (h0 : List (ByteArray × ByteArray)) (h1_0 : ByteArray) : (T_slices_DeleteFunc_iPair_0 x5 x6 h0 h1_0).val (D := S_slices_DeleteFunc_iPair_0.den) = .fail ∨ Runs sp_slices_DeleteFunc_iPair_0 (pk_slices_DeleteFunc_iPair_0 x5 x6 h0 h1_0) (T_slices_DeleteFunc_iPair_0 x5 x6 h0 h1_0).val := Runs.ofIt (step := sp_slices_DeleteFunc_iPair_0) (fun v : V_slices_DeleteFunc_iPair_0 => pk_slices_DeleteFunc_iPair_0 v.1 v.2.1 v.2.2 h1_0) (ct := (ct_slices_DeleteFunc_iPair_0 h1_0)) rfl (fun v => ((relB (relB (relB (relB rfl rfl) rfl) rfl) rfl) : (st_slices_DeleteFunc_iPair_0 v.1 v.2.1 v.2.2 h1_0).val = relS (fun v : V_slices_DeleteFunc_iPair_0 => pk_slices_DeleteFunc_iPair_0 v.1 v.2.1 v.2.2 h1_0) (ct_slices_DeleteFunc_iPair_0 h1_0) (ss_slices_DeleteFunc_iPair_0 v.1 v.2.1 v.2.2 h1_0))) (fun a => ((cendB (cendD (by simp)) cendF) : CEnd _ ((ct_slices_DeleteFunc_iPair_0 h1_0) a))) (x5, x6, h0)
theorem rd_slices_DeleteFunc_iPair_0 : ∀ d, execC Try.prog tt S19 QF19 (fun _ _ => none) 0 body_slices_DeleteFunc_iPair_0 (S_slices_DeleteFunc_iPair_0.st d 2 []) (fun e s' => some (e, S_slices_DeleteFunc_iPair_0.cutE (kepts [] [(0, [0, 5])]) e s')) = (sp_slices_DeleteFunc_iPair_0 d).opt 2 [] := by
  intro d
  kernel_rfl
noncomputable abbrev say_slices_DeleteFunc_iPair_0 : St → Option Tree := S_slices_DeleteFunc_iPair_0.say 2 [] [] (fun d => T_slices_DeleteFunc_iPair_0 d.1.2.2.2.2.2.1 d.1.2.2.2.2.2.2.1 d.2.1 d.2.2.1.1)
theorem lw_slices_DeleteFunc_iPair_0 : LoopWp Try.prog say_slices_DeleteFunc_iPair_0 body_slices_DeleteFunc_iPair_0 := SS.wp G19 (fun _ _ => none) (by rw [show loopsIn 0 body_slices_DeleteFunc_iPair_0 = [] by kernel_rfl]; simp) S_slices_DeleteFunc_iPair_0 2 [] (kepts [] [(0, [0, 5])]) [] sp_slices_DeleteFunc_iPair_0 rd_slices_DeleteFunc_iPair_0 _ (fun d => R_slices_DeleteFunc_iPair_0 d.1.2.2.2.2.2.1 d.1.2.2.2.2.2.2.1 d.2.1 d.2.2.1.1)
noncomputable def k2_slices_DeleteFunc_iPair (h0 : List (ByteArray × ByteArray)) (h1_0 : ByteArray) := it_slices_DeleteFunc_iPair_0 (slices_IndexFunc_iPair_iDelKey_1 h0 h1_0) (IntKind.wrap .i64 ((slices_IndexFunc_iPair_iDelKey_1 h0 h1_0) + (1 : Int))) h0 h1_0
noncomputable def slices_DeleteFunc_iPair (h0 : List (ByteArray × ByteArray)) (h1_0 : ByteArray) : (List (ByteArray × ByteArray)) × ByteArray := (cond ((slices_IndexFunc_iPair_iDelKey_1 h0 h1_0) == (-1 : Int)) (h0, h1_0) (((((k2_slices_DeleteFunc_iPair h0 h1_0).2.2).take (((k2_slices_DeleteFunc_iPair h0 h1_0).2.1).toNat) ++ List.replicate (((((k2_slices_DeleteFunc_iPair h0 h1_0).2.2).length : Nat) : Int).toNat - ((k2_slices_DeleteFunc_iPair h0 h1_0).2.1).toNat) ((⟨#[]⟩ : ByteArray), (⟨#[]⟩ : ByteArray))) ++ ((k2_slices_DeleteFunc_iPair h0 h1_0).2.2).drop ((((k2_slices_DeleteFunc_iPair h0 h1_0).2.1).toNat) + (((((k2_slices_DeleteFunc_iPair h0 h1_0).2.2).length : Nat) : Int).toNat - ((k2_slices_DeleteFunc_iPair h0 h1_0).2.1).toNat))).take (((k2_slices_DeleteFunc_iPair h0 h1_0).2.1).toNat), h1_0))
noncomputable abbrev e_slices_DeleteFunc_iPair (r : (List (ByteArray × ByteArray)) × ByteArray) : AV × List AObj × List Nat := ((.all 0 2), [(.rows 118 true (.pair .str .str) r.1), (.box [(.t true .str r.2)])], [0])
noncomputable abbrev g_slices_DeleteFunc_iPair : SM_slices_DeleteFunc_iPair.den → AV × List AObj × List Nat := fun d => e_slices_DeleteFunc_iPair (slices_DeleteFunc_iPair d.2.1 d.2.2.1.1)
noncomputable def q_slices_DeleteFunc_iPair (h0 : List (ByteArray × ByteArray)) (h1_0 : ByteArray) : Bool := (q_slices_IndexFunc_iPair_iDelKey_1 h0 h1_0) && (cond ((slices_IndexFunc_iPair_iDelKey_1 h0 h1_0) == (-1 : Int)) true (((k2_slices_DeleteFunc_iPair h0 h1_0).1 == 0) && ((decide (0 ≤ ((k2_slices_DeleteFunc_iPair h0 h1_0).2.1) ∧ ((k2_slices_DeleteFunc_iPair h0 h1_0).2.1) ≤ ((((k2_slices_DeleteFunc_iPair h0 h1_0).2.2).length : Nat) : Int) ∧ ((((k2_slices_DeleteFunc_iPair h0 h1_0).2.2).length : Nat) : Int) ≤ ((((k2_slices_DeleteFunc_iPair h0 h1_0).2.2).length : Nat) : Int))) && (decide (0 ≤ (0 : Int) ∧ (0 : Int) ≤ ((k2_slices_DeleteFunc_iPair h0 h1_0).2.1) ∧ ((k2_slices_DeleteFunc_iPair h0 h1_0).2.1) ≤ ((((((k2_slices_DeleteFunc_iPair h0 h1_0).2.2).take (((k2_slices_DeleteFunc_iPair h0 h1_0).2.1).toNat) ++ List.replicate (((((k2_slices_DeleteFunc_iPair h0 h1_0).2.2).length : Nat) : Int).toNat - ((k2_slices_DeleteFunc_iPair h0 h1_0).2.1).toNat) ((⟨#[]⟩ : ByteArray), (⟨#[]⟩ : ByteArray))) ++ ((k2_slices_DeleteFunc_iPair h0 h1_0).2.2).drop ((((k2_slices_DeleteFunc_iPair h0 h1_0).2.1).toNat) + (((((k2_slices_DeleteFunc_iPair h0 h1_0).2.2).length : Nat) : Int).toNat - ((k2_slices_DeleteFunc_iPair h0 h1_0).2.1).toNat))).length : Nat) : Int))))))
noncomputable abbrev pre_slices_DeleteFunc_iPair : SM_slices_DeleteFunc_iPair.den → Bool := fun d => q_slices_DeleteFunc_iPair d.2.1 d.2.2.1.1
theorem runA_slices_DeleteFunc_iPair (h0 : List (ByteArray × ByteArray)) (h1_0 : ByteArray) (hp : ((q_slices_IndexFunc_iPair_iDelKey_1 h0 h1_0) && (cond ((slices_IndexFunc_iPair_iDelKey_1 h0 h1_0) == (-1 : Int)) true (((k2_slices_DeleteFunc_iPair h0 h1_0).1 == 0) && ((decide (0 ≤ ((k2_slices_DeleteFunc_iPair h0 h1_0).2.1) ∧ ((k2_slices_DeleteFunc_iPair h0 h1_0).2.1) ≤ ((((k2_slices_DeleteFunc_iPair h0 h1_0).2.2).length : Nat) : Int) ∧ ((((k2_slices_DeleteFunc_iPair h0 h1_0).2.2).length : Nat) : Int) ≤ ((((k2_slices_DeleteFunc_iPair h0 h1_0).2.2).length : Nat) : Int))) && (decide (0 ≤ (0 : Int) ∧ (0 : Int) ≤ ((k2_slices_DeleteFunc_iPair h0 h1_0).2.1) ∧ ((k2_slices_DeleteFunc_iPair h0 h1_0).2.1) ≤ ((((((k2_slices_DeleteFunc_iPair h0 h1_0).2.2).take (((k2_slices_DeleteFunc_iPair h0 h1_0).2.1).toNat) ++ List.replicate (((((k2_slices_DeleteFunc_iPair h0 h1_0).2.2).length : Nat) : Int).toNat - ((k2_slices_DeleteFunc_iPair h0 h1_0).2.1).toNat) ((⟨#[]⟩ : ByteArray), (⟨#[]⟩ : ByteArray))) ++ ((k2_slices_DeleteFunc_iPair h0 h1_0).2.2).drop ((((k2_slices_DeleteFunc_iPair h0 h1_0).2.1).toNat) + (((((k2_slices_DeleteFunc_iPair h0 h1_0).2.2).length : Nat) : Int).toNat - ((k2_slices_DeleteFunc_iPair h0 h1_0).2.1).toNat))).length : Nat) : Int))))))) = true) : runE false Try.prog tt S19 QF19 (fun b => match b with | 0 => say_slices_DeleteFunc_iPair_0 | _ => fun _ => none) Try.f143 (shsMk SM_slices_DeleteFunc_iPair.sl ((((), (), ()), (h0, (h1_0, ()), ())) : SM_slices_DeleteFunc_iPair.den).1) (ohsMk SM_slices_DeleteFunc_iPair.hp ((((), (), ()), (h0, (h1_0, ()), ())) : SM_slices_DeleteFunc_iPair.den).2) [] [0] [] = some (g_slices_DeleteFunc_iPair (((), (), ()), (h0, (h1_0, ()), ()))) := by
  refine Eq.trans (b := (cond (q_slices_IndexFunc_iPair_iDelKey_1 h0 h1_0) (cond ((slices_IndexFunc_iPair_iDelKey_1 h0 h1_0) == (-1 : Int)) (some (e_slices_DeleteFunc_iPair (h0, h1_0))) (cond ((k2_slices_DeleteFunc_iPair h0 h1_0).1 == 0) (cond (decide (0 ≤ ((k2_slices_DeleteFunc_iPair h0 h1_0).2.1) ∧ ((k2_slices_DeleteFunc_iPair h0 h1_0).2.1) ≤ ((((k2_slices_DeleteFunc_iPair h0 h1_0).2.2).length : Nat) : Int) ∧ ((((k2_slices_DeleteFunc_iPair h0 h1_0).2.2).length : Nat) : Int) ≤ ((((k2_slices_DeleteFunc_iPair h0 h1_0).2.2).length : Nat) : Int))) (cond (decide (0 ≤ (0 : Int) ∧ (0 : Int) ≤ ((k2_slices_DeleteFunc_iPair h0 h1_0).2.1) ∧ ((k2_slices_DeleteFunc_iPair h0 h1_0).2.1) ≤ ((((((k2_slices_DeleteFunc_iPair h0 h1_0).2.2).take (((k2_slices_DeleteFunc_iPair h0 h1_0).2.1).toNat) ++ List.replicate (((((k2_slices_DeleteFunc_iPair h0 h1_0).2.2).length : Nat) : Int).toNat - ((k2_slices_DeleteFunc_iPair h0 h1_0).2.1).toNat) ((⟨#[]⟩ : ByteArray), (⟨#[]⟩ : ByteArray))) ++ ((k2_slices_DeleteFunc_iPair h0 h1_0).2.2).drop ((((k2_slices_DeleteFunc_iPair h0 h1_0).2.1).toNat) + (((((k2_slices_DeleteFunc_iPair h0 h1_0).2.2).length : Nat) : Int).toNat - ((k2_slices_DeleteFunc_iPair h0 h1_0).2.1).toNat))).length : Nat) : Int))) (some (e_slices_DeleteFunc_iPair (((((k2_slices_DeleteFunc_iPair h0 h1_0).2.2).take (((k2_slices_DeleteFunc_iPair h0 h1_0).2.1).toNat) ++ List.replicate (((((k2_slices_DeleteFunc_iPair h0 h1_0).2.2).length : Nat) : Int).toNat - ((k2_slices_DeleteFunc_iPair h0 h1_0).2.1).toNat) ((⟨#[]⟩ : ByteArray), (⟨#[]⟩ : ByteArray))) ++ ((k2_slices_DeleteFunc_iPair h0 h1_0).2.2).drop ((((k2_slices_DeleteFunc_iPair h0 h1_0).2.1).toNat) + (((((k2_slices_DeleteFunc_iPair h0 h1_0).2.2).length : Nat) : Int).toNat - ((k2_slices_DeleteFunc_iPair h0 h1_0).2.1).toNat))).take (((k2_slices_DeleteFunc_iPair h0 h1_0).2.1).toNat), h1_0))) none) none) none)) none)) (by kernel_rfl) ?_
  exact (cndT (andL hp) (fun _h => (fun hp => (cndQ (F := fun r => some (e_slices_DeleteFunc_iPair r)) hp (fun hp => rfl) (fun hp => (cndT (andL hp) (fun _h => (fun hp => (cndT (andL hp) (fun _h => (fun hp => (cndT hp (fun _h => rfl))) (andR hp)))) (andR hp)))))) (andR hp)))
theorem run_slices_DeleteFunc_iPair : ∀ d : SM_slices_DeleteFunc_iPair.den, pre_slices_DeleteFunc_iPair d = true → runE false Try.prog tt S19 QF19 (fun b => match b with | 0 => say_slices_DeleteFunc_iPair_0 | _ => fun _ => none) Try.f143 (shsMk SM_slices_DeleteFunc_iPair.sl (d : SM_slices_DeleteFunc_iPair.den).1) (ohsMk SM_slices_DeleteFunc_iPair.hp (d : SM_slices_DeleteFunc_iPair.den).2) [] [0] [] = some (g_slices_DeleteFunc_iPair d) := fun d hp => runA_slices_DeleteFunc_iPair d.2.1 d.2.2.1.1 hp
theorem c_slices_DeleteFunc_iPair : MContract Try.prog 143 (win winIds (msum SM_slices_DeleteFunc_iPair pre_slices_DeleteFunc_iPair g_slices_DeleteFunc_iPair)) := (MContract.of_dataE false [] [0] []  G19 (fn := Try.f143) (by kernel_rfl) (L := fun b => match b with | 0 => say_slices_DeleteFunc_iPair_0 | _ => fun _ => none) (by rw [show loopsIn 0 (bodyOf Try.f143) = [(0, body_slices_DeleteFunc_iPair_0)] by kernel_rfl]; intro p hp; simp only [List.mem_singleton] at hp; subst hp; exact lw_slices_DeleteFunc_iPair_0) SM_slices_DeleteFunc_iPair pre_slices_DeleteFunc_iPair g_slices_DeleteFunc_iPair run_slices_DeleteFunc_iPair).win winIds
noncomputable def S20 : Tab := Tab.add S19 143 (win winIds (msum SM_slices_DeleteFunc_iPair pre_slices_DeleteFunc_iPair g_slices_DeleteFunc_iPair))
noncomputable def QF20 : FuncId → Bool := QF19
theorem G20 : Good Try.prog tt S20 QF20 := G19.addM c_slices_DeleteFunc_iPair (win_local _) ⟨Try.f143, by kernel_rfl, by kernel_rfl, by kernel_rfl⟩ (by kernel_rfl)

/-! 109 loop.example/g00244/impl.DelKey -/
noncomputable abbrev P_iDelKey : List PSh := [.t (.sl (.pair .str .str)), .t .str]
noncomputable def iDelKey (a0 : List (ByteArray × ByteArray)) (a1 : ByteArray) : List (ByteArray × ByteArray) := ((slices_DeleteFunc_iPair (slices_Clone_iPair a0) a1).1)
noncomputable abbrev e_iDelKey (r : List (ByteArray × ByteArray)) : AV × List AObj := ((.all 0 2), [(.rows 118 true (.pair .str .str) r)])
noncomputable abbrev g_iDelKey : pshsDen P_iDelKey → AV × List AObj := fun d => e_iDelKey (iDelKey d.1 d.2.1)
noncomputable def q_iDelKey (a0 : List (ByteArray × ByteArray)) (a1 : ByteArray) : Bool := (q_slices_Clone_iPair a0) && (q_slices_DeleteFunc_iPair (slices_Clone_iPair a0) a1)
noncomputable abbrev pre_iDelKey : pshsDen P_iDelKey → Bool := fun d => q_iDelKey d.1 d.2.1
theorem runA_iDelKey (a0 : List (ByteArray × ByteArray)) (a1 : ByteArray) (hp : ((q_slices_Clone_iPair a0) && (q_slices_DeleteFunc_iPair (slices_Clone_iPair a0) a1)) = true) : runP false Try.prog tt S20 QF20 (fun _ _ => none) Try.f109 (argsMk P_iDelKey (a0, (a1, ()))) = some (g_iDelKey (a0, (a1, ()))) := by
  refine Eq.trans (b := (cond (q_slices_Clone_iPair a0) (cond (q_slices_DeleteFunc_iPair (slices_Clone_iPair a0) a1) (some (e_iDelKey ((slices_DeleteFunc_iPair (slices_Clone_iPair a0) a1).1))) none) none)) (by kernel_rfl) ?_
  exact (cndT (andL hp) (fun _h => (fun hp => (cndT hp (fun _h => rfl))) (andR hp)))
theorem run_iDelKey : ∀ d, pre_iDelKey d = true → runP false Try.prog tt S20 QF20 (fun _ _ => none) Try.f109 (argsMk P_iDelKey d) = some (g_iDelKey d) := fun d hp => runA_iDelKey d.1 d.2.1 hp
theorem c_iDelKey : PContract Try.prog 109 (sumOf P_iDelKey pre_iDelKey g_iDelKey) := PContract.of_data false G20 (fn := Try.f109) (by kernel_rfl) (L := fun _ _ => none) (by rw [show loopsIn 0 (bodyOf Try.f109) = [] by kernel_rfl]; simp) P_iDelKey pre_iDelKey g_iDelKey run_iDelKey
noncomputable def S21 : Tab := Tab.add S20 109 (lift (sumOf P_iDelKey pre_iDelKey g_iDelKey))
noncomputable def QF21 : FuncId → Bool := QF20
theorem G21 : Good Try.prog tt S21 QF21 := G20.add c_iDelKey ⟨Try.f109, by kernel_rfl, by kernel_rfl, by kernel_rfl⟩ (by kernel_rfl)

/-! 46 loop.example/g00244/impl.Apply -/
noncomputable abbrev P_iApply : List PSh := [.t (.sl (.pair .str .str)), .t (.sl (.pair (.int .i64) (.pair .str .str)))]
noncomputable abbrev S_iApply_0 : SS := ⟨[.junk, .junk, .junk, .junk, .junk, .all 0 2, .junk, .junk, .junk, .junk, .t false (.sl (.pair (.int .i64) (.pair .str .str))), .t true (.int .i64), .t true (.int .i64), .junk, .junk, .junk, .junk, .junk, .junk, .junk, .junk, .junk, .junk, .junk, .junk, .junk, .junk, .junk, .junk, .junk, .junk, .junk, .junk, .junk], [.rows 118 true (.pair .str .str)]⟩
noncomputable abbrev E_iApply_0_0 : SS := ⟨[.junk, .junk, .junk, .junk, .junk, .all 0 2, .junk, .junk, .junk, .junk, .junk, .junk, .junk, .junk, .junk, .junk, .junk, .junk, .junk, .junk, .junk, .junk, .junk, .junk, .junk, .junk, .junk, .junk, .junk, .junk, .junk, .junk, .junk, .junk], [.rows 118 true (.pair .str .str)]⟩
noncomputable def k1_iApply (x10 : List (Int × ByteArray × ByteArray)) (x12 : Int) (h0 : List (ByteArray × ByteArray)) := iputKey (((x10.getD x12.toNat ((0 : Int), ((⟨#[]⟩ : ByteArray), (⟨#[]⟩ : ByteArray)))).2).1) (((x10.getD x12.toNat ((0 : Int), ((⟨#[]⟩ : ByteArray), (⟨#[]⟩ : ByteArray)))).2).2) h0
noncomputable def k2_iApply (x10 : List (Int × ByteArray × ByteArray)) (x12 : Int) (h0 : List (ByteArray × ByteArray)) := iDelKey h0 (((x10.getD x12.toNat ((0 : Int), ((⟨#[]⟩ : ByteArray), (⟨#[]⟩ : ByteArray)))).2).1)
noncomputable def st_iApply_0 (x10 : List (Int × ByteArray × ByteArray)) (x11 : Int) (x12 : Int) (h0 : List (ByteArray × ByteArray)) : RT S_iApply_0.den := (.br (decide (x12 < x11)) (.br (decide (0 ≤ x12 ∧ x12 < ((x10.length : Nat) : Int))) (.br (((x10.getD x12.toNat ((0 : Int), ((⟨#[]⟩ : ByteArray), (⟨#[]⟩ : ByteArray)))).1) == (1 : Int)) (.br (q_iputKey (((x10.getD x12.toNat ((0 : Int), ((⟨#[]⟩ : ByteArray), (⟨#[]⟩ : ByteArray)))).2).1) (((x10.getD x12.toNat ((0 : Int), ((⟨#[]⟩ : ByteArray), (⟨#[]⟩ : ByteArray)))).2).2) h0) (.next (((), (), (), (), (), (), (), (), (), (), x10, x11, IntKind.wrap .i64 (x12 + (1 : Int)), (), (), (), (), (), (), (), (), (), (), (), (), (), (), (), (), (), (), (), (), (), ()), ((k1_iApply x10 x12 h0), ()))) .fail) (.br (((x10.getD x12.toNat ((0 : Int), ((⟨#[]⟩ : ByteArray), (⟨#[]⟩ : ByteArray)))).1) == (2 : Int)) (.br (q_iDelKey h0 (((x10.getD x12.toNat ((0 : Int), ((⟨#[]⟩ : ByteArray), (⟨#[]⟩ : ByteArray)))).2).1)) (.next (((), (), (), (), (), (), (), (), (), (), x10, x11, IntKind.wrap .i64 (x12 + (1 : Int)), (), (), (), (), (), (), (), (), (), (), (), (), (), (), (), (), (), (), (), (), (), ()), ((k2_iApply x10 x12 h0), ()))) .fail) (.next (((), (), (), (), (), (), (), (), (), (), x10, x11, IntKind.wrap .i64 (x12 + (1 : Int)), (), (), (), (), (), (), (), (), (), (), (), (), (), (), (), (), (), (), (), (), (), ()), (h0, ()))))) .fail) (.done (.exit 0) E_iApply_0_0 (((), (), (), (), (), (), (), (), (), (), (), (), (), (), (), (), (), (), (), (), (), (), (), (), (), (), (), (), (), (), (), (), (), (), ()), (h0, ()))))
noncomputable abbrev V_iApply_0 := (List (Int × ByteArray × ByteArray)) × (Int) × (Int) × (List (ByteArray × ByteArray))
noncomputable abbrev A_iApply_0 := Nat × (List (ByteArray × ByteArray))
noncomputable def fl_iApply_0 : A_iApply_0 := (99, ([] : List (ByteArray × ByteArray)))
noncomputable def ss_iApply_0 (x10 : List (Int × ByteArray × ByteArray)) (x11 : Int) (x12 : Int) (h0 : List (ByteArray × ByteArray)) : V_iApply_0 ⊕ A_iApply_0 := (cond (decide (x12 < x11)) (cond (decide (0 ≤ x12 ∧ x12 < ((x10.length : Nat) : Int))) (cond (((x10.getD x12.toNat ((0 : Int), ((⟨#[]⟩ : ByteArray), (⟨#[]⟩ : ByteArray)))).1) == (1 : Int)) (cond (q_iputKey (((x10.getD x12.toNat ((0 : Int), ((⟨#[]⟩ : ByteArray), (⟨#[]⟩ : ByteArray)))).2).1) (((x10.getD x12.toNat ((0 : Int), ((⟨#[]⟩ : ByteArray), (⟨#[]⟩ : ByteArray)))).2).2) h0) (.inl (x10, x11, IntKind.wrap .i64 (x12 + (1 : Int)), (k1_iApply x10 x12 h0))) (.inr fl_iApply_0)) (cond (((x10.getD x12.toNat ((0 : Int), ((⟨#[]⟩ : ByteArray), (⟨#[]⟩ : ByteArray)))).1) == (2 : Int)) (cond (q_iDelKey h0 (((x10.getD x12.toNat ((0 : Int), ((⟨#[]⟩ : ByteArray), (⟨#[]⟩ : ByteArray)))).2).1)) (.inl (x10, x11, IntKind.wrap .i64 (x12 + (1 : Int)), (k2_iApply x10 x12 h0))) (.inr fl_iApply_0)) (.inl (x10, x11, IntKind.wrap .i64 (x12 + (1 : Int)), h0)))) (.inr fl_iApply_0)) (.inr (0, h0)))
noncomputable def it_iApply_0 (x10 : List (Int × ByteArray × ByteArray)) (x11 : Int) (x12 : Int) (h0 : List (ByteArray × ByteArray)) : A_iApply_0 := itX (fun v : V_iApply_0 => ss_iApply_0 v.1 v.2.1 v.2.2.1 v.2.2.2) fl_iApply_0 (x10, x11, x12, h0)
noncomputable def ct_iApply_0 (a : A_iApply_0) : CT := (.br (a.1 == 0) (.done (.exit 0) E_iApply_0_0 (((), (), (), (), (), (), (), (), (), (), (), (), (), (), (), (), (), (), (), (), (), (), (), (), (), (), (), (), (), (), (), (), (), (), ()), (a.2, ()))) .fail)
noncomputable def T_iApply_0 (x10 : List (Int × ByteArray × ByteArray)) (x11 : Int) (x12 : Int) (h0 : List (ByteArray × ByteArray)) : CT := ct_iApply_0 (it_iApply_0 x10 x11 x12 h0)
noncomputable abbrev sp_iApply_0 : S_iApply_0.den → RT S_iApply_0.den := fun d => st_iApply_0 d.1.2.2.2.2.2.2.2.2.2.2.1 d.1.2.2.2.2.2.2.2.2.2.2.2.1 d.1.2.2.2.2.2.2.2.2.2.2.2.2.1 d.2.1
noncomputable abbrev pk_iApply_0 (x10 : List (Int × ByteArray × ByteArray)) (x11 : Int) (x12 : Int) (h0 : List (ByteArray × ByteArray)) : S_iApply_0.den := (((), (), (), (), (), (), (), (), (), (), x10, x11, x12, (), (), (), (), (), (), (), (), (), (), (), (), (), (), (), (), (), (), (), (), (), ()), (h0, ()))
noncomputable def body_iApply_0 : Code := ((loopsIn 0 (bodyOf Try.f46)).getD 0 (0, .skip)).2
theorem R_iApply_0 (x10 : List (Int × ByteArray × ByteArray)) (x11 : Int) (x12 : Int) (h0 : List (ByteArray × ByteArray)) : (T_iApply_0 x10 x11 x12 h0).val (D := S_iApply_0.den) = .fail ∨ Runs sp_iApply_0 (pk_iApply_0 x10 x11 x12 h0) (T_iApply_0 x10 x11 x12 h0).val := Runs.ofIt (step := sp_iApply_0) (fun v : V_iApply_0 => pk_iApply_0 v.1 v.2.1 v.2.2.1 v.2.2.2) (ct := ct_iApply_0) rfl (fun v => ((relB (relB (relB (relB rfl rfl) (relB (relB rfl rfl) rfl)) rfl) rfl) : (st_iApply_0 v.1 v.2.1 v.2.2.1 v.2.2.2).val = relS (fun v : V_iApply_0 => pk_iApply_0 v.1 v.2.1 v.2.2.1 v.2.2.2) ct_iApply_0 (ss_iApply_0 v.1 v.2.1 v.2.2.1 v.2.2.2))) (fun a => ((cendB (cendD (by simp)) cendF) : CEnd _ (ct_iApply_0 a))) (x10, x11, x12, h0)
theorem rd_iApply_0 : ∀ d, execC Try.prog tt S21 QF21 (fun _ _ => none) 0 body_iApply_0 (S_iApply_0.st d 0 []) (fun e s' => some (e, S_iApply_0.cutE (kepts [] [(0, [5])]) e s')) = (sp_iApply_0 d).opt 0 [] := by
  intro d
  kernel_rfl
noncomputable abbrev say_iApply_0 : St → Option Tree := S_iApply_0.say 0 [] [] (fun d => T_iApply_0 d.1.2.2.2.2.2.2.2.2.2.2.1 d.1.2.2.2.2.2.2.2.2.2.2.2.1 d.1.2.2.2.2.2.2.2.2.2.2.2.2.1 d.2.1)
theorem lw_iApply_0 : LoopWp Try.prog say_iApply_0 body_iApply_0 := SS.wp G21 (fun _ _ => none) (by rw [show loopsIn 0 body_iApply_0 = [] by kernel_rfl]; simp) S_iApply_0 0 [] (kepts [] [(0, [5])]) [] sp_iApply_0 rd_iApply_0 _ (fun d => R_iApply_0 d.1.2.2.2.2.2.2.2.2.2.2.1 d.1.2.2.2.2.2.2.2.2.2.2.2.1 d.1.2.2.2.2.2.2.2.2.2.2.2.2.1 d.2.1)
noncomputable def iApply (a0 : List (ByteArray × ByteArray)) (a1 : List (Int × ByteArray × ByteArray)) : List (ByteArray × ByteArray) := ((it_iApply_0 a1 ((a1.length : Nat) : Int) (0 : Int) (slices_Clone_iPair a0)).2)
noncomputable abbrev e_iApply (r : List (ByteArray × ByteArray)) : AV × List AObj := ((.all 0 2), [(.rows 118 true (.pair .str .str) r)])
noncomputable abbrev g_iApply : pshsDen P_iApply → AV × List AObj := fun d => e_iApply (iApply d.1 d.2.1)
noncomputable def q_iApply (a0 : List (ByteArray × ByteArray)) (a1 : List (Int × ByteArray × ByteArray)) : Bool := (q_slices_Clone_iPair a0) && ((it_iApply_0 a1 ((a1.length : Nat) : Int) (0 : Int) (slices_Clone_iPair a0)).1 == 0)
noncomputable abbrev pre_iApply : pshsDen P_iApply → Bool := fun d => q_iApply d.1 d.2.1
theorem runA_iApply (a0 : List (ByteArray × ByteArray)) (a1 : List (Int × ByteArray × ByteArray)) (hp : ((q_slices_Clone_iPair a0) && ((it_iApply_0 a1 ((a1.length : Nat) : Int) (0 : Int) (slices_Clone_iPair a0)).1 == 0)) = true) : runP false Try.prog tt S21 QF21 (fun b => match b with | 0 => say_iApply_0 | _ => fun _ => none) Try.f46 (argsMk P_iApply (a0, (a1, ()))) = some (g_iApply (a0, (a1, ()))) := by
  refine Eq.trans (b := (cond (q_slices_Clone_iPair a0) (cond ((it_iApply_0 a1 ((a1.length : Nat) : Int) (0 : Int) (slices_Clone_iPair a0)).1 == 0) (some (e_iApply ((it_iApply_0 a1 ((a1.length : Nat) : Int) (0 : Int) (slices_Clone_iPair a0)).2))) none) none)) (by kernel_rfl) ?_
  exact (cndT (andL hp) (fun _h => (fun hp => (cndT hp (fun _h => rfl))) (andR hp)))
theorem run_iApply : ∀ d, pre_iApply d = true → runP false Try.prog tt S21 QF21 (fun b => match b with | 0 => say_iApply_0 | _ => fun _ => none) Try.f46 (argsMk P_iApply d) = some (g_iApply d) := fun d hp => runA_iApply d.1 d.2.1 hp
theorem c_iApply : PContract Try.prog 46 (sumOf P_iApply pre_iApply g_iApply) := PContract.of_data false G21 (fn := Try.f46) (by kernel_rfl) (L := fun b => match b with | 0 => say_iApply_0 | _ => fun _ => none) (by rw [show loopsIn 0 (bodyOf Try.f46) = [(0, body_iApply_0)] by kernel_rfl]; intro p hp; simp only [List.mem_singleton] at hp; subst hp; exact lw_iApply_0) P_iApply pre_iApply g_iApply run_iApply
noncomputable def S22 : Tab := Tab.add S21 46 (lift (sumOf P_iApply pre_iApply g_iApply))
noncomputable def QF22 : FuncId → Bool := QF21
theorem G22 : Good Try.prog tt S22 QF22 := G21.add c_iApply ⟨Try.f46, by kernel_rfl, by kernel_rfl, by kernel_rfl⟩ (by kernel_rfl)

/-! 110 loop.example/g00244/laws.eqPair -/
noncomputable abbrev P_leqPair : List PSh := [.agg [.str, .str], .agg [.str, .str]]
noncomputable def leqPair (a0 : ByteArray) (a1 : ByteArray) (a2 : ByteArray) (a3 : ByteArray) : Bool := (cond (!(a0.toList == a2.toList)) false (cond (!(a1.toList == a3.toList)) false true))
noncomputable abbrev e_leqPair (r : Bool) : AV × List AObj := ((.t true .bool r), [])
noncomputable abbrev g_leqPair : pshsDen P_leqPair → AV × List AObj := fun d => e_leqPair (leqPair d.1.1 d.1.2.1 d.2.1.1 d.2.1.2.1)
noncomputable abbrev pre_leqPair : pshsDen P_leqPair → Bool := fun d => true
theorem runA_leqPair (a0 : ByteArray) (a1 : ByteArray) (a2 : ByteArray) (a3 : ByteArray) : runP true Try.prog tt S22 QF22 (fun _ _ => none) Try.f110 (argsMk P_leqPair ((a0, (a1, ())), ((a2, (a3, ())), ()))) = some (g_leqPair ((a0, (a1, ())), ((a2, (a3, ())), ()))) := by
  refine Eq.trans (b := (cond (!(a0.toList == a2.toList)) (some (e_leqPair false)) (cond (!(a1.toList == a3.toList)) (some (e_leqPair false)) (some (e_leqPair true))))) (by kernel_rfl) ?_
  exact (cnd (F := fun r => some (e_leqPair r)) (fun _h => rfl) (fun _h => (cnd (F := fun r => some (e_leqPair r)) (fun _h => rfl) (fun _h => rfl))))
theorem run_leqPair : ∀ d, pre_leqPair d = true → runP true Try.prog tt S22 QF22 (fun _ _ => none) Try.f110 (argsMk P_leqPair d) = some (g_leqPair d) := fun d hp => runA_leqPair d.1.1 d.1.2.1 d.2.1.1 d.2.1.2.1
theorem c_leqPair : PContract Try.prog 110 (sumOf P_leqPair pre_leqPair g_leqPair) := PContract.of_data true G22 (fn := Try.f110) (by kernel_rfl) (L := fun _ _ => none) (by rw [show loopsIn 0 (bodyOf Try.f110) = [] by kernel_rfl]; simp) P_leqPair pre_leqPair g_leqPair run_leqPair
noncomputable def S23 : Tab := Tab.add S22 110 (lift (sumOf P_leqPair pre_leqPair g_leqPair))
noncomputable def QF23 : FuncId → Bool := qadd QF22 110
theorem G23 : Good Try.prog tt S23 QF23 := G22.addQ c_leqPair ⟨Try.f110, by kernel_rfl, by kernel_rfl, by kernel_rfl⟩ (fun _ => rfl)

/-! 47 loop.example/g00244/laws.eqPairS -/

noncomputable def f_leqPairS_0 (x0 x1 : List (ByteArray × ByteArray)) (i : Nat) : Bool := !(!(leqPair ((x0.getD i ((⟨#[]⟩ : ByteArray), (⟨#[]⟩ : ByteArray))).1) ((x0.getD i ((⟨#[]⟩ : ByteArray), (⟨#[]⟩ : ByteArray))).2) ((x1.getD i ((⟨#[]⟩ : ByteArray), (⟨#[]⟩ : ByteArray))).1) ((x1.getD i ((⟨#[]⟩ : ByteArray), (⟨#[]⟩ : ByteArray))).2)))
noncomputable abbrev P_leqPairS : List PSh := [.t (.sl (.pair .str .str)), .t (.sl (.pair .str .str))]
noncomputable abbrev S_leqPairS_0 : SS := ⟨[.t false (.sl (.pair .str .str)), .t false (.sl (.pair .str .str)), .junk, .junk, .junk, .t true (.int .i64), .junk, .junk, .junk, .junk, .junk, .junk, .junk, .junk, .junk, .junk, .junk, .junk, .junk, .junk, .junk, .junk, .junk, .junk, .junk, .junk, .junk], []⟩
noncomputable abbrev E_leqPairS_0_0 : SS := ⟨[.junk, .junk, .junk, .junk, .t true .bool, .junk, .junk, .junk, .junk, .junk, .junk, .junk, .junk, .junk, .junk, .junk, .junk, .junk, .junk, .junk, .junk, .junk, .junk, .junk, .junk, .junk, .junk], []⟩
noncomputable abbrev E_leqPairS_0_1 : SS := ⟨[.junk, .junk, .junk, .junk, .junk, .junk, .junk, .junk, .junk, .junk, .junk, .junk, .junk, .junk, .junk, .junk, .junk, .junk, .junk, .junk, .junk, .junk, .junk, .junk, .junk, .junk, .junk], []⟩
noncomputable def st_leqPairS_0 (x0 : List (ByteArray × ByteArray)) (x1 : List (ByteArray × ByteArray)) (x5 : Int) : RT S_leqPairS_0.den := (.br (decide (x5 < ((x0.length : Nat) : Int))) (.br (decide (0 ≤ x5 ∧ x5 < ((x0.length : Nat) : Int))) (.br (decide (0 ≤ x5 ∧ x5 < ((x1.length : Nat) : Int))) (.br (!(leqPair ((x0.getD x5.toNat ((⟨#[]⟩ : ByteArray), (⟨#[]⟩ : ByteArray))).1) ((x0.getD x5.toNat ((⟨#[]⟩ : ByteArray), (⟨#[]⟩ : ByteArray))).2) ((x1.getD x5.toNat ((⟨#[]⟩ : ByteArray), (⟨#[]⟩ : ByteArray))).1) ((x1.getD x5.toNat ((⟨#[]⟩ : ByteArray), (⟨#[]⟩ : ByteArray))).2))) (.done .ret E_leqPairS_0_0 (((), (), (), (), false, (), (), (), (), (), (), (), (), (), (), (), (), (), (), (), (), (), (), (), (), (), (), ()), ())) (.next ((x0, x1, (), (), (), IntKind.wrap .i64 (x5 + (1 : Int)), (), (), (), (), (), (), (), (), (), (), (), (), (), (), (), (), (), (), (), (), (), ()), ()))) .fail) .fail) (.done (.exit 0) E_leqPairS_0_1 (((), (), (), (), (), (), (), (), (), (), (), (), (), (), (), (), (), (), (), (), (), (), (), (), (), (), (), ()), ())))
noncomputable def T_leqPairS_0 (x0 : List (ByteArray × ByteArray)) (x1 : List (ByteArray × ByteArray)) (x5 : Int) : CT := (.br (decide (0 ≤ x5) && (decide (x0.length = x1.length) && okL x0)) (.br (allF (f_leqPairS_0 x0 x1) (x0.length - x5.toNat) x5.toNat) (.done (.exit 0) E_leqPairS_0_1 (((), (), (), (), (), (), (), (), (), (), (), (), (), (), (), (), (), (), (), (), (), (), (), (), (), (), (), ()), ())) (.done .ret E_leqPairS_0_0 (((), (), (), (), false, (), (), (), (), (), (), (), (), (), (), (), (), (), (), (), (), (), (), (), (), (), (), ()), ()))) .fail)
noncomputable abbrev sp_leqPairS_0 : S_leqPairS_0.den → RT S_leqPairS_0.den := fun d => st_leqPairS_0 d.1.1 d.1.2.1 d.1.2.2.2.2.2.1
noncomputable abbrev pk_leqPairS_0 (x0 : List (ByteArray × ByteArray)) (x1 : List (ByteArray × ByteArray)) (x5 : Int) : S_leqPairS_0.den := ((x0, x1, (), (), (), x5, (), (), (), (), (), (), (), (), (), (), (), (), (), (), (), (), (), (), (), (), (), ()), ())
noncomputable def body_leqPairS_0 : Code := ((loopsIn 0 (bodyOf Try.f47)).getD 0 (0, .skip)).2
theorem R_leqPairS_0 (x0 : List (ByteArray × ByteArray)) (x1 : List (ByteArray × ByteArray)) (x5 : Int) : (T_leqPairS_0 x0 x1 x5).val (D := S_leqPairS_0.den) = .fail ∨ Runs sp_leqPairS_0 (pk_leqPairS_0 x0 x1 x5) (T_leqPairS_0 x0 x1 x5).val := by
  cases hc : (decide (0 ≤ x5) && (decide (x0.length = x1.length) && okL x0)) with
  | false => left; simp only [T_leqPairS_0, CT.val, hc, cond_false]
  | true =>
    right
    simp only [T_leqPairS_0, CT.val, hc, cond_true]
    simp only [Bool.and_eq_true, decide_eq_true_eq] at hc
    obtain ⟨i, rfl⟩ := Int.eq_ofNat_of_zero_le hc.1
    have hs := okL_le hc.2.2
    simp only [Int.toNat_natCast]
    refine Runs.scan (fun j => pk_leqPairS_0 x0 x1 (j : Int)) (x0.length) (f_leqPairS_0 x0 x1) (fun i hi => ?_) (fun i hi => ?_) ⟨_, _, _, rfl, by simp⟩ ⟨_, _, _, rfl, by simp⟩ _ _ rfl
    · 
      have h0a : decide ((i : Int) < ((x0.length : Nat) : Int)) = true := decide_eq_true (by omega)
      have h0b : decide (0 ≤ (i : Int) ∧ (i : Int) < ((x0.length : Nat) : Int)) = true := decide_eq_true (by omega)
      simp only [sp_leqPairS_0, st_leqPairS_0, RT.val, h0a, h0b, cond_true, wrapS i (by omega), Int.toNat_natCast]
      have h9 : decide (0 ≤ (i : Int) ∧ (i : Int) < ((x1.length : Nat) : Int)) = true := decide_eq_true (by omega)
      simp only [h9, cond_true]
      simp only [f_leqPairS_0]
      generalize (!(leqPair ((x0.getD i ((⟨#[]⟩ : ByteArray), (⟨#[]⟩ : ByteArray))).1) ((x0.getD i ((⟨#[]⟩ : ByteArray), (⟨#[]⟩ : ByteArray))).2) ((x1.getD i ((⟨#[]⟩ : ByteArray), (⟨#[]⟩ : ByteArray))).1) ((x1.getD i ((⟨#[]⟩ : ByteArray), (⟨#[]⟩ : ByteArray))).2))) = c
      cases c <;> rfl
    · have h1 : decide ((i : Int) < ((x0.length : Nat) : Int)) = false := decide_eq_false (by omega)
      simp only [sp_leqPairS_0, st_leqPairS_0, RT.val, h1, cond_false]
theorem rd_leqPairS_0 : ∀ d, execC Try.prog tt S23 QF23 (fun _ _ => none) 0 body_leqPairS_0 (S_leqPairS_0.st d 0 []) (fun e s' => some (e, S_leqPairS_0.cutE (kepts [4] [(0, [])]) e s')) = (sp_leqPairS_0 d).opt 0 [] := by
  intro d
  kernel_rfl
noncomputable abbrev say_leqPairS_0 : St → Option Tree := S_leqPairS_0.say 0 [] [] (fun d => T_leqPairS_0 d.1.1 d.1.2.1 d.1.2.2.2.2.2.1)
theorem lw_leqPairS_0 : LoopWp Try.prog say_leqPairS_0 body_leqPairS_0 := SS.wp G23 (fun _ _ => none) (by rw [show loopsIn 0 body_leqPairS_0 = [] by kernel_rfl]; simp) S_leqPairS_0 0 [] (kepts [4] [(0, [])]) [] sp_leqPairS_0 rd_leqPairS_0 _ (fun d => R_leqPairS_0 d.1.1 d.1.2.1 d.1.2.2.2.2.2.1)
noncomputable def leqPairS (a0 : List (ByteArray × ByteArray)) (a1 : List (ByteArray × ByteArray)) : Bool := (cond (((a0.length : Nat) : Int) != ((a1.length : Nat) : Int)) false (cond (allF (f_leqPairS_0 a0 a1) (a0.length - (0 : Int).toNat) (0 : Int).toNat) true false))
noncomputable abbrev e_leqPairS (r : Bool) : AV × List AObj := ((.t true .bool r), [])
noncomputable abbrev g_leqPairS : pshsDen P_leqPairS → AV × List AObj := fun d => e_leqPairS (leqPairS d.1 d.2.1)
noncomputable def q_leqPairS (a0 : List (ByteArray × ByteArray)) (a1 : List (ByteArray × ByteArray)) : Bool := okL a0
noncomputable abbrev pre_leqPairS : pshsDen P_leqPairS → Bool := fun d => q_leqPairS d.1 d.2.1
theorem runA_leqPairS (a0 : List (ByteArray × ByteArray)) (a1 : List (ByteArray × ByteArray)) (hp : (okL a0) = true) : runP true Try.prog tt S23 QF23 (fun b => match b with | 0 => say_leqPairS_0 | _ => fun _ => none) Try.f47 (argsMk P_leqPairS (a0, (a1, ()))) = some (g_leqPairS (a0, (a1, ()))) := by
  refine Eq.trans (b := (cond (((a0.length : Nat) : Int) != ((a1.length : Nat) : Int)) (some (e_leqPairS false)) (cond (decide (0 ≤ (0 : Int)) && (decide (a0.length = a1.length) && okL a0)) (cond (allF (f_leqPairS_0 a0 a1) (a0.length - (0 : Int).toNat) (0 : Int).toNat) (some (e_leqPairS true)) (some (e_leqPairS false))) none))) (by kernel_rfl) ?_
  exact (cnd (F := fun r => some (e_leqPairS r)) (fun _h => rfl) (fun _h => (cndT (by simp only [okL, Bool.and_eq_true, decide_eq_true_eq] at hp ⊢; simp at _h; exact ⟨Int.le_refl 0, by omega, hp⟩) (fun _h => (cnd (F := fun r => some (e_leqPairS r)) (fun _h => rfl) (fun _h => rfl))))))
theorem run_leqPairS : ∀ d, pre_leqPairS d = true → runP true Try.prog tt S23 QF23 (fun b => match b with | 0 => say_leqPairS_0 | _ => fun _ => none) Try.f47 (argsMk P_leqPairS d) = some (g_leqPairS d) := fun d hp => runA_leqPairS d.1 d.2.1 hp
theorem c_leqPairS : PContract Try.prog 47 (sumOf P_leqPairS pre_leqPairS g_leqPairS) := PContract.of_data true G23 (fn := Try.f47) (by kernel_rfl) (L := fun b => match b with | 0 => say_leqPairS_0 | _ => fun _ => none) (by rw [show loopsIn 0 (bodyOf Try.f47) = [(0, body_leqPairS_0)] by kernel_rfl]; intro p hp; simp only [List.mem_singleton] at hp; subst hp; exact lw_leqPairS_0) P_leqPairS pre_leqPairS g_leqPairS run_leqPairS
noncomputable def S24 : Tab := Tab.add S23 47 (lift (sumOf P_leqPairS pre_leqPairS g_leqPairS))
noncomputable def QF24 : FuncId → Bool := qadd QF23 47
theorem G24 : Good Try.prog tt S24 QF24 := G23.addQ c_leqPairS ⟨Try.f47, by kernel_rfl, by kernel_rfl, by kernel_rfl⟩ (fun _ => rfl)

/-! 111 loop.example/g00244/laws.eqOp -/
noncomputable abbrev P_leqOp : List PSh := [.agg [(.int .i64), .str, .str], .agg [(.int .i64), .str, .str]]
noncomputable def leqOp (a0 : Int) (a1 : ByteArray) (a2 : ByteArray) (a3 : Int) (a4 : ByteArray) (a5 : ByteArray) : Bool := (cond (a0 != a3) false (cond (!(a1.toList == a4.toList)) false (cond (!(a2.toList == a5.toList)) false true)))
noncomputable abbrev e_leqOp (r : Bool) : AV × List AObj := ((.t true .bool r), [])
noncomputable abbrev g_leqOp : pshsDen P_leqOp → AV × List AObj := fun d => e_leqOp (leqOp d.1.1 d.1.2.1 d.1.2.2.1 d.2.1.1 d.2.1.2.1 d.2.1.2.2.1)
noncomputable abbrev pre_leqOp : pshsDen P_leqOp → Bool := fun d => true
theorem runA_leqOp (a0 : Int) (a1 : ByteArray) (a2 : ByteArray) (a3 : Int) (a4 : ByteArray) (a5 : ByteArray) : runP true Try.prog tt S24 QF24 (fun _ _ => none) Try.f111 (argsMk P_leqOp ((a0, (a1, (a2, ()))), ((a3, (a4, (a5, ()))), ()))) = some (g_leqOp ((a0, (a1, (a2, ()))), ((a3, (a4, (a5, ()))), ()))) := by
  refine Eq.trans (b := (cond (a0 != a3) (some (e_leqOp false)) (cond (!(a1.toList == a4.toList)) (some (e_leqOp false)) (cond (!(a2.toList == a5.toList)) (some (e_leqOp false)) (some (e_leqOp true)))))) (by kernel_rfl) ?_
  exact (cnd (F := fun r => some (e_leqOp r)) (fun _h => rfl) (fun _h => (cnd (F := fun r => some (e_leqOp r)) (fun _h => rfl) (fun _h => (cnd (F := fun r => some (e_leqOp r)) (fun _h => rfl) (fun _h => rfl))))))
theorem run_leqOp : ∀ d, pre_leqOp d = true → runP true Try.prog tt S24 QF24 (fun _ _ => none) Try.f111 (argsMk P_leqOp d) = some (g_leqOp d) := fun d hp => runA_leqOp d.1.1 d.1.2.1 d.1.2.2.1 d.2.1.1 d.2.1.2.1 d.2.1.2.2.1
theorem c_leqOp : PContract Try.prog 111 (sumOf P_leqOp pre_leqOp g_leqOp) := PContract.of_data true G24 (fn := Try.f111) (by kernel_rfl) (L := fun _ _ => none) (by rw [show loopsIn 0 (bodyOf Try.f111) = [] by kernel_rfl]; simp) P_leqOp pre_leqOp g_leqOp run_leqOp
noncomputable def S25 : Tab := Tab.add S24 111 (lift (sumOf P_leqOp pre_leqOp g_leqOp))
noncomputable def QF25 : FuncId → Bool := qadd QF24 111
theorem G25 : Good Try.prog tt S25 QF25 := G24.addQ c_leqOp ⟨Try.f111, by kernel_rfl, by kernel_rfl, by kernel_rfl⟩ (fun _ => rfl)

/-! 48 loop.example/g00244/laws.eqOpS -/

noncomputable def f_leqOpS_0 (x0 x1 : List (Int × ByteArray × ByteArray)) (i : Nat) : Bool := !(!(leqOp ((x0.getD i ((0 : Int), ((⟨#[]⟩ : ByteArray), (⟨#[]⟩ : ByteArray)))).1) (((x0.getD i ((0 : Int), ((⟨#[]⟩ : ByteArray), (⟨#[]⟩ : ByteArray)))).2).1) (((x0.getD i ((0 : Int), ((⟨#[]⟩ : ByteArray), (⟨#[]⟩ : ByteArray)))).2).2) ((x1.getD i ((0 : Int), ((⟨#[]⟩ : ByteArray), (⟨#[]⟩ : ByteArray)))).1) (((x1.getD i ((0 : Int), ((⟨#[]⟩ : ByteArray), (⟨#[]⟩ : ByteArray)))).2).1) (((x1.getD i ((0 : Int), ((⟨#[]⟩ : ByteArray), (⟨#[]⟩ : ByteArray)))).2).2)))
noncomputable abbrev P_leqOpS : List PSh := [.t (.sl (.pair (.int .i64) (.pair .str .str))), .t (.sl (.pair (.int .i64) (.pair .str .str)))]
noncomputable abbrev S_leqOpS_0 : SS := ⟨[.t false (.sl (.pair (.int .i64) (.pair .str .str))), .t false (.sl (.pair (.int .i64) (.pair .str .str))), .junk, .junk, .junk, .t true (.int .i64), .junk, .junk, .junk, .junk, .junk, .junk, .junk, .junk, .junk, .junk, .junk, .junk, .junk, .junk, .junk, .junk, .junk, .junk, .junk, .junk, .junk], []⟩
noncomputable abbrev E_leqOpS_0_0 : SS := ⟨[.junk, .junk, .junk, .junk, .t true .bool, .junk, .junk, .junk, .junk, .junk, .junk, .junk, .junk, .junk, .junk, .junk, .junk, .junk, .junk, .junk, .junk, .junk, .junk, .junk, .junk, .junk, .junk], []⟩
noncomputable abbrev E_leqOpS_0_1 : SS := ⟨[.junk, .junk, .junk, .junk, .junk, .junk, .junk, .junk, .junk, .junk, .junk, .junk, .junk, .junk, .junk, .junk, .junk, .junk, .junk, .junk, .junk, .junk, .junk, .junk, .junk, .junk, .junk], []⟩
noncomputable def st_leqOpS_0 (x0 : List (Int × ByteArray × ByteArray)) (x1 : List (Int × ByteArray × ByteArray)) (x5 : Int) : RT S_leqOpS_0.den := (.br (decide (x5 < ((x0.length : Nat) : Int))) (.br (decide (0 ≤ x5 ∧ x5 < ((x0.length : Nat) : Int))) (.br (decide (0 ≤ x5 ∧ x5 < ((x1.length : Nat) : Int))) (.br (!(leqOp ((x0.getD x5.toNat ((0 : Int), ((⟨#[]⟩ : ByteArray), (⟨#[]⟩ : ByteArray)))).1) (((x0.getD x5.toNat ((0 : Int), ((⟨#[]⟩ : ByteArray), (⟨#[]⟩ : ByteArray)))).2).1) (((x0.getD x5.toNat ((0 : Int), ((⟨#[]⟩ : ByteArray), (⟨#[]⟩ : ByteArray)))).2).2) ((x1.getD x5.toNat ((0 : Int), ((⟨#[]⟩ : ByteArray), (⟨#[]⟩ : ByteArray)))).1) (((x1.getD x5.toNat ((0 : Int), ((⟨#[]⟩ : ByteArray), (⟨#[]⟩ : ByteArray)))).2).1) (((x1.getD x5.toNat ((0 : Int), ((⟨#[]⟩ : ByteArray), (⟨#[]⟩ : ByteArray)))).2).2))) (.done .ret E_leqOpS_0_0 (((), (), (), (), false, (), (), (), (), (), (), (), (), (), (), (), (), (), (), (), (), (), (), (), (), (), (), ()), ())) (.next ((x0, x1, (), (), (), IntKind.wrap .i64 (x5 + (1 : Int)), (), (), (), (), (), (), (), (), (), (), (), (), (), (), (), (), (), (), (), (), (), ()), ()))) .fail) .fail) (.done (.exit 0) E_leqOpS_0_1 (((), (), (), (), (), (), (), (), (), (), (), (), (), (), (), (), (), (), (), (), (), (), (), (), (), (), (), ()), ())))
noncomputable def T_leqOpS_0 (x0 : List (Int × ByteArray × ByteArray)) (x1 : List (Int × ByteArray × ByteArray)) (x5 : Int) : CT := (.br (decide (0 ≤ x5) && (decide (x0.length = x1.length) && okL x0)) (.br (allF (f_leqOpS_0 x0 x1) (x0.length - x5.toNat) x5.toNat) (.done (.exit 0) E_leqOpS_0_1 (((), (), (), (), (), (), (), (), (), (), (), (), (), (), (), (), (), (), (), (), (), (), (), (), (), (), (), ()), ())) (.done .ret E_leqOpS_0_0 (((), (), (), (), false, (), (), (), (), (), (), (), (), (), (), (), (), (), (), (), (), (), (), (), (), (), (), ()), ()))) .fail)
noncomputable abbrev sp_leqOpS_0 : S_leqOpS_0.den → RT S_leqOpS_0.den := fun d => st_leqOpS_0 d.1.1 d.1.2.1 d.1.2.2.2.2.2.1
noncomputable abbrev pk_leqOpS_0 (x0 : List (Int × ByteArray × ByteArray)) (x1 : List (Int × ByteArray × ByteArray)) (x5 : Int) : S_leqOpS_0.den := ((x0, x1, (), (), (), x5, (), (), (), (), (), (), (), (), (), (), (), (), (), (), (), (), (), (), (), (), (), ()), ())
noncomputable def body_leqOpS_0 : Code := ((loopsIn 0 (bodyOf Try.f48)).getD 0 (0, .skip)).2
theorem R_leqOpS_0 (x0 : List (Int × ByteArray × ByteArray)) (x1 : List (Int × ByteArray × ByteArray)) (x5 : Int) : (T_leqOpS_0 x0 x1 x5).val (D := S_leqOpS_0.den) = .fail ∨ Runs sp_leqOpS_0 (pk_leqOpS_0 x0 x1 x5) (T_leqOpS_0 x0 x1 x5).val := by
  cases hc : (decide (0 ≤ x5) && (decide (x0.length = x1.length) && okL x0)) with
  | false => left; simp only [T_leqOpS_0, CT.val, hc, cond_false]
  | true =>
    right
    simp only [T_leqOpS_0, CT.val, hc, cond_true]
    simp only [Bool.and_eq_true, decide_eq_true_eq] at hc
    obtain ⟨i, rfl⟩ := Int.eq_ofNat_of_zero_le hc.1
    have hs := okL_le hc.2.2
    simp only [Int.toNat_natCast]
    refine Runs.scan (fun j => pk_leqOpS_0 x0 x1 (j : Int)) (x0.length) (f_leqOpS_0 x0 x1) (fun i hi => ?_) (fun i hi => ?_) ⟨_, _, _, rfl, by simp⟩ ⟨_, _, _, rfl, by simp⟩ _ _ rfl
    · 
      have h0a : decide ((i : Int) < ((x0.length : Nat) : Int)) = true := decide_eq_true (by omega)
      have h0b : decide (0 ≤ (i : Int) ∧ (i : Int) < ((x0.length : Nat) : Int)) = true := decide_eq_true (by omega)
      simp only [sp_leqOpS_0, st_leqOpS_0, RT.val, h0a, h0b, cond_true, wrapS i (by omega), Int.toNat_natCast]
      have h9 : decide (0 ≤ (i : Int) ∧ (i : Int) < ((x1.length : Nat) : Int)) = true := decide_eq_true (by omega)
      simp only [h9, cond_true]
      simp only [f_leqOpS_0]
      generalize (!(leqOp ((x0.getD i ((0 : Int), ((⟨#[]⟩ : ByteArray), (⟨#[]⟩ : ByteArray)))).1) (((x0.getD i ((0 : Int), ((⟨#[]⟩ : ByteArray), (⟨#[]⟩ : ByteArray)))).2).1) (((x0.getD i ((0 : Int), ((⟨#[]⟩ : ByteArray), (⟨#[]⟩ : ByteArray)))).2).2) ((x1.getD i ((0 : Int), ((⟨#[]⟩ : ByteArray), (⟨#[]⟩ : ByteArray)))).1) (((x1.getD i ((0 : Int), ((⟨#[]⟩ : ByteArray), (⟨#[]⟩ : ByteArray)))).2).1) (((x1.getD i ((0 : Int), ((⟨#[]⟩ : ByteArray), (⟨#[]⟩ : ByteArray)))).2).2))) = c
      cases c <;> rfl
    · have h1 : decide ((i : Int) < ((x0.length : Nat) : Int)) = false := decide_eq_false (by omega)
      simp only [sp_leqOpS_0, st_leqOpS_0, RT.val, h1, cond_false]
theorem rd_leqOpS_0 : ∀ d, execC Try.prog tt S25 QF25 (fun _ _ => none) 0 body_leqOpS_0 (S_leqOpS_0.st d 0 []) (fun e s' => some (e, S_leqOpS_0.cutE (kepts [4] [(0, [])]) e s')) = (sp_leqOpS_0 d).opt 0 [] := by
  intro d
  kernel_rfl
noncomputable abbrev say_leqOpS_0 : St → Option Tree := S_leqOpS_0.say 0 [] [] (fun d => T_leqOpS_0 d.1.1 d.1.2.1 d.1.2.2.2.2.2.1)
theorem lw_leqOpS_0 : LoopWp Try.prog say_leqOpS_0 body_leqOpS_0 := SS.wp G25 (fun _ _ => none) (by rw [show loopsIn 0 body_leqOpS_0 = [] by kernel_rfl]; simp) S_leqOpS_0 0 [] (kepts [4] [(0, [])]) [] sp_leqOpS_0 rd_leqOpS_0 _ (fun d => R_leqOpS_0 d.1.1 d.1.2.1 d.1.2.2.2.2.2.1)
noncomputable def leqOpS (a0 : List (Int × ByteArray × ByteArray)) (a1 : List (Int × ByteArray × ByteArray)) : Bool := (cond (((a0.length : Nat) : Int) != ((a1.length : Nat) : Int)) false (cond (allF (f_leqOpS_0 a0 a1) (a0.length - (0 : Int).toNat) (0 : Int).toNat) true false))
noncomputable abbrev e_leqOpS (r : Bool) : AV × List AObj := ((.t true .bool r), [])
noncomputable abbrev g_leqOpS : pshsDen P_leqOpS → AV × List AObj := fun d => e_leqOpS (leqOpS d.1 d.2.1)
noncomputable def q_leqOpS (a0 : List (Int × ByteArray × ByteArray)) (a1 : List (Int × ByteArray × ByteArray)) : Bool := okL a0
noncomputable abbrev pre_leqOpS : pshsDen P_leqOpS → Bool := fun d => q_leqOpS d.1 d.2.1
theorem runA_leqOpS (a0 : List (Int × ByteArray × ByteArray)) (a1 : List (Int × ByteArray × ByteArray)) (hp : (okL a0) = true) : runP true Try.prog tt S25 QF25 (fun b => match b with | 0 => say_leqOpS_0 | _ => fun _ => none) Try.f48 (argsMk P_leqOpS (a0, (a1, ()))) = some (g_leqOpS (a0, (a1, ()))) := by
  refine Eq.trans (b := (cond (((a0.length : Nat) : Int) != ((a1.length : Nat) : Int)) (some (e_leqOpS false)) (cond (decide (0 ≤ (0 : Int)) && (decide (a0.length = a1.length) && okL a0)) (cond (allF (f_leqOpS_0 a0 a1) (a0.length - (0 : Int).toNat) (0 : Int).toNat) (some (e_leqOpS true)) (some (e_leqOpS false))) none))) (by kernel_rfl) ?_
  exact (cnd (F := fun r => some (e_leqOpS r)) (fun _h => rfl) (fun _h => (cndT (by simp only [okL, Bool.and_eq_true, decide_eq_true_eq] at hp ⊢; simp at _h; exact ⟨Int.le_refl 0, by omega, hp⟩) (fun _h => (cnd (F := fun r => some (e_leqOpS r)) (fun _h => rfl) (fun _h => rfl))))))
theorem run_leqOpS : ∀ d, pre_leqOpS d = true → runP true Try.prog tt S25 QF25 (fun b => match b with | 0 => say_leqOpS_0 | _ => fun _ => none) Try.f48 (argsMk P_leqOpS d) = some (g_leqOpS d) := fun d hp => runA_leqOpS d.1 d.2.1 hp
theorem c_leqOpS : PContract Try.prog 48 (sumOf P_leqOpS pre_leqOpS g_leqOpS) := PContract.of_data true G25 (fn := Try.f48) (by kernel_rfl) (L := fun b => match b with | 0 => say_leqOpS_0 | _ => fun _ => none) (by rw [show loopsIn 0 (bodyOf Try.f48) = [(0, body_leqOpS_0)] by kernel_rfl]; intro p hp; simp only [List.mem_singleton] at hp; subst hp; exact lw_leqOpS_0) P_leqOpS pre_leqOpS g_leqOpS run_leqOpS
noncomputable def S26 : Tab := Tab.add S25 48 (lift (sumOf P_leqOpS pre_leqOpS g_leqOpS))
noncomputable def QF26 : FuncId → Bool := qadd QF25 48
theorem G26 : Good Try.prog tt S26 QF26 := G25.addQ c_leqOpS ⟨Try.f48, by kernel_rfl, by kernel_rfl, by kernel_rfl⟩ (fun _ => rfl)

/-! 112 loop.example/g00244/laws.markText -/
noncomputable abbrev P_lmarkText : List PSh := [.t (.int .i64)]
noncomputable abbrev S_lmarkText_0 : SS := ⟨[.t true (.int .i64), .junk, .junk, .t true .str, .junk, .junk, .junk, .junk, .junk, .junk, .junk, .junk, .junk, .junk, .junk, .junk, .junk, .junk, .junk, .junk], []⟩
noncomputable abbrev E_lmarkText_0_0 : SS := ⟨[.junk, .junk, .junk, .t true .str, .junk, .junk, .junk, .junk, .junk, .junk, .junk, .junk, .junk, .junk, .junk, .junk, .junk, .junk, .junk, .junk], []⟩
noncomputable def st_lmarkText_0 (x0 : Int) (x3 : ByteArray) : RT S_lmarkText_0.den := (.br (decide (x0 > (0 : Int))) (.br (decide ((((⟨([IntKind.wrap .u8 (IntKind.wrap .i64 ((48 : Int) + (Int.tmod x0 (10 : Int))))].map fun n => UInt8.ofNat n.toNat).toArray⟩ : ByteArray).size + x3.size : Nat) : Int) ≤ IntKind.i64.max)) (.next ((IntKind.wrap .i64 (Int.tdiv x0 (10 : Int)), (), (), (⟨([IntKind.wrap .u8 (IntKind.wrap .i64 ((48 : Int) + (Int.tmod x0 (10 : Int))))].map fun n => UInt8.ofNat n.toNat).toArray⟩ : ByteArray) ++ x3, (), (), (), (), (), (), (), (), (), (), (), (), (), (), (), (), ()), ())) .fail) (.done (.exit 0) E_lmarkText_0_0 (((), (), (), x3, (), (), (), (), (), (), (), (), (), (), (), (), (), (), (), (), ()), ())))
noncomputable def T_lmarkText_0 (x0 : Int) (x3 : ByteArray) : CT := (.br (decide (x0 ≤ 1000000000000) && decide (x3.size ≤ 1000)) (.done (.exit 0) E_lmarkText_0_0 (((), (), (), (txtN 13 x0 x3), (), (), (), (), (), (), (), (), (), (), (), (), (), (), (), (), ()), ())) .fail)
noncomputable abbrev sp_lmarkText_0 : S_lmarkText_0.den → RT S_lmarkText_0.den := fun d => st_lmarkText_0 d.1.1 d.1.2.2.2.1
noncomputable abbrev pk_lmarkText_0 (x0 : Int) (x3 : ByteArray) : S_lmarkText_0.den := ((x0, (), (), x3, (), (), (), (), (), (), (), (), (), (), (), (), (), (), (), (), ()), ())
noncomputable def body_lmarkText_0 : Code := ((loopsIn 0 (bodyOf Try.f112)).getD 0 (0, .skip)).2
theorem R_lmarkText_0 (x0 : Int) (x3 : ByteArray) : (T_lmarkText_0 x0 x3).val (D := S_lmarkText_0.den) = .fail ∨ Runs sp_lmarkText_0 (pk_lmarkText_0 x0 x3) (T_lmarkText_0 x0 x3).val := by
  cases hc : (decide (x0 ≤ 1000000000000) && decide (x3.size ≤ 1000)) with
  | false => left; simp only [T_lmarkText_0, CT.val, hc, cond_false]
  | true =>
    right
    simp only [T_lmarkText_0, CT.val, hc, cond_true]
    simp only [Bool.and_eq_true, decide_eq_true_eq] at hc
    have key : ∀ (k : Nat) (x : Int) (s : ByteArray), x < 10 ^ k → x ≤ 1000000000000 → s.size + k ≤ 2000 → Runs sp_lmarkText_0 (pk_lmarkText_0 x s) (((.done (.exit 0) E_lmarkText_0_0 (((), (), (), (txtN k x s), (), (), (), (), (), (), (), (), (), (), (), (), (), (), (), (), ()), ())) : CT).val (D := S_lmarkText_0.den)) := by
      intro k
      induction k with
      | zero =>
        intro x s h1 h2 h3
        rw [show (10 : Int) ^ 0 = 1 from rfl] at h1
        have e1 : decide (x > (0 : Int)) = false := decide_eq_false (by omega)
        refine .done (by simp) ?_
        simp only [sp_lmarkText_0, st_lmarkText_0, RT.val, e1, cond_false, txtN]
      | succ k ih =>
        intro x s h1 h2 h3
        rw [Int.pow_succ] at h1
        by_cases hx : x > 0
        · have e1 : decide (x > (0 : Int)) = true := decide_eq_true hx
          have e2 : decide ((((digB x).size + s.size : Nat) : Int) ≤ IntKind.i64.max) = true := decide_eq_true (by rw [digB_size, show IntKind.i64.max = 9223372036854775807 from rfl]; omega)
          have e4 : Int.tdiv x (10 : Int) = x / 10 := Int.tdiv_eq_ediv_of_nonneg (by omega)
          have e5 : IntKind.wrap .i64 (Int.tdiv x (10 : Int)) = x / 10 := by rw [e4]; exact wrap64 (by omega) (by omega)
          have := ih (IntKind.wrap .i64 (Int.tdiv x (10 : Int))) (digB x ++ s) (by rw [e5]; omega) (by rw [e5]; omega) (by rw [ByteArray.size_append, digB_size]; omega)
          refine .next (d' := pk_lmarkText_0 (IntKind.wrap .i64 (Int.tdiv x (10 : Int))) (digB x ++ s)) ?_ ?_
          · have e6 : (sp_lmarkText_0 (pk_lmarkText_0 x s)).val = cond (decide ((((digB x).size + s.size : Nat) : Int) ≤ IntKind.i64.max)) (.next (pk_lmarkText_0 (IntKind.wrap .i64 (Int.tdiv x (10 : Int))) (digB x ++ s))) .fail := by
              simp only [sp_lmarkText_0, st_lmarkText_0, RT.val, e1, cond_true]; rfl
            rw [e6, e2]; rfl
          · have e3 : txtN (k + 1) x s = txtN k (IntKind.wrap .i64 (Int.tdiv x (10 : Int))) (digB x ++ s) := by simp only [txtN, e1, cond_true]
            rw [e3]
            exact this
        · have e1 : decide (x > (0 : Int)) = false := decide_eq_false hx
          refine .done (by simp) ?_
          simp only [sp_lmarkText_0, st_lmarkText_0, RT.val, e1, cond_false, txtN]
    exact key 13 x0 x3 (by have := hc.1; rw [show (10 : Int) ^ 13 = 10000000000000 from rfl]; omega) hc.1 (by have := hc.2; omega)
theorem rd_lmarkText_0 : ∀ d, execC Try.prog tt S26 QF26 (fun _ _ => none) 0 body_lmarkText_0 (S_lmarkText_0.st d 0 []) (fun e s' => some (e, S_lmarkText_0.cutE (kepts [] [(0, [3])]) e s')) = (sp_lmarkText_0 d).opt 0 [] := by
  intro d
  kernel_rfl
noncomputable abbrev say_lmarkText_0 : St → Option Tree := S_lmarkText_0.say 0 [] [] (fun d => T_lmarkText_0 d.1.1 d.1.2.2.2.1)
theorem lw_lmarkText_0 : LoopWp Try.prog say_lmarkText_0 body_lmarkText_0 := SS.wp G26 (fun _ _ => none) (by rw [show loopsIn 0 body_lmarkText_0 = [] by kernel_rfl]; simp) S_lmarkText_0 0 [] (kepts [] [(0, [3])]) [] sp_lmarkText_0 rd_lmarkText_0 _ (fun d => R_lmarkText_0 d.1.1 d.1.2.2.2.1)
noncomputable def lmarkText (a0 : Int) : ByteArray := (cond (decide (a0 ≤ (0 : Int))) (⟨#[109, 48]⟩ : ByteArray) ((⟨#[109]⟩ : ByteArray) ++ (txtN 13 a0 (⟨#[]⟩ : ByteArray))))
noncomputable abbrev e_lmarkText (r : ByteArray) : AV × List AObj := ((.t true .str r), [])
noncomputable abbrev g_lmarkText : pshsDen P_lmarkText → AV × List AObj := fun d => e_lmarkText (lmarkText d.1)
noncomputable def q_lmarkText (a0 : Int) : Bool := decide (a0 ≤ 1000000000000)
noncomputable abbrev pre_lmarkText : pshsDen P_lmarkText → Bool := fun d => q_lmarkText d.1
theorem runA_lmarkText (a0 : Int) (hp : (decide (a0 ≤ 1000000000000)) = true) : runP true Try.prog tt S26 QF26 (fun b => match b with | 0 => say_lmarkText_0 | _ => fun _ => none) Try.f112 (argsMk P_lmarkText (a0, ())) = some (g_lmarkText (a0, ())) := by
  refine Eq.trans (b := (cond (decide (a0 ≤ (0 : Int))) (some (e_lmarkText (⟨#[109, 48]⟩ : ByteArray))) (cond (decide (a0 ≤ 1000000000000) && decide ((⟨#[]⟩ : ByteArray).size ≤ 1000)) (cond (decide ((((⟨#[109]⟩ : ByteArray).size + (txtN 13 a0 (⟨#[]⟩ : ByteArray)).size : Nat) : Int) ≤ IntKind.i64.max)) (some (e_lmarkText ((⟨#[109]⟩ : ByteArray) ++ (txtN 13 a0 (⟨#[]⟩ : ByteArray))))) none) none))) (by kernel_rfl) ?_
  exact (cnd (F := fun r => some (e_lmarkText r)) (fun _h => rfl) (fun _h => (cndT (by rw [hp]; rfl) (fun _h => (cndT (by have h1 := txtN_len 13 a0 (⟨#[]⟩ : ByteArray); rw [decide_eq_true_eq]; have h2 : ((⟨#[]⟩ : ByteArray)).size = 0 := rfl; have h3 : ((⟨#[109]⟩ : ByteArray)).size = 1 := rfl; rw [h2] at h1; rw [h3, show IntKind.i64.max = 9223372036854775807 from rfl]; omega) (fun _h => rfl))))))
theorem run_lmarkText : ∀ d, pre_lmarkText d = true → runP true Try.prog tt S26 QF26 (fun b => match b with | 0 => say_lmarkText_0 | _ => fun _ => none) Try.f112 (argsMk P_lmarkText d) = some (g_lmarkText d) := fun d hp => runA_lmarkText d.1 hp
theorem c_lmarkText : PContract Try.prog 112 (sumOf P_lmarkText pre_lmarkText g_lmarkText) := PContract.of_data true G26 (fn := Try.f112) (by kernel_rfl) (L := fun b => match b with | 0 => say_lmarkText_0 | _ => fun _ => none) (by rw [show loopsIn 0 (bodyOf Try.f112) = [(0, body_lmarkText_0)] by kernel_rfl]; intro p hp; simp only [List.mem_singleton] at hp; subst hp; exact lw_lmarkText_0) P_lmarkText pre_lmarkText g_lmarkText run_lmarkText
noncomputable def S27 : Tab := Tab.add S26 112 (lift (sumOf P_lmarkText pre_lmarkText g_lmarkText))
noncomputable def QF27 : FuncId → Bool := qadd QF26 112
theorem G27 : Good Try.prog tt S27 QF27 := G26.addQ c_lmarkText ⟨Try.f112, by kernel_rfl, by kernel_rfl, by kernel_rfl⟩ (fun _ => rfl)

/-! 49 loop.example/g00244/laws.markPairS -/

noncomputable def f_lmarkPairS_0 (i : Nat) (b : Int × List (ByteArray × ByteArray)) : Int × List (ByteArray × ByteArray) := (IntKind.wrap .i64 ((IntKind.wrap .i64 (b.1 + (1 : Int))) + (1 : Int)), (b.2.set i ((lmarkText b.1), (b.2.getD i ((⟨#[]⟩ : ByteArray), (⟨#[]⟩ : ByteArray))).2)).set i (((b.2.set i ((lmarkText b.1), (b.2.getD i ((⟨#[]⟩ : ByteArray), (⟨#[]⟩ : ByteArray))).2)).getD i ((⟨#[]⟩ : ByteArray), (⟨#[]⟩ : ByteArray))).1, (lmarkText (IntKind.wrap .i64 (b.1 + (1 : Int))))))
noncomputable abbrev SM_lmarkPairS : SS := ⟨[.all 0 2, .t true (.int .i64)], [.rows 118 true (.pair .str .str)]⟩
noncomputable abbrev S_lmarkPairS_0 : SS := ⟨[.all 0 2, .t true (.int .i64), .junk, .junk, .junk, .t true (.int .i64), .junk, .junk, .junk, .junk, .junk, .junk, .junk, .junk, .junk, .junk, .junk, .junk, .junk, .junk, .junk, .junk, .junk, .junk, .junk, .junk, .junk, .junk, .junk], [.rows 118 true (.pair .str .str)]⟩
noncomputable abbrev E_lmarkPairS_0_0 : SS := ⟨[.junk, .t true (.int .i64), .junk, .junk, .junk, .junk, .junk, .junk, .junk, .junk, .junk, .junk, .junk, .junk, .junk, .junk, .junk, .junk, .junk, .junk, .junk, .junk, .junk, .junk, .junk, .junk, .junk, .junk, .junk], [.rows 118 true (.pair .str .str)]⟩
noncomputable def st_lmarkPairS_0 (x1 : Int) (x5 : Int) (h0 : List (ByteArray × ByteArray)) : RT S_lmarkPairS_0.den := (.br (decide (x5 < ((h0.length : Nat) : Int))) (.br (q_lmarkText x1) (.br (decide (0 ≤ x5 ∧ x5 < ((h0.length : Nat) : Int))) (.br (q_lmarkText (IntKind.wrap .i64 (x1 + (1 : Int)))) (.br (decide (0 ≤ x5 ∧ x5 < (((h0.set x5.toNat ((lmarkText x1), (h0.getD x5.toNat ((⟨#[]⟩ : ByteArray), (⟨#[]⟩ : ByteArray))).2)).length : Nat) : Int))) (.next (((), IntKind.wrap .i64 ((IntKind.wrap .i64 (x1 + (1 : Int))) + (1 : Int)), (), (), (), IntKind.wrap .i64 (x5 + (1 : Int)), (), (), (), (), (), (), (), (), (), (), (), (), (), (), (), (), (), (), (), (), (), (), (), ()), ((h0.set x5.toNat ((lmarkText x1), (h0.getD x5.toNat ((⟨#[]⟩ : ByteArray), (⟨#[]⟩ : ByteArray))).2)).set x5.toNat (((h0.set x5.toNat ((lmarkText x1), (h0.getD x5.toNat ((⟨#[]⟩ : ByteArray), (⟨#[]⟩ : ByteArray))).2)).getD x5.toNat ((⟨#[]⟩ : ByteArray), (⟨#[]⟩ : ByteArray))).1, (lmarkText (IntKind.wrap .i64 (x1 + (1 : Int))))), ()))) .fail) .fail) .fail) .fail) (.done (.exit 0) E_lmarkPairS_0_0 (((), x1, (), (), (), (), (), (), (), (), (), (), (), (), (), (), (), (), (), (), (), (), (), (), (), (), (), (), (), ()), (h0, ()))))
noncomputable def T_lmarkPairS_0 (x1 : Int) (x5 : Int) (h0 : List (ByteArray × ByteArray)) : CT := (.br (decide (0 ≤ x5) && (decide (0 ≤ x1 ∧ x1 ≤ 100000 * (x5 + 100)) && okL h0)) (.done (.exit 0) E_lmarkPairS_0_0 (((), ((foldN f_lmarkPairS_0 (h0.length - x5.toNat) x5.toNat (x1, h0)).1), (), (), (), (), (), (), (), (), (), (), (), (), (), (), (), (), (), (), (), (), (), (), (), (), (), (), (), ()), (((foldN f_lmarkPairS_0 (h0.length - x5.toNat) x5.toNat (x1, h0)).2), ()))) .fail)
noncomputable abbrev sp_lmarkPairS_0 : S_lmarkPairS_0.den → RT S_lmarkPairS_0.den := fun d => st_lmarkPairS_0 d.1.2.1 d.1.2.2.2.2.2.1 d.2.1
noncomputable abbrev pk_lmarkPairS_0 (x1 : Int) (x5 : Int) (h0 : List (ByteArray × ByteArray)) : S_lmarkPairS_0.den := (((), x1, (), (), (), x5, (), (), (), (), (), (), (), (), (), (), (), (), (), (), (), (), (), (), (), (), (), (), (), ()), (h0, ()))
noncomputable def body_lmarkPairS_0 : Code := ((loopsIn 0 (bodyOf Try.f49)).getD 0 (0, .skip)).2
theorem R_lmarkPairS_0 (x1 : Int) (x5 : Int) (h0 : List (ByteArray × ByteArray)) : (T_lmarkPairS_0 x1 x5 h0).val (D := S_lmarkPairS_0.den) = .fail ∨ Runs sp_lmarkPairS_0 (pk_lmarkPairS_0 x1 x5 h0) (T_lmarkPairS_0 x1 x5 h0).val := by
  cases hc : (decide (0 ≤ x5) && (decide (0 ≤ x1 ∧ x1 ≤ 100000 * (x5 + 100)) && okL h0)) with
  | false => left; simp only [T_lmarkPairS_0, CT.val, hc, cond_false]
  | true =>
    right
    simp only [T_lmarkPairS_0, CT.val, hc, cond_true]
    simp only [Bool.and_eq_true, decide_eq_true_eq] at hc
    obtain ⟨i, rfl⟩ := Int.eq_ofNat_of_zero_le hc.1
    have hs := okL_le hc.2.2
    have hk := hc.2.1
    simp only [Int.toNat_natCast]
    refine Runs.foldN (step := sp_lmarkPairS_0) (fun j b => pk_lmarkPairS_0 b.1 (j : Int) b.2) (fun i b => (0 ≤ b.1 ∧ b.1 ≤ 100000 * ((i : Int) + 100)) ∧ b.2.length = h0.length) (h0.length) f_lmarkPairS_0
      (fin := fun b => ((.done (.exit 0) E_lmarkPairS_0_0 (((), b.1, (), (), (), (), (), (), (), (), (), (), (), (), (), (), (), (), (), (), (), (), (), (), (), (), (), (), (), ()), (b.2, ()))) : CT).val) (fun i b hi hb => ?_) (fun i b hi hb => ?_) (h0.length - i) i (x1, h0) rfl ⟨hk, rfl⟩
    · obtain ⟨k, h⟩ := b
      obtain ⟨hb1, hb2⟩ := hb
      simp only at hb1 hb2
      have w1 : IntKind.wrap .i64 (k + (1 : Int)) = k + (1 : Int) := wrap64 (by omega) (by omega)
      have w2 : IntKind.wrap .i64 (k + (1 : Int) + (1 : Int)) = k + (1 : Int) + (1 : Int) := wrap64 (by omega) (by omega)
      have e0 : (q_lmarkText k) = true := by simp only [q_lmarkText, w1, w2]; exact decide_eq_true (by omega)
      have e1 : (decide (0 ≤ (i : Int) ∧ (i : Int) < ((h.length : Nat) : Int))) = true := decide_eq_true (by (try simp only [List.length_set]); omega)
      have e2 : (q_lmarkText (IntKind.wrap .i64 (k + (1 : Int)))) = true := by simp only [q_lmarkText, w1, w2]; exact decide_eq_true (by omega)
      have e3 : (decide (0 ≤ (i : Int) ∧ (i : Int) < (((h.set i ((lmarkText k), (h.getD i ((⟨#[]⟩ : ByteArray), (⟨#[]⟩ : ByteArray))).2)).length : Nat) : Int))) = true := decide_eq_true (by (try simp only [List.length_set]); omega)
      have h1 : decide ((i : Int) < ((h.length : Nat) : Int)) = true := decide_eq_true (by omega)
      have v1 : (f_lmarkPairS_0 i (k, h)).1 = k + (1 : Int) + (1 : Int) := by simp only [f_lmarkPairS_0, w1, w2]
      have v2 : (f_lmarkPairS_0 i (k, h)).2.length = h.length := by simp only [f_lmarkPairS_0, List.length_set]
      refine ⟨⟨by rw [v1]; omega, by rw [v2]; exact hb2⟩, ?_⟩
      simp only [sp_lmarkPairS_0, st_lmarkPairS_0, RT.val, h1, e0, e1, e2, e3, cond_true, wrapS i (by omega), Int.toNat_natCast]
      rfl
    · have h1 : decide ((i : Int) < ((b.2.length : Nat) : Int)) = false := decide_eq_false (by omega)
      exact ⟨by simp only [sp_lmarkPairS_0, st_lmarkPairS_0, RT.val, h1, cond_false]; rfl, _, _, _, rfl, by simp⟩
theorem rd_lmarkPairS_0 : ∀ d, execC Try.prog tt S27 QF27 (fun _ _ => none) 0 body_lmarkPairS_0 (S_lmarkPairS_0.st d 1 []) (fun e s' => some (e, S_lmarkPairS_0.cutE (kepts [] [(0, [1])]) e s')) = (sp_lmarkPairS_0 d).opt 1 [] := by
  intro d
  kernel_rfl
noncomputable abbrev say_lmarkPairS_0 : St → Option Tree := S_lmarkPairS_0.say 1 [] [] (fun d => T_lmarkPairS_0 d.1.2.1 d.1.2.2.2.2.2.1 d.2.1)
theorem lw_lmarkPairS_0 : LoopWp Try.prog say_lmarkPairS_0 body_lmarkPairS_0 := SS.wp G27 (fun _ _ => none) (by rw [show loopsIn 0 body_lmarkPairS_0 = [] by kernel_rfl]; simp) S_lmarkPairS_0 1 [] (kepts [] [(0, [1])]) [] sp_lmarkPairS_0 rd_lmarkPairS_0 _ (fun d => R_lmarkPairS_0 d.1.2.1 d.1.2.2.2.2.2.1 d.2.1)
noncomputable def lmarkPairS (x1 : Int) (h0 : List (ByteArray × ByteArray)) : Int × List (ByteArray × ByteArray) := (((foldN f_lmarkPairS_0 (h0.length - (0 : Int).toNat) (0 : Int).toNat (x1, h0)).1), ((foldN f_lmarkPairS_0 (h0.length - (0 : Int).toNat) (0 : Int).toNat (x1, h0)).2))
noncomputable abbrev e_lmarkPairS (r : Int × List (ByteArray × ByteArray)) : AV × List AObj × List Nat := ((.t true (.int .i64) r.1), [(.rows 118 true (.pair .str .str) r.2)], [])
noncomputable abbrev g_lmarkPairS : SM_lmarkPairS.den → AV × List AObj × List Nat := fun d => e_lmarkPairS (lmarkPairS d.1.2.1 d.2.1)
noncomputable def q_lmarkPairS (x1 : Int) (h0 : List (ByteArray × ByteArray)) : Bool := okL h0 && decide (0 ≤ x1 ∧ x1 ≤ 10000000)
noncomputable abbrev pre_lmarkPairS : SM_lmarkPairS.den → Bool := fun d => q_lmarkPairS d.1.2.1 d.2.1
theorem runA_lmarkPairS (x1 : Int) (h0 : List (ByteArray × ByteArray)) (hp : (okL h0 && decide (0 ≤ x1 ∧ x1 ≤ 10000000)) = true) : runM Try.prog tt S27 QF27 (fun b => match b with | 0 => say_lmarkPairS_0 | _ => fun _ => none) Try.f49 (shsMk SM_lmarkPairS.sl ((((), x1, ()), (h0, ())) : SM_lmarkPairS.den).1) (ohsMk SM_lmarkPairS.hp ((((), x1, ()), (h0, ())) : SM_lmarkPairS.den).2) = some (g_lmarkPairS (((), x1, ()), (h0, ()))) := by
  refine Eq.trans (b := (cond (decide (0 ≤ (0 : Int)) && (decide (0 ≤ x1 ∧ x1 ≤ 100000 * ((0 : Int) + 100)) && okL h0)) (some (e_lmarkPairS (((foldN f_lmarkPairS_0 (h0.length - (0 : Int).toNat) (0 : Int).toNat (x1, h0)).1), ((foldN f_lmarkPairS_0 (h0.length - (0 : Int).toNat) (0 : Int).toNat (x1, h0)).2)))) none)) (by kernel_rfl) ?_
  exact (cndT (by first | rfl | decide | exact hp | (simp only [Bool.and_eq_true] at hp; simp only [hp]; done) | (simp [*]; done) | (simp [okL] at hp; simp [okL, MAXB]; omega) | (simp_all; done) | (simp at *; omega)) (fun _h => rfl))
theorem run_lmarkPairS : ∀ d : SM_lmarkPairS.den, pre_lmarkPairS d = true → runM Try.prog tt S27 QF27 (fun b => match b with | 0 => say_lmarkPairS_0 | _ => fun _ => none) Try.f49 (shsMk SM_lmarkPairS.sl (d : SM_lmarkPairS.den).1) (ohsMk SM_lmarkPairS.hp (d : SM_lmarkPairS.den).2) = some (g_lmarkPairS d) := fun d hp => runA_lmarkPairS d.1.2.1 d.2.1 hp
theorem c_lmarkPairS : MContract Try.prog 49 (win winIds (msum SM_lmarkPairS pre_lmarkPairS g_lmarkPairS)) := (MContract.of_data G27 (fn := Try.f49) (by kernel_rfl) (L := fun b => match b with | 0 => say_lmarkPairS_0 | _ => fun _ => none) (by rw [show loopsIn 0 (bodyOf Try.f49) = [(0, body_lmarkPairS_0)] by kernel_rfl]; intro p hp; simp only [List.mem_singleton] at hp; subst hp; exact lw_lmarkPairS_0) SM_lmarkPairS pre_lmarkPairS g_lmarkPairS run_lmarkPairS).win winIds
noncomputable def S28 : Tab := Tab.add S27 49 (win winIds (msum SM_lmarkPairS pre_lmarkPairS g_lmarkPairS))
noncomputable def QF28 : FuncId → Bool := QF27
theorem G28 : Good Try.prog tt S28 QF28 := G27.addM c_lmarkPairS (win_local _) ⟨Try.f49, by kernel_rfl, by kernel_rfl, by kernel_rfl⟩ (by kernel_rfl)


end Go.Proofs.Ytoddiofedjnapaa.Eng
